/- The short run is sound over the model: a part of the proof. -/
import Derived.Test.YtijfafacddefhaaXS9
namespace Go.Proofs.Ytijfafacddefhaa.Ab
open Go.RowKit
section
variable {T : Tab} {P : Program} (hT : T.Ok P) {B0 : Nat} {w0 : World} {σ : Inj} {s : St} {w : World}
theorem elemOfS_some {d : TypeDesc} {el : Nat} (h : elemOfS d = some el) : d = .slice el := by
  unfold elemOfS at h
  split at h
  · cases h; rfl
  · cases h
theorem lrel_two {l l' : List Value} {a b : Value} {r : List Value} (h : LRel σ l l') (e : l = a :: b :: r) : ∃ a' b' r', l' = a' :: b' :: r' ∧ VRel σ a a' ∧ VRel σ b b' := by
  subst e
  cases h with
  | cons h1 t => cases t with
    | cons h2 t => exact ⟨_, _, _, rfl, h1, h2⟩
theorem lrel_one {l l' : List Value} {a : Value} {r : List Value} (h : LRel σ l l') (e : l = a :: r) : ∃ a' r', l' = a' :: r' ∧ VRel σ a a' := by
  subst e
  cases h with
  | cons h1 t => exact ⟨_, _, rfl, h1⟩
theorem arr_get {α : Type} {a : Array α} {x : α} {r : List α} (h : a.toList = x :: r) : a[0]? = some x := by
  rw [← Array.getElem?_toList, h]; rfl
theorem arr_get1 {α : Type} {a : Array α} {x y : α} {r : List α} (h : a.toList = x :: y :: r) : a[1]? = some y := by
  rw [← Array.getElem?_toList, h]; rfl
include hT
theorem aAppend_sound (hI : Inv B0 w0 σ s w) {ts : Array TypeId} {ty : TypeId} {args : List Value} {args' : Array Value} {r : AR} (hr : LRel σ args args'.toList) (h : aAppend T ts.toList args s = some r) :
    ∃ v s', r = .val v s' ∧ ValOk B0 w0 σ s ((Builtin.append_ ts ty args').run P w) v s' := by
  obtain ⟨t, u, tr, hts, h⟩ := on2_some h
  obtain ⟨y, x, ar, hargs, h⟩ := on2_some h
  obtain ⟨y', x', ar', hargs', hy, hx⟩ := lrel_two hr hargs
  obtain ⟨base, sLen, sCap, rfl, hk⟩ := onSlice_some h
  clear h
  obtain ⟨d, hd, hk⟩ := obnd_some hk
  obtain ⟨el, hel, hk⟩ := obnd_some hk
  have hde := elemOfS_some hel
  obtain ⟨ud, hud, hk⟩ := obnd_some hk
  obtain ⟨i, hi, hk⟩ := obnd_some hk
  obtain ⟨z, hz, hk⟩ := obnd_some hk
  obtain ⟨nz, hnz, hk⟩ := obnd_some hk
  obtain ⟨hc, hk⟩ := cond_some hk
  obtain ⟨hzl, hc⟩ := and_true hc
  obtain ⟨hs1, hc⟩ := and_true hc
  obtain ⟨hby, hb1⟩ := and_true hc
  have hs1 := ble_true hs1
  have hby := ble_true hby
  have hb1 := ble_true hb1
  obtain ⟨new, hnew, hk⟩ := obnd_some hk
  obtain ⟨hpi, hiz, hzs, hzr⟩ := zero_cells (σ := σ) hT hz hi hzl
  have hsh : ∃ base' cap', y' = .slice base' sLen cap' := by cases hy <;> exact ⟨_, _, rfl⟩
  obtain ⟨base', cap', rfl⟩ := hsh
  have ht := hT.ty _ _ hd
  rw [hde] at ht
  have hu := hT.ty _ _ hud
  have h0 := arr_get hts
  have h1 := arr_get1 hts
  have a0 := arr_get hargs'
  have a1 := arr_get1 hargs'
  obtain ⟨n, zeros⟩ := nz
  have hsmall : Nat.ble ((4 * (sLen + n) + 1000) * i.bytes) 140737488355328 = true → sLen + n < 4611686018427387904 := fun hf => by
    have h2 := ble_true hf
    have h3 := Nat.mul_le_mul_left (4 * (sLen + n) + 1000) hby
    omega
  have hfits : Nat.ble ((4 * (sLen + n) + 1000) * i.bytes) 140737488355328 = true → (4 * (sLen + n) + 1000) * i.bytes ≤ 140737488355328 := ble_true
  by_cases hint : ∃ k, ud = .int k
  · obtain ⟨k, rfl⟩ := hint
    obtain ⟨k', m, rfl, hnz2⟩ := onNat_some (show (onNat x fun n => cond (Nat.ble n 1048576) (some (n, true)) none) = some (n, zeros) from hnz)
    obtain ⟨hm, hnz2⟩ := cond_some hnz2
    have hm := ble_true hm
    cases hnz2
    cases hx
    cases hnew
    refine appendL_sound (ts := ts) (ty := ty) (args' := args') (z := z) (el := el) hI hzs hs1 hy (fun hf => hfits hf) (fun hf => hsmall hf) (repL_rel hzr n) (fun w' hle hst hw => ?_) (fun old' hn0 hlt hb hsm hold => ?_) (fun h0 => by rw [h0]; rfl) hk
    · refine append_fit0 h0 h1 a0 a1 ht hu hpi hiz hzs hs1 hm ?_ hle hst hw
      have : n * i.bytes ≤ (sLen + n) * i.bytes := Nat.mul_le_mul_right _ (by omega)
      simp only at hb1
      omega
    · exact append_grow0 h0 h1 a0 a1 ht hu hpi hiz hzs hs1 hm hn0 hlt hb hold hsm
  · have hnz2 : (obnd (aLen x) fun n => some (n, false)) = some (n, zeros) := by
      cases ud <;> first | exact hnz | exact absurd ⟨_, rfl⟩ hint
    obtain ⟨m, hm, hnz2⟩ := obnd_some hnz2
    cases hnz2
    have hne : ∀ k, ud ≠ .int k := fun k e => hint ⟨k, e⟩
    obtain ⟨new', hnr, hn1, hn2⟩ := aCells_sound (P := P) hI hnew hx hm (Nat.le_refl _)
    refine appendL_sound (ts := ts) (ty := ty) (args' := args') (z := z) (el := el) hI hzs hs1 hy (fun hf => hfits hf) (fun hf => hsmall hf) hnr (fun w' hle hst hw => ?_) (fun old' hn0 hlt hb hsm hold => ?_) (fun h0 => ?_) hk
    · exact append_fit h0 h1 a0 a1 ht hu hpi hne (aLen_sound hm hx w) hle hn1 hst hw
    · exact append_grow h0 h1 a0 a1 ht hu hpi hiz hzs hs1 hne (fun w => aLen_sound hm hx w) hlt hb hold hn2 (.inr hsm)
    · have h0' : n = 0 := h0
      rw [h0'] at hnew
      have : new = [] := by
        simp only [newCells, aCells, cond_false] at hnew
        cases hnew; rfl
      rw [this] at hnr
      cases hnr
      rfl
end
end Go.Proofs.Ytijfafacddefhaa.Ab
