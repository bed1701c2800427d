/- The short run is sound over the model: a part of the proof. -/
import Derived.Test.YtijfafacddefhaaXS10
namespace Go.Proofs.Ytijfafacddefhaa.Ab
open Go.RowKit
section
variable {T : Tab} {P : Program} (hT : T.Ok P) {B0 : Nat} {w0 : World} {σ : Inj} {s : St} {w : World}

theorem retV_some {s : St} {v : Value} {r : AR} (h : retV s v = some r) : r = .val v s := by cases h; rfl
theorem pure_sound {x : Sem Value} {r : AR} (h : pureV s x = some r) (w : World) : ∃ v, r = .val v s ∧ plain1 v = true ∧ ∀ P : Program, x.run P w = .ok v w := by
  obtain ⟨v, hv, h⟩ := obnd_some h
  obtain ⟨hp, h⟩ := cond_some h
  cases h
  cases x <;> cases hv
  exact ⟨_, rfl, hp, fun _ => rfl⟩

include hT
theorem aCopy_sound (hI : Inv B0 w0 σ s w) {ts : Array TypeId} {ty : TypeId} {args : List Value} {args' : Array Value} {r : AR} (hr : LRel σ args args'.toList) (h : aCopy T ts.toList args s = some r) :
    ∃ v s', r = .val v s' ∧ ValOk B0 w0 σ s ((Builtin.copy_ ts ty args').run P w) v s' := by
  obtain ⟨t, tr, hts, h⟩ := on1_some h
  obtain ⟨y, x, ar, hargs, h⟩ := on2_some h
  obtain ⟨y', x', ar', hargs', hy, hx⟩ := lrel_two hr hargs
  obtain ⟨base, dLen, dCap, rfl, hk⟩ := onSlice_some h
  obtain ⟨m, hm, hk⟩ := obnd_some hk
  obtain ⟨d, hd, hk⟩ := obnd_some hk
  obtain ⟨el, hel, hk⟩ := obnd_some hk
  have hde := elemOfS_some hel
  obtain ⟨size, hsz, hk⟩ := obnd_some hk
  obtain ⟨cs, hcs, hk⟩ := obnd_some hk
  have ht := hT.ty _ _ hd
  rw [hde] at ht
  obtain ⟨cs', hrel, hf, _⟩ := aCells_sound (P := P) hI hcs hx hm (Nat.min_le_left _ _)
  have hsh : ∃ base' cap', y' = .slice base' dLen cap' := by cases hy <;> exact ⟨_, _, rfl⟩
  obtain ⟨base', cap', rfl⟩ := hsh
  have a0 := arr_get hargs'
  have a1 := arr_get1 hargs'
  have h0 := arr_get hts
  have hlen := aLen_sound (P := P) hm hx w
  have run : ∀ w', (∀ a, base' = some a → (storeCells a cs').run P w = .ok () w') → (base' = none → w' = w) → (Builtin.copy_ ts ty args').run P w = .ok (goInt (Nat.min m dLen)) w' := by
    intro w' hst hn
    cases base' with
    | none =>
      rw [hn rfl]
      simp [Builtin.copy_, h0, a0, a1, run_underlying ht, hlen, size_run hT hsz, hf]
    | some a =>
      have := hst a rfl
      simp [Builtin.copy_, h0, a0, a1, run_underlying ht, hlen, size_run hT hsz, hf, this]
  unfold aCopy2 at hk
  cases hb : Nat.beq (Nat.min m dLen) 0 with
  | true =>
    have hb' := Nat.eq_of_beq_eq_true hb
    rw [hb] at hk
    cases hk
    refine ⟨_, _, rfl, valOk_same hI (.int _ _) ?_⟩
    have hcs0 : cs' = [] := by
      unfold aCells at hcs
      rw [hb] at hcs
      cases hcs
      cases hrel
      rfl
    rw [run w (fun a ha => by rw [hcs0]; rfl) (fun _ => rfl), hb']
    rfl
  | false =>
    have hb' := beq_false hb
    rw [hb] at hk
    simp only [cond_false] at hk
    obtain ⟨b, o, rfl, hk⟩ := onAddr_some hk
    obtain ⟨s', hw, hk⟩ := obnd_some hk
    cases hk
    refine ⟨_, _, rfl, ?_⟩
    have main : ∀ l, σ b = some l → base' = some ⟨l.blk, l.off + o, none⟩ → ValOk B0 w0 σ s ((Builtin.copy_ ts ty args').run P w) (.int .i64 (.ofNat (Nat.min m dLen))) s' := by
      rintro l hb rfl
      obtain ⟨i1, i2, i3⟩ := hI.write hb hw hrel
      exact ⟨σ, _, _, Ext.refl, Nat.le_of_eq i2.symm, i1, .int _ _, run _ (fun a ha => by cases ha; exact i3 P) (fun hc => by cases hc)⟩
    cases hy with
    | slice hb _ => exact main _ hb rfl
    | sliceO hb => exact main _ hb rfl
    | sliceE => exact absurd (Nat.min_zero _) hb'
    | slice0 => exact absurd (Nat.min_zero _) hb'

theorem aClear_sound (hI : Inv B0 w0 σ s w) {ts : Array TypeId} {ty : TypeId} {args : List Value} {args' : Array Value} {r : AR} (hr : LRel σ args args'.toList) (h : aClear T ts.toList args s = some r) :
    ∃ v s', r = .val v s' ∧ ValOk B0 w0 σ s ((Builtin.clear_ ts ty args').run P w) v s' := by
  obtain ⟨t, tr, hts, h⟩ := on1_some h
  obtain ⟨x, ar, hargs, h⟩ := on1_some h
  obtain ⟨x', ar', hargs', hx⟩ := lrel_one hr hargs
  obtain ⟨d, hd, h⟩ := obnd_some h
  obtain ⟨el, hel, h⟩ := obnd_some h
  have hde := elemOfS_some hel
  obtain ⟨base, n, c, rfl, hk⟩ := onSlice_some h
  have ht := hT.ty _ _ hd
  rw [hde] at ht
  have a0 := arr_get hargs'
  have h0 := arr_get hts
  unfold aClear1 at hk
  cases hb : (Nat.beq n 0 || !isS base) with
  | true =>
    rw [hb] at hk
    cases hk
    refine ⟨_, _, rfl, valOk_same hI (VRel.tuple rfl (by simp)) ?_⟩
    have hcase : n = 0 ∨ base = none := by
      cases hn : Nat.beq n 0 with
      | true => exact .inl (Nat.eq_of_beq_eq_true hn)
      | false =>
        rw [hn] at hb
        cases base with
        | none => exact .inr rfl
        | some a => cases hb
    have hsh : ∃ base' cap', x' = .slice base' n cap' ∧ (base' = none ∨ n = 0) := by
      cases hx with
      | nilSlice => exact ⟨_, _, rfl, .inl rfl⟩
      | slice => rcases hcase with h | h <;> first | exact ⟨_, _, rfl, .inr h⟩ | cases h
      | sliceO => rcases hcase with h | h <;> first | exact ⟨_, _, rfl, .inr h⟩ | cases h
      | sliceE => exact ⟨_, _, rfl, .inr rfl⟩
      | slice0 => exact ⟨_, _, rfl, .inr rfl⟩
    obtain ⟨base', cap', rfl, hc⟩ := hsh
    rcases hc with rfl | rfl
    · simp [Builtin.clear_, h0, a0, run_underlying ht]
    · cases base' <;> simp [Builtin.clear_, h0, a0, run_underlying ht]
  | false =>
    rw [hb] at hk
    simp only [cond_false] at hk
    obtain ⟨z, hz, hk⟩ := obnd_some hk
    obtain ⟨b, o, rfl, hk⟩ := onAddr_some hk
    obtain ⟨s', hw, hk⟩ := obnd_some hk
    cases hk
    have hn0 : n ≠ 0 := fun e => by subst e; simp at hb
    refine ⟨_, _, rfl, ?_⟩
    obtain ⟨hzrun, hzp⟩ := zero_run hT hz w
    have hzr : LRel σ (cellsL z) z.cells.toList := by rw [cellsL_eq]; exact cellsL_rel (VRel.plain hzp)
    have main : ∀ l c', σ b = some l → x' = .slice (some ⟨l.blk, l.off + o, none⟩) n c' → ValOk B0 w0 σ s ((Builtin.clear_ ts ty args').run P w) (.tuple #[]) s' := by
      rintro l c' hb rfl
      obtain ⟨i1, i2, i3⟩ := hI.write hb hw (repL_rel hzr n)
      refine ⟨σ, _, _, Ext.refl, Nat.le_of_eq i2.symm, i1, VRel.tuple (xs := #[]) (xs' := #[]) rfl (by simp), ?_⟩
      obtain ⟨n, rfl⟩ : ∃ k, n = k + 1 := ⟨n - 1, by omega⟩
      have := i3 P
      have hzc : Builtin.zeroCells z.cells (n + 1) = (repL z.cells.toList (n + 1)).toArray := by
        by_cases hzs : z.cells.size = 0
        · have e1 : z.cells = #[] := Array.eq_empty_of_size_eq_zero hzs
          have e2 : ∀ k, repL [] k = [] := fun k => by
            induction k with
            | zero => rfl
            | succ k ih => simp [repL, ih]
          rw [e1]
          simp [Builtin.zeroCells, e2]
        · exact zeroCells_eq z.cells (n + 1) (by omega)
      simp [Builtin.clear_, h0, a0, run_underlying ht, hzrun, hzc, this]
    cases hx with
    | slice hb _ => exact main _ _ hb rfl
    | sliceO hb => exact main _ _ hb rfl
    | sliceE => exact absurd rfl hn0
    | slice0 => exact absurd rfl hn0

theorem aLenOp_sound (hI : Inv B0 w0 σ s w) {ts : Array TypeId} {ty : TypeId} {args : List Value} {args' : Array Value} {r : AR} (hr : LRel σ args args'.toList) (h : aLenOp T ts.toList args s = some r) :
    ∃ v, r = .val v s ∧ plain1 v = true ∧ (Builtin.len_ ts ty args').run P w = .ok v w := by
  obtain ⟨t, tr, hts, h⟩ := on1_some h
  obtain ⟨x, ar, hargs, h⟩ := on1_some h
  obtain ⟨x', ar', hargs', hx⟩ := lrel_one hr hargs
  obtain ⟨d, hd, h⟩ := obnd_some h
  have ht := hT.ty _ _ hd
  have a0 := arr_get hargs'
  have h0 := arr_get hts
  cases d with
  | string =>
    obtain ⟨y, rfl, hk⟩ := onStr_some h
    cases hk
    cases hx
    exact ⟨_, rfl, rfl, by simp [Builtin.len_, h0, a0, run_underlying ht, goInt]⟩
  | array n el =>
    cases h
    exact ⟨_, rfl, rfl, by simp [Builtin.len_, h0, a0, run_underlying ht, goInt]⟩
  | slice el =>
    obtain ⟨b, n, c, rfl, hk⟩ := onSlice_some h
    cases hk
    refine ⟨_, rfl, rfl, ?_⟩
    cases hx <;> simp [Builtin.len_, h0, a0, run_underlying ht, goInt]
  | map k e =>
    have h : lenMap s x = some r := h
    unfold lenMap at h
    split at h
    · cases h
      cases hx
      exact ⟨_, rfl, rfl, by simp [Builtin.len_, h0, a0, run_underlying ht, goInt]⟩
    · split at h
      · rename_i es ck hg
        cases h
        cases hx with
        | map hb =>
        obtain ⟨es', he, hm⟩ := hI.maps _ _ es ck hb hg
        refine ⟨_, rfl, rfl, ?_⟩
        have hlen : es'.size = es.length := by
          have : ∀ {a b : List MapEntry}, MRel σ a b → b.length = a.length := by
            intro a b hm
            induction hm with
            | nil => rfl
            | cons _ _ ih => simp [ih]
          simpa using this hm
        simp [Builtin.len_, h0, a0, run_underlying ht, goInt, getObj, Sem.run, he, hlen]
      · cases h
    · cases h
  | _ => cases h
theorem aCapOp_sound {ts : Array TypeId} {ty : TypeId} {args : List Value} {args' : Array Value} {r : AR} (hr : LRel σ args args'.toList) (h : aCapOp T ts.toList args s = some r) (w : World) :
    ∃ v, r = .val v s ∧ plain1 v = true ∧ (Builtin.cap_ ts ty args').run P w = .ok v w := by
  obtain ⟨t, tr, hts, h⟩ := on1_some h
  obtain ⟨x, ar, hargs, h⟩ := on1_some h
  obtain ⟨x', ar', hargs', hx⟩ := lrel_one hr hargs
  obtain ⟨d, hd, h⟩ := obnd_some h
  have ht := hT.ty _ _ hd
  have a0 := arr_get hargs'
  have h0 := arr_get hts
  cases d with
  | slice el =>
    obtain ⟨b, n, c, rfl, hk⟩ := onSlice_some h
    obtain ⟨hc, hk⟩ := cond_some hk
    have hc := blt_true hc
    cases hk
    have hsh : ∃ b' , x' = .slice b' n c := by
      cases hx with
      | sliceO => exact absurd hc (Nat.not_lt.2 (Nat.le_add_right _ _))
      | sliceE => exact absurd hc (Nat.lt_irrefl _)
      | _ => exact ⟨_, rfl⟩
    obtain ⟨b', rfl⟩ := hsh
    exact ⟨_, rfl, rfl, by simp [Builtin.cap_, h0, a0, run_underlying ht, goInt]⟩
  | _ => cases h
end
end Go.Proofs.Ytijfafacddefhaa.Ab
