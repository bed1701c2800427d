/- The short run is sound over the model: a part of the proof. -/
import Derived.Test.YtijfafacddefhaaXS2
namespace Go.Proofs.Ytijfafacddefhaa.Ab
open Go.RowKit

theorem blt_true {a b : Nat} (h : Nat.blt a b = true) : a < b := by rwa [Nat.blt_eq] at h
theorem blt_false {a b : Nat} (h : Nat.blt a b = false) : b ≤ a := by
  rcases Nat.lt_or_ge a b with hl | hl
  · have : Nat.blt a b = true := by rw [Nat.blt_eq]; exact hl
    rw [h] at this; cases this
  · exact hl
theorem addr_add (b o i : Nat) : (⟨b, o, none⟩ : Addr).add i = ⟨b, o + i, none⟩ := by unfold Addr.add; split <;> simp_all
structure EnvRel (σ : Inj) (n : Nat) (e : Tree Value) (tmps : Array Value) : Prop where
  size : tmps.size = n
  rel : ∀ (t : Nat) (h : t < tmps.size), VRel σ ((e.get t).getD undef) tmps[t]
  out : ∀ t, n ≤ t → e.get t = none

theorem EnvRel.mono {σ τ : Inj} {n : Nat} {e : Tree Value} {tmps : Array Value} (h : EnvRel σ n e tmps) (k : σ.le τ) : EnvRel τ n e tmps :=
  ⟨h.size, fun t ht => (h.rel t ht).mono k, h.out⟩

theorem EnvRel.put {σ : Inj} {n : Nat} {e : Tree Value} {a : Act} (h : EnvRel σ n e a.tmps) (dst : Option Tmp) {v v' : Value} (hv : VRel σ v v') : EnvRel σ n (putE n e dst v) (a.put dst v').tmps := by
  cases dst with
  | none => exact h
  | some d =>
    unfold putE Act.put
    simp only
    cases hd : Nat.blt d n with
    | true =>
      have hlt : d < n := blt_true hd
      rw [cond_true]
      refine ⟨by simpa using h.size, fun t ht => ?_, fun t ht => ?_⟩
      · rw [Tree.get_set]
        by_cases hdt : t = d
        · subst hdt
          rw [if_pos rfl]
          simpa using hv
        · rw [if_neg hdt]
          have h2 := h.rel t (by simpa using ht)
          rw [Array.getElem_setIfInBounds_ne (by simpa using ht) (Ne.symm hdt)]
          exact h2
      · rw [Tree.get_set, if_neg (fun e => by subst e; exact Nat.lt_irrefl _ (Nat.lt_of_lt_of_le hlt ht))]; exact h.out t ht
    | false =>
      have hge : n ≤ d := blt_false hd
      rw [cond_false]
      have : a.tmps.setIfInBounds d v' = a.tmps := Array.setIfInBounds_eq_of_size_le (by rw [h.size]; exact hge)
      rw [this]
      exact h

section
variable {σ : Inj} {n : Nat} {e : Tree Value} {a : Act}
theorem ifPlain_some {v z : Value} (h : ifPlain v = some z) : z = v ∧ plain v = true := by
  obtain ⟨h1, h2⟩ := cond_some h
  cases h2
  exact ⟨rfl, h1⟩
theorem aOpd_sound (he : EnvRel σ n e a.tmps) {x : Operand} {v : Value} (h : aOpd e x = some v) : VRel σ v (a.eval x) := by
  cases x with
  | tmp t =>
    simp only [aOpd] at h
    simp only [Act.eval]
    by_cases ht : t < a.tmps.size
    · have := he.rel t ht
      have hv : v = (e.get t).getD undef := by
        cases hg : e.get t with
        | none => rw [hg] at h; cases h; rfl
        | some u => rw [hg] at h; cases h; rfl
      rw [hv]
      simpa [Array.getD, ht] using this
    · rw [he.out t (by have := he.size; exact Nat.le_of_not_lt (this ▸ ht))] at h
      cases h
      simpa [Array.getD, ht] using undef_rel
  | const u =>
    obtain ⟨rfl, hp⟩ := ifPlain_some h
    exact VRel.plain hp
  | func f =>
    cases h
    exact .func rfl rfl (by simp) (by simp)
  | global g => cases h
theorem consO_some {x : Value} {l : Option (List Value)} {r : List Value} (h : consO x l = some r) : ∃ l', l = some l' ∧ r = x :: l' := by
  cases l with
  | none => cases h
  | some l => cases h; exact ⟨l, rfl, rfl⟩
theorem aOpds_sound (he : EnvRel σ n e a.tmps) : ∀ {xs : List Operand} {l : List Value}, aOpds e xs = some l → LRel σ l (xs.map a.eval)
  | [], _, h => by cases h; exact .nil
  | x :: xs, l, h => by
    obtain ⟨v, hv, h⟩ := obnd_some h
    obtain ⟨r, hr, rfl⟩ := consO_some h
    exact .cons (aOpd_sound he hv) (aOpds_sound he hr)
theorem aParts_sound (he : EnvRel σ n e a.tmps) : ∀ {xs : List (Nat × Operand)} {l : List (Nat × Value)}, aParts e xs = some l →
    LRel σ (l.map (·.2)) (xs.map fun p => a.eval p.2) ∧ l.map (·.1) = xs.map (·.1)
  | [], _, h => by cases h; exact ⟨.nil, rfl⟩
  | (i, x) :: xs, l, h => by
    obtain ⟨v, hv, h⟩ := obnd_some h
    obtain ⟨r, hr, h⟩ := obnd_some h
    cases h
    obtain ⟨h1, h2⟩ := aParts_sound he hr
    exact ⟨.cons (aOpd_sound he hv) h1, by simp [h2]⟩
end

/-! ### loads and stores -/
section
variable {T : Tab} {P : Program} (hT : T.Ok P) {B0 : Nat} {w0 : World} {σ : Inj} {s : St} {w : World}
include hT

theorem size_run {t n : Nat} (h : T.size t = some n) (w : World) : (sizeOf t).run P w = .ok n w := by
  obtain ⟨i, hi, h⟩ := obnd_some h
  cases h
  simp [sizeOf, typeInfo, hT.info _ _ hi]
theorem isAgg_run {t : Nat} {g : Bool} (h : T.isAgg t = some g) (w : World) : (isAgg t).run P w = .ok g w := by
  obtain ⟨d, hd, h⟩ := obnd_some h
  cases h
  simp only [isAgg, underlying, Sem.run_bind, run_program, Result.andThen_ok, hT.ty _ _ hd]
  cases d <;> rfl
theorem under_run {t : Nat} {d : TypeDesc} (h : T.ty t = some d) (w : World) : (underlying t).run P w = .ok d w := by
  simp [underlying, hT.ty _ _ h]
theorem zero_run {t : Nat} {z : Value} (h : T.zero t = some z) (w : World) : (zeroValue t).run P w = .ok z w ∧ plain z = true := by
  obtain ⟨i, hi, h⟩ := obnd_some h
  obtain ⟨z', hz, h⟩ := obnd_some h
  obtain ⟨rfl, hp⟩ := ifPlain_some h
  exact ⟨by simp [zeroValue, typeInfo, hT.info _ _ hi, hz], hp⟩
theorem info_run {t : Nat} {i : TypeInfo} (h : T.info t = some i) (w : World) : (typeInfo t).run P w = .ok i w := by
  simp [typeInfo, hT.info _ _ h]

theorem aLoad_sound (hI : Inv B0 w0 σ s w) {t : Nat} {a a' v : Value} (ha : VRel σ a a') (h : aLoad T t s a = some v) :
    ∃ v', VRel σ v v' ∧ (Instr.loadAt t a').run P w = .ok v' w := by
  obtain ⟨g, hg, h⟩ := obnd_some h
  obtain ⟨b, o, rfl, h⟩ := onPtr_some h
  cases ha with
  | @ptr _ _ l hb =>
  cases g with
  | true =>
    obtain ⟨n, hn, h⟩ := obnd_some h
    obtain ⟨r, hr, h⟩ := obnd_some h
    cases h
    obtain ⟨vs', hl, hrel, hc⟩ := hI.read hb hr
    refine ⟨.agg vs'.toArray, VRel.agg' hrel, ?_⟩
    have := run_loadCells_list (P := P) w ⟨l.blk, l.off + o, none⟩ vs' (fun j v hj => by rw [addr_add]; exact hc j v hj)
    rw [hl] at this
    simp [Instr.loadAt, Instr.sureAddr, loadVar, isAgg_run hT hg, size_run hT hn, this]
  | false =>
    obtain ⟨r, hr, h⟩ := obnd_some h
    obtain rfl := head1_some h
    obtain ⟨vs', hl, hrel, hc⟩ := hI.read hb hr
    cases hrel with
    | cons hv t =>
      cases t
      refine ⟨_, hv, ?_⟩
      have := hc 0 _ rfl
      simp only [Nat.add_zero] at this
      simp [Instr.loadAt, Instr.sureAddr, loadVar, isAgg_run hT hg, this]

theorem aStore_sound (hI : Inv B0 w0 σ s w) {t : Nat} {a a' v v' : Value} {s' : St} (ha : VRel σ a a') (hv : VRel σ v v') (h : aStore T t s v a = some s') :
    ∃ w', Inv B0 w0 σ s' w' ∧ s'.next = s.next ∧ (Instr.storeAt t a' v').run P w = .ok () w' := by
  obtain ⟨b, o, rfl, h⟩ := onPtr_some h
  obtain ⟨n, hn, h⟩ := obnd_some h
  obtain ⟨hlen, h⟩ := cond_some h
  cases ha with
  | @ptr _ _ l hb =>
  have hc := cellsL_rel hv
  obtain ⟨h1, h2, h3⟩ := hI.write hb h hc
  refine ⟨_, h1, h2, ?_⟩
  have hsz : v'.cells.size = n := by
    have := hc.length
    rw [← cellsL_eq] at this
    simp at this
    rw [this]
    exact Nat.eq_of_beq_eq_true hlen
  have := h3 P
  rw [← cellsL_eq] at this
  simp [Instr.storeAt, Instr.sureAddr, storeVar, size_run hT hn, hsz, this]
  simp [cellsL_eq]
end
end Go.Proofs.Ytijfafacddefhaa.Ab
