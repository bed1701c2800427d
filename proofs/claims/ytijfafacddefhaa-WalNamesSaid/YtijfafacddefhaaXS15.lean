/- The short run is sound over the model: a part of the proof. -/
import Derived.Test.YtijfafacddefhaaXS14
namespace Go.Proofs.Ytijfafacddefhaa.Ab
open Go.RowKit

def Free (F : Fence) : Prop := (∀ f, F.fn f) ∧ F.depth = none
theorem free_wide : Free Fence.wide := ⟨fun _ => trivial, rfl⟩
theorem free_round {F : Fence} (h : Free F) (l : Nat) : Free (F.inRound l) := h
theorem Free.room {F : Fence} (h : Free F) (n : Nat) : F.room n := fun d hd => by rw [h.2] at hd; cases hd

def Ret (B0 : Nat) (w0 : World) (σ : Inj) (s : St) (v : Value) (s' : St) (e : Ending) (w' : World) : Prop :=
  ∃ σ' v', e = .returned v' ∧ Ext s.next σ σ' ∧ Inv B0 w0 σ' s' w' ∧ VRel σ' v v'
def CallOk (P : Program) (B0 : Nat) (w0 : World) (call : CallF) : Prop :=
  ∀ f args s v s', call f args s = some (v, s') → ∀ (σ : Inj) (w : World) (args' : Array Value), Inv B0 w0 σ s w → LRel σ args args'.toList →
    s.next ≤ s'.next ∧ (callFunc f args').run P w = .ok (.enter f args') w ∧ ∀ (F : Fence) (n : Nat), Free F → CallsIn F n P f args' w (Ret B0 w0 σ s v s')

section
variable {T : Tab} {P : Program} (hT : T.Ok P) {B0 : Nat} {w0 : World} {call : CallF} (hC : CallOk P B0 w0 call) {n : Nat} {ops : Array Oper}

theorem wantedA_eq {σ : Inj} {e : Tree Value} {a : Act} (he : EnvRel σ n e a.tmps) (o : Oper) : wantedA ops.toList e o = Region.wanted o (yielded ops a.tmps) := by
  unfold wantedA guardB Region.wanted
  cases hg : o.guard with
  | none => rfl
  | some p =>
    obtain ⟨j, want⟩ := p
    simp only [operB, yielded, Array.getElem?_toList]
    cases ho : ops[j]? with
    | none => simp
    | some oj =>
      simp only [dstB, Option.bind_some]
      cases hd : oj.dst with
      | none => simp
      | some d =>
        simp only [Option.bind_some]
        by_cases hdn : d < a.tmps.size
        · have hr := he.rel d hdn
          rw [Array.getElem?_eq_getElem hdn]
          generalize a.tmps[d] = u at hr
          cases hv : e.get d with
          | none =>
            rw [hv] at hr
            simp only [Option.getD_none, undef] at hr
            cases hr
            simp [isB]
          | some v =>
            rw [hv] at hr
            simp only [Option.getD_some] at hr
            cases hr <;> simp [isB]
        · rw [Array.getElem?_eq_none (Nat.le_of_not_lt hdn), he.out d (by have := he.size; exact Nat.le_of_not_lt (this ▸ hdn))]
          simp [isB]

theorem notDefer {o : Op} {T : Tab} {e : Tree Value} {s : St} {r : AR} (h : aOp o T e s = some r) : ∀ c, o ≠ .defer c := by
  intro c hc
  subst hc
  cases h
include hT hC
theorem aStep_sound {σ : Inj} {e : Tree Value} {a : Act} {s s' : St} {w : World} {o : Oper} {v : Value} (hI : Inv B0 w0 σ s w) (he : EnvRel σ n e a.tmps) (h : aStep T call e o s = some (v, s'))
    {F : Fence} (hF : Free F) {m : Nat} {next : Act → World → Prop} {Q : Exit → Act → World → Prop}
    (hk : ∀ σ' v' w', Ext s.next σ σ' → Inv B0 w0 σ' s' w' → VRel σ' v v' → next (a.put o.dst v') w') : s.next ≤ s'.next ∧ o.wpIn F m P a w next Q := by
  obtain ⟨r, hr, hst⟩ := obnd_some h
  clear h
  have hop := aOp_sound hT hI he hr
  have hnd := notDefer hr
  unfold Oper.wpIn
  rw [Oper.semAt_eq _ _ _ hnd]
  cases r with
  | val u s1 =>
    cases hst
    obtain ⟨σ', w', v', h1, h2, h3, h4, h5⟩ := hop
    rw [h5]
    exact ⟨h2, fun f _ => hF.1 f, hk σ' v' w' h1 h3 h4⟩
  | skip s1 =>
    cases hst
    obtain ⟨w', h1, h2, h3⟩ := hop
    rw [h3]
    exact ⟨Nat.le_of_eq h1.symm, fun f _ => hF.1 f, hk σ undef w' Ext.refl h2 undef_rel⟩
  | call f args s1 =>
    obtain ⟨rfl, args', h1, h2⟩ := hop
    obtain ⟨h3, h4, h5⟩ := hC f args s1 v s' hst σ w args' hI h1
    rw [h2, h4]
    refine ⟨h3, fun f _ => hF.1 f, ?_⟩
    rw [Oper.uponIn_enter]
    refine ⟨(fun hd => by rw [hF.2] at hd; cases hd), (h5 F (m - 1) hF).mono ?_⟩
    rintro e w' ⟨σ', v', rfl, h6, h7, h8⟩
    exact hk σ' v' w' h6 h7 h8

theorem aOps_sound {F : Fence} (hF : Free F) {m : Nat} {Q : Exit → Act → World → Prop} : ∀ (rest : List Oper) (k : Nat), (∀ j, rest[j]? = ops[k + j]?) → ∀ (σ : Inj) (e e' : Tree Value) (s s' : St) (a : Act) (w : World),
    aOps T call n ops.toList rest e s = some (e', s') → Inv B0 w0 σ s w → EnvRel σ n e a.tmps →
    (∀ σ' a' w', Ext s.next σ σ' → s.next ≤ s'.next → Inv B0 w0 σ' s' w' → EnvRel σ' n e' a'.tmps → a'.defers = a.defers → Q .normal a' w') →
    wpOpsIn F m P ops Q (List.range' k rest.length) a w
  | [], k, _, σ, e, e', s, s', a, w, h, hI, he, hQ => by
    cases h
    exact hQ σ a w Ext.refl (Nat.le_refl _) hI he rfl
  | o :: rest, k, hk, σ, e, e', s, s', a, w, h, hI, he, hQ => by
    have ho : ops[k]? = some o := by simpa using (hk 0).symm
    have hk' : ∀ j, rest[j]? = ops[k + 1 + j]? := fun j => by have := hk (j + 1); simpa [Nat.add_assoc, Nat.add_comm 1 j] using this
    simp only [List.length_cons, List.range'_succ]
    unfold wpOpsIn
    simp only [ho]
    rw [← wantedA_eq (ops := ops) he o]
    have h : cond (wantedA ops.toList e o) (obnd (aStep T call e o s) fun r => aOps T call n ops.toList rest (putE n e o.dst r.1) r.2) (aOps T call n ops.toList rest (putE n e o.dst undef) s) = some (e', s') := h
    cases hw : wantedA ops.toList e o with
    | true =>
      rw [hw] at h
      obtain ⟨⟨v, s1⟩, h1, h2⟩ := obnd_some (show obnd _ _ = some (e', s') from h)
      simp only [if_true]
      refine (aStep_sound hT hC hI he h1 hF (next := wpOpsIn F m P ops Q (List.range' (k + 1) rest.length)) fun σ' v' w' x1 x2 x3 => ?_).2
      refine aOps_sound hF rest (k + 1) hk' σ' _ e' s1 s' _ w' h2 x2 ((he.mono (x1.le hI)).put o.dst x3) fun σ'' a' w'' y1 y2 y3 y4 y5 => ?_
      have hle : s.next ≤ s1.next := (aStep_sound hT hC hI he h1 hF (m := 0) (next := fun _ _ => True) (Q := fun _ _ _ => True) fun _ _ _ _ _ _ => trivial).1
      exact hQ σ'' a' w'' (x1.trans y1 hle) (Nat.le_trans hle y2) y3 y4 (by rw [y5]; cases o.dst <;> rfl)
    | false =>
      rw [hw] at h
      simp only [Bool.false_eq_true, if_false]
      refine ⟨fun f _ => hF.1 f, ?_⟩
      refine aOps_sound hF rest (k + 1) hk' σ _ e' s s' _ w h hI (he.put o.dst undef_rel) fun σ'' a' w'' y1 y2 y3 y4 y5 => ?_
      exact hQ σ'' a' w'' y1 y2 y3 y4 (by rw [y5]; cases o.dst <;> rfl)
end
end Go.Proofs.Ytijfafacddefhaa.Ab
