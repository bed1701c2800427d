/- The short run is sound over the model: a part of the proof. -/
import Derived.Test.YtijfafacddefhaaXS16
import Derived.LoopNIn
namespace Go.Proofs.Ytijfafacddefhaa.Ab
open Go.RowKit

def exitOf : Ex → Exit
  | .normal => .normal
  | .exit id => .exit id
  | .goto l => .goto l
  | .ret => .ret

theorem stepR_scope' {P : Program} {b : Frame} {a : Act} {k : List Item} {cs : List Frame} {w : World} {c : Code} : step P (lone (b.atR a (.code (.scope c) :: k)) cs w) = .next (lone (b.atR a (.code c :: .inScope c :: k)) cs w) :=
  step_lone_go (by simp [stepG, stepG.exec, Frame.atR])
theorem stepR_inScope' {P : Program} {b : Frame} {a : Act} {k : List Item} {cs : List Frame} {w : World} {c : Code} : step P (lone (b.atR a (.inScope c :: k)) cs w) = .next (lone (b.atR a k) cs w) :=
  step_lone_go (by simp [stepG, stepG.exec, Frame.atR])

def ScopedIn (F : Fence) (n : Nat) (P : Program) (b c : Code) (Q : Exit → Act → World → Prop) (a : Act) (w : World) : Prop :=
  ∀ (fr : Frame) (k : List Item) (cs : List Frame), fr.roundOf = F.round → F.fn fr.fn → F.room (cs.length + 1 + n) →
    ∃ e a' w', Q e a' w' ∧ ArrivesIn (Machine.fenced P F) P (lone (fr.atR a (.code c :: .inScope b :: k)) cs w) fr k cs e a' w'

section
variable {F : Fence} {m : Nat} {P : Program} {Q : Exit → Act → World → Prop} {a : Act} {w : World}
theorem wpIn_scope' {c : Code} (h : ScopedIn F m P c c Q a w) : (Code.scope c).wpIn F m P Q a w := by
  intro fr k cs hro hb hr
  obtain ⟨e, a', w', hq, harr⟩ := h fr k cs hro hb hr
  exact ⟨e, a', w', hq, .of_steps (.one (fenced_calm hb hr rfl) stepR_scope') harr⟩
theorem scoped_of_wp {b c : Code} (h : c.wpIn F m P (fun e a' w' => match e with
    | .goto l => (match findLabel b l with
      | some rest => ScopedIn F m P b rest Q a' w'
      | none => Q (.goto l) a' w')
    | e => Q e a' w') a w) : ScopedIn F m P b c Q a w := by
  intro fr k cs hro hb hr
  obtain ⟨e, a₁, w₁, hq, harr⟩ := h fr (.inScope b :: k) cs hro hb hr
  cases e with
  | normal => exact ⟨.normal, a₁, w₁, hq, StepsIn.trans harr (.one (fenced_calm hb hr rfl) stepR_inScope')⟩
  | exit id => exact ⟨.exit id, a₁, w₁, hq, harr⟩
  | ret => exact ⟨.ret, a₁, w₁, hq, harr⟩
  | panic c => exact ⟨.panic c, a₁, w₁, hq, harr⟩
  | outgrown => exact ⟨.outgrown, a₁, w₁, hq, harr⟩
  | goto l =>
    simp only at hq
    cases hf : findLabel b l with
    | some rest =>
      rw [hf] at hq
      have hs := harr.1 (.code rest :: .inScope b :: k) (by simp [gotoIn, hf])
      obtain ⟨e₂, a₂, w₂, hq₂, harr₂⟩ := hq fr k cs hro hb hr
      exact ⟨e₂, a₂, w₂, hq₂, .of_steps hs harr₂⟩
    | none =>
      rw [hf] at hq
      have hx : gotoIn l (.inScope b :: k) = gotoIn l k := by simp [gotoIn, hf]
      exact ⟨.goto l, a₁, w₁, hq, fun k' hk => harr.1 k' (by rw [hx]; exact hk),
        fun hr' hk => let ⟨k₁, h1, h2⟩ := harr.2 hr' (by rw [hx]; exact hk); ⟨k₁, h1, h2⟩⟩
end

section
variable {T : Tab} {P : Program} (hT : T.Ok P) {B0 : Nat} {w0 : World} {call : CallF} (hC : CallOk P B0 w0 call) {n : Nat}
def Concl (F : Fence) (m : Nat) (P : Program) (f : Nat) (Q : Exit → Act → World → Prop) (a : Act) (w : World) (c : Code) : Option Code → Prop
  | none => c.wpIn F m P Q a w ∧ ∀ b, c = .loop b → Code.roundsIn F m P b Q f a w
  | some b => ScopedIn F m P b c Q a w
def Cont (B0 : Nat) (w0 : World) (σ : Inj) (s : St) (n : Nat) (a : Act) (r : Res) (Q : Exit → Act → World → Prop) : Prop :=
  ∀ σ' a' w', Ext s.next σ σ' → s.next ≤ r.s.next → Inv B0 w0 σ' r.s w' → EnvRel σ' n r.e a'.tmps → a'.defers = a.defers → Q (exitOf r.x) a' w'

include hT hC
theorem aCode_sound : ∀ (f : Nat) (sc : Option Code) (c : Code) (e : Tree Value) (s : St) (r : Res), aCode T call n f sc c e s = some r →
    ∀ (σ : Inj) (a : Act) (w : World) (F : Fence) (m : Nat) (Q : Exit → Act → World → Prop), Inv B0 w0 σ s w → EnvRel σ n e a.tmps → Free F → Cont B0 w0 σ s n a r Q → Concl F m P f Q a w c sc := by
  intro f
  induction f with
  | zero => intro sc c e s r h; cases h
  | succ f ih =>
    intro sc c e s r h σ a w F m Q hI he hF hQ
    -- what stands behind: carried over a first part
    have after : ∀ {r1 : Res} {r2 : Res} {Q : Exit → Act → World → Prop} {σ1 : Inj} {a1 : Act}, Cont B0 w0 σ s n a r2 Q → Ext s.next σ σ1 → s.next ≤ r1.s.next → a1.defers = a.defers → Cont B0 w0 σ1 r1.s n a1 r2 Q := by
      intro r1 r2 Q σ1 a1 h h1 h2 h3 σ' a' w' x1 x2 x3 x4 x5
      exact h σ' a' w' (h1.trans x1 h2) (Nat.le_trans h2 x2) x3 x4 (x5.trans h3)
    cases sc with
    | some b =>
      obtain ⟨r1, h1, h2⟩ := obnd_some (show obnd (aCode T call n f none c e s) _ = some r from h)
      have h2 : onGoto (aCode T call n f) b r1 r1.x = some r := h2
      refine scoped_of_wp ((ih none c e s r1 h1 σ a w F m _ hI he hF ?_).1)
      intro σ' a' w' x1 x2 x3 x4 x5
      cases hx : r1.x with
      | goto l =>
        rw [hx] at h2
        simp only [exitOf]
        cases hf : findLabel b l with
        | some rest =>
          have h2 : aCode T call n f (some b) rest r1.e r1.s = some r := by simpa [onGoto, hf] using h2
          exact ih (some b) rest r1.e r1.s r h2 σ' a' w' F m Q x3 x4 hF (after hQ x1 x2 x5)
        | none =>
          have h2 : r1 = r := by simpa [onGoto, hf] using h2
          subst h2
          have := hQ σ' a' w' x1 x2 x3 x4 x5
          rw [hx] at this
          exact this
      | normal =>
        rw [hx] at h2
        cases h2
        have := hQ σ' a' w' x1 x2 x3 x4 x5
        rw [hx] at this
        exact this
      | exit id =>
        rw [hx] at h2
        cases h2
        have := hQ σ' a' w' x1 x2 x3 x4 x5
        rw [hx] at this
        exact this
      | ret =>
        rw [hx] at h2
        cases h2
        have := hQ σ' a' w' x1 x2 x3 x4 x5
        rw [hx] at this
        exact this
    | none =>
      have h : codeIn T call n (aCode T call n f) c e s = some r := h
      cases c with
      | skip => cases h; exact ⟨wpIn_skip (hQ σ a w Ext.refl (Nat.le_refl _) hI he rfl), fun b hb => by cases hb⟩
      | label l => cases h; exact ⟨wpIn_label (hQ σ a w Ext.refl (Nat.le_refl _) hI he rfl), fun b hb => by cases hb⟩
      | exit id => cases h; exact ⟨wpIn_exit (hQ σ a w Ext.refl (Nat.le_refl _) hI he rfl), fun b hb => by cases hb⟩
      | goto l => cases h; exact ⟨wpIn_goto (hQ σ a w Ext.refl (Nat.le_refl _) hI he rfl), fun b hb => by cases hb⟩
      | ret => cases h; exact ⟨wpIn_ret (hQ σ a w Ext.refl (Nat.le_refl _) hI he rfl), fun b hb => by cases hb⟩
      | rangeFunc _ _ _ _ => cases h
      | refuse _ => cases h
      | scope c => exact ⟨wpIn_scope' (ih (some c) c e s r h σ a w F m Q hI he hF hQ), fun b hb => by cases hb⟩
      | region id ops draw =>
        refine ⟨?_, fun b hb => by cases hb⟩
        obtain ⟨p, hp, h⟩ := obnd_some (show obnd _ norm = some r from h)
        cases h
        cases draw with
        | false =>
          have hp : aOps T call n ops.toList ops.toList e s = some (p.1, p.2) := hp
          refine wpIn_region ?_
          have := aOps_sound hT hC (n := n) (ops := ops) hF (m := m) (Q := Q) ops.toList 0 (fun j => by simp) σ e p.1 s p.2 a w hp hI he (fun σ' a' w' x1 x2 x3 x4 x5 => hQ σ' a' w' x1 x2 x3 x4 x5)
          rw [List.range_eq_range']
          simpa using this
        | true =>
          have hp : aDraw T call n ops.toList e s = some (p.1, p.2) := hp
          refine wpIn_region_any hT.mixed ?_
          exact aDraw_sound hT hC (n := n) (ops := ops) hF hp hI he (fun σ' a' w' x1 x2 x3 x4 x5 => hQ σ' a' w' x1 x2 x3 x4 x5)
      | seq c1 c2 =>
        refine ⟨?_, fun b hb => by cases hb⟩
        obtain ⟨r1, h1, h2⟩ := obnd_some (show obnd (aCode T call n f none c1 e s) _ = some r from h)
        have h2 : andThenR r1 r1.x (aCode T call n f none c2) = some r := h2
        refine wpIn_seq ((ih none c1 e s r1 h1 σ a w F m _ hI he hF ?_).1)
        intro σ' a' w' x1 x2 x3 x4 x5
        cases hx : r1.x with
        | normal =>
          rw [hx] at h2
          exact (ih none c2 r1.e r1.s r h2 σ' a' w' F m Q x3 x4 hF (after hQ x1 x2 x5)).1
        | exit id => rw [hx] at h2; cases h2; have := hQ σ' a' w' x1 x2 x3 x4 x5; rw [hx] at this; exact this
        | goto l => rw [hx] at h2; cases h2; have := hQ σ' a' w' x1 x2 x3 x4 x5; rw [hx] at this; exact this
        | ret => rw [hx] at h2; cases h2; have := hQ σ' a' w' x1 x2 x3 x4 x5; rw [hx] at this; exact this
      | cond co c1 c2 =>
        refine ⟨?_, fun b hb => by cases hb⟩
        obtain ⟨v, hv, h⟩ := obnd_some (show obnd (aOpd e co) _ = some r from h)
        obtain ⟨t, rfl, h⟩ := onBool_some h
        have e1 : a.eval co = .bool t := VRel.eq_of_plain1 rfl (aOpd_sound he hv)
        refine wpIn_cond e1 ?_
        cases t with
        | true => exact (ih none c1 e s r h σ a w F m Q hI he hF hQ).1
        | false => exact (ih none c2 e s r h σ a w F m Q hI he hF hQ).1
      | block id c1 =>
        refine ⟨?_, fun b hb => by cases hb⟩
        obtain ⟨r1, h1, h2⟩ := obnd_some (show obnd (aCode T call n f none c1 e s) _ = some r from h)
        cases h2
        refine wpIn_block ((ih none c1 e s r1 h1 σ a w F m _ hI he hF ?_).1)
        intro σ' a' w' x1 x2 x3 x4 x5
        have key := fun hs : (inBlk id r1 r1.x).s = r1.s => fun hee : (inBlk id r1 r1.x).e = r1.e => hQ σ' a' w' x1 (by rw [hs]; exact x2) (by rw [hs]; exact x3) (by rw [hee]; exact x4) x5
        cases hx : r1.x with
        | exit j =>
          rw [hx] at key
          simp only [inBlk, exitOf, Exit.inBlock] at key ⊢
          cases hj : Nat.beq j id with
          | true =>
            rw [hj] at key
            rw [if_pos (Nat.eq_of_beq_eq_true hj)]
            exact key rfl rfl
          | false =>
            rw [hj] at key
            rw [if_neg (beq_false hj)]
            have := key rfl rfl
            simp only [cond_false, hx] at this
            exact this
        | normal => rw [hx] at key; have := key rfl rfl; simp only [inBlk, hx, exitOf] at this; exact this
        | goto l => rw [hx] at key; have := key rfl rfl; simp only [inBlk, hx, exitOf] at this; exact this
        | ret => rw [hx] at key; have := key rfl rfl; simp only [inBlk, hx, exitOf] at this; exact this
      | loop c1 =>
        have hround : Code.roundsIn F m P c1 Q (f + 1) a w := by
          obtain ⟨r1, h1, h2⟩ := obnd_some (show obnd (aCode T call n f none c1 e s) _ = some r from h)
          have h2 : andThenR r1 r1.x (aCode T call n f none (.loop c1)) = some r := h2
          rw [roundsIn_succ]
          refine (ih none c1 e s r1 h1 σ a w F m _ hI he hF ?_).1
          intro σ' a' w' x1 x2 x3 x4 x5
          cases hx : r1.x with
          | normal =>
            rw [hx] at h2
            exact (ih none (.loop c1) r1.e r1.s r h2 σ' a' w' F m Q x3 x4 hF (after hQ x1 x2 x5)).2 c1 rfl
          | exit id => rw [hx] at h2; cases h2; have := hQ σ' a' w' x1 x2 x3 x4 x5; rw [hx] at this; exact this
          | goto l => rw [hx] at h2; cases h2; have := hQ σ' a' w' x1 x2 x3 x4 x5; rw [hx] at this; exact this
          | ret => rw [hx] at h2; cases h2; have := hQ σ' a' w' x1 x2 x3 x4 x5; rw [hx] at this; exact this
        exact ⟨wpIn_loop_rounds (f + 1) hround, fun b hb => by cases hb; exact hround⟩
end
end Go.Proofs.Ytijfafacddefhaa.Ab
