/- The short run is sound over the model: a part of the proof. -/
import Derived.Test.YtijfafacddefhaaXS18
namespace Go.Proofs.Ytijfafacddefhaa.Ab
noncomputable section
open Go.RowKit

/-! ### the tables of a program, and what is to be checked of them -/
def ofList {α : Type} : List (Nat × α) → Tree α
  | [] => .leaf
  | (n, a) :: l => (ofList l).set n a
theorem ofList_mem {α : Type} {n : Nat} {a : α} : ∀ {l : List (Nat × α)}, (ofList l).get n = some a → (n, a) ∈ l
  | [], h => by cases h
  | (m, b) :: l, h => by
    unfold ofList at h
    rw [Tree.get_set] at h
    split at h
    · subst_vars; cases h; exact List.mem_cons_self
    · exact List.mem_cons_of_mem _ (ofList_mem h)
theorem map_mem {α β : Type} {f g : α → β} {l : List α} (h : l.map f = l.map g) {x : α} (hx : x ∈ l) : f x = g x := by
  induction l with
  | nil => cases hx
  | cons a l ih =>
    simp only [List.map_cons, List.cons.injEq] at h
    rcases List.mem_cons.1 hx with rfl | hx
    · exact h.1
    · exact ih h.2 hx

def bitsH : List Value → Option Value
  | [.float .f64 b] => some (.int .u64 (.ofNat b))
  | _ => none
def fromH : List Value → Option Value
  | [.int .u64 n] => some (.float .f64 n.toNat)
  | _ => none
def extOf : List (Nat × Bool) → FuncId → Option (List Value → Option Value)
  | [], _ => none
  | (n, b) :: l, f => cond (Nat.beq n f) (some (cond b bitsH fromH)) (extOf l f)
def mkTab (fns : Tree Func) (exts : List (Nat × Bool)) (tys : Tree TypeDesc) (infos : Tree TypeInfo) : Tab := ⟨fns.get, extOf exts, tys.get, infos.get⟩

def plainFn (fn : Func) : Bool := fn.body.isSome && !(fn.name == "runtime.NumGoroutine")
theorem callFunc_enter {P : Program} {f : FuncId} {fn : Func} (h : P.funcs[f]? = some fn) (hp : plainFn fn = true) (args : Array Value) (w : World) : (callFunc f args).run P w = .ok (.enter f args) w := by
  unfold plainFn at hp
  rw [Bool.and_eq_true, Bool.not_eq_true'] at hp
  obtain ⟨h1, h2⟩ := hp
  have h3 : fn.body ≠ none := by intro hb; rw [hb] at h1; cases h1
  have h4 : fn.name ≠ "runtime.NumGoroutine" := by simpa using h2
  simp [callFunc, h, h3, h4]
/-- a function with no body whose row in the model is pure -/
structure ExtFn (P : Program) (f : FuncId) (e : Array Value → Sem Value) : Prop where
  intro' ::
  ex : ∃ fn, P.funcs[f]? = some fn ∧ (fn.name == "runtime.NumGoroutine") = false ∧ fn.body = none ∧ Extern.findNext fn = none ∧ Extern.find fn = some e
theorem callFunc_ext {P : Program} {f : FuncId} {e : Array Value → Sem Value} (h : ExtFn P f e) {args : Array Value} {w : World} {v : Value} (hv : (e args).run P w = .ok v w) :
    (callFunc f args).run P w = .ok (.value v) w := by
  obtain ⟨fn, h1, h2, h3, h4, h5⟩ := h.ex
  have h6 : fn.name ≠ "runtime.NumGoroutine" := by simpa using h2
  simp [callFunc, h1, h3, h4, h5, h6, hv]
def extRun (b : Bool) : Array Value → Sem Value := cond b Extern.MathFloatBits.float64bits Extern.MathFloatBits.float64frombits
theorem ext_sound {P : Program} : ∀ {l : List (Nat × Bool)}, (∀ p ∈ l, ExtFn P p.1 (extRun p.2)) → ∀ f h, extOf l f = some h → ∀ (σ : Inj) (args : List Value) (args' : Array Value) (v : Value), h args = some v → LRel σ args args'.toList →
    ∃ v', VRel σ v v' ∧ ∀ w, (callFunc f args').run P w = .ok (.value v') w
  | [], _, f, h, hf => by cases hf
  | (n, b) :: l, hl, f, h, hf => by
    intro σ args args' v hv hr
    unfold extOf at hf
    cases hb : Nat.beq n f with
    | false => rw [hb, cond_false] at hf; exact ext_sound (fun p hp => hl p (List.mem_cons_of_mem _ hp)) f h hf σ args args' v hv hr
    | true =>
      rw [hb, cond_true] at hf
      cases Nat.eq_of_beq_eq_true hb
      have he := hl (n, b) List.mem_cons_self
      cases hf
      cases b with
      | true =>
        simp only [cond_true] at hv
        unfold bitsH at hv
        split at hv
        · rename_i k
          cases hv
          cases args'
          rename_i l'
          cases hr with
          | cons h1 h2 =>
            cases h2
            cases h1
            exact ⟨_, .int _ _, fun w => callFunc_ext he rfl⟩
        · cases hv
      | false =>
        simp only [cond_false] at hv
        unfold fromH at hv
        split at hv
        · rename_i k
          cases hv
          cases args'
          rename_i l'
          cases hr with
          | cons h1 h2 =>
            cases h2
            cases h1
            exact ⟨_, .float _ _, fun w => callFunc_ext he rfl⟩
        · cases hv

theorem mkTab_ok {P : Program} {fns : Tree Func} {exts : List (Nat × Bool)} {tys : Tree TypeDesc} {infos : Tree TypeInfo} (fl : List (Nat × Func)) (tl : List (Nat × TypeDesc)) (il : List (Nat × TypeInfo))
    (f1 : fns = ofList fl) (f2 : (fl.map fun p => P.funcs[p.1]?) = fl.map fun p => some p.2) (f3 : (fl.all fun p => plainFn p.2) = true)
    (t1 : tys = ofList tl) (t2 : (tl.map fun p => P.underlying p.1) = tl.map fun p => some p.2)
    (i1 : infos = ofList il) (i2 : (il.map fun p => P.info? p.1) = il.map fun p => some p.2)
    (he : ∀ p ∈ exts, ExtFn P p.1 (extRun p.2)) (hm : P.follows .mixedOrders = true) : (mkTab fns exts tys infos).Ok P := by
  subst f1 t1 i1
  refine ⟨fun f fn h => ?_, ext_sound he, fun t d h => map_mem t2 (ofList_mem h), fun t i h => map_mem i2 (ofList_mem h), hm⟩
  have hmem := ofList_mem h
  have h1 := map_mem f2 hmem
  exact ⟨h1, callFunc_enter h1 (List.all_eq_true.1 f3 _ hmem)⟩

def isTrue : Option (Value × St) → Bool
  | some (.bool true, _) => true
  | _ => false
theorem isTrue_some {x : Option (Value × St)} (h : isTrue x = true) : ∃ s, x = some (.bool true, s) := by
  unfold isTrue at h
  split at h
  · exact ⟨_, rfl⟩
  · cases h
theorem inv_start (w : World) : Inv w.heap.size w (fun _ => none) ⟨.leaf, 0⟩ w :=
  ⟨Below.refl _ _, Nat.le_refl _, (fun b l h => by cases h), (fun b l cs es sp h => by cases h), (fun b l cs es sp h => by cases h), (fun b b' l l' cs es sp cs' es' sp' _ h => by cases h), (fun b l es ck h => by cases h), (fun b b' l l' es ck es' ck' _ h => by cases h)⟩
/-- a closed call that the tables' own run answers with 'true' -/
theorem closed_true {T : Tab} {P : Program} (hT : T.Ok P) {lf d : Nat} {f : FuncId} (h : isTrue (aCall T lf d f [] ⟨.leaf, 0⟩) = true) (w : World) :
    Calls P f #[] w fun e w' => e = .returned (.bool true) ∧ Below w.heap.size w w' := by
  obtain ⟨s, hs⟩ := isTrue_some h
  obtain ⟨_, _, hc⟩ := aCall_sound hT (B0 := w.heap.size) (w0 := w) lf d f [] _ _ _ hs (fun _ => none) w #[] (inv_start w) .nil
  refine (callsIn_wide.1 (hc Fence.wide 0 free_wide)).mono ?_
  rintro e w' ⟨σ', v', he, _, hI, hv⟩
  cases hv
  exact ⟨he, hI.below⟩
end
end Go.Proofs.Ytijfafacddefhaa.Ab
