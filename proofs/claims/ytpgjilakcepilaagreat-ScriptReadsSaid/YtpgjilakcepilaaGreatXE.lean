/- The tables of a program, contracts, and calls that are cut out; no condition. -/
import Derived.Test.YtpgjilakcepilaaGreatXD
namespace Go.Proofs.YtpgjilakcepilaaGreat.Ab
noncomputable section
open Go.RowKit
set_option linter.unusedSectionVars false
variable [Tok]

/-! ### the tables of a program, and what is to be checked of them -/
def ofList {α : Type} : List (Nat × α) → Tree α
  | [] => .leaf
  | (n, a) :: l => (ofList l).set n a
theorem ofList_mem {α : Type} {n : Nat} {a : α} : ∀ {l : List (Nat × α)}, (ofList l).get n = some a → (n, a) ∈ l
  | [], h => by cases h
  | (m, b) :: l, h => by
    unfold ofList at h
    rw [Tree.get_set] at h
    split at h
    · subst_vars; cases h; exact List.mem_cons_self
    · exact List.mem_cons_of_mem _ (ofList_mem h)
theorem map_mem {α β : Type} {f g : α → β} {l : List α} (h : l.map f = l.map g) {x : α} (hx : x ∈ l) : f x = g x := by
  induction l with
  | nil => cases hx
  | cons a l ih =>
    simp only [List.map_cons, List.cons.injEq] at h
    rcases List.mem_cons.1 hx with rfl | hx
    · exact h.1
    · exact ih h.2 hx

def bitsH : List Value → Option Value
  | [.float .f64 b] => some (.int .u64 (.ofNat b))
  | _ => none
def fromH : List Value → Option Value
  | [.int .u64 n] => some (.float .f64 n.toNat)
  | _ => none
def extOf : List (Nat × Bool) → FuncId → Option (List Value → Option Value)
  | [], _ => none
  | (n, b) :: l, f => cond (Nat.beq n f) (some (cond b bitsH fromH)) (extOf l f)
def mkTab (fns : Tree Func) (fairs : List Nat) (exts : List (Nat × Bool)) (tys : Tree TypeDesc) (infos : Tree TypeInfo) : Tab := ⟨fns.get, fun t => isIn t fairs, extOf exts, tys.get, infos.get⟩
/-- a struct whose equality is that of its parts -/
def namedAll (d : Option TypeDesc) : Bool :=
  match d with
  | some (.struct fs) => fs.toList.all fun f => f.name != "_"
  | _ => true
def fairB (P : Program) (t : Nat) : Bool := !P.stoodInHeld t && (!P.eqGuardType P.depth t && namedAll (P.underlying t))
theorem fairB_spec {P : Program} {t : Nat} (h : fairB P t = true) : P.stoodInHeld t = false ∧ P.eqGuardType P.depth t = false ∧ ∀ fs, P.underlying t = some (.struct fs) → ∀ f ∈ fs.toList, f.name ≠ "_" := by
  obtain ⟨h1, h2⟩ := and_true h
  obtain ⟨h2, h3⟩ := and_true h2
  refine ⟨by simpa using h1, by simpa using h2, fun fs hfs f hf => ?_⟩
  rw [hfs] at h3
  simpa using List.all_eq_true.1 h3 f hf

def plainFn (fn : Func) : Bool := fn.body.isSome && !(fn.name == "runtime.NumGoroutine")
theorem callFunc_enter {P : Program} {f : FuncId} {fn : Func} (h : P.funcs[f]? = some fn) (hp : plainFn fn = true) (args : Array Value) (w : World) : (callFunc f args).run P w = .ok (.enter f args) w := by
  unfold plainFn at hp
  rw [Bool.and_eq_true, Bool.not_eq_true'] at hp
  obtain ⟨h1, h2⟩ := hp
  have h3 : fn.body ≠ none := by intro hb; rw [hb] at h1; cases h1
  have h4 : fn.name ≠ "runtime.NumGoroutine" := by simpa using h2
  simp [callFunc, h, h3, h4]
/-- a function with no body whose row in the model is pure -/
structure ExtFn (P : Program) (f : FuncId) (e : Array Value → Sem Value) : Prop where
  intro' ::
  ex : ∃ fn, P.funcs[f]? = some fn ∧ (fn.name == "runtime.NumGoroutine") = false ∧ fn.body = none ∧ Extern.findNext fn = none ∧ Extern.find fn = some e
theorem callFunc_ext {P : Program} {f : FuncId} {e : Array Value → Sem Value} (h : ExtFn P f e) {args : Array Value} {w : World} {v : Value} (hv : (e args).run P w = .ok v w) :
    (callFunc f args).run P w = .ok (.value v) w := by
  obtain ⟨fn, h1, h2, h3, h4, h5⟩ := h.ex
  have h6 : fn.name ≠ "runtime.NumGoroutine" := by simpa using h2
  simp [callFunc, h1, h3, h4, h5, h6, hv]
def extRun (b : Bool) : Array Value → Sem Value := cond b Extern.MathFloatBits.float64bits Extern.MathFloatBits.float64frombits
theorem ext_sound {P : Program} : ∀ {l : List (Nat × Bool)}, (∀ p ∈ l, ExtFn P p.1 (extRun p.2)) → ∀ f h, extOf l f = some h → ∀ (σ : Inj) (args : List Value) (args' : Array Value) (v : Value), h args = some v → LRel σ args args'.toList →
    ∃ v', VRel σ v v' ∧ ∀ w, (callFunc f args').run P w = .ok (.value v') w
  | [], _, f, h, hf => by cases hf
  | (n, b) :: l, hl, f, h, hf => by
    intro σ args args' v hv hr
    unfold extOf at hf
    cases hb : Nat.beq n f with
    | false => rw [hb, cond_false] at hf; exact ext_sound (fun p hp => hl p (List.mem_cons_of_mem _ hp)) f h hf σ args args' v hv hr
    | true =>
      rw [hb, cond_true] at hf
      cases Nat.eq_of_beq_eq_true hb
      have he := hl (n, b) List.mem_cons_self
      cases hf
      cases b with
      | true =>
        simp only [cond_true] at hv
        unfold bitsH at hv
        split at hv
        · rename_i k
          cases hv
          cases args'
          rename_i l'
          cases hr with
          | cons h1 h2 =>
            cases h2
            cases h1
            exact ⟨_, .int _ _, fun w => callFunc_ext he rfl⟩
        · cases hv
      | false =>
        simp only [cond_false] at hv
        unfold fromH at hv
        split at hv
        · rename_i k
          cases hv
          cases args'
          rename_i l'
          cases hr with
          | cons h1 h2 =>
            cases h2
            cases h1
            exact ⟨_, .float _, fun w => callFunc_ext he rfl⟩
        · cases hv

theorem mkTab_ok {P : Program} {fns : Tree Func} {fairs : List Nat} {exts : List (Nat × Bool)} {tys : Tree TypeDesc} {infos : Tree TypeInfo} (fl : List (Nat × Func)) (tl : List (Nat × TypeDesc)) (il : List (Nat × TypeInfo))
    (f1 : fns = ofList fl) (f2 : (fl.map fun p => P.funcs[p.1]?) = fl.map fun p => some p.2) (f3 : (fl.all fun p => plainFn p.2) = true)
    (t1 : tys = ofList tl) (t2 : (tl.map fun p => P.underlying p.1) = tl.map fun p => some p.2)
    (i1 : infos = ofList il) (i2 : (il.map fun p => P.info? p.1) = il.map fun p => some p.2)
    (he : ∀ p ∈ exts, ExtFn P p.1 (extRun p.2)) (hm : P.follows .mixedOrders = true) (hf : (fairs.all fun t => fairB P t) = true) : (mkTab fns fairs exts tys infos).Ok P := by
  subst f1 t1 i1
  refine ⟨fun f fn h => ?_, fun t h => fairB_spec (List.all_eq_true.1 hf t (by have h : isIn t fairs = true := h; rw [isIn_eq] at h; simpa using h)), ext_sound he, fun t d h => map_mem t2 (ofList_mem h), fun t i h => map_mem i2 (ofList_mem h), hm⟩
  have hmem := ofList_mem h
  have h1 := map_mem f2 hmem
  exact ⟨h1, callFunc_enter h1 (List.all_eq_true.1 f3 _ hmem)⟩

def isTrue : Option (Value × St) → Bool
  | some (.bool true, _) => true
  | _ => false
theorem isTrue_some {x : Option (Value × St)} (h : isTrue x = true) : ∃ s, x = some (.bool true, s) := by
  unfold isTrue at h
  split at h
  · exact ⟨_, rfl⟩
  · cases h
theorem inv_start (w : World) : Inv w.heap.size w (fun _ => none) ⟨.leaf, 0⟩ w :=
  ⟨Below.refl _ _, Nat.le_refl _, (fun b l h => by cases h), (fun b l cs es sp h => by cases h), (fun b l cs es sp h => by cases h), (fun b b' l l' cs es sp cs' es' sp' _ h => by cases h), (fun b l es ck h => by cases h), (fun b b' l l' es ck es' ck' _ h => by cases h)⟩
/-- a closed call that the tables' own run answers with 'true' -/
theorem closed_true {T : Tab} {P : Program} (hT : T.Ok P) {lf d : Nat} {f : FuncId} (hlt : f < 1099511627776) (h : isTrue (aCall T lf d f [] ⟨.leaf, 0⟩) = true) (w : World) :
    Calls P f #[] w fun e w' => e = .returned (.bool true) ∧ Below w.heap.size w w' := by
  obtain ⟨s, hs⟩ := isTrue_some h
  obtain ⟨_, _, hc⟩ := (aCall_sound hT (B0 := w.heap.size) (w0 := w) lf d f [] _ _ _ hs (fun _ => none) w #[] (inv_start w) .nil).1 hlt
  refine (callsIn_wide.1 (hc Fence.wide 0 free_wide)).mono ?_
  rintro e w' ⟨σ', v', he, _, hI, hv⟩
  cases hv
  exact ⟨he, hI.below⟩
end
end Go.Proofs.YtpgjilakcepilaaGreat.Ab
namespace Go.Proofs.YtpgjilakcepilaaGreat.Ab
noncomputable section
open Go.RowKit
set_option linter.unusedSectionVars false
variable [Tok]

theorem closedP_true {T : Tab} {P : Program} (hT : T.Ok P) {sums : FuncId → Option Sum} (hS : ∀ B0 w0, SumsOk P B0 w0 sums) {lf d : Nat} {f : FuncId} (hlt : Nat.blt f 1099511627776 = true) (h : isTrue (aCallP T sums lf d f [] ⟨.leaf, 0⟩) = true) (w : World) :
    Calls P f #[] w fun e w' => e = .returned (.bool true) ∧ Below w.heap.size w w' := by
  obtain ⟨s, hs⟩ := isTrue_some h
  obtain ⟨_, _, hc⟩ := (aCallP_sound hT (hS w.heap.size w) lf d f [] _ _ _ hs (fun _ => none) w #[] (inv_start w) .nil).1 (blt_true hlt)
  refine (callsIn_wide.1 (hc Fence.wide 0 free_wide)).mono ?_
  rintro e w' ⟨σ', v', he, _, hI, hv⟩
  cases hv
  exact ⟨he, hI.below⟩

/-! ### the sum of two bytes behind one more byte -/
def crcF (c : Nat) : Nat := Nat.xor ((c / 2 ^ Nat.min 1 16) % 65536) (((Nat.land (33800 % 65536) (((65536 - (Nat.land (c % 65536) (1 % 65536) % 65536) % 65536) % 65536) % 65536)) % 65536) % 65536) % 65536
def crcN (n x : Nat) : Nat := crcF (crcF (crcF (crcF (crcF (crcF (crcF (crcF (Nat.xor (n % 65536) ((x % 65536) % 65536) % 65536))))))))
def crcH : Sum := fun args s =>
  match args with
  | [.int .u16 (.ofNat n), .int .u8 (.ofNat x)] => some (.int .u16 (.ofNat (crcN n x)), s)
  | _ => none
def sumsOf (l : List (Nat × Sum)) (f : FuncId) : Option Sum :=
  match l with
  | [] => none
  | (n, h) :: l => cond (Nat.beq n f) (some h) (sumsOf l f)
/-- one contract of a list -/
def SumOk (P : Program) (p : Nat × Sum) : Prop := ∀ B0 w0 args s r, p.2 args s = some r → ∃ call : CallF, CallOk P B0 w0 call ∧ call p.1 args s = some r
theorem sums_ok {P : Program} : ∀ {l : List (Nat × Sum)}, (∀ p ∈ l, SumOk P p) → ∀ B0 w0, SumsOk P B0 w0 (sumsOf l)
  | [], _, _, _, f, h, hf => by cases hf
  | (n, g) :: l, hl, B0, w0, f, h, hf => by
    unfold sumsOf at hf
    cases hb : Nat.beq n f with
    | true =>
      rw [hb, cond_true] at hf
      cases Nat.eq_of_beq_eq_true hb
      cases hf
      exact hl (n, _) List.mem_cons_self B0 w0
    | false =>
      rw [hb, cond_false] at hf
      exact sums_ok (fun p hp => hl p (List.mem_cons_of_mem _ hp)) B0 w0 f h hf
theorem crcH_spec {T : Tab} {P : Program} (hT : T.Ok P) {f : FuncId} {lf d : Nat} (h : ∀ n x s, aCall T lf d f [.int .u16 (.ofNat n), .int .u8 (.ofNat x)] s = some (.int .u16 (.ofNat (crcN n x)), s)) : SumOk P (f, crcH) := by
  intro B0 w0 args s r hr
  refine ⟨_, aCall_sound hT lf d, ?_⟩
  replace hr : crcH args s = some r := hr
  unfold crcH at hr
  split at hr
  · cases hr; exact h _ _ _
  · cases hr

/-! ### a call cut out: what it comes to at one state, said outright -/
/-- a value is another one, to the letter -/
def veqK (eq : List Value → List Value → Bool) (a b : Value) : Bool :=
  match a, b with
  | .bool a, .bool b => (a && b) || (!a && !b)
  | .int j a, .int k b => keq j k && ieq a b
  | .float .f64 a, .float .f64 b => Nat.beq a b
  | .complex .f64 a b, .complex .f64 c d => Nat.beq a c && Nat.beq b d
  | .pointer none, .pointer none => true
  | .pointer (some ⟨a, b, none⟩), .pointer (some ⟨c, d, none⟩) => Nat.beq a c && Nat.beq b d
  | .slice none a b, .slice none c d => Nat.beq a c && Nat.beq b d
  | .slice (some ⟨a, b, none⟩) n c, .slice (some ⟨a', b', none⟩) n' c' => Nat.beq a a' && (Nat.beq b b' && (Nat.beq n n' && Nat.beq c c'))
  | .map none, .map none => true
  | .map (some a), .map (some b) => Nat.beq a b
  | .func (.func f) xs ys, .func (.func g) zs ws => Nat.beq f g && (eq xs.toList zs.toList && eq ys.toList ws.toList)
  | .nilFunc, .nilFunc => true
  | .nilIface, .nilIface => true
  | .agg xs, .agg ys => eq xs.toList ys.toList
  | .tuple xs, .tuple ys => eq xs.toList ys.toList
  | _, _ => false
def leq (eq : Value → Value → Bool) : List Value → List Value → Bool
  | [] => fun l => isNil l
  | a :: l => fun m => (match m with
    | [] => false
    | b :: m => eq a b && leq eq l m)
def veqD : Nat → Value → Value → Bool
  | 0 => fun _ _ => false
  | d + 1 => veqK (leq (veqD d))
def eeq (d e : MapEntry) : Bool := Nat.beq d.born e.born && (veqD 3 d.key e.key && veqD 3 d.val e.val)
def eleq : List MapEntry → List MapEntry → Bool
  | [] => fun l => isNil l
  | a :: l => fun m => (match m with
    | [] => false
    | b :: m => eeq a b && eleq l m)
def nleq : List Nat → List Nat → Bool
  | [] => fun l => isNil l
  | a :: l => fun m => (match m with
    | [] => false
    | b :: m => Nat.beq a b && nleq l m)
def oneq (a b : Option Nat) : Bool :=
  match a, b with
  | none, none => true
  | some a, some b => Nat.beq a b
  | _, _ => false
def beqB (a b : Bool) : Bool := (a && b) || (!a && !b)
def oeq (a b : AObj) : Bool :=
  match a, b with
  | .cells cs es sp, .cells cs' es' sp' => Nat.beq es es' && (beqB sp sp' && leq (veqD 3) cs cs')
  | .map es ck, .map es' ck' => Nat.beq ck ck' && eleq es es'
  | .iter m a l b, .iter m' a' l' b' => oneq m m' && (Nat.beq a a' && (Nat.beq b b' && nleq l l'))
  | .defd, .defd => true
  | _, _ => false
theorem beqB_eq {a b : Bool} (h : beqB a b = true) : a = b := by cases a <;> cases b <;> first | rfl | cases h
theorem isNil_nil {α : Type} {l : List α} (h : isNil l = true) : l = [] := by cases l <;> first | rfl | cases h
theorem leq_eq {eq : Value → Value → Bool} (he : ∀ a b, eq a b = true → a = b) : ∀ {l m : List Value}, leq eq l m = true → l = m
  | [], m, h => (isNil_nil h).symm
  | a :: l, [], h => by cases h
  | a :: l, b :: m, h => by
    obtain ⟨h1, h2⟩ := and_true (show (eq a b && leq eq l m) = true from h)
    rw [he _ _ h1, leq_eq he h2]
theorem nbeq {a b : Nat} (h : Nat.beq a b = true) : a = b := Nat.eq_of_beq_eq_true h
theorem veqK_eq {eq : List Value → List Value → Bool} (he : ∀ a b, eq a b = true → a = b) {a b : Value} (h : veqK eq a b = true) : a = b := by
  unfold veqK at h
  split at h
  · rw [beqB_eq h]
  · obtain ⟨h1, h2⟩ := and_true h
    obtain rfl := keq_eq h1
    rw [ieq_eq] at h2
    have h3 := LawfulBEq.eq_of_beq h2
    rw [h3]
  · rw [nbeq h]
  · obtain ⟨h1, h2⟩ := and_true h
    rw [nbeq h1, nbeq h2]
  · rfl
  · obtain ⟨h1, h2⟩ := and_true h
    rw [nbeq h1, nbeq h2]
  · obtain ⟨h1, h2⟩ := and_true h
    rw [nbeq h1, nbeq h2]
  · obtain ⟨h1, h2⟩ := and_true h
    obtain ⟨h2, h3⟩ := and_true h2
    obtain ⟨h3, h4⟩ := and_true h3
    rw [nbeq h1, nbeq h2, nbeq h3, nbeq h4]
  · rfl
  · rw [nbeq h]
  · obtain ⟨h1, h2⟩ := and_true h
    obtain ⟨h2, h3⟩ := and_true h2
    rw [nbeq h1, Array.toList_inj.1 (he _ _ h2), Array.toList_inj.1 (he _ _ h3)]
  · rfl
  · rfl
  · rw [Array.toList_inj.1 (he _ _ h)]
  · rw [Array.toList_inj.1 (he _ _ h)]
  · cases h
theorem veqD_eq : ∀ (d : Nat) (a b : Value), veqD d a b = true → a = b
  | 0, _, _, h => by cases h
  | d + 1, a, b, h => veqK_eq (eq := leq (veqD d)) (fun _ _ h => leq_eq (veqD_eq d) h) h
theorem eleq_eq : ∀ {l m : List MapEntry}, eleq l m = true → l = m
  | [], m, h => (isNil_nil h).symm
  | a :: l, [], h => by cases h
  | a :: l, b :: m, h => by
    obtain ⟨h1, h2⟩ := and_true (show (eeq a b && eleq l m) = true from h)
    obtain ⟨h3, h4⟩ := and_true (show (Nat.beq a.born b.born && (veqD 3 a.key b.key && veqD 3 a.val b.val)) = true from h1)
    obtain ⟨h4, h5⟩ := and_true h4
    have : a = b := by
      cases a
      cases b
      have e1 := nbeq h3
      have e2 := veqD_eq 3 _ _ h4
      have e3 := veqD_eq 3 _ _ h5
      simp only at e1 e2 e3
      rw [e1, e2, e3]
    rw [this, eleq_eq h2]
theorem nleq_eq : ∀ {l m : List Nat}, nleq l m = true → l = m
  | [], m, h => (isNil_nil h).symm
  | a :: l, [], h => by cases h
  | a :: l, b :: m, h => by
    obtain ⟨h1, h2⟩ := and_true (show (Nat.beq a b && nleq l m) = true from h)
    rw [nbeq h1, nleq_eq h2]
theorem oneq_eq {a b : Option Nat} (h : oneq a b = true) : a = b := by
  unfold oneq at h
  split at h
  · rfl
  · rw [nbeq h]
  · cases h
theorem oeq_eq {a b : AObj} (h : oeq a b = true) : a = b := by
  unfold oeq at h
  split at h
  · obtain ⟨h1, h2⟩ := and_true h
    obtain ⟨h2, h3⟩ := and_true h2
    rw [nbeq h1, beqB_eq h2, leq_eq (veqD_eq 3) h3]
  · obtain ⟨h1, h2⟩ := and_true h
    rw [nbeq h1, eleq_eq h2]
  · obtain ⟨h1, h2⟩ := and_true h
    obtain ⟨h2, h3⟩ := and_true h2
    obtain ⟨h3, h4⟩ := and_true h3
    rw [oneq_eq h1, nbeq h2, nbeq h3, nleq_eq h4]
  · rfl
  · cases h
/-- all that the first knows the second knows too -/
def osub (a b : Option AObj) : Bool :=
  match a with
  | none => true
  | some a => (match b with
    | none => false
    | some b => oeq a b)
def Tree.val {α : Type} (t : Tree α) : Option α :=
  match t with
  | .leaf => none
  | .node v _ _ => v
def Tree.lft {α : Type} (t : Tree α) : Tree α :=
  match t with
  | .leaf => .leaf
  | .node _ l _ => l
def Tree.rgt {α : Type} (t : Tree α) : Tree α :=
  match t with
  | .leaf => .leaf
  | .node _ _ r => r
def subT : Tree AObj → Tree AObj → Bool
  | .leaf => fun _ => true
  | .node v l r => fun t => osub v t.val && (subT l t.lft && subT r t.rgt)
theorem Tree.get_parts {α : Type} (t : Tree α) (n : Nat) : t.get n = cond (Nat.beq n 0) t.val (cond (Nat.beq (n % 2) 1) (t.lft.get (n / 2)) (t.rgt.get (n / 2 - 1))) := by
  cases t with
  | leaf =>
    simp only [Tree.val, Tree.lft, Tree.rgt, Tree.get_leaf]
    cases Nat.beq n 0 <;> cases Nat.beq (n % 2) 1 <;> rfl
  | node v l r => rfl
theorem subT_get : ∀ {t u : Tree AObj}, subT t u = true → ∀ (n : Nat) (o : AObj), t.get n = some o → u.get n = some o
  | .leaf, u, _, n, o, h => by cases h
  | .node v l r, u, h, n, o, hg => by
    obtain ⟨h1, h2⟩ := and_true (show (osub v u.val && (subT l u.lft && subT r u.rgt)) = true from h)
    obtain ⟨h2, h3⟩ := and_true h2
    rw [Tree.get_node] at hg
    rw [Tree.get_parts]
    cases hb : Nat.beq n 0 with
    | true =>
      rw [hb, cond_true] at hg
      rw [cond_true]
      subst hg
      unfold osub at h1
      simp only at h1
      split at h1
      · cases h1
      · rename_i b hb2
        rw [hb2, oeq_eq h1]
    | false =>
      rw [hb, cond_false] at hg
      rw [cond_false]
      cases hc : Nat.beq (n % 2) 1 with
      | true =>
        rw [hc, cond_true] at hg
        rw [cond_true]
        exact subT_get h2 _ _ hg
      | false =>
        rw [hc, cond_false] at hg
        rw [cond_false]
        exact subT_get h3 _ _ hg
def subS (s s' : St) : Bool := Nat.beq s.next s'.next && subT s.heap s'.heap
theorem Inv.sub {B0 : Nat} {w0 : World} {σ : Inj} {s s' : St} {w : World} (hI : Inv B0 w0 σ s' w) (h : subS s s' = true) : Inv B0 w0 σ s w := by
  obtain ⟨h1, h2⟩ := and_true h
  have h1 := nbeq h1
  have h2 := subT_get h2
  exact ⟨hI.below, hI.base, fun b l hb => by rw [h1]; exact hI.dom b l hb, fun b l cs es sp hb hg => hI.cells b l cs es sp hb (h2 _ _ hg), fun b l cs es sp hb hg => hI.room b l cs es sp hb (h2 _ _ hg),
    fun b b' l l' cs es sp cs' es' sp' hne hb hb' hg hg' => hI.apart b b' l l' cs es sp cs' es' sp' hne hb hb' (h2 _ _ hg) (h2 _ _ hg'), fun b l o hb hg hw => hI.maps b l o hb (h2 _ _ hg) hw,
    fun b b' l l' o o' hne hb hb' hg hg' hw hw' => hI.mapart b b' l l' o o' hne hb hb' (h2 _ _ hg) (h2 _ _ hg') hw hw'⟩

/-- a call, its state, and what it comes to -/
structure Cut where
  f : Nat
  args : List Value
  s : St
  v : Value
  t : St
def cutSum : List Cut → Sum
  | [], _, _ => none
  | c :: l, args, s => cond (Nat.beq c.s.next s.next && (leq (veqD 6) c.args args && subT c.s.heap s.heap)) (some (c.v, c.t)) (cutSum l args s)
def cutOk (c : Cut) (r : Option (Value × St)) : Bool :=
  match r with
  | none => false
  | some (v, t) => veqD 6 v c.v && subS c.t t
def CutOk (P : Program) (c : Cut) : Prop := ∀ B0 w0, ∃ (call : CallF) (t : St), CallOk P B0 w0 call ∧ call c.f c.args c.s = some (c.v, t) ∧ subS c.t t = true
theorem cut_ok {T : Tab} {P : Program} (hT : T.Ok P) {sums : FuncId → Option Sum} (hS : ∀ B0 w0, SumsOk P B0 w0 sums) {lf d : Nat} {c : Cut} (h : cutOk c (aCallP T sums lf d c.f c.args c.s) = true) : CutOk P c := by
  intro B0 w0
  cases hr : aCallP T sums lf d c.f c.args c.s with
  | none => rw [hr] at h; cases h
  | some r =>
    obtain ⟨v, t⟩ := r
    rw [hr] at h
    obtain ⟨h1, h2⟩ := and_true (show (veqD 6 v c.v && subS c.t t) = true from h)
    have := veqD_eq 6 _ _ h1
    subst this
    exact ⟨_, t, aCallP_sound hT (hS B0 w0) lf d, hr, h2⟩
theorem Ret.sub {B0 : Nat} {w0 : World} {σ : Inj} {s s1 : St} {v : Value} {t t' : St} {e : Ending} {w' : World} (hn : s1.next = s.next) (h : Ret B0 w0 σ s1 v t e w') (hs : subS t' t = true) : Ret B0 w0 σ s v t' e w' := by
  obtain ⟨σ', v', h1, h2, h3, h4⟩ := h
  exact ⟨σ', v', h1, by rw [← hn]; exact h2, h3.sub hs, h4⟩
/-- the contract of some cuts -/
theorem cutSum_ok {P : Program} {f : Nat} : ∀ {l : List Cut}, (∀ c ∈ l, c.f = f ∧ CutOk P c) → SumOk P (f, cutSum l)
  | [], _, B0, w0, args, s, r, h => by cases h
  | c :: l, hl, B0, w0, args, s, r, h => by
    have h : cond (Nat.beq c.s.next s.next && (leq (veqD 6) c.args args && subT c.s.heap s.heap)) (some (c.v, c.t)) (cutSum l args s) = some r := h
    cases hc : (Nat.beq c.s.next s.next && (leq (veqD 6) c.args args && subT c.s.heap s.heap)) with
    | false =>
      rw [hc] at h
      exact cutSum_ok (fun c hc => hl c (List.mem_cons_of_mem _ hc)) B0 w0 args s r h
    | true =>
      rw [hc] at h
      cases h
      obtain ⟨h1, h2⟩ := and_true hc
      obtain ⟨h2, h3⟩ := and_true h2
      have hargs := leq_eq (veqD_eq 6) h2
      have hsub : subS c.s s = true := by unfold subS; rw [h1, h3]; rfl
      have hnx : c.s.next = s.next := nbeq h1
      obtain ⟨rfl, hcut⟩ := hl c List.mem_cons_self
      obtain ⟨call, t, hcall, hrun, hst⟩ := hcut B0 w0
      classical
      refine ⟨fun f args s => if f = c.f ∧ args = c.args ∧ subS c.s s = true then some (c.v, c.t) else none, ?_, by simp [hargs, hsub]⟩
      intro f args s v s' h σ w args' hI hr
      replace h : (if f = c.f ∧ args = c.args ∧ subS c.s s = true then some (c.v, c.t) else none) = some (v, s') := h
      split at h
      · rename_i hcond
        obtain ⟨rfl, rfl, hsub⟩ := hcond
        cases h
        have hnx : c.s.next = s.next := nbeq (and_true hsub).1
        have hnt : c.t.next = t.next := nbeq (and_true hst).1
        obtain ⟨k1, k2⟩ := hcall _ _ _ _ _ hrun σ w args' (hI.sub hsub) hr
        refine ⟨fun hlt => ?_, fun b l hfb hbl => ?_⟩
        · obtain ⟨k3, k4, k5⟩ := k1 hlt
          exact ⟨by rw [hnt, ← hnx]; exact k3, k4, fun F n hF => (k5 F n hF).mono fun e w' h => h.sub hnx hst⟩
        · obtain ⟨k3, fn, tmps, asg, body, k4, k5⟩ := k2 b l hfb hbl
          exact ⟨by rw [hnt, ← hnx]; exact k3, fn, tmps, asg, body, k4, fun F n hF => (k5 F n hF).mono fun e w' h => h.sub hnx hst⟩
      · cases h
end
end Go.Proofs.YtpgjilakcepilaaGreat.Ab
