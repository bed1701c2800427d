/- A cache and its order by the names of the pages; how the names are given anew; no condition. -/
import Derived.Test.YtijfafacddefhaaKE
namespace Go.Proofs.Ytijfafacddefhaa.Ab
noncomputable section

/-! ### a cache and its order, by the names of the pages: 0 is what is kept, 1 .. k the others, the one used last behind all others -/
def c0 : Value := .complex .f64 0 0
def iv (n : Nat) : Value := .int .i64 (.ofNat n)
def tk (n : Nat) : Value := .float .f32 n
def xt (n : Nat) : Value := .chan (some n)
def entC (pg : Value) (cp : Nat) (l : List Value) : List Value := pg :: iv cp :: iv 0 :: c0 :: c0 :: c0 :: c0 :: l
def ents : List Nat → List Value
  | [] => []
  | i :: l => entC (tk i) 15 (ents l)
def toks : List Nat → List Value
  | [] => []
  | i :: l => tk i :: toks l
def upto : Nat → Nat → List Nat
  | 0, _ => []
  | n + 1, i => i :: upto n (i + 1)
def canonH (many k : Nat) : Tree AObj :=
  .node (some (.cells [iv many, .slice (some ⟨1, 0, none⟩) (k + 1) (OPEN + (k + 1))] 1 false))
    (.node (some (.cells (entC (tk 0) 1 (ents (upto k 1))) 7 true)) .leaf .leaf)
    (.node (some (.cells (toks (upto k 1)) 1 false)) .leaf .leaf)
def canonS (many k : Nat) : St := ⟨canonH many k, 3⟩
def ordV (k : Nat) : Value := cond (Nat.beq k 0) (.slice (some ⟨2, 0, none⟩) 0 0) (.slice (some ⟨2, 0, none⟩) k (OPEN + k))

/-! ### frames -/
def mkT : Nat → (Nat → Option Value) → Tree Value
  | 0, _ => .leaf
  | d + 1, f => .node (f 0) (mkT d fun n => f (2 * n + 1)) (mkT d fun n => f (2 * n + 2))
def assocN : List (Nat × Value) → Nat → Option Value
  | [], _ => none
  | (n, v) :: l, t => cond (Nat.beq n t) (some v) (assocN l t)
def orJ (j : Nat → Value) (t : Nat) (x : Option Value) : Option Value :=
  match x with
  | some v => some v
  | none => cond (Nat.blt t 118) (some (j t)) none
def envOf (l : List (Nat × Value)) (j : Nat → Value) : Tree Value := mkT 7 fun t => orJ j t (assocN l t)
/-- at the loop's head and at its second part; 'pv': the page at hand -/
def headL (many k : Nat) (pv : List (Nat × Value)) : List (Nat × Value) :=
  [(0, iv many), (1, xt 0), (2, tk 0), (6, .bool false), (7, .pointer (some ⟨0, 0, none⟩)), (8, ordV k), (45, xt 0), (46, xt 1), (47, xt 2)] ++ pv

/-! ### the function's parts -/
def codeL (c : Code) : Code :=
  match c with
  | .seq a _ => a
  | _ => .skip
def codeR (c : Code) : Code :=
  match c with
  | .seq _ b => b
  | _ => .skip
def codeB (c : Code) : Code :=
  match c with
  | .block _ b => b
  | _ => .skip
def codeO (c : Code) : Code :=
  match c with
  | .loop b => b
  | _ => .skip
def seqs : List Code → Code → Code
  | [], r => r
  | a :: l, r => .seq a (seqs l r)
def aList (T : Tab) (call : CallF) (n f : Nat) : List Code → Tree Value → St → Option (Tree Value × St)
  | [] => fun e s => some (e, s)
  | a :: l => fun e s => obnd (aCode T call n true f none a e s) fun r => (match r.x with
    | .normal => aList T call n f l r.e r.s
    | _ => none)

/-! ### what is found behind a round -/
def eqV (a b : Value) : Bool :=
  match a, b with
  | .int .i64 (.ofNat m), .int .i64 (.ofNat n) => Nat.beq m n
  | .float .f32 m, .float .f32 n => Nat.beq m n
  | .chan (some m), .chan (some n) => Nat.beq m n
  | .bool false, .bool false => true
  | .pointer (some ⟨a, b, none⟩), .pointer (some ⟨c, d, none⟩) => Nat.beq a c && Nat.beq b d
  | .complex .f64 a b, .complex .f64 c d => Nat.beq a c && Nat.beq b d
  | _, _ => false
def eqVs : List Value → List Value → Bool
  | [] => fun l => (match l with
    | [] => true
    | _ => false)
  | a :: l => fun m => (match m with
    | [] => false
    | b :: m => eqV a b && eqVs l m)
def optV (x : Option Value) (v : Value) : Bool :=
  match x with
  | some u => eqV u v
  | none => false
def hasAll (e : Tree Value) : List (Nat × Value) → Bool
  | [] => true
  | (t, v) :: l => optV (e.get t) v && hasAll e l
def nNil (l : List Value) : Bool :=
  match l with
  | [] => false
  | _ => true
/-- the first cells behind an offset are these -/
def partIs (cs : List Value) (o : Nat) (vs : List Value) : Bool :=
  match takeN vs.length (cs.drop o) with
  | some l => eqVs l vs
  | none => false
def slOpenB (v : Value) (f : Nat → Nat → Nat → Nat → Bool) : Bool :=
  match v with
  | .slice (some ⟨b, o, none⟩) n c => Nat.ble OPEN c && f b o n (Nat.sub c OPEN)
  | _ => false
def cellsB (x : Option AObj) (f : List Value → Nat → Bool → Bool) : Bool :=
  match x with
  | some (.cells cs es sp) => f cs es sp
  | _ => false
def sl0B (v : Value) : Bool :=
  match v with
  | .slice (some _) n c => Nat.beq n 0 && Nat.beq c 0
  | _ => false
/-- the order's slice and block: the pages P -/
def orderB (b0 b1 : Nat) (P : List Nat) (s : St) (ov : Value) : Bool :=
  match P with
  | [] => sl0B ov
  | p :: P => slOpenB ov fun b2 o2 n2 m2 => (Nat.beq n2 (P.length + 1) && (Nat.ble n2 m2 && (!Nat.beq b2 b0 && !Nat.beq b1 b2))) &&
      cellsB (s.heap.get b2) fun cs2 es2 _ => Nat.beq es2 1 && partIs cs2 o2 (toks (p :: P))
/-- the cache's block, its entries' block and the order's: the pages P, in this order (the first is kept) -/
def cacheB (b0 many : Nat) (P : List Nat) (s : St) (ov : Value) (cs : List Value) : Bool :=
  match cs with
  | [m, sl] => eqV m (iv many) && slOpenB sl fun b1 o1 n1 m1 =>
      ((Nat.beq n1 (P.length + 1) && (Nat.ble n1 m1 && !Nat.beq b1 b0)) &&
      (cellsB (s.heap.get b1) fun cs1 es1 sp1 => Nat.beq es1 7 && (sp1 && (Nat.beq (o1 + m1 * 7) cs1.length && partIs cs1 o1 (entC (tk 0) 1 (ents P)))))) &&
      orderB b0 b1 P s ov
  | _ => false
def optB' (x : Option Value) (f : Value → Bool) : Bool :=
  match x with
  | some v => f v
  | none => false
def noMarks (e : Tree Value) : Bool :=
  match e.get 1099511627776 with
  | none => true
  | some _ => false
def ptr0B (v : Value) (f : Nat → Bool) : Bool :=
  match v with
  | .pointer (some ⟨b, 0, none⟩) => f b
  | _ => false
def headB (many : Nat) (P : List Nat) (ix : Value) (e : Tree Value) (s : St) : Bool :=
  noMarks e && (hasAll e [(0, iv many), (1, xt 0), (2, tk 0), (6, .bool false), (45, xt 0), (46, xt 1), (47, ix)] &&
    optB' (e.get 7) fun v7 => ptr0B v7 fun b0 => cellsB (s.heap.get b0) fun cs es sp => Nat.beq es 1 && (!sp && optB' (e.get 8) fun ov => cacheB b0 many P s ov cs))
def roundB (many : Nat) (P : List Nat) (r : Option Res) : Bool :=
  match r with
  | some ⟨.normal, e, s⟩ => headB many P (xt 2) e s
  | _ => false
/-- the order behind a use of page p (a name), with room for so many: k pages were there -/
def without (p : Nat) : List Nat → List Nat
  | [] => []
  | q :: l => cond (Nat.beq q p) (without p l) (q :: without p l)
def dropTo (m : Nat) (l : List Nat) : List Nat := cond (Nat.ble l.length m) l (l.drop 1)
def nextP (many k p : Nat) : List Nat := dropTo (many - 1) (without p (upto k 1) ++ [p])
/-- one round -/
def trans (T : Tab) (call : CallF) (lf : Nat) (rest : Code) (many k p : Nat) (j : Nat → Value) : Bool :=
  roundB many (nextP many k p) (aCode T call 118 true lf none rest (envOf (headL many k [(10, tk p)]) j) (canonS many k))
/-- what is behind the loop -/
def retTrue (r : Option Res) : Bool :=
  match r with
  | some ⟨.ret, e, _⟩ => noMarks e && (match e.get 6 with
    | some (.bool true) => true
    | _ => false)
  | _ => false
def final (T : Tab) (call : CallF) (lf : Nat) (post : Code) (many k : Nat) (j : Nat → Value) : Bool :=
  retTrue (aCode T call 118 true lf none post (envOf (headL many k []) j) (canonS many k))
/-- from the call to the loop's head -/
def start (T : Tab) (call : CallF) (lf : Nat) (l : List Code) (r8 : Code) (many : Nat) : Bool :=
  match aList T call 118 lf l (argsE [iv many, xt 0, tk 0] 0 .leaf) ⟨.leaf, 0⟩ with
  | some (e, s) => (match aCode T call 118 true lf none r8 e s with
    | some ⟨.normal, e, s⟩ => headB many [] (iv 0) e s
    | _ => false)
  | none => false
def getR (r : Option Res) (t : Nat) : Option Value :=
  match r with
  | some r => r.e.get t
  | none => none
def normR (r : Option Res) : Bool :=
  match r with
  | some ⟨.normal, e, _⟩ => noMarks e
  | _ => false
def stR (r : Option Res) (s : St) : St :=
  match r with
  | some r => r.s
  | none => s
end
end Go.Proofs.Ytijfafacddefhaa.Ab
namespace Go.Proofs.Ytijfafacddefhaa.Ab
open Go.RowKit
set_option linter.unusedSectionVars false
section
variable [Tok]

/-! ### what the checks say -/
theorem eqV_eq {a b : Value} (h : eqV a b = true) : a = b := by
  unfold eqV at h
  split at h
  · rw [nbeq h]
  · rw [nbeq h]
  · rw [nbeq h]
  · rfl
  · obtain ⟨h1, h2⟩ := and_true h
    rw [nbeq h1, nbeq h2]
  · obtain ⟨h1, h2⟩ := and_true h
    rw [nbeq h1, nbeq h2]
  · cases h
theorem eqVs_eq : ∀ {l m : List Value}, eqVs l m = true → l = m
  | [], [], _ => rfl
  | [], _ :: _, h => by cases h
  | _ :: _, [], h => by cases h
  | a :: l, b :: m, h => by
    obtain ⟨h1, h2⟩ := and_true (show (eqV a b && eqVs l m) = true from h)
    rw [eqV_eq h1, eqVs_eq h2]
theorem hasAll_get {e : Tree Value} : ∀ {l : List (Nat × Value)}, hasAll e l = true → ∀ p ∈ l, e.get p.1 = some p.2
  | [], _, p, hp => by cases hp
  | (t, v) :: l, h, p, hp => by
    obtain ⟨h1, h2⟩ := and_true (show (optV (e.get t) v && hasAll e l) = true from h)
    cases hp with
    | head =>
      unfold optV at h1
      split at h1
      · rename_i u hu
        rw [hu, eqV_eq h1]
      · cases h1
    | tail _ hp => exact hasAll_get h2 p hp
theorem partIs_spec {cs vs : List Value} {o : Nat} (h : partIs cs o vs = true) : o + vs.length ≤ cs.length ∨ vs = [] ∧ True := by
  unfold partIs at h
  split at h
  · rename_i l hl
    obtain ⟨_, h2⟩ := takeN_spec hl
    simp at h2
    by_cases hv : vs = []
    · exact .inr ⟨hv, trivial⟩
    · left
      have : 0 < vs.length := List.length_pos_iff.2 hv
      omega
  · cases h
theorem partIs_get {cs vs : List Value} {o : Nat} (h : partIs cs o vs = true) (i : Nat) (hi : i < vs.length) : cs[o + i]? = vs[i]? := by
  unfold partIs at h
  split at h
  · rename_i l hl
    obtain ⟨h1, h2⟩ := takeN_spec hl
    have h3 := eqVs_eq h
    subst h3
    rw [h1, List.getElem?_take, if_pos (by rw [h1, List.length_take] at hi; omega), List.getElem?_drop]
  · cases h
theorem cellsB_spec {x : Option AObj} {f : List Value → Nat → Bool → Bool} (h : cellsB x f = true) : ∃ cs es sp, x = some (.cells cs es sp) ∧ f cs es sp = true := by
  unfold cellsB at h
  split at h
  · exact ⟨_, _, _, rfl, h⟩
  · cases h
theorem slOpenB_spec {v : Value} {f : Nat → Nat → Nat → Nat → Bool} (h : slOpenB v f = true) : ∃ b o n m, v = .slice (some ⟨b, o, none⟩) n (OPEN + m) ∧ f b o n m = true := by
  unfold slOpenB at h
  split at h
  · rename_i b o n c
    obtain ⟨h1, h2⟩ := and_true h
    have h1 := ble_true h1
    have e : OPEN + Nat.sub c OPEN = c := by
      show OPEN + (c - OPEN) = c
      omega
    refine ⟨b, o, n, Nat.sub c OPEN, by rw [e], h2⟩
  · cases h
theorem optB'_spec {x : Option Value} {f : Value → Bool} (h : optB' x f = true) : ∃ v, x = some v ∧ f v = true := by
  unfold optB' at h
  split at h
  · exact ⟨_, rfl, h⟩
  · cases h

/-! ### frames -/
theorem mkT_get : ∀ (d : Nat) (f : Nat → Option Value) (n : Nat), (mkT d f).get n = if n + 1 < 2 ^ d then f n else none
  | 0, f, n => by simp [mkT, Tree.get_leaf]
  | d + 1, f, n => by
    have hp : 2 ^ (d + 1) = 2 * 2 ^ d := by rw [Nat.pow_succ]; omega
    have hpos : 0 < 2 ^ d := Nat.pow_pos (by omega)
    rw [hp]
    generalize hq : 2 ^ d = q at *
    have ih := fun g m => mkT_get d g m
    rw [hq] at ih
    simp only [mkT, Tree.get_node]
    cases h0 : Nat.beq n 0 with
    | true =>
      have := nbeq h0; subst this
      simp only [cond_true]
      rw [if_pos (by omega)]
    | false =>
      have hn := beq_false h0
      simp only [cond_false]
      cases h1 : Nat.beq (n % 2) 1 with
      | true =>
        have h1' := nbeq h1
        simp only [cond_true, ih]
        have e : 2 * (n / 2) + 1 = n := by omega
        rw [e]
        by_cases hc : n + 1 < 2 * q
        · rw [if_pos hc, if_pos (by omega)]
        · rw [if_neg hc, if_neg (by omega)]
      | false =>
        have h1' := beq_false h1
        simp only [cond_false, ih]
        have e : 2 * (n / 2 - 1) + 2 = n := by omega
        rw [e]
        by_cases hc : n + 1 < 2 * q
        · rw [if_pos hc, if_pos (by omega)]
        · rw [if_neg hc, if_neg (by omega)]
theorem assocN_mem : ∀ {l : List (Nat × Value)} {t : Nat} {v : Value}, assocN l t = some v → (t, v) ∈ l
  | [], t, v, h => by cases h
  | (n, u) :: l, t, v, h => by
    unfold assocN at h
    cases hb : Nat.beq n t with
    | true => rw [hb] at h; cases h; rw [nbeq hb]; exact List.mem_cons_self
    | false => rw [hb] at h; exact List.mem_cons_of_mem _ (assocN_mem h)
/-- what stands in the other places -/
def junk (tmps : Array Value) (t : Nat) : Value :=
  match tmps[t]? with
  | some (.bool b) => .bool b
  | _ => .chan none
theorem junk_rel {σ : Inj} {tmps : Array Value} {t : Nat} (h : t < tmps.size) : VRel σ (junk tmps t) tmps[t] := by
  have e : tmps[t]? = some tmps[t] := by simp [h]
  unfold junk
  rw [e]
  cases hv : tmps[t] <;> first | exact .bool _ | exact .any _ (fun b hb => by cases hb)
theorem envOf_rel {σ : Inj} {l : List (Nat × Value)} {tmps : Array Value} (hs : tmps.size = 118) (hl : ∀ p ∈ l, ∃ h : p.1 < tmps.size, VRel σ p.2 tmps[p.1]) : EnvRel σ 118 (envOf l (junk tmps)) tmps := by
  have hget : ∀ t, (envOf l (junk tmps)).get t = if t + 1 < 128 then orJ (junk tmps) t (assocN l t) else none := fun t => mkT_get 7 _ t
  have hnone : ∀ t, 118 ≤ t → assocN l t = none := by
    intro t ht
    cases ha : assocN l t with
    | none => rfl
    | some v =>
      obtain ⟨h1, _⟩ := hl _ (assocN_mem ha)
      simp only at h1
      omega
  have hout : ∀ t, 118 ≤ t → (envOf l (junk tmps)).get t = none := by
    intro t ht
    rw [hget]
    split
    · rw [hnone t ht]
      have : Nat.blt t 118 = false := by
        cases hb : Nat.blt t 118 with
        | false => rfl
        | true => have := blt_true hb; omega
      simp [orJ, this]
    · rfl
  refine ⟨hs, by omega, fun t ht => ?_, fun t ht _ => hout t ht, fun v hv => ?_⟩
  · rw [hget, if_pos (by omega)]
    cases ha : assocN l t with
    | some v =>
      obtain ⟨_, h2⟩ := hl _ (assocN_mem ha)
      exact h2
    | none =>
      have : Nat.blt t 118 = true := by rw [Nat.blt_eq]; omega
      simp only [orJ, this, cond_true, Option.getD_some]
      exact junk_rel ht
  · rw [hout _ (by omega)] at hv; cases hv

/-! ### the blocks of the head -/
theorem canon_get {many k b : Nat} {o : AObj} (h : (canonS many k).heap.get b = some o) :
    (b = 0 ∧ o = .cells [iv many, .slice (some ⟨1, 0, none⟩) (k + 1) (OPEN + (k + 1))] 1 false) ∨ (b = 1 ∧ o = .cells (entC (tk 0) 1 (ents (upto k 1))) 7 true) ∨ (b = 2 ∧ o = .cells (toks (upto k 1)) 1 false) := by
  unfold canonS canonH at h
  simp only [Tree.get_node, Tree.get_leaf] at h
  cases h0 : Nat.beq b 0 with
  | true =>
    rw [h0] at h
    cases h
    exact .inl ⟨nbeq h0, rfl⟩
  | false =>
    rw [h0] at h
    have h0 := beq_false h0
    cases h1 : Nat.beq (b % 2) 1 with
    | true =>
      rw [h1] at h
      have h1 := nbeq h1
      cases h2 : Nat.beq (b / 2) 0 with
      | true =>
        rw [h2] at h
        have h2 := nbeq h2
        cases h
        exact .inr (.inl ⟨by omega, rfl⟩)
      | false =>
        rw [h2] at h
        cases h3 : Nat.beq (b / 2 % 2) 1 <;> rw [h3] at h <;> cases h
    | false =>
      rw [h1] at h
      have h1 := beq_false h1
      cases h2 : Nat.beq (b / 2 - 1) 0 with
      | true =>
        rw [h2] at h
        have h2 := nbeq h2
        cases h
        exact .inr (.inr ⟨by omega, rfl⟩)
      | false =>
        rw [h2] at h
        cases h3 : Nat.beq ((b / 2 - 1) % 2) 1 <;> rw [h3] at h <;> cases h
end
end Go.Proofs.Ytijfafacddefhaa.Ab
namespace Go.Proofs.Ytijfafacddefhaa.Ab
open Go.RowKit
set_option linter.unusedSectionVars false

/-- the names of the pages anew: the i-th behind what is kept is what was called P[i] -/
structure Fit (τ τ' : Tok) (P : List Nat) : Prop where
  cnt : P.length + 1 ≤ τ'.cnt
  old : ∀ q ∈ P, q < τ.cnt
  pos : 0 < τ.cnt
  zero : τ'.num 0 = τ.num 0
  num : ∀ i q, P[i]? = some q → τ'.num (i + 1) = τ.num q

section
variable [τ : Tok] {τ' : Unit → Tok} {σ σ' : Inj}
/-- what the second names say, the first do -/
def Weak (τ' : Unit → Tok) (σ σ' : Inj) (v' v : Value) : Prop := ∀ u, VRel σ v u → @VRel (τ' ()) σ' v' u
theorem weak_int (k : IntKind) (n : Int) : Weak τ' σ σ' (.int k n) (.int k n) := fun u h => by cases h; exact @VRel.int (τ' ()) _ k n
theorem weak_cx (a b : Nat) : Weak τ' σ σ' (.complex .f64 a b) (.complex .f64 a b) := fun u h => by cases h; exact @VRel.complex (τ' ()) _ .f64 a b
theorem weak_tok {i q : Nat} (hi : i < (τ' ()).cnt) (hn : (τ' ()).num i = τ.num q) : Weak τ' σ σ' (tk i) (tk q) := fun u h => by
  cases h with
  | tok hq =>
    have := @VRel.tok (τ' ()) σ' i hi
    rw [hn] at this
    exact this
inductive Weaks (τ' : Unit → Tok) (σ σ' : Inj) : List Value → List Value → Prop
  | nil : Weaks τ' σ σ' [] []
  | cons {v' v : Value} {l' l : List Value} (h : Weak τ' σ σ' v' v) (t : Weaks τ' σ σ' l' l) : Weaks τ' σ σ' (v' :: l') (v :: l)
theorem Weaks.length {l' l : List Value} (h : Weaks τ' σ σ' l' l) : l'.length = l.length := by
  induction h with
  | nil => rfl
  | cons _ _ ih => simp [ih]
theorem Weaks.get {l' l : List Value} (h : Weaks τ' σ σ' l' l) : ∀ (i : Nat) (v' : Value), l'[i]? = some v' → ∃ v, l[i]? = some v ∧ Weak τ' σ σ' v' v := by
  induction h with
  | nil => intro i v' h; simp at h
  | cons hv _ ih =>
    intro i v' h
    cases i with
    | zero => simp at h; subst h; exact ⟨_, by simp, hv⟩
    | succ i => simpa using ih i v' (by simpa using h)
theorem weaks_ent {i q cp : Nat} {l' l : List Value} (hi : i < (τ' ()).cnt) (hn : (τ' ()).num i = τ.num q) (ht : Weaks τ' σ σ' l' l) : Weaks τ' σ σ' (entC (tk i) cp l') (entC (tk q) cp l) :=
  .cons (weak_tok hi hn) (.cons (weak_int _ _) (.cons (weak_int _ _) (.cons (weak_cx _ _) (.cons (weak_cx _ _) (.cons (weak_cx _ _) (.cons (weak_cx _ _) ht))))))
theorem weaks_ents : ∀ {P : List Nat} {i : Nat}, i + P.length ≤ (τ' ()).cnt → (∀ j q, P[j]? = some q → (τ' ()).num (i + j) = τ.num q) → Weaks τ' σ σ' (ents (upto P.length i)) (ents P)
  | [], i, _, _ => .nil
  | q :: P, i, hc, hn => by
    simp only [List.length_cons] at hc
    refine weaks_ent (by omega) (by simpa using hn 0 q rfl) (weaks_ents (i := i + 1) (by omega) fun j r hj => ?_)
    have := hn (j + 1) r (by simpa using hj)
    rwa [show i + 1 + j = i + (j + 1) by omega]
theorem weaks_toks : ∀ {P : List Nat} {i : Nat}, i + P.length ≤ (τ' ()).cnt → (∀ j q, P[j]? = some q → (τ' ()).num (i + j) = τ.num q) → Weaks τ' σ σ' (toks (upto P.length i)) (toks P)
  | [], i, _, _ => .nil
  | q :: P, i, hc, hn => by
    simp only [List.length_cons] at hc
    refine .cons (weak_tok (by omega) (by simpa using hn 0 q rfl)) (weaks_toks (i := i + 1) (by omega) fun j r hj => ?_)
    have := hn (j + 1) r (by simpa using hj)
    rwa [show i + 1 + j = i + (j + 1) by omega]
theorem ents_length : ∀ (P : List Nat), (ents P).length = 7 * P.length
  | [] => rfl
  | q :: P => by simp [ents, entC, ents_length P]; omega
theorem toks_length : ∀ (P : List Nat), (toks P).length = P.length
  | [] => rfl
  | q :: P => by simp [toks, toks_length P]
theorem upto_length : ∀ (n i : Nat), (upto n i).length = n
  | 0, _ => rfl
  | n + 1, i => by simp [upto, upto_length n (i + 1)]
end

/-- the blocks anew -/
def newInj (a b : Loc) (c : Option Loc) : Inj := fun i => match i with
  | 0 => some a
  | 1 => some b
  | 2 => c
  | _ => none
theorem newInj_some {a b l : Loc} {c : Option Loc} {i : Nat} (h : newInj a b c i = some l) : (i = 0 ∧ l = a) ∨ (i = 1 ∧ l = b) ∨ (i = 2 ∧ c = some l) := by
  unfold newInj at h
  split at h
  · cases h; exact .inl ⟨rfl, rfl⟩
  · cases h; exact .inr (.inl ⟨rfl, rfl⟩)
  · exact .inr (.inr ⟨rfl, h⟩)
  · cases h

theorem slice_open [τ : Tok] {σ : Inj} {b o n m : Nat} {u : Value} (hn : 0 < n) (h : VRel σ (.slice (some ⟨b, o, none⟩) n (OPEN + m)) u) : ∃ l, σ b = some l ∧ u = .slice (some ⟨l.blk, l.off + o, none⟩) n (m + l.x) := by
  have hpos := OPEN_pos
  generalize hc : OPEN + m = c at h
  cases h with
  | slice hb hlt => omega
  | @sliceO _ _ _ c l hb =>
    have : m = c := by omega
    subst this
    exact ⟨l, hb, rfl⟩
  | sliceE => omega
  | slice0 => omega

theorem slice_zero [τ : Tok] {σ : Inj} {a : Addr} {n c : Nat} {u : Value} (hn : n = 0) (hc : c = 0) (h : VRel σ (.slice (some a) n c) u) : ∃ a', u = .slice (some a') 0 0 := by
  have hpos := OPEN_pos
  cases h with
  | slice hb hlt => subst hn hc; exact ⟨_, rfl⟩
  | sliceO => omega
  | sliceE => omega
  | slice0 => exact ⟨_, rfl⟩
theorem ptr0B_spec {v : Value} {f : Nat → Bool} (h : ptr0B v f = true) : ∃ b, v = .pointer (some ⟨b, 0, none⟩) ∧ f b = true := by
  unfold ptr0B at h
  split at h
  · exact ⟨_, rfl, h⟩
  · cases h
/-- what is known of the order's block -/
def OrderAt (σ : Inj) (s : St) (b0 b1 : Nat) (P : List Nat) (u : Value) (c : Option Loc) : Prop :=
  match P with
  | [] => c = none ∧ ∃ a, u = .slice (some a) 0 0
  | p :: P => ∃ b2 o2 l2 x cs2 sp2, b2 ≠ b0 ∧ b1 ≠ b2 ∧ σ b2 = some l2 ∧ s.heap.get b2 = some (.cells cs2 1 sp2) ∧ o2 + (P.length + 1) ≤ cs2.length ∧ partIs cs2 o2 (toks (p :: P)) = true ∧
      c = some ⟨l2.blk, l2.off + o2, x⟩ ∧ u = .slice (some ⟨l2.blk, l2.off + o2, none⟩) (P.length + 1) ((P.length + 1) + x)
theorem orderB_spec [τ : Tok] {σ : Inj} {s : St} {b0 b1 : Nat} : ∀ {P : List Nat} {ov u : Value}, orderB b0 b1 P s ov = true → VRel σ ov u → ∃ c, OrderAt σ s b0 b1 P u c
  | [], ov, u, h, hr => by
    refine ⟨none, rfl, ?_⟩
    have h : sl0B ov = true := h
    unfold sl0B at h
    split at h
    · obtain ⟨h1, h2⟩ := and_true h
      have h1 := nbeq h1
      have h2 := nbeq h2
      exact slice_zero h1 h2 hr
    · cases h
  | p :: P, ov, u, h, hr => by
    unfold orderB at h
    obtain ⟨b2, o2, n2, m2, rfl, h1⟩ := slOpenB_spec h
    clear h
    obtain ⟨h2, h3⟩ := and_true h1
    obtain ⟨k1, q1⟩ := and_true h2
    obtain ⟨k2, q2⟩ := and_true q1
    obtain ⟨k3, k4⟩ := and_true q2
    obtain ⟨cs2, es2, sp2, hc2, h4⟩ := cellsB_spec h3
    obtain ⟨i1, hp2⟩ := and_true h4
    have k1 := nbeq k1
    have k2 := ble_true k2
    have k3 : b2 ≠ b0 := beq_false (by simpa using k3)
    have k4 : b1 ≠ b2 := beq_false (by simpa using k4)
    have i1 := nbeq i1
    subst i1
    obtain ⟨l2, hb2, rfl⟩ := slice_open (by omega) hr
    have hle2 : o2 + (P.length + 1) ≤ cs2.length := by
      rcases partIs_spec hp2 with h | ⟨h, _⟩
      · rw [toks_length] at h; exact h
      · have := toks_length (p :: P); rw [h] at this; simp at this
    refine ⟨some ⟨l2.blk, l2.off + o2, l2.x + (m2 - n2)⟩, b2, o2, l2, l2.x + (m2 - n2), cs2, sp2, k3, k4, hb2, hc2, hle2, hp2, rfl, ?_⟩
    rw [k1]
    congr 1
    omega
theorem head_move [τ : Tok] {τ' : Unit → Tok} {B0 : Nat} {w0 : World} {σ : Inj} {s : St} {w : World} {e : Tree Value} {tmps : Array Value} {many : Nat} {P : List Nat} {ix : Value}
    (hI : Inv B0 w0 σ s w) (he : EnvRel σ 118 e tmps) (h : headB many P ix e s = true) (fit : Fit τ (τ' ()) P) :
    (∀ p ∈ [(0, iv many), (1, xt 0), (2, tk 0), (6, Value.bool false), (45, xt 0), (46, xt 1), (47, ix)], VRel σ p.2 (tmps.getD p.1 undef)) ∧ e.get 1099511627776 = none ∧
    ∃ σ', @Inv (τ' ()) B0 w0 σ' (canonS many P.length) w ∧ @VRel (τ' ()) σ' (.pointer (some ⟨0, 0, none⟩)) (tmps.getD 7 undef) ∧ @VRel (τ' ()) σ' (ordV P.length) (tmps.getD 8 undef) := by
  obtain ⟨h0, h1'⟩ := and_true h
  obtain ⟨h1, h2⟩ := and_true h1'
  clear h1'
  have hg := hasAll_get h1
  have hrel : ∀ t v, e.get t = some v → t < 118 → VRel σ v (tmps.getD t undef) := by
    intro t v ht hlt
    have hlt' : t < tmps.size := by rw [he.size]; exact hlt
    have := he.rel t hlt'
    rw [ht] at this
    simpa [Array.getD, hlt'] using this
  refine ⟨fun p hp => ?_, ?_, ?_⟩
  · refine hrel p.1 p.2 (hg p hp) ?_
    simp only [List.mem_cons, List.not_mem_nil, or_false] at hp
    rcases hp with h | h | h | h | h | h | h <;> simp [h]
  · unfold noMarks at h0
    split at h0
    · assumption
    · cases h0
  · obtain ⟨v7, hv7, h2a⟩ := optB'_spec h2
    obtain ⟨b0, rfl, h2b⟩ := ptr0B_spec h2a
    have h7 := hrel 7 _ hv7 (by omega)
    obtain ⟨cs, es, sp, hc0, h3⟩ := cellsB_spec h2b
    obtain ⟨h4, h5⟩ := and_true h3
    obtain ⟨h5a, h6⟩ := and_true h5
    clear h5 h3
    have hes := nbeq h4
    subst hes
    have hsp : sp = false := by simpa using h5a
    subst hsp
    obtain ⟨ov, hov, h8⟩ := optB'_spec h6
    clear h6
    have hovr := hrel 8 _ hov (by omega)
    unfold cacheB at h8
    split at h8
    · rename_i m sl
      obtain ⟨hm, h8a⟩ := and_true h8
      clear h8
      have hm := eqV_eq hm
      subst hm
      obtain ⟨b1, o1, n1, m1, rfl, h8b⟩ := slOpenB_spec h8a
      clear h8a
      obtain ⟨h8d, h11⟩ := and_true h8b
      obtain ⟨h8e, h10⟩ := and_true h8d
      clear h8b h8d
      obtain ⟨k1, q1⟩ := and_true h8e
      obtain ⟨k2, k5⟩ := and_true q1
      clear h8e q1
      have k1 := nbeq k1
      have k2 := ble_true k2
      have k5 : b1 ≠ b0 := beq_false (by simpa using k5)
      obtain ⟨cs1, es1, sp1, hc1, h10a⟩ := cellsB_spec h10
      obtain ⟨j1, h10b⟩ := and_true h10a
      obtain ⟨j2, h10c⟩ := and_true h10b
      obtain ⟨j3, hp1⟩ := and_true h10c
      clear h10 h10a h10b h10c
      have j1 := nbeq j1
      have j3 := nbeq j3
      subst j1 j2
      -- the cache's block
      generalize hu7 : tmps.getD 7 undef = u7 at h7 ⊢
      generalize hu8 : tmps.getD 8 undef = u8 at hovr ⊢
      cases h7 with
      | @ptr _ _ l0 hb0 =>
      obtain ⟨c, hord⟩ := orderB_spec h11 hovr
      obtain ⟨u1, hcell1, hr1⟩ := hI.cells b0 l0 _ _ _ hb0 hc0 1 _ rfl
      obtain ⟨l1, hb1, rfl⟩ := slice_open (by omega) hr1
      obtain ⟨u0, hcell0, hr0⟩ := hI.cells b0 l0 _ _ _ hb0 hc0 0 _ rfl
      -- lengths
      have hlen1 : (entC (tk 0) 1 (ents P)).length = 7 * (P.length + 1) := by simp [entC, ents_length]; omega
      have hlen1' : (entC (tk 0) 1 (ents (upto P.length 1))).length = 7 * (P.length + 1) := by simp [entC, ents_length, upto_length]; omega
      have hlen2 : (toks P).length = P.length := toks_length P
      have hlen2' : (toks (upto P.length 1)).length = P.length := by rw [toks_length, upto_length]
      let L1 : Loc := ⟨l1.blk, l1.off + o1, l1.x + (m1 - n1)⟩
      have hw1 : ∀ σ', Weaks τ' σ σ' (entC (tk 0) 1 (ents (upto P.length 1))) (entC (tk 0) 1 (ents P)) := fun σ' =>
        weaks_ent (by have := fit.cnt; omega) fit.zero (weaks_ents (by have := fit.cnt; omega) fun j q hj => by rw [Nat.add_comm 1 j]; exact fit.num j q hj)
      have hw2 : ∀ σ', Weaks τ' σ σ' (toks (upto P.length 1)) (toks P) := fun σ' =>
        weaks_toks (by have := fit.cnt; omega) fun j q hj => by rw [Nat.add_comm 1 j]; exact fit.num j q hj
      have hσ0 : newInj l0 L1 c 0 = some l0 := rfl
      have hσ1 : newInj l0 L1 c 1 = some L1 := rfl
      -- the order's block
      have ord : ∀ l, c = some l → ∃ b2 l2 cs2 sp2 o2, b2 ≠ b0 ∧ b1 ≠ b2 ∧ σ b2 = some l2 ∧ s.heap.get b2 = some (.cells cs2 1 sp2) ∧ o2 + P.length ≤ cs2.length ∧ partIs cs2 o2 (toks P) = true ∧ l.blk = l2.blk ∧ l.off = l2.off + o2 := by
        intro l hl
        cases P with
        | nil => obtain ⟨hc, _⟩ := hord; rw [hc] at hl; cases hl
        | cons p P =>
          obtain ⟨b2, o2, l2, x, cs2, sp2, r1, r2, r3, r4, r5, r6, r7, _⟩ := hord
          rw [r7] at hl
          cases hl
          exact ⟨b2, l2, cs2, sp2, o2, r1, r2, r3, r4, r5, r6, rfl, rfl⟩
      -- where an old cell of a new block lies
      have reach : ∀ (b : Nat) (l : Loc) (cs es sp), newInj l0 L1 c b = some l → (canonS many P.length).heap.get b = some (.cells cs es sp) → ∀ i, i < tot cs es sp l.x →
          ∃ bo lo cso eso spo io, σ bo = some lo ∧ s.heap.get bo = some (.cells cso eso spo) ∧ io < tot cso eso spo lo.x ∧ lo.blk = l.blk ∧ l.off + i = lo.off + io ∧ ((b = 0 → bo = b0) ∧ (b = 1 → bo = b1) ∧ (b = 2 → bo ≠ b0 ∧ b1 ≠ bo)) := by
        intro b l cs es sp hb hgc i hi
        rcases newInj_some hb with ⟨rfl, rfl⟩ | ⟨rfl, rfl⟩ | ⟨rfl, hcl⟩
        · rcases canon_get hgc with ⟨_, hh⟩ | ⟨hh, _⟩ | ⟨hh, _⟩
          · cases hh
            exact ⟨b0, _, _, _, _, i, hb0, hc0, by simpa [tot] using hi, rfl, rfl, fun _ => rfl, fun h => by omega, fun h => by omega⟩
          · omega
          · omega
        · rcases canon_get hgc with ⟨hh, _⟩ | ⟨_, hh⟩ | ⟨hh, _⟩
          · omega
          · cases hh
            refine ⟨b1, _, _, _, _, o1 + i, hb1, hc1, ?_, rfl, by simp only [L1]; omega, fun h => by omega, fun _ => rfl, fun h => by omega⟩
            simp only [tot, cond_true, hlen1', L1] at hi ⊢
            have e : 7 * (P.length + 1) + (l1.x + (m1 - n1)) * 7 = m1 * 7 + l1.x * 7 := by omega
            omega
          · omega
        · rcases canon_get hgc with ⟨hh, _⟩ | ⟨hh, _⟩ | ⟨_, hh⟩
          · omega
          · omega
          · cases hh
            obtain ⟨b2, l2, cs2, sp2, o2, r1, r2, r3, r4, r5, r6, r7, r8⟩ := ord l hcl
            refine ⟨b2, _, _, _, _, o2 + i, r3, r4, ?_, r7.symm, by rw [r8]; omega, fun h => by omega, fun h => by omega, fun _ => ⟨r1, r2⟩⟩
            simp only [tot, cond_false, hlen2', Nat.add_zero] at hi ⊢
            exact Nat.lt_of_lt_of_le (by omega) (Nat.le_add_right _ _)
      refine ⟨newInj l0 L1 c, ?_, @VRel.ptr (τ' ()) _ _ 0 _ hσ0, ?_⟩
      · refine @Inv.mk (τ' ()) _ _ _ _ _ hI.below hI.base (fun b l hb => ?_) (fun b l cs es sp hb hgc i v hv => ?_) (fun b l cs es sp hb hgc i hi => ?_) (fun b b' l l' cs es sp cs' es' sp' hne hb hb' hgc hgc' i i' hi hi' hblk => ?_) (fun b l o hb hgc hw => ?_) (fun b b' l l' o o' hne hb hb' hgc hgc' hw hw' => ?_)
        · rcases newInj_some hb with ⟨rfl, rfl⟩ | ⟨rfl, rfl⟩ | ⟨rfl, hcl⟩
          · exact ⟨by show 0 < 3; omega, (hI.dom _ _ hb0).2⟩
          · exact ⟨by show 1 < 3; omega, (hI.dom _ _ hb1).2⟩
          · obtain ⟨b2, l2, cs2, sp2, o2, r1, r2, r3, r4, r5, r6, r7, r8⟩ := ord l hcl
            exact ⟨by show 2 < 3; omega, by rw [r7]; exact (hI.dom _ _ r3).2⟩
        · rcases newInj_some hb with ⟨rfl, rfl⟩ | ⟨rfl, rfl⟩ | ⟨rfl, hcl⟩
          · rcases canon_get hgc with ⟨_, hh⟩ | ⟨hh, _⟩ | ⟨hh, _⟩
            · cases hh
              match i, hv with
              | 0, hv => cases hv; exact ⟨u0, hcell0, (weak_int (τ' := τ') (σ := σ) (σ' := newInj _ L1 c) .i64 (.ofNat many)) u0 hr0⟩
              | 1, hv =>
                cases hv
                refine ⟨_, hcell1, ?_⟩
                have e : m1 + l1.x = (P.length + 1) + L1.x := by simp only [L1]; omega
                rw [k1, e]
                exact @VRel.sliceO (τ' ()) _ _ 0 _ _ _ hσ1
              | i + 2, hv => simp at hv
            · omega
            · omega
          · rcases canon_get hgc with ⟨hh, _⟩ | ⟨_, hh⟩ | ⟨hh, _⟩
            · omega
            · cases hh
              obtain ⟨v0, hv0, hwk⟩ := (hw1 (newInj l0 L1 c)).get i v hv
              have hil : i < (entC (tk 0) 1 (ents P)).length := by
                rcases Nat.lt_or_ge i (entC (tk 0) 1 (ents P)).length with h | h
                · exact h
                · rw [List.getElem?_eq_none h] at hv0; cases hv0
              have hcs := partIs_get hp1 i hil
              rw [hv0] at hcs
              obtain ⟨u, hu, hru⟩ := hI.cells b1 l1 _ _ _ hb1 hc1 (o1 + i) v0 hcs
              refine ⟨u, ?_, hwk u hru⟩
              simp only [L1]
              rwa [show l1.off + o1 + i = l1.off + (o1 + i) by omega]
            · omega
          · rcases canon_get hgc with ⟨hh, _⟩ | ⟨hh, _⟩ | ⟨_, hh⟩
            · omega
            · omega
            · cases hh
              obtain ⟨b2, l2, cs2, sp2, o2, r1, r2, r3, r4, r5, r6, r7, r8⟩ := ord l hcl
              obtain ⟨v0, hv0, hwk⟩ := (hw2 (newInj l0 L1 c)).get i v hv
              have hil : i < (toks P).length := by
                rcases Nat.lt_or_ge i (toks P).length with h | h
                · exact h
                · rw [List.getElem?_eq_none h] at hv0; cases hv0
              have hcs := partIs_get r6 i hil
              rw [hv0] at hcs
              obtain ⟨u, hu, hru⟩ := hI.cells b2 l2 _ _ _ r3 r4 (o2 + i) v0 hcs
              refine ⟨u, ?_, hwk u hru⟩
              rw [r7, r8]
              rwa [show l2.off + o2 + i = l2.off + (o2 + i) by omega]
        · obtain ⟨bo, lo, cso, eso, spo, io, r1, r2, r3, r4, r5, _⟩ := reach b l cs es sp hb hgc i hi
          have := hI.room bo lo cso eso spo r1 r2 io r3
          rw [r5, ← r4]
          exact this
        · obtain ⟨bo, lo, cso, eso, spo, io, r1, r2, r3, r4, r5, r6⟩ := reach b l cs es sp hb hgc i hi
          obtain ⟨bo', lo', cso', eso', spo', io', r1', r2', r3', r4', r5', r6'⟩ := reach b' l' cs' es' sp' hb' hgc' i' hi'
          have hd : bo ≠ bo' := by
            rcases newInj_some hb with ⟨rfl, _⟩ | ⟨rfl, _⟩ | ⟨rfl, _⟩ <;> rcases newInj_some hb' with ⟨rfl, _⟩ | ⟨rfl, _⟩ | ⟨rfl, _⟩
            · exact absurd rfl hne
            · rw [r6.1 rfl, r6'.2.1 rfl]; exact Ne.symm k5
            · rw [r6.1 rfl]; exact Ne.symm (r6'.2.2 rfl).1
            · rw [r6.2.1 rfl, r6'.1 rfl]; exact k5
            · exact absurd rfl hne
            · rw [r6.2.1 rfl]; exact (r6'.2.2 rfl).2
            · rw [r6'.1 rfl]; exact (r6.2.2 rfl).1
            · rw [r6'.2.1 rfl]; exact Ne.symm (r6.2.2 rfl).2
            · exact absurd rfl hne
          have := hI.apart bo bo' lo lo' cso eso spo cso' eso' spo' hd r1 r1' r2 r2' io io' r3 r3' (by rw [r4, r4', hblk])
          rw [r5, r5']
          exact this
        · rcases canon_get hgc with ⟨_, rfl⟩ | ⟨_, rfl⟩ | ⟨_, rfl⟩ <;> exact hw.elim
        · rcases canon_get hgc with ⟨_, rfl⟩ | ⟨_, rfl⟩ | ⟨_, rfl⟩ <;> exact hw.elim
      · cases P with
        | nil =>
          obtain ⟨_, a, rfl⟩ := hord
          exact @VRel.slice0 (τ' ()) _ _ _
        | cons p P =>
          obtain ⟨b2, o2, l2, x, cs2, sp2, r1, r2, r3, r4, r5, r6, r7, rfl⟩ := hord
          have hσ2 : newInj l0 L1 c 2 = some ⟨l2.blk, l2.off + o2, x⟩ := r7
          exact @VRel.sliceO (τ' ()) _ _ 0 _ _ _ hσ2
    · cases h8
end Go.Proofs.Ytijfafacddefhaa.Ab
