/- The short run: finite maps, values, operations, regions that draw their order, code, calls: plain functions; no condition. -/
import GoSem.Core.Sem
import GoSem.Step
namespace Go.Proofs.YtpgjilakcepilaaGreat.Ab
noncomputable section

/-- a finite map from numbers, for the kernel -/
inductive Tree (α : Type) where
  | leaf
  | node (v : Option α) (l r : Tree α)

namespace Tree
variable {α : Type}
/-- by the recursors themselves: quicker for the kernel -/
def get (t : Tree α) : Nat → Option α :=
  Tree.rec (motive := fun _ => Nat → Option α) (fun _ => none)
    (fun v _ _ gl gr n => cond (Nat.beq n 0) v (cond (Nat.beq (Nat.mod n 2) 1) (gl (Nat.div n 2)) (gr (Nat.sub (Nat.div n 2) 1)))) t
theorem get_leaf (n : Nat) : (leaf : Tree α).get n = none := rfl
theorem get_node (v : Option α) (l r : Tree α) (n : Nat) : (node v l r).get n = cond (Nat.beq n 0) v (cond (Nat.beq (n % 2) 1) (l.get (n / 2)) (r.get (n / 2 - 1))) := rfl
def setF (f : Nat) : Tree α → Nat → α → Tree α :=
  Nat.rec (motive := fun _ => Tree α → Nat → α → Tree α) (fun t _ _ => t)
    (fun _ ih t n a => Tree.rec (motive := fun _ => Tree α)
      (cond (Nat.beq n 0) (node (some a) leaf leaf) (cond (Nat.beq (Nat.mod n 2) 1) (node none (ih leaf (Nat.div n 2) a) leaf) (node none leaf (ih leaf (Nat.sub (Nat.div n 2) 1) a))))
      (fun v l r _ _ => cond (Nat.beq n 0) (node (some a) l r) (cond (Nat.beq (Nat.mod n 2) 1) (node v (ih l (Nat.div n 2) a) r) (node v l (ih r (Nat.sub (Nat.div n 2) 1) a)))) t) f
theorem setF_zero (t : Tree α) (n : Nat) (a : α) : setF 0 t n a = t := rfl
theorem setF_leaf (f : Nat) (n : Nat) (a : α) : setF (f + 1) leaf n a = cond (Nat.beq n 0) (node (some a) leaf leaf) (cond (Nat.beq (n % 2) 1) (node none (setF f leaf (n / 2) a) leaf) (node none leaf (setF f leaf (n / 2 - 1) a))) := rfl
theorem setF_node (f : Nat) (v : Option α) (l r : Tree α) (n : Nat) (a : α) : setF (f + 1) (node v l r) n a = cond (Nat.beq n 0) (node (some a) l r) (cond (Nat.beq (n % 2) 1) (node v (setF f l (n / 2) a) r) (node v l (setF f r (n / 2 - 1) a))) := rfl
def set (t : Tree α) (n : Nat) (a : α) : Tree α := setF (Nat.log2 (n + 1) + 1) t n a

theorem get_setF : ∀ (f : Nat) (t : Tree α) (n : Nat) (a : α) (m : Nat), n + 1 < 2 ^ f → (setF f t n a).get m = if m = n then some a else t.get m
  | 0, t, n, a, m, h => by simp at h
  | f + 1, t, n, a, m, h => by
    have hp : 2 ^ (f + 1) = 2 * 2 ^ f := by rw [Nat.pow_succ]; omega
    rw [hp] at h
    generalize hq : 2 ^ f = q at h
    have ih := fun (t : Tree α) (n : Nat) (m : Nat) (hn : n + 1 < q) => get_setF f t n a m (by rw [hq]; exact hn)
    have key : ∀ (v : Option α) (l r : Tree α), (cond (Nat.beq n 0) (node (some a) l r) (cond (Nat.beq (n % 2) 1) (node v (setF f l (n / 2) a) r) (node v l (setF f r (n / 2 - 1) a)))).get m = if m = n then some a else (node v l r).get m := by
      intro v l r
      cases h0 : Nat.beq n 0 with
      | true =>
        have h0' : n = 0 := Nat.eq_of_beq_eq_true h0
        subst h0'
        simp only [cond_true, get_node]
        cases hm : Nat.beq m 0 with
        | true => have : m = 0 := Nat.eq_of_beq_eq_true hm; subst this; simp
        | false => have : m ≠ 0 := fun e => by subst e; simp at hm
                   simp [this]
      | false =>
        have h0' : n ≠ 0 := fun e => by subst e; simp at h0
        simp only [cond_false]
        cases h1 : Nat.beq (n % 2) 1 with
        | true =>
          have h1' : n % 2 = 1 := Nat.eq_of_beq_eq_true h1
          simp only [cond_true, get_node]
          cases hm : Nat.beq m 0 with
          | true => have : m = 0 := Nat.eq_of_beq_eq_true hm; subst this; simp; omega
          | false =>
            have hm0 : m ≠ 0 := fun e => by subst e; simp at hm
            simp only [cond_false]
            cases hm1 : Nat.beq (m % 2) 1 with
            | true =>
              have hm1' : m % 2 = 1 := Nat.eq_of_beq_eq_true hm1
              simp only [cond_true]
              rw [ih _ _ _ (by omega)]
              by_cases e : m = n
              · subst e; simp
              · rw [if_neg e, if_neg (by omega)]
            | false =>
              have hm1' : m % 2 ≠ 1 := fun e => by rw [e] at hm1; simp at hm1
              simp only [cond_false]; rw [if_neg (by intro e; subst e; exact hm1' h1')]
        | false =>
          have h1' : n % 2 ≠ 1 := fun e => by rw [e] at h1; simp at h1
          simp only [cond_false, get_node]
          cases hm : Nat.beq m 0 with
          | true => have : m = 0 := Nat.eq_of_beq_eq_true hm; subst this; simp; omega
          | false =>
            have hm0 : m ≠ 0 := fun e => by subst e; simp at hm
            simp only [cond_false]
            cases hm1 : Nat.beq (m % 2) 1 with
            | true =>
              have hm1' : m % 2 = 1 := Nat.eq_of_beq_eq_true hm1
              simp only [cond_true]
              rw [if_neg (by intro e; subst e; exact h1' hm1')]
            | false =>
              have hm1' : m % 2 ≠ 1 := fun e => by rw [e] at hm1; simp at hm1
              simp only [cond_false]
              rw [ih _ _ _ (by omega)]
              by_cases e : m = n
              · subst e; simp
              · rw [if_neg e, if_neg (by omega)]
    cases t with
    | leaf =>
      have hk := key none leaf leaf
      simp only [setF_leaf]
      rw [hk]
      split
      · rfl
      · rw [get_node, get_leaf]; cases Nat.beq m 0 <;> cases Nat.beq (m % 2) 1 <;> rfl
    | node v l r => simp only [setF_node]; exact key v l r

theorem get_set (t : Tree α) (n : Nat) (a : α) (m : Nat) : (t.set n a).get m = if m = n then some a else t.get m :=
  get_setF _ t n a m Nat.lt_log2_self
end Tree
end
end Go.Proofs.YtpgjilakcepilaaGreat.Ab
namespace Go.Proofs.YtpgjilakcepilaaGreat.Ab

/-- where an abstract block lies: block, first cell, and how many elements of spare room it owns beyond what is known of it -/
structure Loc where
  blk : Nat
  off : Nat
  x : Nat

abbrev Inj := Nat → Option Loc

/-- the mark of a capacity of which only a lower bound is known -/
@[irreducible] def OPEN : Nat := 4611686018427387904
theorem OPEN_pos : 0 < OPEN := by unfold OPEN; decide

/-- between which numbers a number lies that is known by its name alone -/
def loT (k : Nat) : Nat := cond (Nat.ble k 1) 1 0
def hiT (k : Nat) : Nat := cond (Nat.beq k 0) 6 (cond (Nat.beq k 1) 100 20000)
/-- numbers of which it is known alone that they are unlike, and from 0 to 5 -/
class Tok where
  cnt : Nat
  num : Nat → Nat
  inj : ∀ i j, i < cnt → j < cnt → num i = num j → i = j
  lt : ∀ i, i < cnt → num i < 6
  ext : Nat → Value
  extOne : ∀ k xs, ext k ≠ .agg xs
  extBool : ∀ k b, ext k ≠ .bool b
  extTup : ∀ k xs, ext k ≠ .tuple xs
  short : ∃ a n c, ext 0 = .slice a n c ∧ ext 1 = .int .i64 (.ofNat n) ∧ n ≤ 100
  long : ∃ a n c, ext 4 = .slice a n c ∧ ext 3 = .int .i64 (.ofNat n) ∧ 100 < n
  rng : ∀ k, k < 3 → ∃ n : Nat, ext (10 + k) = .int .i64 (.ofNat n) ∧ loT k ≤ n ∧ n ≤ hiT k
variable [Tok]
/-- an abstract value (its addresses name abstract blocks) and a value -/
inductive VRel (σ : Inj) : Value → Value → Prop
  | bool (b : Bool) : VRel σ (.bool b) (.bool b)
  | int (k : IntKind) (n : Int) : VRel σ (.int k n) (.int k n)
  | float (n : Nat) : VRel σ (.float .f64 n) (.float .f64 n)
  | tok {j : Nat} (h : j < Tok.cnt) : VRel σ (.float .f32 j) (.int .i64 (.ofNat (Tok.num j)))
  | any (v' : Value) (h : ∀ b, v' ≠ .bool b) : VRel σ (.chan none) v'
  | ext (k : Nat) : VRel σ (.chan (some k)) (Tok.ext k)
  | complex (k : FloatKind) (a b : Nat) : VRel σ (.complex k a b) (.complex k a b)
  | string (s : ByteArray) : VRel σ (.string s) (.string s)
  | nilPtr : VRel σ (.pointer none) (.pointer none)
  | nilSlice (n c : Nat) : VRel σ (.slice none n c) (.slice none n c)
  | nilMap : VRel σ (.map none) (.map none)
  | nilFunc : VRel σ .nilFunc .nilFunc
  | nilIface : VRel σ .nilIface .nilIface
  | ptr {b o : Nat} {l : Loc} (h : σ b = some l) : VRel σ (.pointer (some ⟨b, o, none⟩)) (.pointer (some ⟨l.blk, l.off + o, none⟩))
  | slice {b o n c : Nat} {l : Loc} (h : σ b = some l) (hc : c < OPEN) : VRel σ (.slice (some ⟨b, o, none⟩) n c) (.slice (some ⟨l.blk, l.off + o, none⟩) n c)
  | sliceO {b o n c : Nat} {l : Loc} (h : σ b = some l) : VRel σ (.slice (some ⟨b, o, none⟩) n (OPEN + c)) (.slice (some ⟨l.blk, l.off + o, none⟩) n (c + l.x))
  | sliceE {b o : Nat} {l : Loc} (h : σ b = some l) (hx : l.x = 0) (a : Addr) : VRel σ (.slice (some ⟨b, o, none⟩) 0 OPEN) (.slice (some a) 0 0)
  | slice0 (a a' : Addr) : VRel σ (.slice (some a) 0 0) (.slice (some a') 0 0)
  | map {b : Nat} {l : Loc} (h : σ b = some l) : VRel σ (.map (some b)) (.map (some l.blk))
  | func {f : FuncId} {xs xs' ys ys' : Array Value} (h1 : xs.size = xs'.size) (h2 : ys.size = ys'.size)
      (h3 : ∀ (i : Nat) (h : i < xs.size) (h' : i < xs'.size), VRel σ xs[i] xs'[i]) (h4 : ∀ (i : Nat) (h : i < ys.size) (h' : i < ys'.size), VRel σ ys[i] ys'[i]) :
      VRel σ (.func (.func f) xs ys) (.func (.func f) xs' ys')
  | yield {b : Nat} {l : Loc} (h : σ b = some l) : VRel σ (.func (.yield b) #[] #[]) (.func (.yield l.blk) #[] #[])
  | iface (t : TypeId) {v v' : Value} (h : VRel σ v v') : VRel σ (.iface t v) (.iface t v')
  | agg {xs xs' : Array Value} (h1 : xs.size = xs'.size) (h3 : ∀ (i : Nat) (h : i < xs.size) (h' : i < xs'.size), VRel σ xs[i] xs'[i]) : VRel σ (.agg xs) (.agg xs')
  | tuple {xs xs' : Array Value} (h1 : xs.size = xs'.size) (h3 : ∀ (i : Nat) (h : i < xs.size) (h' : i < xs'.size), VRel σ xs[i] xs'[i]) : VRel σ (.tuple xs) (.tuple xs')

def Inj.le (σ τ : Inj) : Prop := ∀ b l, σ b = some l → τ b = some l

theorem VRel.mono {σ τ : Inj} (h : σ.le τ) {v v' : Value} (r : VRel σ v v') : VRel τ v v' := by
  induction r with
  | bool b => exact .bool b
  | int k n => exact .int k n
  | float n => exact .float n
  | tok h => exact .tok h
  | any v' h => exact .any v' h
  | ext k => exact .ext k
  | complex k a b => exact .complex k a b
  | string s => exact .string s
  | nilPtr => exact .nilPtr
  | nilSlice n c => exact .nilSlice n c
  | nilMap => exact .nilMap
  | nilFunc => exact .nilFunc
  | nilIface => exact .nilIface
  | ptr hb => exact .ptr (h _ _ hb)
  | slice hb hc => exact .slice (h _ _ hb) hc
  | sliceO hb => exact .sliceO (h _ _ hb)
  | sliceE hb hx a => exact .sliceE (h _ _ hb) hx a
  | slice0 a a' => exact .slice0 a a'
  | map hb => exact .map (h _ _ hb)
  | func h1 h2 _ _ i3 i4 => exact .func h1 h2 i3 i4
  | yield hb => exact .yield (h _ _ hb)
  | iface t _ ih => exact .iface t ih
  | agg h1 _ ih => exact .agg h1 ih
  | tuple h1 _ ih => exact .tuple h1 ih

end Go.Proofs.YtpgjilakcepilaaGreat.Ab
namespace Go.Proofs.YtpgjilakcepilaaGreat.Ab
noncomputable section

/-! ### numbers, quickly -/
def fmod (n : Int) (m : Nat) : Nat :=
  match n with
  | .ofNat a => a % m
  | .negSucc a => m - 1 - a % m
def modulus : IntKind → Nat
  | .i8 | .u8 => 256
  | .i16 | .u16 => 65536
  | .i32 | .u32 => 4294967296
  | .i64 | .u64 => 18446744073709551616
def signedK : IntKind → Bool
  | .i8 | .i16 | .i32 | .i64 => true
  | _ => false
def bitsK : IntKind → Nat
  | .i8 | .u8 => 8
  | .i16 | .u16 => 16
  | .i32 | .u32 => 32
  | .i64 | .u64 => 64
def fwrapR (sg : Bool) (m r : Nat) : Int := cond (sg && Nat.ble m (2 * r)) (.negSucc (m - 1 - r)) (.ofNat r)
def fwrap (k : IntKind) (n : Int) : Int := fwrapR (signedK k) (modulus k) (fmod n (modulus k))
def ieq : Int → Int → Bool
  | .ofNat a, .ofNat b => Nat.beq a b
  | .negSucc a, .negSucc b => Nat.beq a b
  | _, _ => false
def ilt : Int → Int → Bool
  | .ofNat a, .ofNat b => Nat.ble (a + 1) b
  | .negSucc a, .negSucc b => Nat.ble (b + 1) a
  | .negSucc _, .ofNat _ => true
  | .ofNat _, .negSucc _ => false
def shrI (x : Int) (n : Nat) : Int :=
  match x with
  | .ofNat a => .ofNat (a / 2 ^ n)
  | .negSucc a => .negSucc (a / 2 ^ n)
def shl1 (k : IntKind) (x : Int) (n : Nat) : Option Value := some (.int k (fwrap k (x * .ofNat (2 ^ Nat.min n (bitsK k)))))
def shr1 (k : IntKind) (x : Int) (n : Nat) : Option Value := some (.int k (shrI x (Nat.min n (bitsK k))))
def shiftBy (f : Nat → Option Value) (y : Int) : Option Value :=
  match y with
  | .negSucc _ => none
  | .ofNat n => f n
def retI (k : IntKind) (n : Int) : Option Value := some (.int k n)
def retB (b : Bool) : Option Value := some (.bool b)
def iAdd (k : IntKind) (a b : Int) : Option Value := retI k (fwrap k (a + b))
def iSub (k : IntKind) (a b : Int) : Option Value := retI k (fwrap k (a - b))
def iMul (k : IntKind) (a b : Int) : Option Value := retI k (fwrap k (a * b))
def iQuo (k : IntKind) (a b : Int) : Option Value := cond (ieq b 0) none (retI k (fwrap k (a.tdiv b)))
def iRem (k : IntKind) (a b : Int) : Option Value := cond (ieq b 0) none (retI k (a.tmod b))
def iAnd (k : IntKind) (a b : Int) : Option Value := retI k (fwrap k (.ofNat (Nat.land (fmod a (modulus k)) (fmod b (modulus k)))))
def iOr (k : IntKind) (a b : Int) : Option Value := retI k (fwrap k (.ofNat (Nat.lor (fmod a (modulus k)) (fmod b (modulus k)))))
def iXor (k : IntKind) (a b : Int) : Option Value := retI k (fwrap k (.ofNat (Nat.xor (fmod a (modulus k)) (fmod b (modulus k)))))
def iAndNot (k : IntKind) (a b : Int) : Option Value := retI k (fwrap k (.ofNat (Nat.land (fmod a (modulus k)) (modulus k - 1 - fmod b (modulus k)))))
def iEql (_ : IntKind) (a b : Int) : Option Value := retB (ieq a b)
def iNeq (_ : IntKind) (a b : Int) : Option Value := retB (!ieq a b)
def iLss (_ : IntKind) (a b : Int) : Option Value := retB (ilt a b)
def iLeq (_ : IntKind) (a b : Int) : Option Value := retB (!ilt b a)
def iGtr (_ : IntKind) (a b : Int) : Option Value := retB (ilt b a)
def iGeq (_ : IntKind) (a b : Int) : Option Value := retB (!ilt a b)
def iShl (k : IntKind) (a b : Int) : Option Value := shiftBy (shl1 k a) b
def iShr (k : IntKind) (a b : Int) : Option Value := shiftBy (shr1 k a) b
/-- of one kind, but for the shifts -/
def aInt (op : BinOp) : IntKind → Int → Int → Option Value :=
  match op with
  | .add => iAdd
  | .sub => iSub
  | .mul => iMul
  | .quo => iQuo
  | .rem => iRem
  | .and => iAnd
  | .or => iOr
  | .xor => iXor
  | .andNot => iAndNot
  | .shl => iShl
  | .shr => iShr
  | .eql => iEql
  | .neq => iNeq
  | .lss => iLss
  | .leq => iLeq
  | .gtr => iGtr
  | .geq => iGeq
def isShift (op : BinOp) : Bool :=
  match op with
  | .shl => true
  | .shr => true
  | _ => false
def keq : IntKind → IntKind → Bool
  | .i8, .i8 | .i16, .i16 | .i32, .i32 | .i64, .i64 | .u8, .u8 | .u16, .u16 | .u32, .u32 | .u64, .u64 => true
  | _, _ => false

/-! ### values -/
def plain1 : Value → Bool
  | .bool _ | .int .. | .float .f64 _ | .complex .. | .string _ | .pointer none | .slice none _ _ | .map none | .nilFunc | .nilIface => true
  | _ => false
def plain : Value → Bool
  | .agg cs => cs.toList.all plain1
  | .tuple cs => cs.toList.all plain1
  | .iface _ v => plain1 v
  | v => plain1 v
def one : Value → Bool
  | .agg _ | .tuple _ | .chan none => false
  | _ => true
def cellsL : Value → List Value
  | .agg cs => cs.toList
  | v => [v]

/-- for the drawing regions: the same value? -/
def veq1 : Value → Value → Bool
  | .bool a, .bool b => a == b
  | .int j a, .int k b => keq j k && ieq a b
  | .float .f64 a, .float .f64 b => Nat.beq a b
  | .complex .f64 a b, .complex .f64 c d => Nat.beq a c && Nat.beq b d
  | .pointer none, .pointer none => true
  | .pointer (some ⟨a, b, none⟩), .pointer (some ⟨c, d, none⟩) => Nat.beq a c && Nat.beq b d
  | .slice none a b, .slice none c d => Nat.beq a c && Nat.beq b d
  | .slice (some ⟨a, b, none⟩) n c, .slice (some ⟨a', b', none⟩) n' c' => Nat.beq a a' && Nat.beq b b' && Nat.beq n n' && Nat.beq c c'
  | .map none, .map none => true
  | .map (some a), .map (some b) => Nat.beq a b
  | .nilFunc, .nilFunc => true
  | .nilIface, .nilIface => true
  | .chan (some a), .chan (some b) => Nat.beq a b
  | _, _ => false
def veqL : List Value → List Value → Bool
  | [], [] => true
  | a :: l, b :: m => veq1 a b && veqL l m
  | _, _ => false
def veq : Value → Value → Bool
  | .agg a, .agg b => veqL a.toList b.toList
  | a, b => veq1 a b

def obnd {α β : Type} (x : Option α) (f : α → Option β) : Option β :=
  match x with
  | none => none
  | some a => f a
/-! ### memory -/
inductive AObj where
  | cells (cs : List Value) (es : Nat) (sp : Bool)
  | map (es : List MapEntry) (clock : Nat)
  | dead
  | iter (m : Option Nat) (since : Nat) (seen : List Nat) (last : Nat)
  | loop (busy : Bool) (n : Nat) (e : Tree Value) (ps : List Nat) (asg body : Code)
  | defd
structure St where
  heap : Tree AObj
  next : Nat

def St.push (s : St) (o : AObj) : St := ⟨s.heap.set s.next o, s.next + 1⟩
def St.put (s : St) (b : Nat) (o : AObj) : St := ⟨s.heap.set b o, s.next⟩

def consO (x : Value) (l : Option (List Value)) : Option (List Value) :=
  match l with
  | none => none
  | some r => some (x :: r)
def takeN : Nat → List Value → Option (List Value)
  | 0, _ => some []
  | _ + 1, [] => none
  | n + 1, x :: l => consO x (takeN n l)
/-- written at the head -/
def writeH : List Value → List Value → Option (List Value)
  | [], cs => some cs
  | _ :: _, [] => none
  | v :: vs, _ :: cs => consO v (writeH vs cs)
def writeL : Nat → List Value → List Value → Option (List Value)
  | 0, cs, vs => writeH vs cs
  | _ + 1, [], _ => none
  | off + 1, c :: cs, vs => consO c (writeL off cs vs)
def objCells {α : Type} (x : Option AObj) (f : List Value → Nat → Bool → Option α) : Option α :=
  match x with
  | some (.cells cs es sp) => f cs es sp
  | _ => none
def St.read (s : St) (b off n : Nat) : Option (List Value) := objCells (s.heap.get b) fun cs _ _ => takeN n (cs.drop off)
def St.write (s : St) (b off : Nat) (vs : List Value) : Option St :=
  cond (vs.all one) (objCells (s.heap.get b) fun cs es sp => obnd (writeL off cs vs) fun r => some (s.put b (.cells r es sp))) none

/-! ### tables -/
structure Tab where
  fn : Nat → Option Func
  fair : Nat → Bool
  ext : Nat → Option (List Value → Option Value)
  ty : Nat → Option TypeDesc
  info : Nat → Option TypeInfo

def Tab.size (T : Tab) (t : Nat) : Option Nat := obnd (T.info t) fun i => some i.size
def ifPlain (z : Value) : Option Value := cond (plain z) (some z) none
def Tab.zero (T : Tab) (t : Nat) : Option Value := obnd (T.info t) fun i => obnd i.zero ifPlain
def aggTy (d : TypeDesc) : Bool :=
  match d with
  | .struct _ => true
  | .array _ _ => true
  | _ => false
def Tab.isAgg (T : Tab) (t : Nat) : Option Bool := obnd (T.ty t) fun d => some (aggTy d)

/-! ### operations -/
inductive AR where
  | val (v : Value) (s : St)
  | skip (s : St)
  | call (f : FuncId) (args : List Value) (s : St)
def retV (s : St) (v : Value) : Option AR := some (.val v s)
def retS (s : St) : Option AR := some (.skip s)

def orUndef (x : Option Value) : Option Value :=
  match x with
  | some v => some v
  | none => some undef
/-- where a frame's marks stand among its temporaries -/
def MK : Nat := 1099511627776
/-- a call of this number, or beyond: of the yield of a loop -/
def YK : Nat := 1099511627776
def aOpd (e : Tree Value) (x : Operand) : Option Value :=
  match x with
  | .tmp t => cond (Nat.beq t 1099511627776) none (orUndef (e.get t))
  | .const v => ifPlain v
  | .func f => some (.func (.func f) #[] #[])
  | .global _ => none
def aOpds (e : Tree Value) : List Operand → Option (List Value)
  | [] => some []
  | x :: l => obnd (aOpd e x) fun v => consO v (aOpds e l)
/-- an address -/
def onPtr {α : Type} (a : Value) (f : Nat → Nat → Option α) : Option α :=
  match a with
  | .pointer (some ⟨b, o, none⟩) => f b o
  | _ => none
def onAddr {α : Type} (a : Option Addr) (f : Nat → Nat → Option α) : Option α :=
  match a with
  | some ⟨b, o, none⟩ => f b o
  | _ => none
def onNat {α : Type} (a : Value) (f : Nat → Option α) : Option α :=
  match a with
  | .int _ (.ofNat n) => f n
  | _ => none
def natOf (a : Value) : Option Nat := onNat a some
def head1 (l : List Value) : Option Value :=
  match l with
  | [v] => some v
  | _ => none
def onSlice {α : Type} (a : Value) (f : Option Addr → Nat → Nat → Option α) : Option α :=
  match a with
  | .slice b n c => f b n c
  | _ => none
def onBool {α : Type} (a : Value) (f : Bool → Option α) : Option α :=
  match a with
  | .bool b => f b
  | _ => none

def load1 (s : St) (b o : Nat) : Option Value := obnd (s.read b o 1) head1
def loadN (T : Tab) (t : Nat) (s : St) (b o : Nat) : Option Value := obnd (T.size t) fun n => obnd (s.read b o n) fun l => some (.agg l.toArray)
def aLoad (T : Tab) (t : Nat) (s : St) (a : Value) : Option Value := obnd (T.isAgg t) fun g => onPtr a (cond g (loadN T t s) (load1 s))
def aStore (T : Tab) (t : Nat) (s : St) (v : Value) (a : Value) : Option St :=
  onPtr a fun b o => obnd (T.size t) fun n => cond (Nat.beq (cellsL v).length n) (s.write b o (cellsL v)) none

def placesOf (T : Tab) : List Field → Option (List (Nat × Nat))
  | [] => some []
  | f :: l => obnd (T.size f.type) fun n => obnd (placesOf T l) fun r => some ((f.offset, n) :: r)
/-- not one of which nothing is known -/
def known (v : Value) : Bool :=
  match v with
  | .chan none => false
  | _ => true
def fill1 (cs : List Value) (v : Value) (p : Nat × Nat) : Option (List Value) := cond (known v && Nat.beq (cellsL v).length p.2) (writeL p.1 cs (cellsL v)) none
def aFill (place : Nat → Option (Nat × Nat)) : List (Nat × Value) → List Value → Option (List Value)
  | [], cs => some cs
  | (i, v) :: rest, cs => obnd (place i) fun p => obnd (fill1 cs v p) (aFill place rest)
def aParts (e : Tree Value) : List (Nat × Operand) → Option (List (Nat × Value))
  | [] => some []
  | (i, x) :: l => obnd (aOpd e x) fun v => obnd (aParts e l) fun r => some ((i, v) :: r)
def buildStruct (T : Tab) (fs : List Field) (z : Value) (ps : List (Nat × Value)) : Option Value :=
  obnd (placesOf T fs) fun pl => obnd (aFill (fun i => pl[i]?) ps (cellsL z)) fun r => some (.agg r.toArray)
def buildArr (T : Tab) (el : Nat) (z : Value) (ps : List (Nat × Value)) : Option Value :=
  obnd (T.size el) fun n => obnd (aFill (fun i => some (i * n, n)) ps (cellsL z)) fun r => some (.agg r.toArray)
def buildAs (T : Tab) (d : TypeDesc) : Value → List (Nat × Value) → Option Value :=
  match d with
  | .struct fs => buildStruct T fs.toList
  | .array _ el => buildArr T el
  | _ => fun _ _ => none
def aBuild (T : Tab) (t : Nat) (ps : List (Nat × Value)) : Option Value := obnd (T.ty t) fun d => obnd (T.zero t) fun z => buildAs T d z ps
def repL (z : List Value) : Nat → List Value
  | 0 => []
  | n + 1 => z ++ repL z n
def elemOfS (d : TypeDesc) : Option Nat :=
  match d with
  | .slice el => some el
  | _ => none
def newSlice (s : St) (len cap : Nat) (cs : List Value) (size : Nat) : AR := .val (.slice (some ⟨s.next, 0, none⟩) len cap) (s.push (.cells cs size false))
def bslice1 (ps : List (Nat × Value)) (len : Nat) (s : St) (z : Value) (n : Nat) : Option AR :=
  cond (Nat.ble (len * n) 16777216 && (Nat.beq (cellsL z).length n && (Nat.ble 1 n && Nat.ble len 1048576)))
    (obnd (aFill (fun i => some (i * n, n)) ps (repL (cellsL z) len)) fun r => some (newSlice s len len r n)) none
def partsOne : List (Nat × Value) → Bool
  | [] => true
  | (_, v) :: l => (cellsL v).all one && partsOne l
def aBuildSlice (T : Tab) (t : Nat) (len : Nat) (s : St) (ps : List (Nat × Value)) : Option AR :=
  cond (partsOne ps) (obnd (T.ty t) fun d => obnd (elemOfS d) fun el => obnd (T.zero el) fun z => obnd (T.size el) (bslice1 ps len s z)) none
def mslice1 (n m : Nat) (s : St) (z : Value) (i : TypeInfo) : Option AR :=
  cond (Nat.ble n m && (Nat.ble (m * i.bytes) 140737488355328 && (Nat.ble m 1048576 && (Nat.beq (cellsL z).length i.size && Nat.ble 1 i.size))))
    (some (newSlice s n m (repL (cellsL z) m) i.size)) none
def aMakeSlice (T : Tab) (t : Nat) (s : St) (l c : Value) : Option AR :=
  onNat l fun n => onNat c fun m => obnd (T.ty t) fun d => obnd (elemOfS d) fun el => obnd (T.zero el) fun z => obnd (T.info el) (mslice1 n m s z)

/-- where a part begins: a part of no room stays where it was -/
def partAddr (size l m : Nat) (a : Option Addr) : Option Addr :=
  match a with
  | none => none
  | some ⟨b, o, _⟩ => some ⟨b, cond (Nat.beq m l) o (o + l * size), none⟩
def moveAddr (size l : Nat) (a : Option Addr) : Option Addr :=
  match a with
  | none => none
  | some ⟨b, o, _⟩ => some ⟨b, o + l * size, none⟩
/-- the bounds l, h, m in 'room' -/
def slKnown (size room : Nat) (a : Option Addr) (l h m : Nat) : Option Value :=
  cond (Nat.ble m room && (Nat.ble h m && (Nat.ble l h && Nat.blt m OPEN))) (some (.slice (partAddr size l m a) (h - l) (m - l))) none
def slOpen (size room : Nat) (a : Option Addr) (l h : Nat) : Option Value :=
  cond (Nat.ble h room && Nat.ble l h) (some (.slice (moveAddr size l a) (h - l) (OPEN + (room - l)))) none
def orN (x : Option Nat) (d : Nat) : Nat :=
  match x with
  | some n => n
  | none => d
def isS {α : Type} (x : Option α) : Bool :=
  match x with
  | some _ => true
  | none => false
def aSliceOf (size : Nat) (lo hi mx : Option Nat) (a : Option Addr) (len cap : Nat) : Option Value :=
  cond (Nat.blt cap OPEN) (slKnown size cap a (orN lo 0) (orN hi len) (orN mx cap))
    (cond (isS a) (cond (isS mx) (slKnown size (cap - OPEN) a (orN lo 0) (orN hi len) (orN mx 0)) (slOpen size (cap - OPEN) a (orN lo 0) (orN hi len))) none)
def slStr (l h : Nat) (y : ByteArray) : Option Value := cond (Nat.ble h y.size && Nat.ble l h) (some (.string (y.extract l h))) none
def onStr {α : Type} (v : Value) (f : ByteArray → Option α) : Option α :=
  match v with
  | .string y => f y
  | _ => none
def optNat (e : Tree Value) (x : Option Operand) : Option (Option Nat) :=
  match x with
  | none => some none
  | some x => obnd (aOpd e x) fun v => onNat v fun n => some (some n)
def sliceSl (T : Tab) (el : Nat) (lo hi mx : Option Nat) (x : Value) : Option Value := obnd (T.size el) fun n => onSlice x (aSliceOf n lo hi mx)
def sliceArr (T : Tab) (k el : Nat) (lo hi mx : Option Nat) (x : Value) : Option Value :=
  obnd (T.size el) fun n => cond (Nat.blt k OPEN) (onPtr x fun b o => aSliceOf n lo hi mx (some ⟨b, o, none⟩) k k) none
def sliceStr (lo hi mx : Option Nat) (x : Value) : Option Value := cond (isS mx) none (onStr x fun y => slStr (orN lo 0) (orN hi y.size) y)
def sliceAs (T : Tab) (d : TypeDesc) : Option Nat → Option Nat → Option Nat → Value → Option Value :=
  match d with
  | .slice el => sliceSl T el
  | .string => sliceStr
  | .array k el => sliceArr T k el
  | _ => fun _ _ _ _ => none
def aSlice (T : Tab) (t : Nat) (x : Value) (lo hi mx : Option Nat) : Option Value :=
  cond (isS mx && !isS hi) none (obnd (T.ty t) fun d => sliceAs T d lo hi mx x)

def ixArr (T : Tab) (k el : Nat) (i : Nat) (x : Value) : Option Value :=
  cond (Nat.blt i k) (obnd (T.size el) fun n => onPtr x fun b o => some (.pointer (some ⟨b, o + i * n, none⟩))) none
def ixSl (T : Tab) (el : Nat) (i : Nat) (x : Value) : Option Value :=
  obnd (T.size el) fun n => onSlice x fun a len _ => cond (Nat.blt i len) (onAddr a fun b o => some (.pointer (some ⟨b, o + i * n, none⟩))) none
def ixAs (T : Tab) (d : TypeDesc) : Nat → Value → Option Value :=
  match d with
  | .array k el => ixArr T k el
  | .slice el => ixSl T el
  | _ => fun _ _ => none
def aIndexAddr (T : Tab) (t : Nat) (x ix : Value) : Option Value := onNat ix fun i => obnd (T.ty t) fun d => ixAs T d i x
def onAgg {α : Type} (v : Value) (f : List Value → Option α) : Option α :=
  match v with
  | .agg cs => f cs.toList
  | _ => none
def nth (l : List Value) (i : Nat) : Option Value := obnd (takeN 1 (l.drop i)) head1
def aPart (T : Tab) (t : Nat) (cs : List Value) (off : Nat) : Option Value :=
  obnd (T.isAgg t) fun g => cond g (obnd (T.size t) fun n => obnd (takeN n (cs.drop off)) fun l => some (.agg l.toArray)) (nth cs off)
def idxArr (T : Tab) (k el : Nat) (i : Nat) (x : Value) : Option Value :=
  cond (Nat.blt i k) (obnd (T.size el) fun n => onAgg x fun cs => aPart T el cs (i * n)) none
def byteAt (i : Nat) (y : ByteArray) : Option Value := obnd (y.data.toList[i]?) fun b => some (.int .u8 (.ofNat b.toNat))
def idxStr (i : Nat) (x : Value) : Option Value := onStr x (byteAt i)
def idxAs (T : Tab) (d : TypeDesc) : Nat → Value → Option Value :=
  match d with
  | .array k el => idxArr T k el
  | .string => idxStr
  | _ => fun _ _ => none
def aIndex (T : Tab) (t : Nat) (x ix : Value) : Option Value := onNat ix fun i => obnd (T.ty t) fun d => idxAs T d i x
def fieldsOf (d : TypeDesc) : Option (List Field) :=
  match d with
  | .struct fs => some fs.toList
  | _ => none
def aFieldAddr (T : Tab) (t : Nat) (f : Nat) (x : Value) : Option Value :=
  obnd (T.ty t) fun d => obnd (fieldsOf d) fun fs => obnd (fs[f]?) fun fd => obnd (T.size fd.type) fun n => cond (Nat.beq n 0) none
    (onPtr x fun b o => some (.pointer (some ⟨b, o + fd.offset, none⟩)))
def aField (T : Tab) (t : Nat) (f : Nat) (x : Value) : Option Value :=
  obnd (T.ty t) fun d => obnd (fieldsOf d) fun fs => obnd (fs[f]?) fun fd => onAgg x fun cs => aPart T fd.type cs fd.offset

def bytesOfL : List UInt8 → List Value
  | [] => []
  | b :: l => .int .u8 (.ofNat b.toNat) :: bytesOfL l
/-- the first cells of a slice or a string -/
def aCells (size n : Nat) (s : St) (x : Value) : Option (List Value) :=
  cond (Nat.beq n 0) (some []) (match x with
    | .slice a _ _ => onAddr a fun b o => s.read b o (n * size)
    | .string y => takeN n (bytesOfL y.data.toList)
    | _ => none)
def aLen (x : Value) : Option Nat :=
  match x with
  | .slice _ n _ => some n
  | .string y => some y.size
  | _ => none
def capOf (c : Nat) : Nat := cond (Nat.blt c OPEN) c (c - OPEN)
/-- how many are appended; and whether they are zeros (append(s, make([]E, n)...)) -/
def aGrown (ud : TypeDesc) : Value → Option (Nat × Bool) :=
  match ud with
  | .int _ => fun x => onNat x fun n => cond (Nat.ble n 1048576) (some (n, true)) none
  | _ => fun x => obnd (aLen x) fun n => some (n, false)
def aFits (base : Option Addr) (size sLen sCap n : Nat) (new : List Value) (s : St) : Option AR :=
  onAddr base fun b o => obnd (s.write b (o + sLen * size) new) fun s' => some (.val (.slice base (sLen + n) sCap) s')
def aNew (size need : Nat) (cs : List Value) (s : St) : AR := .val (.slice (some ⟨s.next, 0, none⟩) need (OPEN + need)) (s.push (.cells cs size true))
def aGrowO (base : Option Addr) (size sLen sCap n : Nat) (all : List Value) (s : St) : Option AR :=
  onAddr base fun b o => objCells (s.heap.get b) fun cs es sp =>
    cond (sp && (Nat.beq es size && Nat.beq (o + (sCap - OPEN) * size) cs.length))
      (some (aNew size (sLen + n) all (s.put b (cond (Nat.beq (sCap - OPEN) 0) (.cells cs es false) .dead)))) none
def aGrow (base : Option Addr) (size sLen sCap n : Nat) (new : List Value) (s : St) (old : List Value) : Option AR :=
  cond (old.all one) (cond (Nat.blt sCap OPEN) (some (aNew size (sLen + n) (old ++ new) s)) (aGrowO base size sLen sCap n (old ++ new) s)) none
def aAppendL (base : Option Addr) (size sLen sCap n : Nat) (fits : Bool) (s : St) (new : List Value) : Option AR :=
  cond (Nat.beq n 0)
    (cond (Nat.ble sLen (capOf sCap)) (some (.val (.slice base sLen sCap) s)) none)
    (cond (Nat.ble (sLen + n) (capOf sCap)) (aFits base size sLen sCap n new s)
      (cond (fits && (Nat.beq new.length (n * size) && new.all one)) (obnd (aCells size sLen s (.slice base sLen sCap)) (aGrow base size sLen sCap n new s)) none))
def newCells (i : TypeInfo) (z : Value) (n : Nat) (zeros : Bool) (s : St) (x : Value) : Option (List Value) :=
  cond zeros (some (repL (cellsL z) n)) (aCells i.size n s x)
def aAppend2 (i : TypeInfo) (z : Value) (base : Option Addr) (sLen sCap : Nat) (x : Value) (s : St) (nz : Nat × Bool) : Option AR :=
  cond (Nat.beq (cellsL z).length i.size && (Nat.ble 1 i.size && (Nat.ble 1 i.bytes && Nat.ble ((sLen + nz.1) * i.bytes) 140737488355328)))
    (obnd (newCells i z nz.1 nz.2 s x) (aAppendL base i.size sLen sCap nz.1 (Nat.ble ((4 * (sLen + nz.1) + 1000) * i.bytes) 140737488355328) s)) none
def aAppend1 (T : Tab) (t u : Nat) (s : St) (y x : Value) : Option AR :=
  onSlice y fun base sLen sCap => obnd (T.ty t) fun d => obnd (elemOfS d) fun el => obnd (T.ty u) fun ud =>
    obnd (T.info el) fun i => obnd (T.zero el) fun z => obnd (aGrown ud x) (aAppend2 i z base sLen sCap x s)
def on2 {α β : Type} (l : List α) (f : α → α → Option β) : Option β :=
  match l with
  | a :: b :: _ => f a b
  | _ => none
def on1 {α β : Type} (l : List α) (f : α → Option β) : Option β :=
  match l with
  | a :: _ => f a
  | _ => none
def aAppend (T : Tab) (ts : List Nat) (args : List Value) (s : St) : Option AR := on2 ts fun t u => on2 args (aAppend1 T t u s)
def aCopy2 (s : St) (base : Option Addr) (n : Nat) (cs : List Value) : Option AR :=
  cond (Nat.beq n 0) (some (.val (.int .i64 0) s)) (onAddr base fun b o => obnd (s.write b o cs) fun s' => some (.val (.int .i64 (.ofNat n)) s'))
def aCopy1 (T : Tab) (t : Nat) (s : St) (d x : Value) : Option AR :=
  onSlice d fun base dLen _ => obnd (aLen x) fun m => obnd (T.ty t) fun ty => obnd (elemOfS ty) fun el => obnd (T.size el) fun size =>
    obnd (aCells size (Nat.min m dLen) s x) (aCopy2 s base (Nat.min m dLen))
def aCopy (T : Tab) (ts : List Nat) (args : List Value) (s : St) : Option AR := on1 ts fun t => on2 args (aCopy1 T t s)
def aClear2 (s : St) (a : Option Addr) (n : Nat) (z : Value) : Option AR :=
  onAddr a fun b o => obnd (s.write b o (repL (cellsL z) n)) fun s' => some (.val (.tuple #[]) s')
def aClear1 (T : Tab) (s : St) (el : Nat) (a : Option Addr) (n _c : Nat) : Option AR :=
  cond (Nat.beq n 0 || !isS a) (some (.val (.tuple #[]) s)) (obnd (T.zero el) (aClear2 s a n))
def aClear (T : Tab) (ts : List Nat) (args : List Value) (s : St) : Option AR :=
  on1 ts fun t => on1 args fun x => obnd (T.ty t) fun d => obnd (elemOfS d) fun el => onSlice x (aClear1 T s el)
def retN (s : St) (n : Nat) : Option AR := some (.val (.int .i64 (.ofNat n)) s)
def lenMap (s : St) (x : Value) : Option AR :=
  match x with
  | .map none => retN s 0
  | .map (some r) => match s.heap.get r with
    | some (.map es _) => retN s es.length
    | _ => none
  | _ => none
/-- the length of a slice; two that are known by their names alone have lengths that are -/
def lenSl (s : St) (x : Value) : Option AR :=
  match x with
  | .slice _ n _ => retN s n
  | .chan (some 0) => some (.val (.chan (some 1)) s)
  | .chan (some 4) => some (.val (.chan (some 3)) s)
  | _ => none
def lenAs (s : St) (d : TypeDesc) : Value → Option AR :=
  match d with
  | .string => fun x => onStr x fun y => retN s y.size
  | .array n _ => fun _ => retN s n
  | .slice _ => lenSl s
  | .map _ _ => lenMap s
  | _ => fun _ => none
def aLenOp (T : Tab) (ts : List Nat) (args : List Value) (s : St) : Option AR := on1 ts fun t => on1 args fun x => obnd (T.ty t) fun d => lenAs s d x
def capAs (s : St) (d : TypeDesc) : Value → Option AR :=
  match d with
  | .slice _ => fun x => onSlice x fun _ _ c => cond (Nat.blt c OPEN) (retN s c) none
  | _ => fun _ => none
def aCapOp (T : Tab) (ts : List Nat) (args : List Value) (s : St) : Option AR := on1 ts fun t => on1 args fun x => obnd (T.ty t) fun d => capAs s d x
def pureRun {α : Type} (x : Sem α) : Option α :=
  match x with
  | .pure a => some a
  | _ => none
def pureV (s : St) (x : Sem Value) : Option AR := obnd (pureRun x) fun v => cond (plain1 v) (some (.val v s)) none
def pureArgs (f : Array Value → Sem Value) (_ : Tab) (_ : List Nat) (args : List Value) (s : St) : Option AR := cond (args.all plain1) (pureV s (f args.toArray)) none
def eqPtr (x y : Value) : Option Bool :=
  match x, y with
  | .pointer none, .pointer b => some b.isNone
  | .pointer (some _), .pointer none => some false
  | _, _ => none
def eqSl (x y : Value) : Option Bool :=
  match x, y with
  | .slice none _ _, .slice b _ _ => some b.isNone
  | .slice (some _) _ _, .slice none _ _ => some false
  | _, _ => none
def eqMap (x y : Value) : Option Bool :=
  match x, y with
  | .map none, .map b => some b.isNone
  | .map (some _), .map none => some false
  | _, _ => none
def eqFn (x y : Value) : Option Bool :=
  match x, y with
  | .nilFunc, .nilFunc => some true
  | .nilFunc, .func _ _ _ => some false
  | .func _ _ _, .nilFunc => some false
  | _, _ => none
def eqBool (x y : Value) : Option Bool :=
  match x, y with
  | .bool a, .bool b => some (a == b)
  | _, _ => none
def eqAs (d : TypeDesc) : Value → Value → Option Bool :=
  match d with
  | .bool => eqBool
  | .pointer _ => eqPtr
  | .slice _ => eqSl
  | .map _ _ => eqMap
  | .func _ _ _ => eqFn
  | _ => fun _ _ => none
/-! ### structs and arrays of numbers and truth values -/
def eqInt2 (x y : Value) : Option Bool :=
  match x, y with
  | .int k a, .int k' b => cond (keq k k') (some (ieq a b)) none
  | _, _ => none
def eqCx (x y : Value) : Option Bool :=
  match x, y with
  | .complex .f64 a b, .complex .f64 c d => some (Op.floatEq .f64 a c && Op.floatEq .f64 b d)
  | _, _ => none
abbrev EqF := Nat → Value → Value → Option Bool
def eqFields (T : Tab) (eq : EqF) (xs ys : List Value) : List Field → Option Bool
  | [] => some true
  | f :: r => (obnd (aPart T f.type xs f.offset) fun a => obnd (aPart T f.type ys f.offset) fun b => obnd (eq f.type a b) fun q => cond q (eqFields T eq xs ys r) (some false))
def eqElems (T : Tab) (eq : EqF) (el n : Nat) (xs ys : List Value) : Nat → Nat → Option Bool
  | 0, _ => some true
  | k + 1, i => obnd (aPart T el xs (i * n)) fun a => obnd (aPart T el ys (i * n)) fun b => obnd (eq el a b) fun q => cond q (eqElems T eq el n xs ys k (i + 1)) (some false)
def onAggs (x y : Value) (f : List Value → List Value → Option Bool) : Option Bool :=
  match x, y with
  | .agg xs, .agg ys => f xs.toList ys.toList
  | _, _ => none
def eqDeepAs (T : Tab) (eq : EqF) (t : Nat) (d : TypeDesc) (x y : Value) : Option Bool :=
  match d with
  | .int _ => eqInt2 x y
  | .bool => eqBool x y
  | .complex _ => eqCx x y
  | .struct fs => cond (T.fair t) (onAggs x y fun xs ys => eqFields T eq xs ys fs.toList) none
  | .array len el => onAggs x y fun xs ys => obnd (T.size el) fun n => eqElems T eq el n xs ys len 0
  | _ => none
def eqDeep (T : Tab) : Nat → EqF
  | 0 => fun _ _ _ => none
  | d + 1 => fun t x y => obnd (T.ty t) fun td => eqDeepAs T (eqDeep T d) t td x y
def deepD (d : TypeDesc) : Bool :=
  match d with
  | .struct _ => true
  | .array _ _ => true
  | _ => false
def aEq (T : Tab) (t : Nat) (x y : Value) : Option Bool := obnd (T.ty t) fun d => cond (deepD d) (cond (T.fair t) (eqDeep T 8 t x y) none) (eqAs d x y)

/-! ### maps -/
def onMap {α : Type} (s : St) (x : Value) (f : Nat → List MapEntry → Nat → Option α) : Option α :=
  match x with
  | .map (some r) => (match s.heap.get r with
    | some (.map es ck) => f r es ck
    | _ => none)
  | _ => none
def mapEs (s : St) (x : Value) : Option (List MapEntry) :=
  match x with
  | .map none => some []
  | x => onMap s x fun _ es _ => some es
def kEq (T : Tab) (t : Nat) (d : TypeDesc) : Value → Value → Option Bool :=
  match d with
  | .int _ => eqInt2
  | .struct _ => eqDeep T 3 t
  | _ => fun _ _ => none
def findE (eq : Value → Option Bool) : List MapEntry → Nat → Option (Option (Nat × Value))
  | [], _ => some none
  | e :: r, i => obnd (eq e.key) fun q => cond q (some (some (i, e.val))) (findE eq r (i + 1))
def onMapTy {α : Type} (d : TypeDesc) (f : Nat → Nat → Option α) : Option α :=
  match d with
  | .map k e => f k e
  | _ => none
/-- the key's place among the entries; the key is one that can be (it is like itself) -/
def findK (T : Tab) (kt : Nat) (k : Value) (es : List MapEntry) : Option (Option (Nat × Value)) :=
  obnd (T.ty kt) fun d => obnd (kEq T kt d k k) fun q => cond q (findE (kEq T kt d k) es 0) none
def lookR (z : Value) (ok : Bool) (s : St) (r : Option (Nat × Value)) : Option AR :=
  match r with
  | some p => some (.val (cond ok (.tuple #[p.2, .bool true]) p.2) s)
  | none => some (.val (cond ok (.tuple #[z, .bool false]) z) s)
def aLookup (T : Tab) (t : Nat) (ok : Bool) (s : St) (x k : Value) : Option AR :=
  obnd (T.ty t) fun d => onMapTy d fun kt el => obnd (mapEs s x) fun es => obnd (T.zero el) fun z => obnd (findK T kt k es) (lookR z ok s)
/-- keys of numbers and truth values: the same bits -/
def kSame1 (a b : Value) : Bool :=
  match a, b with
  | .bool a, .bool b => a == b
  | .int j a, .int k b => keq j k && ieq a b
  | _, _ => false
def kSameL : List Value → List Value → Bool
  | [], [] => true
  | a :: l, b :: m => kSame1 a b && kSameL l m
  | _, _ => false
def kSame (a b : Value) : Bool :=
  match a, b with
  | .agg a, .agg b => kSameL a.toList b.toList
  | a, b => kSame1 a b
def modE (k v : Value) : Nat → List MapEntry → Option (List MapEntry)
  | _, [] => none
  | 0, e :: l => cond (kSame e.key k) (some ({ e with key := k, val := v } :: l)) none
  | i + 1, e :: l => obnd (modE k v i l) fun r => some (e :: r)
def updR (s : St) (k v : Value) (r : Nat) (es : List MapEntry) (ck : Nat) (p : Option (Nat × Value)) : Option AR :=
  match p with
  | some p => obnd (modE k v p.1 es) fun es' => some (.skip (s.put r (.map es' ck)))
  | none => some (.skip (s.put r (.map (es ++ [{ key := k, val := v, born := ck }]) (ck + 1))))
def aMapUpdate (T : Tab) (t : Nat) (s : St) (x k v : Value) : Option AR :=
  obnd (T.ty t) fun d => onMapTy d fun kt _ => onMap s x fun r es ck => obnd (findK T kt k es) (updR s k v r es ck)
def delE : Nat → List MapEntry → List MapEntry
  | _, [] => []
  | 0, _ :: l => l
  | i + 1, e :: l => e :: delE i l
def delR (s : St) (r : Nat) (es : List MapEntry) (ck : Nat) (p : Option (Nat × Value)) : Option AR :=
  match p with
  | some p => some (.val (.tuple #[]) (s.put r (.map (delE p.1 es) ck)))
  | none => some (.val (.tuple #[]) (s.put r (.map es ck)))
def aDelete1 (T : Tab) (t : Nat) (s : St) (x k : Value) : Option AR :=
  obnd (T.ty t) fun d => onMapTy d fun kt _ => onMap s x fun r es ck => obnd (findK T kt k es) (delR s r es ck)
def isMapTy (d : TypeDesc) : Bool :=
  match d with
  | .map _ _ => true
  | _ => false
def aRangeIt (s : St) (x : Value) : Option AObj :=
  match x with
  | .map none => some (.iter none 0 [] 0)
  | x => onMap s x fun r _ ck => some (.iter (some r) ck [] ck)
def aRange (T : Tab) (t : Nat) (s : St) (x : Value) : Option AR :=
  obnd (T.ty t) fun d => cond (isMapTy d) (obnd (aRangeIt s x) fun o => some (.val (.pointer (some ⟨s.next, 0, none⟩)) (s.push o))) none
def isIn (n : Nat) : List Nat → Bool
  | [] => false
  | m :: l => Nat.beq n m || isIn n l
def leftE (seen : List Nat) : List MapEntry → List MapEntry
  | [] => []
  | e :: l => cond (isIn e.born seen) (leftE seen l) (e :: leftE seen l)
def allNew (last : Nat) : List MapEntry → Bool
  | [] => true
  | e :: l => Nat.ble last e.born && allNew last l
def isNil {α : Type} (l : List α) : Bool :=
  match l with
  | [] => true
  | _ => false
/-- at most one entry is left, and it stood there when the range began: no order is to be drawn -/
def nextR (s : St) (r m since ck : Nat) (seen : List Nat) (left : List MapEntry) : Option AR :=
  match left with
  | [] => some (.val (.tuple #[.bool false]) s)
  | [e] => cond (Nat.blt e.born since) (some (.val (.tuple #[.bool true, e.key, e.val]) (s.put r (.iter (some m) since (seen ++ [e.born]) ck)))) none
  | _ => none
def nextM (s : St) (r m since last : Nat) (seen : List Nat) (o : Option AObj) : Option AR :=
  match o with
  | some (.map es ck) => cond (!isNil seen && (!isNil es && allNew last es)) none (nextR s r m since ck seen (leftE seen es))
  | _ => none
def nextI (s : St) (r : Nat) (o : Option AObj) : Option AR :=
  match o with
  | some (.iter none _ _ _) => some (.val (.tuple #[.bool false]) s)
  | some (.iter (some m) since seen last) => nextM s r m since last seen (s.heap.get m)
  | _ => none
def aNext (s : St) (x : Value) : Option AR := onPtr x fun b o => cond (Nat.beq o 0) (nextI s b (s.heap.get b)) none
def lastN : List Nat → Option Nat
  | [] => none
  | [a] => some a
  | _ :: l => lastN l
def findB (n : Nat) : List MapEntry → Option MapEntry
  | [] => none
  | e :: l => cond (Nat.beq e.born n) (some e) (findB n l)
def entryM (s : St) (seen : List Nat) (last : Nat) (o : Option AObj) : Option AR :=
  match o with
  | some (.map es ck) => cond (Nat.beq ck last) (obnd (lastN seen) fun n => obnd (findB n es) fun e => some (.val (.tuple #[e.key, e.val]) s)) none
  | _ => none
def entryI (s : St) (o : Option AObj) : Option AR :=
  match o with
  | some (.iter (some m) _ seen last) => entryM s seen last (s.heap.get m)
  | _ => none
def aEntry (s : St) (x : Value) : Option AR := onPtr x fun b o => cond (Nat.beq o 0) (entryI s (s.heap.get b)) none
def aDelete (T : Tab) (ts : List Nat) (args : List Value) (s : St) : Option AR := on1 ts fun t => on2 args (aDelete1 T t s)
/-- is it one of the numbers between two others? -/
def isRng (k : Nat) : Bool := Nat.ble 10 k && Nat.ble k 12
/-- the greater of two, the less of two: where one is known by its name alone it is that one -/
def rngMax (args : List Value) (s : St) : Option AR :=
  match args with
  | [.int .i64 (.ofNat c), .chan (some k)] => cond (isRng k && Nat.ble c (loT (Nat.sub k 10))) (some (.val (.chan (some k)) s)) none
  | _ => none
def rngMin (args : List Value) (s : St) : Option AR :=
  match args with
  | [.chan (some k), .int .i64 (.ofNat c)] => cond (isRng k && Nat.ble (hiT (Nat.sub k 10)) c) (some (.val (.chan (some k)) s)) none
  | _ => none
def orElseR (a b : Option AR) : Option AR :=
  match a with
  | some r => some r
  | none => b
def maxArgs (T : Tab) (ts : List Nat) (args : List Value) (s : St) : Option AR := orElseR (rngMax args s) (pureArgs (Builtin.max_ #[] 0) T ts args s)
def minArgs (T : Tab) (ts : List Nat) (args : List Value) (s : St) : Option AR := orElseR (rngMin args s) (pureArgs (Builtin.min_ #[] 0) T ts args s)
def noBuiltin (_ : Tab) (_ : List Nat) (_ : List Value) (_ : St) : Option AR := none
def aBuiltin (b : Builtin) : Tab → List Nat → List Value → St → Option AR :=
  match b with
  | .append => aAppend
  | .copy => aCopy
  | .clear => aClear
  | .delete => aDelete
  | .len => aLenOp
  | .cap => aCapOp
  | .max => maxArgs
  | .min => minArgs
  | .complex => pureArgs (Builtin.complex_ #[] 0)
  | .real => pureArgs (Builtin.real_ #[] 0)
  | .imag => pureArgs (Builtin.imag_ #[] 0)
  | _ => noBuiltin
def notB (b : Bool) : Option Bool := some !b
def binOther (op : BinOp) : Tab → Nat → Value → Value → Option Bool :=
  match op with
  | .eql => aEq
  | .neq => fun T t x y => obnd (aEq T t x y) notB
  | _ => fun _ _ _ _ => none
def binInt (op : BinOp) (k : IntKind) (a : Int) (s : St) (y : Value) : Option AR :=
  match y with
  | .int k' b => cond (keq k k' || isShift op) (obnd (aInt op k a b) (retV s)) none
  | _ => none
def binPure (op : BinOp) (t : Nat) (x : Value) (s : St) (y : Value) : Option AR := cond (plain1 y) (pureV s (binOp op t x y)) none
def binVal (T : Tab) (op : BinOp) (t : Nat) (x : Value) (s : St) (y : Value) : Option AR := obnd (binOther op T t x y) fun b => some (.val (.bool b) s)
/-- a number that is known by its name alone -/
def tokTok (op : BinOp) (a b : Nat) : Option Value :=
  match op with
  | .eql => retB (Nat.beq a b)
  | .neq => retB (!Nat.beq a b)
  | _ => none
def tokInt (op : BinOp) (c : Nat) : Option Value :=
  match op with
  | .lss => cond (Nat.beq c 0) (retB false) none
  | .gtr => cond (Nat.ble 5 c) (retB false) none
  | .geq => cond (Nat.ble 6 c) (retB false) none
  | _ => none
def binTok (op : BinOp) (a : Nat) (s : St) (y : Value) : Option AR :=
  match y with
  | .float .f32 b => obnd (tokTok op a b) (retV s)
  | .int .i64 (.ofNat c) => obnd (tokInt op c) (retV s)
  | _ => none
/-- two lengths held against 100, and numbers between two others -/
def ext100 (op : BinOp) (k c : Nat) : Option Value :=
  match op with
  | .gtr => cond (Nat.beq c 100) (cond (Nat.beq k 1) (retB false) (cond (Nat.beq k 3) (retB true) none)) none
  | .geq => cond (isRng k && Nat.ble c (loT (Nat.sub k 10))) (retB true) none
  | .leq => cond (isRng k && Nat.ble (hiT (Nat.sub k 10)) c) (retB true) none
  | _ => none
def binExt (op : BinOp) (k : Option Nat) (s : St) (y : Value) : Option AR :=
  match k with
  | none => none
  | some k => (match y with
    | .int .i64 (.ofNat c) => obnd (ext100 op k c) (retV s)
    | _ => none)
def binFlt (op : BinOp) (t : Nat) (k : FloatKind) (a : Nat) : St → Value → Option AR :=
  match k with
  | .f32 => binTok op a
  | .f64 => binPure op t (.float .f64 a)
def aBin (T : Tab) (op : BinOp) (t : Nat) (x : Value) : St → Value → Option AR :=
  match x with
  | .int k a => binInt op k a
  | .float k a => binFlt op t k a
  | .chan k => binExt op k
  | .complex k a b => binPure op t (.complex k a b)
  | .string a => binPure op t (.string a)
  | x => binVal T op t x
def byteL : List Value → Option (List UInt8)
  | [] => some []
  | v :: l => match v with
    | .int .u8 (.ofNat n) => obnd (byteL l) fun r => some (UInt8.ofNat n :: r)
    | _ => none
def convInt (k : IntKind) (s : St) (x : Value) : Option AR :=
  match x with
  | .int _ n => some (.val (.int k (fwrap k n)) s)
  | _ => none
def convFloat (k : FloatKind) (s : St) (x : Value) : Option AR :=
  match x with
  | .int _ n => pureV s (Conv.intToFloat k n)
  | _ => none
def isByte (d : TypeDesc) : Bool :=
  match d with
  | .int .u8 => true
  | _ => false
def bytesStr (T : Tab) (el : Nat) (s : St) (x : Value) : Option AR :=
  obnd (T.ty el) fun d => cond (isByte d) (onSlice x fun a n c => obnd (aCells 1 n s (.slice a n c)) fun l => obnd (byteL l) fun bs => some (.val (.string ⟨bs.toArray⟩) s)) none
def convStr (T : Tab) (sd : TypeDesc) : St → Value → Option AR :=
  match sd with
  | .slice el => bytesStr T el
  | .string => fun s x => onStr x fun y => some (.val (.string y) s)
  | _ => fun _ _ => none
def convAs (T : Tab) (sd dd : TypeDesc) : St → Value → Option AR :=
  match dd with
  | .int k => convInt k
  | .float k => convFloat k
  | .string => convStr T sd
  | _ => fun _ _ => none
def aConvert (T : Tab) (src dst : Nat) (s : St) (x : Value) : Option AR := obnd (T.ty src) fun sd => obnd (T.ty dst) fun dd => convAs T sd dd s x
def callExt (x : Option (List Value → Option Value)) (g : FuncId) (s : St) (args : List Value) : Option AR :=
  match x with
  | some h => obnd (h args) (retV s)
  | none => some (.call g args s)
def aCallV (T : Tab) (s : St) (args : List Value) (f : Value) : Option AR :=
  match f with
  | .func (.func g) first captured => cond (Nat.blt g 1099511627776) (callExt (T.ext g) g s (first.toList ++ (args ++ captured.toList))) none
  | .func (.yield l) _ _ => some (.call (1099511627776 + l) args s)
  | _ => none
def pickV (k : Bool) (x y : Value) : Value := cond k x y

abbrev OpF := Tab → Tree Value → St → Option AR
def opMove (x : Operand) : OpF := fun _ e s => obnd (aOpd e x) (retV s)
def opPick (c a b : Operand) : OpF := fun _ e s => obnd (aOpd e c) fun k => obnd (aOpd e a) fun x => obnd (aOpd e b) fun y => onBool k fun k => retV s (cond k x y)
def opAlloc (el : Nat) : OpF := fun T _ s => obnd (T.zero el) fun z => some (.val (.pointer (some ⟨s.next, 0, none⟩)) (s.push (.cells (cellsL z) 1 false)))
def opBox (x : Operand) : OpF := fun _ e s => obnd (aOpd e x) fun v => cond ((cellsL v).all one) (some (.val (.pointer (some ⟨s.next, 0, none⟩)) (s.push (.cells (cellsL v) 1 false)))) none
def opBuild (t : Nat) (ps : Array (Nat × Operand)) : OpF := fun T e s => obnd (aParts e ps.toList) fun l => obnd (aBuild T t l) (retV s)
def opBuildSlice (t n : Nat) (ps : Array (Nat × Operand)) : OpF := fun T e s => obnd (aParts e ps.toList) (aBuildSlice T t n s)
def opLoad (t : Nat) (a : Operand) : OpF := fun T e s => obnd (aOpd e a) fun p => obnd (aLoad T t s p) (retV s)
def opStore (t : Nat) (a x : Operand) : OpF := fun T e s => obnd (aOpd e a) fun p => obnd (aOpd e x) fun v => obnd (aStore T t s v p) retS
def checked (s : St) (v : Value) : Option AR :=
  match v with
  | .pointer (some a) => retV s (.pointer (some a))
  | .func (.func f) a b => retV s (.func (.func f) a b)
  | _ => none
def opNilCheck (x : Operand) : OpF := fun _ e s => obnd (aOpd e x) (checked s)
def opBin (op : BinOp) (t : Nat) (x y : Operand) : OpF := fun T e s => obnd (aOpd e x) fun a => obnd (aOpd e y) (aBin T op t a s)
def negM (a : Int) (m : Nat) : Nat :=
  match a with
  | .ofNat a => (m - a % m) % m
  | .negSucc a => (a + 1) % m
def unInt (op : UnOp) (k : IntKind) (a : Int) (s : St) : Option AR :=
  match op with
  | .neg => some (.val (.int k (fwrapR (signedK k) (modulus k) (negM a (modulus k)))) s)
  | op => pureV s (Op.unary op (.int k a))
def aUn (op : UnOp) (s : St) (v : Value) : Option AR :=
  match v with
  | .int k a => unInt op k a s
  | v => cond (plain1 v) (pureV s (Op.unary op v)) none
def opUn (op : UnOp) (x : Operand) : OpF := fun _ e s => obnd (aOpd e x) (aUn op s)
def opConvert (a b : Nat) (x : Operand) : OpF := fun T e s => obnd (aOpd e x) (aConvert T a b s)
def opMakeFunc (fn : Fn) (first captured : Array Operand) : OpF :=
  match fn with
  | .func f => fun _ e s => obnd (aOpds e first.toList) fun a => obnd (aOpds e captured.toList) fun b => retV s (.func (.func f) a.toArray b.toArray)
  | _ => fun _ _ _ => none
def opLookup (t : Nat) (x k : Operand) (ok : Bool) : OpF := fun T e s => obnd (aOpd e x) fun a => obnd (aOpd e k) (aLookup T t ok s a)
def opMapUpdate (t : Nat) (m k v : Operand) : OpF := fun T e s => obnd (aOpd e m) fun a => obnd (aOpd e k) fun b => obnd (aOpd e v) (aMapUpdate T t s a b)
def opRange (t : Nat) (x : Operand) : OpF := fun T e s => obnd (aOpd e x) (aRange T t s)
def opNext (x : Operand) (isString : Bool) : OpF := fun _ e s => cond isString none (obnd (aOpd e x) (aNext s))
def opEntry (x : Operand) : OpF := fun _ e s => obnd (aOpd e x) (aEntry s)
def opMakeMap (r : Option Operand) : OpF :=
  match r with
  | none => fun _ _ s => some (.val (.map (some s.next)) (s.push (.map [] 0)))
  | some _ => fun _ _ _ => none
def opMakeSlice (t : Nat) (l c : Operand) : OpF := fun T e s => obnd (aOpd e l) fun a => obnd (aOpd e c) (aMakeSlice T t s a)
def opSlice (t : Nat) (x : Operand) (lo hi mx : Option Operand) : OpF :=
  fun T e s => obnd (aOpd e x) fun v => obnd (optNat e lo) fun l => obnd (optNat e hi) fun h => obnd (optNat e mx) fun m => obnd (aSlice T t v l h m) (retV s)
def opFieldAddr (t : Nat) (x : Operand) (f : Nat) : OpF := fun T e s => obnd (aOpd e x) fun v => obnd (aFieldAddr T t f v) (retV s)
def opField (t : Nat) (x : Operand) (f : Nat) : OpF := fun T e s => obnd (aOpd e x) fun v => obnd (aField T t f v) (retV s)
def opIndexAddr (t : Nat) (x i : Operand) : OpF := fun T e s => obnd (aOpd e x) fun v => obnd (aOpd e i) fun j => obnd (aIndexAddr T t v j) (retV s)
def opIndex (t : Nat) (x i : Operand) : OpF := fun T e s => obnd (aOpd e x) fun v => obnd (aOpd e i) fun j => obnd (aIndex T t v j) (retV s)
def tupleL (v : Value) : Option (List Value) :=
  match v with
  | .tuple vs => some vs.toList
  | _ => none
def opExtract (x : Operand) (i : Nat) : OpF := fun _ e s => obnd (aOpd e x) fun v => obnd (tupleL v) fun l => obnd (nth l i) (retV s)
def opCallV (f : Operand) (args : Array Operand) : OpF := fun T e s => obnd (aOpds e args.toList) fun l => obnd (aOpd e f) (aCallV T s l)
def opCallB (b : Builtin) (args : Array Operand) (ts : Array TypeId) : OpF := fun T e s => obnd (aOpds e args.toList) fun l => aBuiltin b T ts.toList l s
def noOp : OpF := fun _ _ _ => none
def opCallee (c : Callee) : Array Operand → Array TypeId → OpF :=
  match c with
  | .value f => fun args _ => opCallV f args
  | .builtin b => opCallB b
  | .invoke _ _ => fun _ _ => noOp
def opCall (c : Call) : OpF := opCallee c.callee c.args c.argTypes
def aOp (o : Op) : OpF :=
  match o with
  | .move x => opMove x
  | .assign x => opMove x
  | .pick c a b => opPick c a b
  | .alloc el => opAlloc el
  | .box _ x => opBox x
  | .build t ps => opBuild t ps
  | .buildSlice t n ps => opBuildSlice t n ps
  | .load t a => opLoad t a
  | .store t a x => opStore t a x
  | .nilCheck x => opNilCheck x
  | .binOp op t x y _ => opBin op t x y
  | .unOp op _ x => opUn op x
  | .convert a b x => opConvert a b x
  | .makeFunc fn first captured => opMakeFunc fn first captured
  | .makeMap _ r => opMakeMap r
  | .makeSlice t l c => opMakeSlice t l c
  | .slice t x lo hi mx => opSlice t x lo hi mx
  | .fieldAddr t x f => opFieldAddr t x f
  | .field t x f => opField t x f
  | .indexAddr t x i => opIndexAddr t x i
  | .index t x i => opIndex t x i
  | .extract x i => opExtract x i
  | .call c => opCall c
  | .lookup t x k ok => opLookup t x k ok
  | .mapUpdate t m k v => opMapUpdate t m k v
  | .range t x => opRange t x
  | .next x b => opNext x b
  | .entry x => opEntry x
  | _ => noOp
end
end Go.Proofs.YtpgjilakcepilaaGreat.Ab
namespace Go.Proofs.YtpgjilakcepilaaGreat.Ab
noncomputable section

inductive Ex where
  | normal
  | exit (id : Nat)
  | goto (l : Nat)
  | ret

def putE (n : Nat) (e : Tree Value) (dst : Option Tmp) (v : Value) : Tree Value :=
  match dst with
  | none => e
  | some d => cond (Nat.blt d n) (e.set d v) e
def isB (want : Bool) (v : Option Value) : Bool :=
  match v with
  | some (.bool b) => b == want
  | _ => false
def dstB (e : Tree Value) (want : Bool) (d : Option Tmp) : Bool :=
  match d with
  | some d => isB want (e.get d)
  | none => false
def operB (e : Tree Value) (want : Bool) (o : Option Oper) : Bool :=
  match o with
  | some o => dstB e want o.dst
  | none => false
def guardB (ops : List Oper) (e : Tree Value) (g : Option (Nat × Bool)) : Bool :=
  match g with
  | none => true
  | some p => operB e p.2 (ops[p.1]?)
def wantedA (ops : List Oper) (e : Tree Value) (o : Oper) : Bool := guardB ops e o.guard

abbrev CallF := FuncId → List Value → St → Option (Value × St)

def stepR (call : CallF) (r : AR) : Option (Value × St) :=
  match r with
  | .val v s => some (v, s)
  | .skip s => some (undef, s)
  | .call f args s => call f args s
/-- one operation whole, the call too -/
def aStep (T : Tab) (call : CallF) (e : Tree Value) (o : Oper) (s : St) : Option (Value × St) := obnd (aOp o.op T e s) (stepR call)

def aOps (T : Tab) (call : CallF) (n : Nat) (ops : List Oper) : List Oper → Tree Value → St → Option (Tree Value × St)
  | [] => fun e s => some (e, s)
  | o :: rest => fun e s => cond (wantedA ops e o)
      (obnd (aStep T call e o s) fun r => aOps T call n ops rest (putE n e o.dst r.1) r.2)
      (aOps T call n ops rest (putE n e o.dst undef) s)

/-! ### a region that draws its order -/
inductive Cls where
  | alloc | eff | reader | pure
def clsB (b : Builtin) : Cls :=
  match b with
  | .len => .reader
  | .cap => .pure
  | .max => .pure
  | .min => .pure
  | .complex => .pure
  | .real => .pure
  | .imag => .pure
  | _ => .eff
def clsC (c : Callee) : Cls :=
  match c with
  | .builtin b => clsB b
  | _ => .eff
def clsOf (o : Op) : Cls :=
  match o with
  | .alloc _ => .alloc
  | .load .. => .reader
  | .move _ => .pure
  | .assign _ => .pure
  | .pick .. => .pure
  | .build .. => .pure
  | .nilCheck _ => .pure
  | .binOp .. => .pure
  | .unOp .. => .pure
  | .makeFunc .. => .pure
  | .slice .. => .pure
  | .fieldAddr .. => .pure
  | .field .. => .pure
  | .indexAddr .. => .pure
  | .index .. => .pure
  | .extract .. => .pure
  | .call c => clsC c.callee
  | _ => .eff
def bindsG (g : Ground) : Bool :=
  match g with
  | .textOnly _ => false
  | .gcOnly _ => false
  | _ => true
def bindsA (e : Edge) : Bool := bindsG e.ground
def maskOf (acc : List Nat) : List Edge → Nat
  | [] => 0
  | e :: r => cond (bindsA e) (Nat.lor (2 ^ e.on) (Nat.lor (acc.getD e.on 0) (maskOf acc r))) (maskOf acc r)
/-- what stands before each operation whatever the order -/
def masks : List Oper → List Nat → List Nat
  | [], acc => acc
  | o :: r, acc => masks r (acc ++ [maskOf acc o.after.toList])
def bef (ms : List Nat) (k i : Nat) : Bool := Nat.beq (Nat.land (ms.getD i 0 / 2 ^ k) 1) 1
def isEffC (c : Cls) : Bool :=
  match c with
  | .eff => true
  | _ => false
def isEff (o : Oper) : Bool := isEffC (clsOf o.op)
def effsFrom : List Oper → Nat → List Nat
  | [], _ => []
  | o :: r, i => cond (isEff o) (i :: effsFrom r (i + 1)) (effsFrom r (i + 1))
def chain (ms : List Nat) : List Nat → Bool
  | [] => true
  | a :: r => (match r with
    | [] => true
    | b :: _ => bef ms a b) && chain ms r
def tmpOf (x : Operand) : Option Tmp :=
  match x with
  | .tmp t => some t
  | _ => none
def namesOf (o : Oper) : List Tmp := o.op.operands.toList.filterMap tmpOf
/-- the temporaries that are written, and by which operation -/
def writers : List Oper → Nat → List (Tmp × Nat)
  | [], _ => []
  | o :: r, i => match o.dst with
    | some d => (d, i) :: writers r (i + 1)
    | none => writers r (i + 1)
def tmpOk1 (ms : List Nat) (j : Nat) (t : Tmp) : List (Tmp × Nat) → Bool
  | [] => true
  | (d, i) :: r => (!Nat.beq d t || (Nat.beq i j || bef ms (Nat.min i j) (Nat.max i j))) && tmpOk1 ms j t r
def tmpsOk1 (ms : List Nat) (j : Nat) (W : List (Tmp × Nat)) : List Tmp → Bool
  | [] => true
  | t :: r => tmpOk1 ms j t W && tmpsOk1 ms j W r
/-- the temporary that an operation's guard looks at -/
def dstOf (x : Option Oper) : List Tmp :=
  match x with
  | some o => o.dst.toList
  | none => []
def guardNames (ops : List Oper) (g : Option (Nat × Bool)) : List Tmp :=
  match g with
  | none => []
  | some p => dstOf (ops[p.1]?)
def earlier (i : Nat) : List Edge → Bool
  | [] => true
  | e :: r => (!bindsA e || Nat.blt e.on i) && earlier i r
/-- each operand's writers in the region stand before or behind its reader, as in the text; what an operation waits for stands ahead in the text -/
def opsOk (ops : List Oper) (ms : List Nat) (W : List (Tmp × Nat)) : List Oper → Nat → Bool
  | [], _ => true
  | o :: r, j => (tmpsOk1 ms j W (guardNames ops o.guard) && (earlier j o.after.toList && (tmpsOk1 ms j W (namesOf o) && tmpsOk1 ms j W o.dst.toList))) && opsOk ops ms W r (j + 1)
def planOk (ops : List Oper) (ms es : List Nat) : Bool := chain ms es && opsOk ops ms (writers ops 0) ops 0

/-- what was met: the operation, its number, the frame, how many effects had been, what it gave -/
structure Rec where
  i : Nat
  o : Oper
  e : Tree Value
  j : Nat
  v : Value
def preOne (T : Tab) (o : Op) (s : St) : Option St :=
  match o with
  | .alloc el => obnd (T.zero el) fun z => some (s.push (.cells (cellsL z) 1 false))
  | _ => some s
/-- the allocs' blocks, made ahead -/
def preAlloc (T : Tab) : List Oper → St → Option St
  | [], s => some s
  | o :: r, s => obnd (preOne T o.op s) (preAlloc T r)
structure DSt where
  a : Nat
  j : Nat
  e : Tree Value
  s : St
  rs : List Rec
  ss : List St
def dPut (n : Nat) (o : Oper) (v : Value) (d : DSt) : DSt := { d with e := putE n d.e o.dst v }
def dRec (i : Nat) (o : Oper) (v : Value) (d : DSt) : DSt := { d with rs := ⟨i, o, d.e, d.j, v⟩ :: d.rs }
def dEff (s : St) (d : DSt) : DSt := { d with j := d.j + 1, s := s, ss := s :: d.ss }
def dAlloc (d : DSt) : DSt := { d with a := d.a + 1 }
def freshPtr (a : Nat) : Value := .pointer (some ⟨a, 0, none⟩)
def dStep (T : Tab) (call : CallF) (n i : Nat) (o : Oper) (d : DSt) (w : Bool) (c : Cls) : Option DSt :=
  match c with
  | .alloc => some (cond w (dPut n o (freshPtr d.a) (dRec i o (freshPtr d.a) (dAlloc d))) (dPut n o undef (dAlloc d)))
  | .eff => cond w (obnd (aStep T call d.e o d.s) fun r => some (dPut n o r.1 (dEff r.2 d))) (some (dPut n o undef (dEff d.s d)))
  | .reader => cond w (obnd (aStep T call d.e o d.s) fun r => some (dPut n o r.1 (dRec i o r.1 d))) (some (dPut n o undef d))
  | .pure => cond w (obnd (aStep T call d.e o d.s) fun r => some (dPut n o r.1 d)) (some (dPut n o undef d))
/-- in the text's order -/
def aRun (T : Tab) (call : CallF) (n : Nat) (ops : List Oper) : List Oper → Nat → DSt → Option DSt
  | [], _, d => some d
  | o :: rest, i, d => obnd (dStep T call n i o d (wantedA ops d.e o) (clsOf o.op)) (aRun T call n ops rest (i + 1))
def countB (p : Nat → Bool) : List Nat → Nat
  | [] => 0
  | k :: r => cond (p k) (countB p r + 1) (countB p r)
def sameBlock (z : Value) (x : Option AObj) : Bool :=
  match x with
  | some (.cells cs es sp) => veqL cs (cellsL z) && (Nat.beq es 1 && !sp)
  | _ => false
def ptrB (v : Value) (f : Nat → Bool) : Bool :=
  match v with
  | .pointer (some a) => f a.block
  | _ => false
def optB {α : Type} (x : Option α) (f : α → Bool) : Bool :=
  match x with
  | some a => f a
  | none => false
def recAt (T : Tab) (call : CallF) (r : Rec) (s : St) (o : Op) : Bool :=
  match o with
  | .alloc el => optB (T.zero el) fun z => ptrB r.v fun b => sameBlock z (s.heap.get b)
  | _ => optB (aStep T call r.e r.o s) fun x => veq x.1 r.v
def isAllocO (o : Op) : Bool :=
  match o with
  | .alloc _ => true
  | _ => false
/-- a reader gives the same in each state of its window; an alloc's block is as it was made -/
def recOk (T : Tab) (call : CallF) (lo hi : Nat) (r : Rec) : List St → Nat → Bool
  | [], _ => true
  | s :: ss, j => cond (Nat.ble lo j && (Nat.ble j hi && (isAllocO r.o.op || !Nat.beq j r.j))) (recAt T call r s r.o.op) true && recOk T call lo hi r ss (j + 1)
def recsOk (T : Tab) (call : CallF) (ms es : List Nat) (ss : List St) : List Rec → Bool
  | [] => true
  | r :: rs => recOk T call (countB (fun k => bef ms k r.i) es) (countB (fun k => !bef ms r.i k) es) r ss 0 && recsOk T call ms es ss rs
def drawFin (T : Tab) (call : CallF) (ms es : List Nat) (d : DSt) : Option (Tree Value × St) :=
  cond (recsOk T call ms es d.ss.reverse d.rs) (some (d.e, d.s)) none
def drawWith (T : Tab) (call : CallF) (n : Nat) (ops : List Oper) (ms es : List Nat) (e : Tree Value) (s : St) : Option (Tree Value × St) :=
  cond (planOk ops ms es) (obnd (preAlloc T ops s) fun s0 => obnd (aRun T call n ops ops 0 ⟨s.next, 0, e, s0, [], [s0]⟩) (drawFin T call ms es)) none
def aDraw (T : Tab) (call : CallF) (n : Nat) (ops : List Oper) (e : Tree Value) (s : St) : Option (Tree Value × St) :=
  drawWith T call n ops (masks ops []) (effsFrom ops 0) e s

/-! ### code -/
structure Res where
  x : Ex
  e : Tree Value
  s : St
def norm (p : Tree Value × St) : Option Res := some ⟨.normal, p.1, p.2⟩
abbrev CodeF := Option Code → Code → Tree Value → St → Option Res
def andThenR (r : Res) (x : Ex) (f : Tree Value → St → Option Res) : Option Res :=
  match x with
  | .normal => f r.e r.s
  | _ => some r
def thenR (f : Tree Value → St → Option Res) (r : Res) : Option Res := andThenR r r.x f
def inBlk (id : Nat) (r : Res) (x : Ex) : Res :=
  match x with
  | .exit j => cond (Nat.beq j id) ⟨.normal, r.e, r.s⟩ r
  | _ => r
def onGoto (k : CodeF) (b : Code) (r : Res) (x : Ex) : Option Res :=
  match x with
  | .goto l => (match findLabel b l with
    | some rest => k (some b) rest r.e r.s
    | none => some r)
  | _ => some r
def cRegion (T : Tab) (call : CallF) (n : Nat) (ops : Array Oper) (draw : Bool) (e : Tree Value) (s : St) : Option Res :=
  obnd (cond draw (aDraw T call n ops.toList e s) (aOps T call n ops.toList ops.toList e s)) norm
def cSeq (k : CodeF) (a b : Code) (e : Tree Value) (s : St) : Option Res := obnd (k none a e s) (thenR (k none b))
def cCond (k : CodeF) (c : Operand) (a b : Code) (e : Tree Value) (s : St) : Option Res := obnd (aOpd e c) fun v => onBool v fun t => k none (cond t a b) e s
def cBlock (k : CodeF) (id : Nat) (c : Code) (e : Tree Value) (s : St) : Option Res := obnd (k none c e s) fun r => some (inBlk id r r.x)
def cLoop (k : CodeF) (c : Code) (e : Tree Value) (s : St) : Option Res := obnd (k none c e s) (thenR (k none (.loop c)))
def cGive (x : Ex) (e : Tree Value) (s : St) : Option Res := some ⟨x, e, s⟩
def cNone (_ : Tree Value) (_ : St) : Option Res := none
/-! a range over a function: the marks of a frame stand among its temporaries, far behind them -/
def idsOf : List Value → Option (List Nat)
  | [] => some []
  | v :: l => obnd (natOf v) fun n => obnd (idsOf l) fun r => some (n :: r)
def marksV (v : Option Value) : Option (List Nat) :=
  match v with
  | none => some []
  | some (.tuple xs) => idsOf xs.toList
  | _ => none
def idV (n : Nat) : Value := .int .i64 (.ofNat n)
def marksE (e : Tree Value) : Option (List Nat) := marksV (e.get 1099511627776)
def addMark (e : Tree Value) (d : Nat) : Option (Tree Value) := obnd (marksE e) fun l => some (e.set 1099511627776 (.tuple ((d :: l).map idV).toArray))
def rangeEnd (l : Nat) (e1 : Tree Value) (s : St) (o : Option AObj) : Option Res :=
  match o with
  | some (.loop false _ _ _ _ _) => some ⟨.normal, e1, s.put l .dead⟩
  | _ => none
def rangeCallee (call : CallF) (r : AR) : Option (Value × St) :=
  match r with
  | .call f args s => cond (Nat.blt f 1099511627776) (call f args s) none
  | _ => none
def cRange (T : Tab) (call : CallF) (n : Nat) (g : Operand) (ps : Array Tmp) (asg body : Code) (e : Tree Value) (s : St) : Option Res :=
  obnd (aOpd e g) fun gv => obnd (addMark e s.next) fun e1 =>
    obnd (obnd (aCallV T ((s.push .defd).push (.loop false n e ps.toList asg body)) [.func (.yield (s.next + 1)) #[] #[]] gv) (rangeCallee call)) fun r => rangeEnd (s.next + 1) e1 r.2 (r.2.heap.get (s.next + 1))
def codeIn (T : Tab) (call : CallF) (n : Nat) (rf : Bool) (k : CodeF) (c : Code) : Tree Value → St → Option Res :=
  match c with
  | .skip => cGive .normal
  | .label _ => cGive .normal
  | .region _ ops draw => cRegion T call n ops draw
  | .seq a b => cSeq k a b
  | .cond c a b => cCond k c a b
  | .block id c => cBlock k id c
  | .loop c => cLoop k c
  | .exit id => cGive (.exit id)
  | .goto l => cGive (.goto l)
  | .ret => cGive .ret
  | .scope c => k (some c) c
  | .rangeFunc g ps asg body => cond rf (cRange T call n g ps asg body) cNone
  | .refuse _ => cNone
/-- 'sc': the scope whose labels a goto may come back to -/
def codeStep (T : Tab) (call : CallF) (n : Nat) (rf : Bool) (k : CodeF) (sc : Option Code) : Code → Tree Value → St → Option Res :=
  match sc with
  | none => codeIn T call n rf k
  | some b => fun c e s => obnd (k none c e s) fun r => onGoto k b r r.x
def aCode (T : Tab) (call : CallF) (n : Nat) (rf : Bool) : Nat → CodeF
  | 0 => fun _ _ _ _ => none
  | f + 1 => codeStep T call n rf (aCode T call n rf f)

def argsE : List Value → Nat → Tree Value → Tree Value
  | [], _, e => e
  | v :: r, i, e => argsE r (i + 1) (e.set i v)
def aResult (T : Tab) (e : Tree Value) (s : St) (r : ResultVar) : Option Value :=
  match r with
  | .tmp t => aOpd e (.tmp t)
  | .cell a t => obnd (aOpd e (.tmp a)) (aLoad T t s)
def aResults (T : Tab) (e : Tree Value) (s : St) : List ResultVar → Option (List Value)
  | [] => some []
  | x :: r => obnd (aResult T e s x) fun v => consO v (aResults T e s r)
def tupleOf (l : List Value) : Value :=
  match l with
  | [v] => v
  | l => .tuple l.toArray
def endsOk (x : Ex) : Bool :=
  match x with
  | .normal => true
  | .ret => true
  | _ => false
/-- the marks' blocks are shut -/
def leaveM : List Nat → St → Option St
  | [], s => some s
  | d :: l, s => (match s.heap.get d with
    | some .defd => leaveM l (s.put d .dead)
    | _ => none)
def aReturn (T : Tab) (fn : Func) (r : Res) : Option (Value × St) :=
  cond (endsOk r.x) (obnd (marksE r.e) fun ds => obnd (leaveM ds r.s) fun s => obnd (aResults T r.e s fn.results.toList) fun l => some (tupleOf l, s)) none
def aEnter (T : Tab) (call : CallF) (lf : Nat) (args : List Value) (s : St) (fn : Func) : Option (Value × St) :=
  cond (Nat.ble args.length fn.ntmps && Nat.ble fn.ntmps 1099511627776) (obnd fn.body fun c => obnd (aCode T call fn.ntmps true lf none c (argsE args 0 .leaf) s) (aReturn T fn)) none
def setPs (n : Nat) : List Nat → List Value → Tree Value → Tree Value
  | p :: ps, v :: vs, e => setPs n ps vs (putE n e (some p) v)
  | _, _, e => e
def roundEnd (l : Nat) (s : St) (x : Ex) (o : Option AObj) : Option (Value × St) :=
  match x with
  | .normal => (match o with
    | some (.loop true n e ps asg body) => some (.bool true, s.put l (.loop false n e ps asg body))
    | _ => none)
  | _ => none
def roundBody (T : Tab) (call : CallF) (lf n l : Nat) (body : Code) (e : Tree Value) (s : St) (x : Ex) (o : Option AObj) : Option (Value × St) :=
  match x with
  | .normal => (match o with
    | some (.loop false n' e0 ps asg body') => obnd (aCode T call n false lf none body e (s.put l (.loop true n' e0 ps asg body'))) fun r => roundEnd l r.s r.x (r.s.heap.get l)
    | _ => none)
  | _ => none
def aYield1 (T : Tab) (call : CallF) (lf l : Nat) (args : List Value) (s : St) (o : Option AObj) : Option (Value × St) :=
  match o with
  | some (.loop false n e ps asg body) => cond (Nat.beq args.length ps.length)
      (obnd (aCode T call n false lf none asg (setPs n ps args e) s) fun r => roundBody T call lf n l body r.e r.s r.x (r.s.heap.get l)) none
  | _ => none
/-- a round -/
def aYield (T : Tab) (call : CallF) (lf l : Nat) (args : List Value) (s : St) : Option (Value × St) := aYield1 T call lf l args s (s.heap.get l)

/-! ### calls, with contracts: what a call comes to, said outright -/
abbrev Sum := List Value → St → Option (Value × St)
def sumOr2 (x : Option (Value × St)) (k : Unit → Option (Value × St)) : Option (Value × St) :=
  match x with
  | some r => some r
  | none => k ()
def sumOr (x : Option Sum) (args : List Value) (s : St) (k : Unit → Option (Value × St)) : Option (Value × St) :=
  match x with
  | some h => sumOr2 (h args s) k
  | none => k ()
def aCallP (T : Tab) (sums : FuncId → Option Sum) (lf : Nat) : Nat → CallF
  | 0 => fun _ _ _ => none
  | d + 1 => fun f args s => cond (Nat.blt f 1099511627776) (sumOr (sums f) args s fun _ => obnd (T.fn f) (aEnter T (aCallP T sums lf d) lf args s)) (aYield T (aCallP T sums lf d) lf (Nat.sub f 1099511627776) args s)
def aCall (T : Tab) (lf d : Nat) : CallF := aCallP T (fun _ => none) lf d
end
end Go.Proofs.YtpgjilakcepilaaGreat.Ab
