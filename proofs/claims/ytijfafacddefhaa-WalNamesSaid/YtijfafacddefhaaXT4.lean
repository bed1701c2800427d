/- The short run: operations, regions that draw their order, code, calls. -/
import Derived.Test.YtijfafacddefhaaXT3
namespace Go.Proofs.Ytijfafacddefhaa.Ab
noncomputable section

inductive Ex where
  | normal
  | exit (id : Nat)
  | goto (l : Nat)
  | ret

def putE (n : Nat) (e : Tree Value) (dst : Option Tmp) (v : Value) : Tree Value :=
  match dst with
  | none => e
  | some d => cond (Nat.blt d n) (e.set d v) e
def isB (want : Bool) (v : Option Value) : Bool :=
  match v with
  | some (.bool b) => b == want
  | _ => false
def dstB (e : Tree Value) (want : Bool) (d : Option Tmp) : Bool :=
  match d with
  | some d => isB want (e.get d)
  | none => false
def operB (e : Tree Value) (want : Bool) (o : Option Oper) : Bool :=
  match o with
  | some o => dstB e want o.dst
  | none => false
def guardB (ops : List Oper) (e : Tree Value) (g : Option (Nat × Bool)) : Bool :=
  match g with
  | none => true
  | some p => operB e p.2 (ops[p.1]?)
def wantedA (ops : List Oper) (e : Tree Value) (o : Oper) : Bool := guardB ops e o.guard

abbrev CallF := FuncId → List Value → St → Option (Value × St)

def stepR (call : CallF) (r : AR) : Option (Value × St) :=
  match r with
  | .val v s => some (v, s)
  | .skip s => some (undef, s)
  | .call f args s => call f args s
/-- one operation whole, the call too -/
def aStep (T : Tab) (call : CallF) (e : Tree Value) (o : Oper) (s : St) : Option (Value × St) := obnd (aOp o.op T e s) (stepR call)

def aOps (T : Tab) (call : CallF) (n : Nat) (ops : List Oper) : List Oper → Tree Value → St → Option (Tree Value × St)
  | [] => fun e s => some (e, s)
  | o :: rest => fun e s => cond (wantedA ops e o)
      (obnd (aStep T call e o s) fun r => aOps T call n ops rest (putE n e o.dst r.1) r.2)
      (aOps T call n ops rest (putE n e o.dst undef) s)

/-! ### a region that draws its order -/
inductive Cls where
  | alloc | eff | reader | pure
def clsB (b : Builtin) : Cls :=
  match b with
  | .len => .reader
  | .cap => .pure
  | .max => .pure
  | .min => .pure
  | .complex => .pure
  | .real => .pure
  | .imag => .pure
  | _ => .eff
def clsC (c : Callee) : Cls :=
  match c with
  | .builtin b => clsB b
  | _ => .eff
def clsOf (o : Op) : Cls :=
  match o with
  | .alloc _ => .alloc
  | .load .. => .reader
  | .move _ => .pure
  | .assign _ => .pure
  | .pick .. => .pure
  | .build .. => .pure
  | .nilCheck _ => .pure
  | .binOp .. => .pure
  | .unOp .. => .pure
  | .makeFunc .. => .pure
  | .slice .. => .pure
  | .fieldAddr .. => .pure
  | .field .. => .pure
  | .indexAddr .. => .pure
  | .index .. => .pure
  | .extract .. => .pure
  | .call c => clsC c.callee
  | _ => .eff
def bindsG (g : Ground) : Bool :=
  match g with
  | .textOnly _ => false
  | .gcOnly _ => false
  | _ => true
def bindsA (e : Edge) : Bool := bindsG e.ground
def maskOf (acc : List Nat) : List Edge → Nat
  | [] => 0
  | e :: r => cond (bindsA e) (Nat.lor (2 ^ e.on) (Nat.lor (acc.getD e.on 0) (maskOf acc r))) (maskOf acc r)
/-- what stands before each operation whatever the order -/
def masks : List Oper → List Nat → List Nat
  | [], acc => acc
  | o :: r, acc => masks r (acc ++ [maskOf acc o.after.toList])
def bef (ms : List Nat) (k i : Nat) : Bool := Nat.beq (Nat.land (ms.getD i 0 / 2 ^ k) 1) 1
def isEffC (c : Cls) : Bool :=
  match c with
  | .eff => true
  | _ => false
def isEff (o : Oper) : Bool := isEffC (clsOf o.op)
def effsFrom : List Oper → Nat → List Nat
  | [], _ => []
  | o :: r, i => cond (isEff o) (i :: effsFrom r (i + 1)) (effsFrom r (i + 1))
def chain (ms : List Nat) : List Nat → Bool
  | [] => true
  | a :: r => (match r with
    | [] => true
    | b :: _ => bef ms a b) && chain ms r
def tmpOf (x : Operand) : Option Tmp :=
  match x with
  | .tmp t => some t
  | _ => none
def namesOf (o : Oper) : List Tmp := o.op.operands.toList.filterMap tmpOf
/-- the temporaries that are written, and by which operation -/
def writers : List Oper → Nat → List (Tmp × Nat)
  | [], _ => []
  | o :: r, i => match o.dst with
    | some d => (d, i) :: writers r (i + 1)
    | none => writers r (i + 1)
def tmpOk1 (ms : List Nat) (j : Nat) (t : Tmp) : List (Tmp × Nat) → Bool
  | [] => true
  | (d, i) :: r => (!Nat.beq d t || (Nat.beq i j || bef ms (Nat.min i j) (Nat.max i j))) && tmpOk1 ms j t r
def tmpsOk1 (ms : List Nat) (j : Nat) (W : List (Tmp × Nat)) : List Tmp → Bool
  | [] => true
  | t :: r => tmpOk1 ms j t W && tmpsOk1 ms j W r
/-- the temporary that an operation's guard looks at -/
def dstOf (x : Option Oper) : List Tmp :=
  match x with
  | some o => o.dst.toList
  | none => []
def guardNames (ops : List Oper) (g : Option (Nat × Bool)) : List Tmp :=
  match g with
  | none => []
  | some p => dstOf (ops[p.1]?)
def earlier (i : Nat) : List Edge → Bool
  | [] => true
  | e :: r => (!bindsA e || Nat.blt e.on i) && earlier i r
/-- each operand's writers in the region stand before or behind its reader, as in the text; what an operation waits for stands ahead in the text -/
def opsOk (ops : List Oper) (ms : List Nat) (W : List (Tmp × Nat)) : List Oper → Nat → Bool
  | [], _ => true
  | o :: r, j => (tmpsOk1 ms j W (guardNames ops o.guard) && (earlier j o.after.toList && (tmpsOk1 ms j W (namesOf o) && tmpsOk1 ms j W o.dst.toList))) && opsOk ops ms W r (j + 1)
def planOk (ops : List Oper) (ms es : List Nat) : Bool := chain ms es && opsOk ops ms (writers ops 0) ops 0

/-- what was met: the operation, its number, the frame, how many effects had been, what it gave -/
structure Rec where
  i : Nat
  o : Oper
  e : Tree Value
  j : Nat
  v : Value
def preOne (T : Tab) (o : Op) (s : St) : Option St :=
  match o with
  | .alloc el => obnd (T.zero el) fun z => some (s.push (.cells (cellsL z) 1 false))
  | _ => some s
/-- the allocs' blocks, made ahead -/
def preAlloc (T : Tab) : List Oper → St → Option St
  | [], s => some s
  | o :: r, s => obnd (preOne T o.op s) (preAlloc T r)
structure DSt where
  a : Nat
  j : Nat
  e : Tree Value
  s : St
  rs : List Rec
  ss : List St
def dPut (n : Nat) (o : Oper) (v : Value) (d : DSt) : DSt := { d with e := putE n d.e o.dst v }
def dRec (i : Nat) (o : Oper) (v : Value) (d : DSt) : DSt := { d with rs := ⟨i, o, d.e, d.j, v⟩ :: d.rs }
def dEff (s : St) (d : DSt) : DSt := { d with j := d.j + 1, s := s, ss := s :: d.ss }
def dAlloc (d : DSt) : DSt := { d with a := d.a + 1 }
def freshPtr (a : Nat) : Value := .pointer (some ⟨a, 0, none⟩)
def dStep (T : Tab) (call : CallF) (n i : Nat) (o : Oper) (d : DSt) (w : Bool) (c : Cls) : Option DSt :=
  match c with
  | .alloc => some (cond w (dPut n o (freshPtr d.a) (dRec i o (freshPtr d.a) (dAlloc d))) (dPut n o undef (dAlloc d)))
  | .eff => cond w (obnd (aStep T call d.e o d.s) fun r => some (dPut n o r.1 (dEff r.2 d))) (some (dPut n o undef (dEff d.s d)))
  | .reader => cond w (obnd (aStep T call d.e o d.s) fun r => some (dPut n o r.1 (dRec i o r.1 d))) (some (dPut n o undef d))
  | .pure => cond w (obnd (aStep T call d.e o d.s) fun r => some (dPut n o r.1 d)) (some (dPut n o undef d))
/-- in the text's order -/
def aRun (T : Tab) (call : CallF) (n : Nat) (ops : List Oper) : List Oper → Nat → DSt → Option DSt
  | [], _, d => some d
  | o :: rest, i, d => obnd (dStep T call n i o d (wantedA ops d.e o) (clsOf o.op)) (aRun T call n ops rest (i + 1))
def countB (p : Nat → Bool) : List Nat → Nat
  | [] => 0
  | k :: r => cond (p k) (countB p r + 1) (countB p r)
def sameBlock (z : Value) (x : Option AObj) : Bool :=
  match x with
  | some (.cells cs es sp) => veqL cs (cellsL z) && (Nat.beq es 1 && !sp)
  | _ => false
def ptrB (v : Value) (f : Nat → Bool) : Bool :=
  match v with
  | .pointer (some a) => f a.block
  | _ => false
def optB {α : Type} (x : Option α) (f : α → Bool) : Bool :=
  match x with
  | some a => f a
  | none => false
def recAt (T : Tab) (call : CallF) (r : Rec) (s : St) (o : Op) : Bool :=
  match o with
  | .alloc el => optB (T.zero el) fun z => ptrB r.v fun b => sameBlock z (s.heap.get b)
  | _ => optB (aStep T call r.e r.o s) fun x => veq x.1 r.v
def isAllocO (o : Op) : Bool :=
  match o with
  | .alloc _ => true
  | _ => false
/-- a reader gives the same in each state of its window; an alloc's block is as it was made -/
def recOk (T : Tab) (call : CallF) (lo hi : Nat) (r : Rec) : List St → Nat → Bool
  | [], _ => true
  | s :: ss, j => cond (Nat.ble lo j && (Nat.ble j hi && (isAllocO r.o.op || !Nat.beq j r.j))) (recAt T call r s r.o.op) true && recOk T call lo hi r ss (j + 1)
def recsOk (T : Tab) (call : CallF) (ms es : List Nat) (ss : List St) : List Rec → Bool
  | [] => true
  | r :: rs => recOk T call (countB (fun k => bef ms k r.i) es) (countB (fun k => !bef ms r.i k) es) r ss 0 && recsOk T call ms es ss rs
def drawFin (T : Tab) (call : CallF) (ms es : List Nat) (d : DSt) : Option (Tree Value × St) :=
  cond (recsOk T call ms es d.ss.reverse d.rs) (some (d.e, d.s)) none
def drawWith (T : Tab) (call : CallF) (n : Nat) (ops : List Oper) (ms es : List Nat) (e : Tree Value) (s : St) : Option (Tree Value × St) :=
  cond (planOk ops ms es) (obnd (preAlloc T ops s) fun s0 => obnd (aRun T call n ops ops 0 ⟨s.next, 0, e, s0, [], [s0]⟩) (drawFin T call ms es)) none
def aDraw (T : Tab) (call : CallF) (n : Nat) (ops : List Oper) (e : Tree Value) (s : St) : Option (Tree Value × St) :=
  drawWith T call n ops (masks ops []) (effsFrom ops 0) e s

/-! ### code -/
structure Res where
  x : Ex
  e : Tree Value
  s : St
def norm (p : Tree Value × St) : Option Res := some ⟨.normal, p.1, p.2⟩
abbrev CodeF := Option Code → Code → Tree Value → St → Option Res
def andThenR (r : Res) (x : Ex) (f : Tree Value → St → Option Res) : Option Res :=
  match x with
  | .normal => f r.e r.s
  | _ => some r
def thenR (f : Tree Value → St → Option Res) (r : Res) : Option Res := andThenR r r.x f
def inBlk (id : Nat) (r : Res) (x : Ex) : Res :=
  match x with
  | .exit j => cond (Nat.beq j id) ⟨.normal, r.e, r.s⟩ r
  | _ => r
def onGoto (k : CodeF) (b : Code) (r : Res) (x : Ex) : Option Res :=
  match x with
  | .goto l => (match findLabel b l with
    | some rest => k (some b) rest r.e r.s
    | none => some r)
  | _ => some r
def cRegion (T : Tab) (call : CallF) (n : Nat) (ops : Array Oper) (draw : Bool) (e : Tree Value) (s : St) : Option Res :=
  obnd (cond draw (aDraw T call n ops.toList e s) (aOps T call n ops.toList ops.toList e s)) norm
def cSeq (k : CodeF) (a b : Code) (e : Tree Value) (s : St) : Option Res := obnd (k none a e s) (thenR (k none b))
def cCond (k : CodeF) (c : Operand) (a b : Code) (e : Tree Value) (s : St) : Option Res := obnd (aOpd e c) fun v => onBool v fun t => k none (cond t a b) e s
def cBlock (k : CodeF) (id : Nat) (c : Code) (e : Tree Value) (s : St) : Option Res := obnd (k none c e s) fun r => some (inBlk id r r.x)
def cLoop (k : CodeF) (c : Code) (e : Tree Value) (s : St) : Option Res := obnd (k none c e s) (thenR (k none (.loop c)))
def cGive (x : Ex) (e : Tree Value) (s : St) : Option Res := some ⟨x, e, s⟩
def cNone (_ : Tree Value) (_ : St) : Option Res := none
def codeIn (T : Tab) (call : CallF) (n : Nat) (k : CodeF) (c : Code) : Tree Value → St → Option Res :=
  match c with
  | .skip => cGive .normal
  | .label _ => cGive .normal
  | .region _ ops draw => cRegion T call n ops draw
  | .seq a b => cSeq k a b
  | .cond c a b => cCond k c a b
  | .block id c => cBlock k id c
  | .loop c => cLoop k c
  | .exit id => cGive (.exit id)
  | .goto l => cGive (.goto l)
  | .ret => cGive .ret
  | .scope c => k (some c) c
  | .rangeFunc .. => cNone
  | .refuse _ => cNone
/-- 'sc': the scope whose labels a goto may come back to -/
def codeStep (T : Tab) (call : CallF) (n : Nat) (k : CodeF) (sc : Option Code) : Code → Tree Value → St → Option Res :=
  match sc with
  | none => codeIn T call n k
  | some b => fun c e s => obnd (k none c e s) fun r => onGoto k b r r.x
def aCode (T : Tab) (call : CallF) (n : Nat) : Nat → CodeF
  | 0 => fun _ _ _ _ => none
  | f + 1 => codeStep T call n (aCode T call n f)

def argsE : List Value → Nat → Tree Value → Tree Value
  | [], _, e => e
  | v :: r, i, e => argsE r (i + 1) (e.set i v)
def aResult (T : Tab) (e : Tree Value) (s : St) (r : ResultVar) : Option Value :=
  match r with
  | .tmp t => aOpd e (.tmp t)
  | .cell a t => obnd (aOpd e (.tmp a)) (aLoad T t s)
def aResults (T : Tab) (e : Tree Value) (s : St) : List ResultVar → Option (List Value)
  | [] => some []
  | x :: r => obnd (aResult T e s x) fun v => consO v (aResults T e s r)
def tupleOf (l : List Value) : Value :=
  match l with
  | [v] => v
  | l => .tuple l.toArray
def endsOk (x : Ex) : Bool :=
  match x with
  | .normal => true
  | .ret => true
  | _ => false
def aReturn (T : Tab) (fn : Func) (r : Res) : Option (Value × St) :=
  cond (endsOk r.x) (obnd (aResults T r.e r.s fn.results.toList) fun l => some (tupleOf l, r.s)) none
def aEnter (T : Tab) (call : CallF) (lf : Nat) (args : List Value) (s : St) (fn : Func) : Option (Value × St) :=
  cond (Nat.ble args.length fn.ntmps) (obnd fn.body fun c => obnd (aCode T call fn.ntmps lf none c (argsE args 0 .leaf) s) (aReturn T fn)) none
def aCall (T : Tab) (lf : Nat) : Nat → CallF
  | 0 => fun _ _ _ => none
  | d + 1 => fun f args s => obnd (T.fn f) (aEnter T (aCall T lf d) lf args s)
end
end Go.Proofs.Ytijfafacddefhaa.Ab
