/- The short run's operations: a plain function for each. -/
import Derived.Test.YtijfafacddefhaaXT2
import GoSem.Step
namespace Go.Proofs.Ytijfafacddefhaa.Ab
noncomputable section

/-! ### numbers, quickly -/
def fmod (n : Int) (m : Nat) : Nat :=
  match n with
  | .ofNat a => a % m
  | .negSucc a => m - 1 - a % m
def modulus : IntKind → Nat
  | .i8 | .u8 => 256
  | .i16 | .u16 => 65536
  | .i32 | .u32 => 4294967296
  | .i64 | .u64 => 18446744073709551616
def signedK : IntKind → Bool
  | .i8 | .i16 | .i32 | .i64 => true
  | _ => false
def bitsK : IntKind → Nat
  | .i8 | .u8 => 8
  | .i16 | .u16 => 16
  | .i32 | .u32 => 32
  | .i64 | .u64 => 64
def fwrapR (sg : Bool) (m r : Nat) : Int := cond (sg && Nat.ble m (2 * r)) (.negSucc (m - 1 - r)) (.ofNat r)
def fwrap (k : IntKind) (n : Int) : Int := fwrapR (signedK k) (modulus k) (fmod n (modulus k))
def ieq : Int → Int → Bool
  | .ofNat a, .ofNat b => Nat.beq a b
  | .negSucc a, .negSucc b => Nat.beq a b
  | _, _ => false
def ilt : Int → Int → Bool
  | .ofNat a, .ofNat b => Nat.ble (a + 1) b
  | .negSucc a, .negSucc b => Nat.ble (b + 1) a
  | .negSucc _, .ofNat _ => true
  | .ofNat _, .negSucc _ => false
def shrI (x : Int) (n : Nat) : Int :=
  match x with
  | .ofNat a => .ofNat (a / 2 ^ n)
  | .negSucc a => .negSucc (a / 2 ^ n)
def shl1 (k : IntKind) (x : Int) (n : Nat) : Option Value := some (.int k (fwrap k (x * .ofNat (2 ^ Nat.min n (bitsK k)))))
def shr1 (k : IntKind) (x : Int) (n : Nat) : Option Value := some (.int k (shrI x (Nat.min n (bitsK k))))
def shiftBy (f : Nat → Option Value) (y : Int) : Option Value :=
  match y with
  | .negSucc _ => none
  | .ofNat n => f n
def retI (k : IntKind) (n : Int) : Option Value := some (.int k n)
def retB (b : Bool) : Option Value := some (.bool b)
def iAdd (k : IntKind) (a b : Int) : Option Value := retI k (fwrap k (a + b))
def iSub (k : IntKind) (a b : Int) : Option Value := retI k (fwrap k (a - b))
def iMul (k : IntKind) (a b : Int) : Option Value := retI k (fwrap k (a * b))
def iQuo (k : IntKind) (a b : Int) : Option Value := cond (ieq b 0) none (retI k (fwrap k (a.tdiv b)))
def iRem (k : IntKind) (a b : Int) : Option Value := cond (ieq b 0) none (retI k (a.tmod b))
def iAnd (k : IntKind) (a b : Int) : Option Value := retI k (fwrap k (.ofNat (Nat.land (fmod a (modulus k)) (fmod b (modulus k)))))
def iOr (k : IntKind) (a b : Int) : Option Value := retI k (fwrap k (.ofNat (Nat.lor (fmod a (modulus k)) (fmod b (modulus k)))))
def iXor (k : IntKind) (a b : Int) : Option Value := retI k (fwrap k (.ofNat (Nat.xor (fmod a (modulus k)) (fmod b (modulus k)))))
def iAndNot (k : IntKind) (a b : Int) : Option Value := retI k (fwrap k (.ofNat (Nat.land (fmod a (modulus k)) (modulus k - 1 - fmod b (modulus k)))))
def iEql (_ : IntKind) (a b : Int) : Option Value := retB (ieq a b)
def iNeq (_ : IntKind) (a b : Int) : Option Value := retB (!ieq a b)
def iLss (_ : IntKind) (a b : Int) : Option Value := retB (ilt a b)
def iLeq (_ : IntKind) (a b : Int) : Option Value := retB (!ilt b a)
def iGtr (_ : IntKind) (a b : Int) : Option Value := retB (ilt b a)
def iGeq (_ : IntKind) (a b : Int) : Option Value := retB (!ilt a b)
def iShl (k : IntKind) (a b : Int) : Option Value := shiftBy (shl1 k a) b
def iShr (k : IntKind) (a b : Int) : Option Value := shiftBy (shr1 k a) b
/-- of one kind, but for the shifts -/
def aInt (op : BinOp) : IntKind → Int → Int → Option Value :=
  match op with
  | .add => iAdd
  | .sub => iSub
  | .mul => iMul
  | .quo => iQuo
  | .rem => iRem
  | .and => iAnd
  | .or => iOr
  | .xor => iXor
  | .andNot => iAndNot
  | .shl => iShl
  | .shr => iShr
  | .eql => iEql
  | .neq => iNeq
  | .lss => iLss
  | .leq => iLeq
  | .gtr => iGtr
  | .geq => iGeq
def isShift (op : BinOp) : Bool :=
  match op with
  | .shl => true
  | .shr => true
  | _ => false
def keq : IntKind → IntKind → Bool
  | .i8, .i8 | .i16, .i16 | .i32, .i32 | .i64, .i64 | .u8, .u8 | .u16, .u16 | .u32, .u32 | .u64, .u64 => true
  | _, _ => false

/-! ### values -/
def plain1 : Value → Bool
  | .bool _ | .int .. | .float .. | .complex .. | .string _ | .pointer none | .slice none _ _ | .map none | .nilFunc | .nilIface => true
  | _ => false
def plain : Value → Bool
  | .agg cs => cs.toList.all plain1
  | .tuple cs => cs.toList.all plain1
  | .iface _ v => plain1 v
  | v => plain1 v
def one : Value → Bool
  | .agg _ | .tuple _ => false
  | _ => true
def cellsL : Value → List Value
  | .agg cs => cs.toList
  | v => [v]

/-- for the drawing regions: the same value? -/
def veq1 : Value → Value → Bool
  | .bool a, .bool b => a == b
  | .int j a, .int k b => keq j k && ieq a b
  | .float .f64 a, .float .f64 b => Nat.beq a b
  | .complex .f64 a b, .complex .f64 c d => Nat.beq a c && Nat.beq b d
  | .pointer none, .pointer none => true
  | .pointer (some ⟨a, b, none⟩), .pointer (some ⟨c, d, none⟩) => Nat.beq a c && Nat.beq b d
  | .slice none a b, .slice none c d => Nat.beq a c && Nat.beq b d
  | .slice (some ⟨a, b, none⟩) n c, .slice (some ⟨a', b', none⟩) n' c' => Nat.beq a a' && Nat.beq b b' && Nat.beq n n' && Nat.beq c c'
  | .map none, .map none => true
  | .map (some a), .map (some b) => Nat.beq a b
  | .nilFunc, .nilFunc => true
  | .nilIface, .nilIface => true
  | _, _ => false
def veqL : List Value → List Value → Bool
  | [], [] => true
  | a :: l, b :: m => veq1 a b && veqL l m
  | _, _ => false
def veq : Value → Value → Bool
  | .agg a, .agg b => veqL a.toList b.toList
  | a, b => veq1 a b

def obnd {α β : Type} (x : Option α) (f : α → Option β) : Option β :=
  match x with
  | none => none
  | some a => f a
/-! ### memory -/
inductive AObj where
  | cells (cs : List Value) (es : Nat) (sp : Bool)
  | map (es : List MapEntry) (clock : Nat)
  | dead
structure St where
  heap : Tree AObj
  next : Nat

def St.push (s : St) (o : AObj) : St := ⟨s.heap.set s.next o, s.next + 1⟩
def St.put (s : St) (b : Nat) (o : AObj) : St := ⟨s.heap.set b o, s.next⟩

def consO (x : Value) (l : Option (List Value)) : Option (List Value) :=
  match l with
  | none => none
  | some r => some (x :: r)
def takeN : Nat → List Value → Option (List Value)
  | 0, _ => some []
  | _ + 1, [] => none
  | n + 1, x :: l => consO x (takeN n l)
/-- written at the head -/
def writeH : List Value → List Value → Option (List Value)
  | [], cs => some cs
  | _ :: _, [] => none
  | v :: vs, _ :: cs => consO v (writeH vs cs)
def writeL : Nat → List Value → List Value → Option (List Value)
  | 0, cs, vs => writeH vs cs
  | _ + 1, [], _ => none
  | off + 1, c :: cs, vs => consO c (writeL off cs vs)
def objCells {α : Type} (x : Option AObj) (f : List Value → Nat → Bool → Option α) : Option α :=
  match x with
  | some (.cells cs es sp) => f cs es sp
  | _ => none
def St.read (s : St) (b off n : Nat) : Option (List Value) := objCells (s.heap.get b) fun cs _ _ => takeN n (cs.drop off)
def St.write (s : St) (b off : Nat) (vs : List Value) : Option St :=
  cond (vs.all one) (objCells (s.heap.get b) fun cs es sp => obnd (writeL off cs vs) fun r => some (s.put b (.cells r es sp))) none

/-! ### tables -/
structure Tab where
  fn : Nat → Option Func
  ext : Nat → Option (List Value → Option Value)
  ty : Nat → Option TypeDesc
  info : Nat → Option TypeInfo

def Tab.size (T : Tab) (t : Nat) : Option Nat := obnd (T.info t) fun i => some i.size
def ifPlain (z : Value) : Option Value := cond (plain z) (some z) none
def Tab.zero (T : Tab) (t : Nat) : Option Value := obnd (T.info t) fun i => obnd i.zero ifPlain
def aggTy (d : TypeDesc) : Bool :=
  match d with
  | .struct _ => true
  | .array _ _ => true
  | _ => false
def Tab.isAgg (T : Tab) (t : Nat) : Option Bool := obnd (T.ty t) fun d => some (aggTy d)

/-! ### operations -/
inductive AR where
  | val (v : Value) (s : St)
  | skip (s : St)
  | call (f : FuncId) (args : List Value) (s : St)
def retV (s : St) (v : Value) : Option AR := some (.val v s)
def retS (s : St) : Option AR := some (.skip s)

def orUndef (x : Option Value) : Option Value :=
  match x with
  | some v => some v
  | none => some undef
def aOpd (e : Tree Value) (x : Operand) : Option Value :=
  match x with
  | .tmp t => orUndef (e.get t)
  | .const v => ifPlain v
  | .func f => some (.func (.func f) #[] #[])
  | .global _ => none
def aOpds (e : Tree Value) : List Operand → Option (List Value)
  | [] => some []
  | x :: l => obnd (aOpd e x) fun v => consO v (aOpds e l)
/-- an address -/
def onPtr {α : Type} (a : Value) (f : Nat → Nat → Option α) : Option α :=
  match a with
  | .pointer (some ⟨b, o, none⟩) => f b o
  | _ => none
def onAddr {α : Type} (a : Option Addr) (f : Nat → Nat → Option α) : Option α :=
  match a with
  | some ⟨b, o, none⟩ => f b o
  | _ => none
def onNat {α : Type} (a : Value) (f : Nat → Option α) : Option α :=
  match a with
  | .int _ (.ofNat n) => f n
  | _ => none
def natOf (a : Value) : Option Nat := onNat a some
def head1 (l : List Value) : Option Value :=
  match l with
  | [v] => some v
  | _ => none
def onSlice {α : Type} (a : Value) (f : Option Addr → Nat → Nat → Option α) : Option α :=
  match a with
  | .slice b n c => f b n c
  | _ => none
def onBool {α : Type} (a : Value) (f : Bool → Option α) : Option α :=
  match a with
  | .bool b => f b
  | _ => none

def load1 (s : St) (b o : Nat) : Option Value := obnd (s.read b o 1) head1
def loadN (T : Tab) (t : Nat) (s : St) (b o : Nat) : Option Value := obnd (T.size t) fun n => obnd (s.read b o n) fun l => some (.agg l.toArray)
def aLoad (T : Tab) (t : Nat) (s : St) (a : Value) : Option Value := obnd (T.isAgg t) fun g => onPtr a (cond g (loadN T t s) (load1 s))
def aStore (T : Tab) (t : Nat) (s : St) (v : Value) (a : Value) : Option St :=
  onPtr a fun b o => obnd (T.size t) fun n => cond (Nat.beq (cellsL v).length n) (s.write b o (cellsL v)) none

def placesOf (T : Tab) : List Field → Option (List (Nat × Nat))
  | [] => some []
  | f :: l => obnd (T.size f.type) fun n => obnd (placesOf T l) fun r => some ((f.offset, n) :: r)
def fill1 (cs : List Value) (v : Value) (p : Nat × Nat) : Option (List Value) := cond (Nat.beq (cellsL v).length p.2) (writeL p.1 cs (cellsL v)) none
def aFill (place : Nat → Option (Nat × Nat)) : List (Nat × Value) → List Value → Option (List Value)
  | [], cs => some cs
  | (i, v) :: rest, cs => obnd (place i) fun p => obnd (fill1 cs v p) (aFill place rest)
def aParts (e : Tree Value) : List (Nat × Operand) → Option (List (Nat × Value))
  | [] => some []
  | (i, x) :: l => obnd (aOpd e x) fun v => obnd (aParts e l) fun r => some ((i, v) :: r)
def buildStruct (T : Tab) (fs : List Field) (z : Value) (ps : List (Nat × Value)) : Option Value :=
  obnd (placesOf T fs) fun pl => obnd (aFill (fun i => pl[i]?) ps (cellsL z)) fun r => some (.agg r.toArray)
def buildArr (T : Tab) (el : Nat) (z : Value) (ps : List (Nat × Value)) : Option Value :=
  obnd (T.size el) fun n => obnd (aFill (fun i => some (i * n, n)) ps (cellsL z)) fun r => some (.agg r.toArray)
def buildAs (T : Tab) (d : TypeDesc) : Value → List (Nat × Value) → Option Value :=
  match d with
  | .struct fs => buildStruct T fs.toList
  | .array _ el => buildArr T el
  | _ => fun _ _ => none
def aBuild (T : Tab) (t : Nat) (ps : List (Nat × Value)) : Option Value := obnd (T.ty t) fun d => obnd (T.zero t) fun z => buildAs T d z ps
def repL (z : List Value) : Nat → List Value
  | 0 => []
  | n + 1 => z ++ repL z n
def elemOfS (d : TypeDesc) : Option Nat :=
  match d with
  | .slice el => some el
  | _ => none
def newSlice (s : St) (len cap : Nat) (cs : List Value) (size : Nat) : AR := .val (.slice (some ⟨s.next, 0, none⟩) len cap) (s.push (.cells cs size false))
def bslice1 (ps : List (Nat × Value)) (len : Nat) (s : St) (z : Value) (n : Nat) : Option AR :=
  cond (Nat.ble (len * n) 16777216 && (Nat.beq (cellsL z).length n && (Nat.ble 1 n && Nat.ble len 1048576)))
    (obnd (aFill (fun i => some (i * n, n)) ps (repL (cellsL z) len)) fun r => some (newSlice s len len r n)) none
def partsOne : List (Nat × Value) → Bool
  | [] => true
  | (_, v) :: l => (cellsL v).all one && partsOne l
def aBuildSlice (T : Tab) (t : Nat) (len : Nat) (s : St) (ps : List (Nat × Value)) : Option AR :=
  cond (partsOne ps) (obnd (T.ty t) fun d => obnd (elemOfS d) fun el => obnd (T.zero el) fun z => obnd (T.size el) (bslice1 ps len s z)) none
def mslice1 (n m : Nat) (s : St) (z : Value) (i : TypeInfo) : Option AR :=
  cond (Nat.ble n m && (Nat.ble (m * i.bytes) 140737488355328 && (Nat.ble m 1048576 && (Nat.beq (cellsL z).length i.size && Nat.ble 1 i.size))))
    (some (newSlice s n m (repL (cellsL z) m) i.size)) none
def aMakeSlice (T : Tab) (t : Nat) (s : St) (l c : Value) : Option AR :=
  onNat l fun n => onNat c fun m => obnd (T.ty t) fun d => obnd (elemOfS d) fun el => obnd (T.zero el) fun z => obnd (T.info el) (mslice1 n m s z)

/-- where a part begins: a part of no room stays where it was -/
def partAddr (size l m : Nat) (a : Option Addr) : Option Addr :=
  match a with
  | none => none
  | some ⟨b, o, _⟩ => some ⟨b, cond (Nat.beq m l) o (o + l * size), none⟩
def moveAddr (size l : Nat) (a : Option Addr) : Option Addr :=
  match a with
  | none => none
  | some ⟨b, o, _⟩ => some ⟨b, o + l * size, none⟩
/-- the bounds l, h, m in 'room' -/
def slKnown (size room : Nat) (a : Option Addr) (l h m : Nat) : Option Value :=
  cond (Nat.ble m room && (Nat.ble h m && (Nat.ble l h && Nat.blt m OPEN))) (some (.slice (partAddr size l m a) (h - l) (m - l))) none
def slOpen (size room : Nat) (a : Option Addr) (l h : Nat) : Option Value :=
  cond (Nat.ble h room && Nat.ble l h) (some (.slice (moveAddr size l a) (h - l) (OPEN + (room - l)))) none
def orN (x : Option Nat) (d : Nat) : Nat :=
  match x with
  | some n => n
  | none => d
def isS {α : Type} (x : Option α) : Bool :=
  match x with
  | some _ => true
  | none => false
def aSliceOf (size : Nat) (lo hi mx : Option Nat) (a : Option Addr) (len cap : Nat) : Option Value :=
  cond (Nat.blt cap OPEN) (slKnown size cap a (orN lo 0) (orN hi len) (orN mx cap))
    (cond (isS a) (cond (isS mx) (slKnown size (cap - OPEN) a (orN lo 0) (orN hi len) (orN mx 0)) (slOpen size (cap - OPEN) a (orN lo 0) (orN hi len))) none)
def slStr (l h : Nat) (y : ByteArray) : Option Value := cond (Nat.ble h y.size && Nat.ble l h) (some (.string (y.extract l h))) none
def onStr {α : Type} (v : Value) (f : ByteArray → Option α) : Option α :=
  match v with
  | .string y => f y
  | _ => none
def optNat (e : Tree Value) (x : Option Operand) : Option (Option Nat) :=
  match x with
  | none => some none
  | some x => obnd (aOpd e x) fun v => onNat v fun n => some (some n)
def sliceSl (T : Tab) (el : Nat) (lo hi mx : Option Nat) (x : Value) : Option Value := obnd (T.size el) fun n => onSlice x (aSliceOf n lo hi mx)
def sliceArr (T : Tab) (k el : Nat) (lo hi mx : Option Nat) (x : Value) : Option Value :=
  obnd (T.size el) fun n => cond (Nat.blt k OPEN) (onPtr x fun b o => aSliceOf n lo hi mx (some ⟨b, o, none⟩) k k) none
def sliceStr (lo hi mx : Option Nat) (x : Value) : Option Value := cond (isS mx) none (onStr x fun y => slStr (orN lo 0) (orN hi y.size) y)
def sliceAs (T : Tab) (d : TypeDesc) : Option Nat → Option Nat → Option Nat → Value → Option Value :=
  match d with
  | .slice el => sliceSl T el
  | .string => sliceStr
  | .array k el => sliceArr T k el
  | _ => fun _ _ _ _ => none
def aSlice (T : Tab) (t : Nat) (x : Value) (lo hi mx : Option Nat) : Option Value :=
  cond (isS mx && !isS hi) none (obnd (T.ty t) fun d => sliceAs T d lo hi mx x)

def ixArr (T : Tab) (k el : Nat) (i : Nat) (x : Value) : Option Value :=
  cond (Nat.blt i k) (obnd (T.size el) fun n => onPtr x fun b o => some (.pointer (some ⟨b, o + i * n, none⟩))) none
def ixSl (T : Tab) (el : Nat) (i : Nat) (x : Value) : Option Value :=
  obnd (T.size el) fun n => onSlice x fun a len _ => cond (Nat.blt i len) (onAddr a fun b o => some (.pointer (some ⟨b, o + i * n, none⟩))) none
def ixAs (T : Tab) (d : TypeDesc) : Nat → Value → Option Value :=
  match d with
  | .array k el => ixArr T k el
  | .slice el => ixSl T el
  | _ => fun _ _ => none
def aIndexAddr (T : Tab) (t : Nat) (x ix : Value) : Option Value := onNat ix fun i => obnd (T.ty t) fun d => ixAs T d i x
def onAgg {α : Type} (v : Value) (f : List Value → Option α) : Option α :=
  match v with
  | .agg cs => f cs.toList
  | _ => none
def nth (l : List Value) (i : Nat) : Option Value := obnd (takeN 1 (l.drop i)) head1
def aPart (T : Tab) (t : Nat) (cs : List Value) (off : Nat) : Option Value :=
  obnd (T.isAgg t) fun g => cond g (obnd (T.size t) fun n => obnd (takeN n (cs.drop off)) fun l => some (.agg l.toArray)) (nth cs off)
def idxArr (T : Tab) (k el : Nat) (i : Nat) (x : Value) : Option Value :=
  cond (Nat.blt i k) (obnd (T.size el) fun n => onAgg x fun cs => aPart T el cs (i * n)) none
def byteAt (i : Nat) (y : ByteArray) : Option Value := obnd (y.data.toList[i]?) fun b => some (.int .u8 (.ofNat b.toNat))
def idxStr (i : Nat) (x : Value) : Option Value := onStr x (byteAt i)
def idxAs (T : Tab) (d : TypeDesc) : Nat → Value → Option Value :=
  match d with
  | .array k el => idxArr T k el
  | .string => idxStr
  | _ => fun _ _ => none
def aIndex (T : Tab) (t : Nat) (x ix : Value) : Option Value := onNat ix fun i => obnd (T.ty t) fun d => idxAs T d i x
def fieldsOf (d : TypeDesc) : Option (List Field) :=
  match d with
  | .struct fs => some fs.toList
  | _ => none
def aFieldAddr (T : Tab) (t : Nat) (f : Nat) (x : Value) : Option Value :=
  obnd (T.ty t) fun d => obnd (fieldsOf d) fun fs => obnd (fs[f]?) fun fd => obnd (T.size fd.type) fun n => cond (Nat.beq n 0) none
    (onPtr x fun b o => some (.pointer (some ⟨b, o + fd.offset, none⟩)))
def aField (T : Tab) (t : Nat) (f : Nat) (x : Value) : Option Value :=
  obnd (T.ty t) fun d => obnd (fieldsOf d) fun fs => obnd (fs[f]?) fun fd => onAgg x fun cs => aPart T fd.type cs fd.offset

def bytesOfL : List UInt8 → List Value
  | [] => []
  | b :: l => .int .u8 (.ofNat b.toNat) :: bytesOfL l
/-- the first cells of a slice or a string -/
def aCells (size n : Nat) (s : St) (x : Value) : Option (List Value) :=
  cond (Nat.beq n 0) (some []) (match x with
    | .slice a _ _ => onAddr a fun b o => s.read b o (n * size)
    | .string y => takeN n (bytesOfL y.data.toList)
    | _ => none)
def aLen (x : Value) : Option Nat :=
  match x with
  | .slice _ n _ => some n
  | .string y => some y.size
  | _ => none
def capOf (c : Nat) : Nat := cond (Nat.blt c OPEN) c (c - OPEN)
/-- how many are appended; and whether they are zeros (append(s, make([]E, n)...)) -/
def aGrown (ud : TypeDesc) : Value → Option (Nat × Bool) :=
  match ud with
  | .int _ => fun x => onNat x fun n => cond (Nat.ble n 1048576) (some (n, true)) none
  | _ => fun x => obnd (aLen x) fun n => some (n, false)
def aFits (base : Option Addr) (size sLen sCap n : Nat) (new : List Value) (s : St) : Option AR :=
  onAddr base fun b o => obnd (s.write b (o + sLen * size) new) fun s' => some (.val (.slice base (sLen + n) sCap) s')
def aNew (size need : Nat) (cs : List Value) (s : St) : AR := .val (.slice (some ⟨s.next, 0, none⟩) need (OPEN + need)) (s.push (.cells cs size true))
def aGrowO (base : Option Addr) (size sLen sCap n : Nat) (all : List Value) (s : St) : Option AR :=
  onAddr base fun b o => objCells (s.heap.get b) fun cs es sp =>
    cond (sp && (Nat.beq es size && Nat.beq (o + (sCap - OPEN) * size) cs.length))
      (some (aNew size (sLen + n) all (s.put b (cond (Nat.beq (sCap - OPEN) 0) (.cells cs es false) .dead)))) none
def aGrow (base : Option Addr) (size sLen sCap n : Nat) (new : List Value) (s : St) (old : List Value) : Option AR :=
  cond (old.all one) (cond (Nat.blt sCap OPEN) (some (aNew size (sLen + n) (old ++ new) s)) (aGrowO base size sLen sCap n (old ++ new) s)) none
def aAppendL (base : Option Addr) (size sLen sCap n : Nat) (fits : Bool) (s : St) (new : List Value) : Option AR :=
  cond (Nat.beq n 0)
    (cond (Nat.ble sLen (capOf sCap)) (some (.val (.slice base sLen sCap) s)) none)
    (cond (Nat.ble (sLen + n) (capOf sCap)) (aFits base size sLen sCap n new s)
      (cond (fits && (Nat.beq new.length (n * size) && new.all one)) (obnd (aCells size sLen s (.slice base sLen sCap)) (aGrow base size sLen sCap n new s)) none))
def newCells (i : TypeInfo) (z : Value) (n : Nat) (zeros : Bool) (s : St) (x : Value) : Option (List Value) :=
  cond zeros (some (repL (cellsL z) n)) (aCells i.size n s x)
def aAppend2 (i : TypeInfo) (z : Value) (base : Option Addr) (sLen sCap : Nat) (x : Value) (s : St) (nz : Nat × Bool) : Option AR :=
  cond (Nat.beq (cellsL z).length i.size && (Nat.ble 1 i.size && (Nat.ble 1 i.bytes && Nat.ble ((sLen + nz.1) * i.bytes) 140737488355328)))
    (obnd (newCells i z nz.1 nz.2 s x) (aAppendL base i.size sLen sCap nz.1 (Nat.ble ((4 * (sLen + nz.1) + 1000) * i.bytes) 140737488355328) s)) none
def aAppend1 (T : Tab) (t u : Nat) (s : St) (y x : Value) : Option AR :=
  onSlice y fun base sLen sCap => obnd (T.ty t) fun d => obnd (elemOfS d) fun el => obnd (T.ty u) fun ud =>
    obnd (T.info el) fun i => obnd (T.zero el) fun z => obnd (aGrown ud x) (aAppend2 i z base sLen sCap x s)
def on2 {α β : Type} (l : List α) (f : α → α → Option β) : Option β :=
  match l with
  | a :: b :: _ => f a b
  | _ => none
def on1 {α β : Type} (l : List α) (f : α → Option β) : Option β :=
  match l with
  | a :: _ => f a
  | _ => none
def aAppend (T : Tab) (ts : List Nat) (args : List Value) (s : St) : Option AR := on2 ts fun t u => on2 args (aAppend1 T t u s)
def aCopy2 (s : St) (base : Option Addr) (n : Nat) (cs : List Value) : Option AR :=
  cond (Nat.beq n 0) (some (.val (.int .i64 0) s)) (onAddr base fun b o => obnd (s.write b o cs) fun s' => some (.val (.int .i64 (.ofNat n)) s'))
def aCopy1 (T : Tab) (t : Nat) (s : St) (d x : Value) : Option AR :=
  onSlice d fun base dLen _ => obnd (aLen x) fun m => obnd (T.ty t) fun ty => obnd (elemOfS ty) fun el => obnd (T.size el) fun size =>
    obnd (aCells size (Nat.min m dLen) s x) (aCopy2 s base (Nat.min m dLen))
def aCopy (T : Tab) (ts : List Nat) (args : List Value) (s : St) : Option AR := on1 ts fun t => on2 args (aCopy1 T t s)
def aClear2 (s : St) (a : Option Addr) (n : Nat) (z : Value) : Option AR :=
  onAddr a fun b o => obnd (s.write b o (repL (cellsL z) n)) fun s' => some (.val (.tuple #[]) s')
def aClear1 (T : Tab) (s : St) (el : Nat) (a : Option Addr) (n _c : Nat) : Option AR :=
  cond (Nat.beq n 0 || !isS a) (some (.val (.tuple #[]) s)) (obnd (T.zero el) (aClear2 s a n))
def aClear (T : Tab) (ts : List Nat) (args : List Value) (s : St) : Option AR :=
  on1 ts fun t => on1 args fun x => obnd (T.ty t) fun d => obnd (elemOfS d) fun el => onSlice x (aClear1 T s el)
def retN (s : St) (n : Nat) : Option AR := some (.val (.int .i64 (.ofNat n)) s)
def lenMap (s : St) (x : Value) : Option AR :=
  match x with
  | .map none => retN s 0
  | .map (some r) => match s.heap.get r with
    | some (.map es _) => retN s es.length
    | _ => none
  | _ => none
def lenAs (s : St) (d : TypeDesc) : Value → Option AR :=
  match d with
  | .string => fun x => onStr x fun y => retN s y.size
  | .array n _ => fun _ => retN s n
  | .slice _ => fun x => onSlice x fun _ n _ => retN s n
  | .map _ _ => lenMap s
  | _ => fun _ => none
def aLenOp (T : Tab) (ts : List Nat) (args : List Value) (s : St) : Option AR := on1 ts fun t => on1 args fun x => obnd (T.ty t) fun d => lenAs s d x
def capAs (s : St) (d : TypeDesc) : Value → Option AR :=
  match d with
  | .slice _ => fun x => onSlice x fun _ _ c => cond (Nat.blt c OPEN) (retN s c) none
  | _ => fun _ => none
def aCapOp (T : Tab) (ts : List Nat) (args : List Value) (s : St) : Option AR := on1 ts fun t => on1 args fun x => obnd (T.ty t) fun d => capAs s d x
def pureRun {α : Type} (x : Sem α) : Option α :=
  match x with
  | .pure a => some a
  | _ => none
def pureV (s : St) (x : Sem Value) : Option AR := obnd (pureRun x) fun v => cond (plain1 v) (some (.val v s)) none
def pureArgs (f : Array Value → Sem Value) (_ : Tab) (_ : List Nat) (args : List Value) (s : St) : Option AR := cond (args.all plain1) (pureV s (f args.toArray)) none
def noBuiltin (_ : Tab) (_ : List Nat) (_ : List Value) (_ : St) : Option AR := none
def aBuiltin (b : Builtin) : Tab → List Nat → List Value → St → Option AR :=
  match b with
  | .append => aAppend
  | .copy => aCopy
  | .clear => aClear
  | .len => aLenOp
  | .cap => aCapOp
  | .max => pureArgs (Builtin.max_ #[] 0)
  | .min => pureArgs (Builtin.min_ #[] 0)
  | .complex => pureArgs (Builtin.complex_ #[] 0)
  | .real => pureArgs (Builtin.real_ #[] 0)
  | .imag => pureArgs (Builtin.imag_ #[] 0)
  | _ => noBuiltin
def eqPtr (x y : Value) : Option Bool :=
  match x, y with
  | .pointer none, .pointer b => some b.isNone
  | .pointer (some _), .pointer none => some false
  | _, _ => none
def eqSl (x y : Value) : Option Bool :=
  match x, y with
  | .slice none _ _, .slice b _ _ => some b.isNone
  | .slice (some _) _ _, .slice none _ _ => some false
  | _, _ => none
def eqMap (x y : Value) : Option Bool :=
  match x, y with
  | .map none, .map b => some b.isNone
  | .map (some _), .map none => some false
  | _, _ => none
def eqFn (x y : Value) : Option Bool :=
  match x, y with
  | .nilFunc, .nilFunc => some true
  | .nilFunc, .func _ _ _ => some false
  | .func _ _ _, .nilFunc => some false
  | _, _ => none
def eqBool (x y : Value) : Option Bool :=
  match x, y with
  | .bool a, .bool b => some (a == b)
  | _, _ => none
def eqAs (d : TypeDesc) : Value → Value → Option Bool :=
  match d with
  | .bool => eqBool
  | .pointer _ => eqPtr
  | .slice _ => eqSl
  | .map _ _ => eqMap
  | .func _ _ _ => eqFn
  | _ => fun _ _ => none
def aEq (T : Tab) (t : Nat) (x y : Value) : Option Bool := obnd (T.ty t) fun d => eqAs d x y
def notB (b : Bool) : Option Bool := some !b
def binOther (op : BinOp) : Tab → Nat → Value → Value → Option Bool :=
  match op with
  | .eql => aEq
  | .neq => fun T t x y => obnd (aEq T t x y) notB
  | _ => fun _ _ _ _ => none
def binInt (op : BinOp) (k : IntKind) (a : Int) (s : St) (y : Value) : Option AR :=
  match y with
  | .int k' b => cond (keq k k' || isShift op) (obnd (aInt op k a b) (retV s)) none
  | _ => none
def binPure (op : BinOp) (t : Nat) (x : Value) (s : St) (y : Value) : Option AR := cond (plain1 y) (pureV s (binOp op t x y)) none
def binVal (T : Tab) (op : BinOp) (t : Nat) (x : Value) (s : St) (y : Value) : Option AR := obnd (binOther op T t x y) fun b => some (.val (.bool b) s)
def aBin (T : Tab) (op : BinOp) (t : Nat) (x : Value) : St → Value → Option AR :=
  match x with
  | .int k a => binInt op k a
  | .float k a => binPure op t (.float k a)
  | .complex k a b => binPure op t (.complex k a b)
  | .string a => binPure op t (.string a)
  | x => binVal T op t x
def byteL : List Value → Option (List UInt8)
  | [] => some []
  | v :: l => match v with
    | .int .u8 (.ofNat n) => obnd (byteL l) fun r => some (UInt8.ofNat n :: r)
    | _ => none
def convInt (k : IntKind) (s : St) (x : Value) : Option AR :=
  match x with
  | .int _ n => some (.val (.int k (fwrap k n)) s)
  | _ => none
def convFloat (k : FloatKind) (s : St) (x : Value) : Option AR :=
  match x with
  | .int _ n => pureV s (Conv.intToFloat k n)
  | _ => none
def isByte (d : TypeDesc) : Bool :=
  match d with
  | .int .u8 => true
  | _ => false
def bytesStr (T : Tab) (el : Nat) (s : St) (x : Value) : Option AR :=
  obnd (T.ty el) fun d => cond (isByte d) (onSlice x fun a n c => obnd (aCells 1 n s (.slice a n c)) fun l => obnd (byteL l) fun bs => some (.val (.string ⟨bs.toArray⟩) s)) none
def convStr (T : Tab) (sd : TypeDesc) : St → Value → Option AR :=
  match sd with
  | .slice el => bytesStr T el
  | .string => fun s x => onStr x fun y => some (.val (.string y) s)
  | _ => fun _ _ => none
def convAs (T : Tab) (sd dd : TypeDesc) : St → Value → Option AR :=
  match dd with
  | .int k => convInt k
  | .float k => convFloat k
  | .string => convStr T sd
  | _ => fun _ _ => none
def aConvert (T : Tab) (src dst : Nat) (s : St) (x : Value) : Option AR := obnd (T.ty src) fun sd => obnd (T.ty dst) fun dd => convAs T sd dd s x
def callExt (x : Option (List Value → Option Value)) (g : FuncId) (s : St) (args : List Value) : Option AR :=
  match x with
  | some h => obnd (h args) (retV s)
  | none => some (.call g args s)
def aCallV (T : Tab) (s : St) (args : List Value) (f : Value) : Option AR :=
  match f with
  | .func (.func g) first captured => callExt (T.ext g) g s (first.toList ++ (args ++ captured.toList))
  | _ => none
def pickV (k : Bool) (x y : Value) : Value := cond k x y

abbrev OpF := Tab → Tree Value → St → Option AR
def opMove (x : Operand) : OpF := fun _ e s => obnd (aOpd e x) (retV s)
def opPick (c a b : Operand) : OpF := fun _ e s => obnd (aOpd e c) fun k => obnd (aOpd e a) fun x => obnd (aOpd e b) fun y => onBool k fun k => retV s (cond k x y)
def opAlloc (el : Nat) : OpF := fun T _ s => obnd (T.zero el) fun z => some (.val (.pointer (some ⟨s.next, 0, none⟩)) (s.push (.cells (cellsL z) 1 false)))
def opBox (x : Operand) : OpF := fun _ e s => obnd (aOpd e x) fun v => cond ((cellsL v).all one) (some (.val (.pointer (some ⟨s.next, 0, none⟩)) (s.push (.cells (cellsL v) 1 false)))) none
def opBuild (t : Nat) (ps : Array (Nat × Operand)) : OpF := fun T e s => obnd (aParts e ps.toList) fun l => obnd (aBuild T t l) (retV s)
def opBuildSlice (t n : Nat) (ps : Array (Nat × Operand)) : OpF := fun T e s => obnd (aParts e ps.toList) (aBuildSlice T t n s)
def opLoad (t : Nat) (a : Operand) : OpF := fun T e s => obnd (aOpd e a) fun p => obnd (aLoad T t s p) (retV s)
def opStore (t : Nat) (a x : Operand) : OpF := fun T e s => obnd (aOpd e a) fun p => obnd (aOpd e x) fun v => obnd (aStore T t s v p) retS
def checked (s : St) (v : Value) : Option AR :=
  match v with
  | .pointer (some a) => retV s (.pointer (some a))
  | .func (.func f) a b => retV s (.func (.func f) a b)
  | _ => none
def opNilCheck (x : Operand) : OpF := fun _ e s => obnd (aOpd e x) (checked s)
def opBin (op : BinOp) (t : Nat) (x y : Operand) : OpF := fun T e s => obnd (aOpd e x) fun a => obnd (aOpd e y) (aBin T op t a s)
def negM (a : Int) (m : Nat) : Nat :=
  match a with
  | .ofNat a => (m - a % m) % m
  | .negSucc a => (a + 1) % m
def unInt (op : UnOp) (k : IntKind) (a : Int) (s : St) : Option AR :=
  match op with
  | .neg => some (.val (.int k (fwrapR (signedK k) (modulus k) (negM a (modulus k)))) s)
  | op => pureV s (Op.unary op (.int k a))
def aUn (op : UnOp) (s : St) (v : Value) : Option AR :=
  match v with
  | .int k a => unInt op k a s
  | v => cond (plain1 v) (pureV s (Op.unary op v)) none
def opUn (op : UnOp) (x : Operand) : OpF := fun _ e s => obnd (aOpd e x) (aUn op s)
def opConvert (a b : Nat) (x : Operand) : OpF := fun T e s => obnd (aOpd e x) (aConvert T a b s)
def opMakeFunc (fn : Fn) (first captured : Array Operand) : OpF :=
  match fn with
  | .func f => fun _ e s => obnd (aOpds e first.toList) fun a => obnd (aOpds e captured.toList) fun b => retV s (.func (.func f) a.toArray b.toArray)
  | _ => fun _ _ _ => none
def opMakeMap (r : Option Operand) : OpF :=
  match r with
  | none => fun _ _ s => some (.val (.map (some s.next)) (s.push (.map [] 0)))
  | some _ => fun _ _ _ => none
def opMakeSlice (t : Nat) (l c : Operand) : OpF := fun T e s => obnd (aOpd e l) fun a => obnd (aOpd e c) (aMakeSlice T t s a)
def opSlice (t : Nat) (x : Operand) (lo hi mx : Option Operand) : OpF :=
  fun T e s => obnd (aOpd e x) fun v => obnd (optNat e lo) fun l => obnd (optNat e hi) fun h => obnd (optNat e mx) fun m => obnd (aSlice T t v l h m) (retV s)
def opFieldAddr (t : Nat) (x : Operand) (f : Nat) : OpF := fun T e s => obnd (aOpd e x) fun v => obnd (aFieldAddr T t f v) (retV s)
def opField (t : Nat) (x : Operand) (f : Nat) : OpF := fun T e s => obnd (aOpd e x) fun v => obnd (aField T t f v) (retV s)
def opIndexAddr (t : Nat) (x i : Operand) : OpF := fun T e s => obnd (aOpd e x) fun v => obnd (aOpd e i) fun j => obnd (aIndexAddr T t v j) (retV s)
def opIndex (t : Nat) (x i : Operand) : OpF := fun T e s => obnd (aOpd e x) fun v => obnd (aOpd e i) fun j => obnd (aIndex T t v j) (retV s)
def tupleL (v : Value) : Option (List Value) :=
  match v with
  | .tuple vs => some vs.toList
  | _ => none
def opExtract (x : Operand) (i : Nat) : OpF := fun _ e s => obnd (aOpd e x) fun v => obnd (tupleL v) fun l => obnd (nth l i) (retV s)
def opCallV (f : Operand) (args : Array Operand) : OpF := fun T e s => obnd (aOpds e args.toList) fun l => obnd (aOpd e f) (aCallV T s l)
def opCallB (b : Builtin) (args : Array Operand) (ts : Array TypeId) : OpF := fun T e s => obnd (aOpds e args.toList) fun l => aBuiltin b T ts.toList l s
def noOp : OpF := fun _ _ _ => none
def opCallee (c : Callee) : Array Operand → Array TypeId → OpF :=
  match c with
  | .value f => fun args _ => opCallV f args
  | .builtin b => opCallB b
  | .invoke _ _ => fun _ _ => noOp
def opCall (c : Call) : OpF := opCallee c.callee c.args c.argTypes
def aOp (o : Op) : OpF :=
  match o with
  | .move x => opMove x
  | .assign x => opMove x
  | .pick c a b => opPick c a b
  | .alloc el => opAlloc el
  | .box _ x => opBox x
  | .build t ps => opBuild t ps
  | .buildSlice t n ps => opBuildSlice t n ps
  | .load t a => opLoad t a
  | .store t a x => opStore t a x
  | .nilCheck x => opNilCheck x
  | .binOp op t x y _ => opBin op t x y
  | .unOp op _ x => opUn op x
  | .convert a b x => opConvert a b x
  | .makeFunc fn first captured => opMakeFunc fn first captured
  | .makeMap _ r => opMakeMap r
  | .makeSlice t l c => opMakeSlice t l c
  | .slice t x lo hi mx => opSlice t x lo hi mx
  | .fieldAddr t x f => opFieldAddr t x f
  | .field t x f => opField t x f
  | .indexAddr t x i => opIndexAddr t x i
  | .index t x i => opIndex t x i
  | .extract x i => opExtract x i
  | .call c => opCall c
  | _ => noOp
end
end Go.Proofs.Ytijfafacddefhaa.Ab
