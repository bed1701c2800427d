/- When a value of the short run stands for a value of the model. -/
import Derived.Test.YtijfafacddefhaaXT1
import GoSem.Step
namespace Go.Proofs.Ytijfafacddefhaa.Ab

/-- where an abstract block lies: block, first cell, and how many elements of spare room it owns beyond what is known of it -/
structure Loc where
  blk : Nat
  off : Nat
  x : Nat

abbrev Inj := Nat → Option Loc

/-- the mark of a capacity of which only a lower bound is known -/
@[irreducible] def OPEN : Nat := 4611686018427387904
theorem OPEN_pos : 0 < OPEN := by unfold OPEN; decide

/-- an abstract value (its addresses name abstract blocks) and a value -/
inductive VRel (σ : Inj) : Value → Value → Prop
  | bool (b : Bool) : VRel σ (.bool b) (.bool b)
  | int (k : IntKind) (n : Int) : VRel σ (.int k n) (.int k n)
  | float (k : FloatKind) (n : Nat) : VRel σ (.float k n) (.float k n)
  | complex (k : FloatKind) (a b : Nat) : VRel σ (.complex k a b) (.complex k a b)
  | string (s : ByteArray) : VRel σ (.string s) (.string s)
  | nilPtr : VRel σ (.pointer none) (.pointer none)
  | nilSlice (n c : Nat) : VRel σ (.slice none n c) (.slice none n c)
  | nilMap : VRel σ (.map none) (.map none)
  | nilFunc : VRel σ .nilFunc .nilFunc
  | nilIface : VRel σ .nilIface .nilIface
  | ptr {b o : Nat} {l : Loc} (h : σ b = some l) : VRel σ (.pointer (some ⟨b, o, none⟩)) (.pointer (some ⟨l.blk, l.off + o, none⟩))
  | slice {b o n c : Nat} {l : Loc} (h : σ b = some l) (hc : c < OPEN) : VRel σ (.slice (some ⟨b, o, none⟩) n c) (.slice (some ⟨l.blk, l.off + o, none⟩) n c)
  | sliceO {b o n c : Nat} {l : Loc} (h : σ b = some l) : VRel σ (.slice (some ⟨b, o, none⟩) n (OPEN + c)) (.slice (some ⟨l.blk, l.off + o, none⟩) n (c + l.x))
  | sliceE {b o : Nat} {l : Loc} (h : σ b = some l) (hx : l.x = 0) (a : Addr) : VRel σ (.slice (some ⟨b, o, none⟩) 0 OPEN) (.slice (some a) 0 0)
  | slice0 (a a' : Addr) : VRel σ (.slice (some a) 0 0) (.slice (some a') 0 0)
  | map {b : Nat} {l : Loc} (h : σ b = some l) : VRel σ (.map (some b)) (.map (some l.blk))
  | func {f : FuncId} {xs xs' ys ys' : Array Value} (h1 : xs.size = xs'.size) (h2 : ys.size = ys'.size)
      (h3 : ∀ (i : Nat) (h : i < xs.size) (h' : i < xs'.size), VRel σ xs[i] xs'[i]) (h4 : ∀ (i : Nat) (h : i < ys.size) (h' : i < ys'.size), VRel σ ys[i] ys'[i]) :
      VRel σ (.func (.func f) xs ys) (.func (.func f) xs' ys')
  | yield {b : Nat} {l : Loc} (h : σ b = some l) : VRel σ (.func (.yield b) #[] #[]) (.func (.yield l.blk) #[] #[])
  | iface (t : TypeId) {v v' : Value} (h : VRel σ v v') : VRel σ (.iface t v) (.iface t v')
  | agg {xs xs' : Array Value} (h1 : xs.size = xs'.size) (h3 : ∀ (i : Nat) (h : i < xs.size) (h' : i < xs'.size), VRel σ xs[i] xs'[i]) : VRel σ (.agg xs) (.agg xs')
  | tuple {xs xs' : Array Value} (h1 : xs.size = xs'.size) (h3 : ∀ (i : Nat) (h : i < xs.size) (h' : i < xs'.size), VRel σ xs[i] xs'[i]) : VRel σ (.tuple xs) (.tuple xs')

def Inj.le (σ τ : Inj) : Prop := ∀ b l, σ b = some l → τ b = some l

theorem VRel.mono {σ τ : Inj} (h : σ.le τ) {v v' : Value} (r : VRel σ v v') : VRel τ v v' := by
  induction r with
  | bool b => exact .bool b
  | int k n => exact .int k n
  | float k n => exact .float k n
  | complex k a b => exact .complex k a b
  | string s => exact .string s
  | nilPtr => exact .nilPtr
  | nilSlice n c => exact .nilSlice n c
  | nilMap => exact .nilMap
  | nilFunc => exact .nilFunc
  | nilIface => exact .nilIface
  | ptr hb => exact .ptr (h _ _ hb)
  | slice hb hc => exact .slice (h _ _ hb) hc
  | sliceO hb => exact .sliceO (h _ _ hb)
  | sliceE hb hx a => exact .sliceE (h _ _ hb) hx a
  | slice0 a a' => exact .slice0 a a'
  | map hb => exact .map (h _ _ hb)
  | func h1 h2 _ _ i3 i4 => exact .func h1 h2 i3 i4
  | yield hb => exact .yield (h _ _ hb)
  | iface t _ ih => exact .iface t ih
  | agg h1 _ ih => exact .agg h1 ih
  | tuple h1 _ ih => exact .tuple h1 ih

end Go.Proofs.Ytijfafacddefhaa.Ab
