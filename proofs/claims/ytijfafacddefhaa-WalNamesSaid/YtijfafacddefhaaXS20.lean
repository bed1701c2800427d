/- The short run is sound over the model: a part of the proof. -/
import Derived.Test.YtijfafacddefhaaXS19
namespace Go.Proofs.Ytijfafacddefhaa.Ab
noncomputable section
open Go.RowKit

/-! ### calls with contracts: what a function comes to, said outright -/
abbrev Sum := List Value → St → Option (Value × St)
def sumOr (x : Option Sum) (args : List Value) (s : St) (k : Unit → Option (Value × St)) : Option (Value × St) :=
  match x with
  | some h => h args s
  | none => k ()
def aCallP (T : Tab) (sums : FuncId → Option Sum) (lf : Nat) : Nat → CallF
  | 0 => fun _ _ _ => none
  | d + 1 => fun f args s => sumOr (sums f) args s fun _ => obnd (T.fn f) (aEnter T (aCallP T sums lf d) lf args s)
def SumsOk (P : Program) (B0 : Nat) (w0 : World) (sums : FuncId → Option Sum) : Prop :=
  ∀ f h, sums f = some h → ∀ args s r, h args s = some r → ∃ call : CallF, CallOk P B0 w0 call ∧ call f args s = some r
section
variable {T : Tab} {P : Program} (hT : T.Ok P) {B0 : Nat} {w0 : World} {sums : FuncId → Option Sum} (hS : SumsOk P B0 w0 sums)
include hT hS
theorem aCallP_sound (lf : Nat) : ∀ d, CallOk P B0 w0 (aCallP T sums lf d)
  | 0 => callOk_none
  | d + 1 => fun f args s v s' h => by
    have h : sumOr (sums f) args s (fun _ => obnd (T.fn f) (aEnter T (aCallP T sums lf d) lf args s)) = some (v, s') := h
    cases hs : sums f with
    | some g =>
      rw [hs] at h
      obtain ⟨call, hc, hf⟩ := hS f g hs args s _ h
      exact hc f args s v s' hf
    | none =>
      rw [hs] at h
      exact enter_ok hT (aCallP_sound lf d) lf f args s v s' h
end
theorem closedP_true {T : Tab} {P : Program} (hT : T.Ok P) {sums : FuncId → Option Sum} (hS : ∀ B0 w0, SumsOk P B0 w0 sums) {lf d : Nat} {f : FuncId} (h : isTrue (aCallP T sums lf d f [] ⟨.leaf, 0⟩) = true) (w : World) :
    Calls P f #[] w fun e w' => e = .returned (.bool true) ∧ Below w.heap.size w w' := by
  obtain ⟨s, hs⟩ := isTrue_some h
  obtain ⟨_, _, hc⟩ := aCallP_sound hT (hS w.heap.size w) lf d f [] _ _ _ hs (fun _ => none) w #[] (inv_start w) .nil
  refine (callsIn_wide.1 (hc Fence.wide 0 free_wide)).mono ?_
  rintro e w' ⟨σ', v', he, _, hI, hv⟩
  cases hv
  exact ⟨he, hI.below⟩

/-! ### the sum of two bytes behind one more byte -/
def crcF (c : Nat) : Nat := Nat.xor ((c / 2 ^ Nat.min 1 16) % 65536) (((Nat.land (33800 % 65536) (((65536 - (Nat.land (c % 65536) (1 % 65536) % 65536) % 65536) % 65536) % 65536)) % 65536) % 65536) % 65536
def crcN (n x : Nat) : Nat := crcF (crcF (crcF (crcF (crcF (crcF (crcF (crcF (Nat.xor (n % 65536) ((x % 65536) % 65536) % 65536))))))))
def crcH : Sum := fun args s =>
  match args with
  | [.int .u16 (.ofNat n), .int .u8 (.ofNat x)] => some (.int .u16 (.ofNat (crcN n x)), s)
  | _ => none
def sumsOf (l : List (Nat × Sum)) (f : FuncId) : Option Sum :=
  match l with
  | [] => none
  | (n, h) :: l => cond (Nat.beq n f) (some h) (sumsOf l f)
theorem sums_ok {P : Program} {B0 : Nat} {w0 : World} : ∀ {l : List (Nat × Sum)}, (∀ p ∈ l, ∀ args s r, p.2 args s = some r → ∃ call : CallF, CallOk P B0 w0 call ∧ call p.1 args s = some r) → SumsOk P B0 w0 (sumsOf l)
  | [], _, f, h, hf => by cases hf
  | (n, g) :: l, hl, f, h, hf => by
    unfold sumsOf at hf
    cases hb : Nat.beq n f with
    | true =>
      rw [hb, cond_true] at hf
      cases Nat.eq_of_beq_eq_true hb
      cases hf
      exact hl (n, _) List.mem_cons_self
    | false =>
      rw [hb, cond_false] at hf
      exact sums_ok (fun p hp => hl p (List.mem_cons_of_mem _ hp)) f h hf
theorem crcH_spec {T : Tab} {f : FuncId} {lf d : Nat} (h : ∀ n x s, aCall T lf d f [.int .u16 (.ofNat n), .int .u8 (.ofNat x)] s = some (.int .u16 (.ofNat (crcN n x)), s)) :
    ∀ args s r, crcH args s = some r → aCall T lf d f args s = some r := by
  intro args s r hr
  unfold crcH at hr
  split at hr
  · cases hr; exact h _ _ _
  · cases hr
end
end Go.Proofs.Ytijfafacddefhaa.Ab
