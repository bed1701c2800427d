/- What house.New says at every world that can be: run by the kernel at each number of clients and frames, the other numbers known by their names alone; no condition. -/
import Derived.Test.YtpgjilakcepilaaGreatXTab
namespace Go.Proofs.YtpgjilakcepilaaGreat.alive
open Ab
set_option linter.unusedSectionVars false
variable [Tok]
def newArgs (c f : Nat) : List Value := [.agg #[.int .i64 (.ofNat c), .int .i64 (.ofNat f), .chan (some 10), .chan (some 11), .chan (some 12)]]
def isNew (r : Option (Value × St)) : Bool :=
  match r with
  | some (.tuple xs, _) => (match xs.toList with
    | [_, .int .i64 (.ofNat n)] => Nat.beq n 0
    | _ => false)
  | _ => false
theorem n11 : isNew (aCallP tab (sumsOf []) 1000000 200 19 (newArgs 1 1) ⟨.leaf, 0⟩) = true := by kernel_rfl
theorem n12 : isNew (aCallP tab (sumsOf []) 1000000 200 19 (newArgs 1 2) ⟨.leaf, 0⟩) = true := by kernel_rfl
theorem n13 : isNew (aCallP tab (sumsOf []) 1000000 200 19 (newArgs 1 3) ⟨.leaf, 0⟩) = true := by kernel_rfl
theorem n14 : isNew (aCallP tab (sumsOf []) 1000000 200 19 (newArgs 1 4) ⟨.leaf, 0⟩) = true := by kernel_rfl
theorem n15 : isNew (aCallP tab (sumsOf []) 1000000 200 19 (newArgs 1 5) ⟨.leaf, 0⟩) = true := by kernel_rfl
theorem n16 : isNew (aCallP tab (sumsOf []) 1000000 200 19 (newArgs 1 6) ⟨.leaf, 0⟩) = true := by kernel_rfl
theorem n21 : isNew (aCallP tab (sumsOf []) 1000000 200 19 (newArgs 2 1) ⟨.leaf, 0⟩) = true := by kernel_rfl
theorem n22 : isNew (aCallP tab (sumsOf []) 1000000 200 19 (newArgs 2 2) ⟨.leaf, 0⟩) = true := by kernel_rfl
theorem n23 : isNew (aCallP tab (sumsOf []) 1000000 200 19 (newArgs 2 3) ⟨.leaf, 0⟩) = true := by kernel_rfl
theorem n24 : isNew (aCallP tab (sumsOf []) 1000000 200 19 (newArgs 2 4) ⟨.leaf, 0⟩) = true := by kernel_rfl
theorem n25 : isNew (aCallP tab (sumsOf []) 1000000 200 19 (newArgs 2 5) ⟨.leaf, 0⟩) = true := by kernel_rfl
theorem n26 : isNew (aCallP tab (sumsOf []) 1000000 200 19 (newArgs 2 6) ⟨.leaf, 0⟩) = true := by kernel_rfl
theorem n31 : isNew (aCallP tab (sumsOf []) 1000000 200 19 (newArgs 3 1) ⟨.leaf, 0⟩) = true := by kernel_rfl
theorem n32 : isNew (aCallP tab (sumsOf []) 1000000 200 19 (newArgs 3 2) ⟨.leaf, 0⟩) = true := by kernel_rfl
theorem n33 : isNew (aCallP tab (sumsOf []) 1000000 200 19 (newArgs 3 3) ⟨.leaf, 0⟩) = true := by kernel_rfl
theorem n34 : isNew (aCallP tab (sumsOf []) 1000000 200 19 (newArgs 3 4) ⟨.leaf, 0⟩) = true := by kernel_rfl
theorem n35 : isNew (aCallP tab (sumsOf []) 1000000 200 19 (newArgs 3 5) ⟨.leaf, 0⟩) = true := by kernel_rfl
theorem n36 : isNew (aCallP tab (sumsOf []) 1000000 200 19 (newArgs 3 6) ⟨.leaf, 0⟩) = true := by kernel_rfl
theorem n41 : isNew (aCallP tab (sumsOf []) 1000000 200 19 (newArgs 4 1) ⟨.leaf, 0⟩) = true := by kernel_rfl
theorem n42 : isNew (aCallP tab (sumsOf []) 1000000 200 19 (newArgs 4 2) ⟨.leaf, 0⟩) = true := by kernel_rfl
theorem n43 : isNew (aCallP tab (sumsOf []) 1000000 200 19 (newArgs 4 3) ⟨.leaf, 0⟩) = true := by kernel_rfl
theorem n44 : isNew (aCallP tab (sumsOf []) 1000000 200 19 (newArgs 4 4) ⟨.leaf, 0⟩) = true := by kernel_rfl
theorem n45 : isNew (aCallP tab (sumsOf []) 1000000 200 19 (newArgs 4 5) ⟨.leaf, 0⟩) = true := by kernel_rfl
theorem n46 : isNew (aCallP tab (sumsOf []) 1000000 200 19 (newArgs 4 6) ⟨.leaf, 0⟩) = true := by kernel_rfl
end Go.Proofs.YtpgjilakcepilaaGreat.alive
