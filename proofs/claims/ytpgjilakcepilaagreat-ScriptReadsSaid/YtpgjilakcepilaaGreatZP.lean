/- The pieces of the run of scriptAlive, each run by the kernel; no condition. -/
import Derived.Test.YtpgjilakcepilaaGreatZD
namespace Go.Proofs.YtpgjilakcepilaaGreat.alive
open Ab
set_option linter.unusedSectionVars false
variable [Tok]
theorem k95 : cutOk c95 (aCallP tab (sumsOf l95) 1000000 200 c95.f c95.args c95.s) = true := by kernel_rfl
theorem k234 : cutOk c234 (aCallP tab (sumsOf l234) 1000000 200 c234.f c234.args c234.s) = true := by kernel_rfl
theorem k233 : cutOk c233 (aCallP tab (sumsOf l233) 1000000 200 c233.f c233.args c233.s) = true := by kernel_rfl
theorem run : isTrue (aCallP tab (sumsOf lLast) 1000000 200 4 [] ⟨.leaf, 0⟩) = true := by kernel_rfl
end Go.Proofs.YtpgjilakcepilaaGreat.alive
