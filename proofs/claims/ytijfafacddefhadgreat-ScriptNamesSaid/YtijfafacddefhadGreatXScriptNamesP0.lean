/- Pieces of the run of 'cloakroom/cloakroomlaw23.ScriptNames', each run by the kernel; no condition. -/
import Derived.Test.YtijfafacddefhadGreatXScriptNamesD
namespace Go.Proofs.YtijfafacddefhadGreat.scriptNames
open Ab
theorem k96 : cutOk c96 (aCallP tab (sumsOf l96) 1000000 200 c96.f c96.args c96.s) = true := by kernel_rfl
theorem k235 : cutOk c235 (aCallP tab (sumsOf l235) 1000000 200 c235.f c235.args c235.s) = true := by kernel_rfl
theorem k234 : cutOk c234 (aCallP tab (sumsOf l234) 1000000 200 c234.f c234.args c234.s) = true := by kernel_rfl
end Go.Proofs.YtijfafacddefhadGreat.scriptNames
