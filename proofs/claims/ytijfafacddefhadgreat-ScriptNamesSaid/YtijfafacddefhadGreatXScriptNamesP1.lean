/- Pieces of the run of 'cloakroom/cloakroomlaw23.ScriptNames', each run by the kernel; no condition. -/
import Derived.Test.YtijfafacddefhadGreatXScriptNamesD
namespace Go.Proofs.YtijfafacddefhadGreat.scriptNames
open Ab
theorem run : isTrue (aCallP tab (sumsOf lLast) 1000000 200 9 [] ⟨.leaf, 0⟩) = true := by kernel_rfl
end Go.Proofs.YtijfafacddefhadGreat.scriptNames
