/- Pieces of the run of 'cloakroom/cloakroomlaw19.HostNames', each run by the kernel; no condition. -/
import Derived.Test.YtijfafacddefhacGreatXHostNamesD
namespace Go.Proofs.YtijfafacddefhacGreat.hostNames
open Ab
theorem run : isTrue (aCallP tab (sumsOf lLast) 1000000 200 3 [] ⟨.leaf, 0⟩) = true := by kernel_rfl
end Go.Proofs.YtijfafacddefhacGreat.hostNames
