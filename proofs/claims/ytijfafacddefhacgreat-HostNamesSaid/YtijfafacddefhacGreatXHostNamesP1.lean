/- Pieces of the run of 'cloakroom/cloakroomlaw19.HostNames', each run by the kernel; no condition. -/
import Derived.Test.YtijfafacddefhacGreatXHostNamesD
namespace Go.Proofs.YtijfafacddefhacGreat.hostNames
open Ab
theorem k31 : cutOk c31 (aCallP tab (sumsOf l31) 1000000 200 c31.f c31.args c31.s) = true := by kernel_rfl
end Go.Proofs.YtijfafacddefhacGreat.hostNames
