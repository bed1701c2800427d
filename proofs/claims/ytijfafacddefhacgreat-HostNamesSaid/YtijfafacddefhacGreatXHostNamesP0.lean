/- Pieces of the run of 'cloakroom/cloakroomlaw19.HostNames', each run by the kernel; no condition. -/
import Derived.Test.YtijfafacddefhacGreatXHostNamesD
namespace Go.Proofs.YtijfafacddefhacGreat.hostNames
open Ab
theorem k270 : cutOk c270 (aCallP tab (sumsOf l270) 1000000 200 c270.f c270.args c270.s) = true := by kernel_rfl
theorem k172 : cutOk c172 (aCallP tab (sumsOf l172) 1000000 200 c172.f c172.args c172.s) = true := by kernel_rfl
theorem k479 : cutOk c479 (aCallP tab (sumsOf l479) 1000000 200 c479.f c479.args c479.s) = true := by kernel_rfl
theorem k545 : cutOk c545 (aCallP tab (sumsOf l545) 1000000 200 c545.f c545.args c545.s) = true := by kernel_rfl
theorem k524 : cutOk c524 (aCallP tab (sumsOf l524) 1000000 200 c524.f c524.args c524.s) = true := by kernel_rfl
theorem k738 : cutOk c738 (aCallP tab (sumsOf l738) 1000000 200 c738.f c738.args c738.s) = true := by kernel_rfl
theorem k898 : cutOk c898 (aCallP tab (sumsOf l898) 1000000 200 c898.f c898.args c898.s) = true := by kernel_rfl
end Go.Proofs.YtijfafacddefhacGreat.hostNames
