/- Pieces of the run of 'cloakroom/cloakroomlaw21.HouseNames', each run by the kernel; no condition. -/
import Derived.Test.YtijfafacddefhadGreatXHouseNamesD
namespace Go.Proofs.YtijfafacddefhadGreat.houseNames
open Ab
theorem k2991 : cutOk c2991 (aCallP tab (sumsOf l2991) 1000000 200 c2991.f c2991.args c2991.s) = true := by kernel_rfl
theorem k2971 : cutOk c2971 (aCallP tab (sumsOf l2971) 1000000 200 c2971.f c2971.args c2971.s) = true := by kernel_rfl
theorem k2948 : cutOk c2948 (aCallP tab (sumsOf l2948) 1000000 200 c2948.f c2948.args c2948.s) = true := by kernel_rfl
theorem k2947 : cutOk c2947 (aCallP tab (sumsOf l2947) 1000000 200 c2947.f c2947.args c2947.s) = true := by kernel_rfl
theorem k3271 : cutOk c3271 (aCallP tab (sumsOf l3271) 1000000 200 c3271.f c3271.args c3271.s) = true := by kernel_rfl
theorem k2762 : cutOk c2762 (aCallP tab (sumsOf l2762) 1000000 200 c2762.f c2762.args c2762.s) = true := by kernel_rfl
end Go.Proofs.YtijfafacddefhadGreat.houseNames
