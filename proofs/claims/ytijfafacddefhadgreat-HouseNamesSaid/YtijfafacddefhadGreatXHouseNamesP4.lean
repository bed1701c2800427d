/- Pieces of the run of 'cloakroom/cloakroomlaw21.HouseNames', each run by the kernel; no condition. -/
import Derived.Test.YtijfafacddefhadGreatXHouseNamesD
namespace Go.Proofs.YtijfafacddefhadGreat.houseNames
open Ab
theorem k2466 : cutOk c2466 (aCallP tab (sumsOf l2466) 1000000 200 c2466.f c2466.args c2466.s) = true := by kernel_rfl
theorem k2541 : cutOk c2541 (aCallP tab (sumsOf l2541) 1000000 200 c2541.f c2541.args c2541.s) = true := by kernel_rfl
theorem k1751 : cutOk c1751 (aCallP tab (sumsOf l1751) 1000000 200 c1751.f c1751.args c1751.s) = true := by kernel_rfl
theorem k1613 : cutOk c1613 (aCallP tab (sumsOf l1613) 1000000 200 c1613.f c1613.args c1613.s) = true := by kernel_rfl
theorem k2763 : cutOk c2763 (aCallP tab (sumsOf l2763) 1000000 200 c2763.f c2763.args c2763.s) = true := by kernel_rfl
end Go.Proofs.YtijfafacddefhadGreat.houseNames
