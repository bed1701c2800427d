/- Pieces of the run of 'cloakroom/cloakroomlaw21.HouseNames', each run by the kernel; no condition. -/
import Derived.Test.YtijfafacddefhadGreatXHouseNamesD
namespace Go.Proofs.YtijfafacddefhadGreat.houseNames
open Ab
theorem k1776 : cutOk c1776 (aCallP tab (sumsOf l1776) 1000000 200 c1776.f c1776.args c1776.s) = true := by kernel_rfl
theorem k1752 : cutOk c1752 (aCallP tab (sumsOf l1752) 1000000 200 c1752.f c1752.args c1752.s) = true := by kernel_rfl
theorem k2108 : cutOk c2108 (aCallP tab (sumsOf l2108) 1000000 200 c2108.f c2108.args c2108.s) = true := by kernel_rfl
theorem k2133 : cutOk c2133 (aCallP tab (sumsOf l2133) 1000000 200 c2133.f c2133.args c2133.s) = true := by kernel_rfl
theorem k2100 : cutOk c2100 (aCallP tab (sumsOf l2100) 1000000 200 c2100.f c2100.args c2100.s) = true := by kernel_rfl
theorem k2388 : cutOk c2388 (aCallP tab (sumsOf l2388) 1000000 200 c2388.f c2388.args c2388.s) = true := by kernel_rfl
theorem k2401 : cutOk c2401 (aCallP tab (sumsOf l2401) 1000000 200 c2401.f c2401.args c2401.s) = true := by kernel_rfl
theorem k2414 : cutOk c2414 (aCallP tab (sumsOf l2414) 1000000 200 c2414.f c2414.args c2414.s) = true := by kernel_rfl
theorem k2427 : cutOk c2427 (aCallP tab (sumsOf l2427) 1000000 200 c2427.f c2427.args c2427.s) = true := by kernel_rfl
theorem k2440 : cutOk c2440 (aCallP tab (sumsOf l2440) 1000000 200 c2440.f c2440.args c2440.s) = true := by kernel_rfl
theorem k2453 : cutOk c2453 (aCallP tab (sumsOf l2453) 1000000 200 c2453.f c2453.args c2453.s) = true := by kernel_rfl
end Go.Proofs.YtijfafacddefhadGreat.houseNames
