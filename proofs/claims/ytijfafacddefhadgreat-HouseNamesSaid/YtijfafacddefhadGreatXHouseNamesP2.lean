/- Pieces of the run of 'cloakroom/cloakroomlaw21.HouseNames', each run by the kernel; no condition. -/
import Derived.Test.YtijfafacddefhadGreatXHouseNamesD
namespace Go.Proofs.YtijfafacddefhadGreat.houseNames
open Ab
theorem k1317 : cutOk c1317 (aCallP tab (sumsOf l1317) 1000000 200 c1317.f c1317.args c1317.s) = true := by kernel_rfl
theorem k1392 : cutOk c1392 (aCallP tab (sumsOf l1392) 1000000 200 c1392.f c1392.args c1392.s) = true := by kernel_rfl
theorem k597 : cutOk c597 (aCallP tab (sumsOf l597) 1000000 200 c597.f c597.args c597.s) = true := by kernel_rfl
theorem k459 : cutOk c459 (aCallP tab (sumsOf l459) 1000000 200 c459.f c459.args c459.s) = true := by kernel_rfl
theorem k1874 : cutOk c1874 (aCallP tab (sumsOf l1874) 1000000 200 c1874.f c1874.args c1874.s) = true := by kernel_rfl
end Go.Proofs.YtijfafacddefhadGreat.houseNames
