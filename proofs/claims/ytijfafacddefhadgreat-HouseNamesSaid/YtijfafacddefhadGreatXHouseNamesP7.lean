/- Pieces of the run of 'cloakroom/cloakroomlaw21.HouseNames', each run by the kernel; no condition. -/
import Derived.Test.YtijfafacddefhadGreatXHouseNamesD
namespace Go.Proofs.YtijfafacddefhadGreat.houseNames
open Ab
theorem k3674 : cutOk c3674 (aCallP tab (sumsOf l3674) 1000000 200 c3674.f c3674.args c3674.s) = true := by kernel_rfl
theorem k4272 : cutOk c4272 (aCallP tab (sumsOf l4272) 1000000 200 c4272.f c4272.args c4272.s) = true := by kernel_rfl
theorem k4250 : cutOk c4250 (aCallP tab (sumsOf l4250) 1000000 200 c4250.f c4250.args c4250.s) = true := by kernel_rfl
end Go.Proofs.YtijfafacddefhadGreat.houseNames
