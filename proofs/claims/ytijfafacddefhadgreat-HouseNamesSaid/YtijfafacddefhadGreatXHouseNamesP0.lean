/- Pieces of the run of 'cloakroom/cloakroomlaw21.HouseNames', each run by the kernel; no condition. -/
import Derived.Test.YtijfafacddefhadGreatXHouseNamesD
namespace Go.Proofs.YtijfafacddefhadGreat.houseNames
open Ab
theorem k75 : cutOk c75 (aCallP tab (sumsOf l75) 1000000 200 c75.f c75.args c75.s) = true := by kernel_rfl
theorem k143 : cutOk c143 (aCallP tab (sumsOf l143) 1000000 200 c143.f c143.args c143.s) = true := by kernel_rfl
theorem k74 : cutOk c74 (aCallP tab (sumsOf l74) 1000000 200 c74.f c74.args c74.s) = true := by kernel_rfl
theorem k326 : cutOk c326 (aCallP tab (sumsOf l326) 1000000 200 c326.f c326.args c326.s) = true := by kernel_rfl
theorem k720 : cutOk c720 (aCallP tab (sumsOf l720) 1000000 200 c720.f c720.args c720.s) = true := by kernel_rfl
theorem k622 : cutOk c622 (aCallP tab (sumsOf l622) 1000000 200 c622.f c622.args c622.s) = true := by kernel_rfl
end Go.Proofs.YtijfafacddefhadGreat.houseNames
