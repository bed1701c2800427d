/- Pieces of the run of 'cloakroom/cloakroomlaw21.HouseNames', each run by the kernel; no condition. -/
import Derived.Test.YtijfafacddefhadGreatXHouseNamesD
namespace Go.Proofs.YtijfafacddefhadGreat.houseNames
open Ab
theorem k3496 : cutOk c3496 (aCallP tab (sumsOf l3496) 1000000 200 c3496.f c3496.args c3496.s) = true := by kernel_rfl
theorem k3675 : cutOk c3675 (aCallP tab (sumsOf l3675) 1000000 200 c3675.f c3675.args c3675.s) = true := by kernel_rfl
theorem k3714 : cutOk c3714 (aCallP tab (sumsOf l3714) 1000000 200 c3714.f c3714.args c3714.s) = true := by kernel_rfl
theorem k3688 : cutOk c3688 (aCallP tab (sumsOf l3688) 1000000 200 c3688.f c3688.args c3688.s) = true := by kernel_rfl
theorem k3937 : cutOk c3937 (aCallP tab (sumsOf l3937) 1000000 200 c3937.f c3937.args c3937.s) = true := by kernel_rfl
theorem k3947 : cutOk c3947 (aCallP tab (sumsOf l3947) 1000000 200 c3947.f c3947.args c3947.s) = true := by kernel_rfl
theorem k3997 : cutOk c3997 (aCallP tab (sumsOf l3997) 1000000 200 c3997.f c3997.args c3997.s) = true := by kernel_rfl
theorem k4069 : cutOk c4069 (aCallP tab (sumsOf l4069) 1000000 200 c4069.f c4069.args c4069.s) = true := by kernel_rfl
end Go.Proofs.YtijfafacddefhadGreat.houseNames
