/- Pieces of the run of 'cloakroom/cloakroomlaw09.StoreNames', each run by the kernel; no condition. -/
import Derived.Test.YtijfafacddefhabXStoreNamesD
namespace Go.Proofs.Ytijfafacddefhab.storeNames
open Ab
theorem k77 : cutOk c77 (aCallP tab (sumsOf l77) 1000000 200 c77.f c77.args c77.s) = true := by kernel_rfl
theorem k222 : cutOk c222 (aCallP tab (sumsOf l222) 1000000 200 c222.f c222.args c222.s) = true := by kernel_rfl
theorem k287 : cutOk c287 (aCallP tab (sumsOf l287) 1000000 200 c287.f c287.args c287.s) = true := by kernel_rfl
theorem k286 : cutOk c286 (aCallP tab (sumsOf l286) 1000000 200 c286.f c286.args c286.s) = true := by kernel_rfl
end Go.Proofs.Ytijfafacddefhab.storeNames
