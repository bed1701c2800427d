/- Pieces of the run of 'cloakroom/cloakroomlaw21.HouseNames', each run by the kernel; no condition. -/
import Derived.Test.YtijfafacddefhadGreatXHouseNamesD
namespace Go.Proofs.YtijfafacddefhadGreat.houseNames
open Ab
theorem k598 : cutOk c598 (aCallP tab (sumsOf l598) 1000000 200 c598.f c598.args c598.s) = true := by kernel_rfl
theorem k953 : cutOk c953 (aCallP tab (sumsOf l953) 1000000 200 c953.f c953.args c953.s) = true := by kernel_rfl
theorem k978 : cutOk c978 (aCallP tab (sumsOf l978) 1000000 200 c978.f c978.args c978.s) = true := by kernel_rfl
theorem k945 : cutOk c945 (aCallP tab (sumsOf l945) 1000000 200 c945.f c945.args c945.s) = true := by kernel_rfl
theorem k1239 : cutOk c1239 (aCallP tab (sumsOf l1239) 1000000 200 c1239.f c1239.args c1239.s) = true := by kernel_rfl
theorem k1252 : cutOk c1252 (aCallP tab (sumsOf l1252) 1000000 200 c1252.f c1252.args c1252.s) = true := by kernel_rfl
theorem k1265 : cutOk c1265 (aCallP tab (sumsOf l1265) 1000000 200 c1265.f c1265.args c1265.s) = true := by kernel_rfl
theorem k1278 : cutOk c1278 (aCallP tab (sumsOf l1278) 1000000 200 c1278.f c1278.args c1278.s) = true := by kernel_rfl
theorem k1291 : cutOk c1291 (aCallP tab (sumsOf l1291) 1000000 200 c1291.f c1291.args c1291.s) = true := by kernel_rfl
theorem k1304 : cutOk c1304 (aCallP tab (sumsOf l1304) 1000000 200 c1304.f c1304.args c1304.s) = true := by kernel_rfl
end Go.Proofs.YtijfafacddefhadGreat.houseNames
