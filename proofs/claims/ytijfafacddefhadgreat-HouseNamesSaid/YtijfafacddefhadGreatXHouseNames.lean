/- 'cloakroom/cloakroomlaw21.HouseNames' returns true, whatever the world in which it is called: no condition. The short run (aCallP) is sound over the model, and the kernel runs it over the program's own tables, piece by piece. -/
import Derived.Test.YtijfafacddefhadGreatRows
import Derived.Test.YtijfafacddefhadGreatXHouseNamesP0
import Derived.Test.YtijfafacddefhadGreatXHouseNamesP1
import Derived.Test.YtijfafacddefhadGreatXHouseNamesP2
import Derived.Test.YtijfafacddefhadGreatXHouseNamesP3
import Derived.Test.YtijfafacddefhadGreatXHouseNamesP4
import Derived.Test.YtijfafacddefhadGreatXHouseNamesP5
import Derived.Test.YtijfafacddefhadGreatXHouseNamesP6
import Derived.Test.YtijfafacddefhadGreatXHouseNamesP7
import Derived.Test.YtijfafacddefhadGreatXHouseNamesP8
import Derived.Test.YtijfafacddefhadGreatXHouseNamesF
import Derived.ProofKit
import Derived.OpenShut
namespace Go.Proofs.YtijfafacddefhadGreat.houseNames
open Go.ChangeShapes Go.WideShapes Go.ChangeAt Go.RowKit
open Ab

theorem own : ownKnob Tryz.prog.godebug = none := by kernel_rfl

/-! ### The walk: by the short run -/
theorem s75 : ∀ p ∈ l75, SumOk Tryz.prog p := List.forall_mem_cons.2 ⟨crcOk, List.forall_mem_nil _⟩
theorem q75 : CutOk Tryz.prog c75 := cut_ok tabOk (sums_ok s75) k75
theorem s143 : ∀ p ∈ l143, SumOk Tryz.prog p := List.forall_mem_cons.2 ⟨crcOk, List.forall_mem_nil _⟩
theorem q143 : CutOk Tryz.prog c143 := cut_ok tabOk (sums_ok s143) k143
theorem s74 : ∀ p ∈ l74, SumOk Tryz.prog p := List.forall_mem_cons.2 ⟨crcOk, List.forall_mem_cons.2 ⟨cutSum_ok (List.forall_mem_cons.2 ⟨⟨rfl, q75⟩, List.forall_mem_cons.2 ⟨⟨rfl, q143⟩, List.forall_mem_nil _⟩⟩), List.forall_mem_nil _⟩⟩
theorem q74 : CutOk Tryz.prog c74 := cut_ok tabOk (sums_ok s74) k74
theorem s326 : ∀ p ∈ l326, SumOk Tryz.prog p := List.forall_mem_cons.2 ⟨crcOk, List.forall_mem_nil _⟩
theorem q326 : CutOk Tryz.prog c326 := cut_ok tabOk (sums_ok s326) k326
theorem s720 : ∀ p ∈ l720, SumOk Tryz.prog p := List.forall_mem_cons.2 ⟨crcOk, List.forall_mem_nil _⟩
theorem q720 : CutOk Tryz.prog c720 := cut_ok tabOk (sums_ok s720) k720
theorem s622 : ∀ p ∈ l622, SumOk Tryz.prog p := List.forall_mem_cons.2 ⟨crcOk, List.forall_mem_cons.2 ⟨cutSum_ok (List.forall_mem_cons.2 ⟨⟨rfl, q720⟩, List.forall_mem_nil _⟩), List.forall_mem_nil _⟩⟩
theorem q622 : CutOk Tryz.prog c622 := cut_ok tabOk (sums_ok s622) k622
theorem s598 : ∀ p ∈ l598, SumOk Tryz.prog p := List.forall_mem_cons.2 ⟨crcOk, List.forall_mem_cons.2 ⟨cutSum_ok (List.forall_mem_cons.2 ⟨⟨rfl, q622⟩, List.forall_mem_nil _⟩), List.forall_mem_nil _⟩⟩
theorem q598 : CutOk Tryz.prog c598 := cut_ok tabOk (sums_ok s598) k598
theorem s953 : ∀ p ∈ l953, SumOk Tryz.prog p := List.forall_mem_cons.2 ⟨crcOk, List.forall_mem_nil _⟩
theorem q953 : CutOk Tryz.prog c953 := cut_ok tabOk (sums_ok s953) k953
theorem s978 : ∀ p ∈ l978, SumOk Tryz.prog p := List.forall_mem_cons.2 ⟨crcOk, List.forall_mem_nil _⟩
theorem q978 : CutOk Tryz.prog c978 := cut_ok tabOk (sums_ok s978) k978
theorem s945 : ∀ p ∈ l945, SumOk Tryz.prog p := List.forall_mem_cons.2 ⟨crcOk, List.forall_mem_cons.2 ⟨cutSum_ok (List.forall_mem_cons.2 ⟨⟨rfl, q953⟩, List.forall_mem_nil _⟩), List.forall_mem_cons.2 ⟨cutSum_ok (List.forall_mem_cons.2 ⟨⟨rfl, q978⟩, List.forall_mem_nil _⟩), List.forall_mem_nil _⟩⟩⟩
theorem q945 : CutOk Tryz.prog c945 := cut_ok tabOk (sums_ok s945) k945
theorem s1239 : ∀ p ∈ l1239, SumOk Tryz.prog p := List.forall_mem_cons.2 ⟨crcOk, List.forall_mem_nil _⟩
theorem q1239 : CutOk Tryz.prog c1239 := cut_ok tabOk (sums_ok s1239) k1239
theorem s1252 : ∀ p ∈ l1252, SumOk Tryz.prog p := List.forall_mem_cons.2 ⟨crcOk, List.forall_mem_nil _⟩
theorem q1252 : CutOk Tryz.prog c1252 := cut_ok tabOk (sums_ok s1252) k1252
theorem s1265 : ∀ p ∈ l1265, SumOk Tryz.prog p := List.forall_mem_cons.2 ⟨crcOk, List.forall_mem_nil _⟩
theorem q1265 : CutOk Tryz.prog c1265 := cut_ok tabOk (sums_ok s1265) k1265
theorem s1278 : ∀ p ∈ l1278, SumOk Tryz.prog p := List.forall_mem_cons.2 ⟨crcOk, List.forall_mem_nil _⟩
theorem q1278 : CutOk Tryz.prog c1278 := cut_ok tabOk (sums_ok s1278) k1278
theorem s1291 : ∀ p ∈ l1291, SumOk Tryz.prog p := List.forall_mem_cons.2 ⟨crcOk, List.forall_mem_nil _⟩
theorem q1291 : CutOk Tryz.prog c1291 := cut_ok tabOk (sums_ok s1291) k1291
theorem s1304 : ∀ p ∈ l1304, SumOk Tryz.prog p := List.forall_mem_cons.2 ⟨crcOk, List.forall_mem_nil _⟩
theorem q1304 : CutOk Tryz.prog c1304 := cut_ok tabOk (sums_ok s1304) k1304
theorem s1317 : ∀ p ∈ l1317, SumOk Tryz.prog p := List.forall_mem_cons.2 ⟨crcOk, List.forall_mem_nil _⟩
theorem q1317 : CutOk Tryz.prog c1317 := cut_ok tabOk (sums_ok s1317) k1317
theorem s1392 : ∀ p ∈ l1392, SumOk Tryz.prog p := List.forall_mem_cons.2 ⟨crcOk, List.forall_mem_nil _⟩
theorem q1392 : CutOk Tryz.prog c1392 := cut_ok tabOk (sums_ok s1392) k1392
theorem s597 : ∀ p ∈ l597, SumOk Tryz.prog p := List.forall_mem_cons.2 ⟨crcOk, List.forall_mem_cons.2 ⟨cutSum_ok (List.forall_mem_cons.2 ⟨⟨rfl, q598⟩, List.forall_mem_cons.2 ⟨⟨rfl, q945⟩, List.forall_mem_cons.2 ⟨⟨rfl, q1239⟩, List.forall_mem_cons.2 ⟨⟨rfl, q1252⟩, List.forall_mem_cons.2 ⟨⟨rfl, q1265⟩, List.forall_mem_cons.2 ⟨⟨rfl, q1278⟩, List.forall_mem_cons.2 ⟨⟨rfl, q1291⟩, List.forall_mem_cons.2 ⟨⟨rfl, q1304⟩, List.forall_mem_cons.2 ⟨⟨rfl, q1317⟩, List.forall_mem_cons.2 ⟨⟨rfl, q1392⟩, List.forall_mem_nil _⟩⟩⟩⟩⟩⟩⟩⟩⟩⟩), List.forall_mem_nil _⟩⟩
theorem q597 : CutOk Tryz.prog c597 := cut_ok tabOk (sums_ok s597) k597
theorem s459 : ∀ p ∈ l459, SumOk Tryz.prog p := List.forall_mem_cons.2 ⟨crcOk, List.forall_mem_cons.2 ⟨cutSum_ok (List.forall_mem_cons.2 ⟨⟨rfl, q597⟩, List.forall_mem_nil _⟩), List.forall_mem_nil _⟩⟩
theorem q459 : CutOk Tryz.prog c459 := cut_ok tabOk (sums_ok s459) k459
theorem s1874 : ∀ p ∈ l1874, SumOk Tryz.prog p := List.forall_mem_cons.2 ⟨crcOk, List.forall_mem_nil _⟩
theorem q1874 : CutOk Tryz.prog c1874 := cut_ok tabOk (sums_ok s1874) k1874
theorem s1776 : ∀ p ∈ l1776, SumOk Tryz.prog p := List.forall_mem_cons.2 ⟨crcOk, List.forall_mem_cons.2 ⟨cutSum_ok (List.forall_mem_cons.2 ⟨⟨rfl, q1874⟩, List.forall_mem_nil _⟩), List.forall_mem_nil _⟩⟩
theorem q1776 : CutOk Tryz.prog c1776 := cut_ok tabOk (sums_ok s1776) k1776
theorem s1752 : ∀ p ∈ l1752, SumOk Tryz.prog p := List.forall_mem_cons.2 ⟨crcOk, List.forall_mem_cons.2 ⟨cutSum_ok (List.forall_mem_cons.2 ⟨⟨rfl, q1776⟩, List.forall_mem_nil _⟩), List.forall_mem_nil _⟩⟩
theorem q1752 : CutOk Tryz.prog c1752 := cut_ok tabOk (sums_ok s1752) k1752
theorem s2108 : ∀ p ∈ l2108, SumOk Tryz.prog p := List.forall_mem_cons.2 ⟨crcOk, List.forall_mem_nil _⟩
theorem q2108 : CutOk Tryz.prog c2108 := cut_ok tabOk (sums_ok s2108) k2108
theorem s2133 : ∀ p ∈ l2133, SumOk Tryz.prog p := List.forall_mem_cons.2 ⟨crcOk, List.forall_mem_nil _⟩
theorem q2133 : CutOk Tryz.prog c2133 := cut_ok tabOk (sums_ok s2133) k2133
theorem s2100 : ∀ p ∈ l2100, SumOk Tryz.prog p := List.forall_mem_cons.2 ⟨crcOk, List.forall_mem_cons.2 ⟨cutSum_ok (List.forall_mem_cons.2 ⟨⟨rfl, q2108⟩, List.forall_mem_nil _⟩), List.forall_mem_cons.2 ⟨cutSum_ok (List.forall_mem_cons.2 ⟨⟨rfl, q2133⟩, List.forall_mem_nil _⟩), List.forall_mem_nil _⟩⟩⟩
theorem q2100 : CutOk Tryz.prog c2100 := cut_ok tabOk (sums_ok s2100) k2100
theorem s2388 : ∀ p ∈ l2388, SumOk Tryz.prog p := List.forall_mem_cons.2 ⟨crcOk, List.forall_mem_nil _⟩
theorem q2388 : CutOk Tryz.prog c2388 := cut_ok tabOk (sums_ok s2388) k2388
theorem s2401 : ∀ p ∈ l2401, SumOk Tryz.prog p := List.forall_mem_cons.2 ⟨crcOk, List.forall_mem_nil _⟩
theorem q2401 : CutOk Tryz.prog c2401 := cut_ok tabOk (sums_ok s2401) k2401
theorem s2414 : ∀ p ∈ l2414, SumOk Tryz.prog p := List.forall_mem_cons.2 ⟨crcOk, List.forall_mem_nil _⟩
theorem q2414 : CutOk Tryz.prog c2414 := cut_ok tabOk (sums_ok s2414) k2414
theorem s2427 : ∀ p ∈ l2427, SumOk Tryz.prog p := List.forall_mem_cons.2 ⟨crcOk, List.forall_mem_nil _⟩
theorem q2427 : CutOk Tryz.prog c2427 := cut_ok tabOk (sums_ok s2427) k2427
theorem s2440 : ∀ p ∈ l2440, SumOk Tryz.prog p := List.forall_mem_cons.2 ⟨crcOk, List.forall_mem_nil _⟩
theorem q2440 : CutOk Tryz.prog c2440 := cut_ok tabOk (sums_ok s2440) k2440
theorem s2453 : ∀ p ∈ l2453, SumOk Tryz.prog p := List.forall_mem_cons.2 ⟨crcOk, List.forall_mem_nil _⟩
theorem q2453 : CutOk Tryz.prog c2453 := cut_ok tabOk (sums_ok s2453) k2453
theorem s2466 : ∀ p ∈ l2466, SumOk Tryz.prog p := List.forall_mem_cons.2 ⟨crcOk, List.forall_mem_nil _⟩
theorem q2466 : CutOk Tryz.prog c2466 := cut_ok tabOk (sums_ok s2466) k2466
theorem s2541 : ∀ p ∈ l2541, SumOk Tryz.prog p := List.forall_mem_cons.2 ⟨crcOk, List.forall_mem_nil _⟩
theorem q2541 : CutOk Tryz.prog c2541 := cut_ok tabOk (sums_ok s2541) k2541
theorem s1751 : ∀ p ∈ l1751, SumOk Tryz.prog p := List.forall_mem_cons.2 ⟨crcOk, List.forall_mem_cons.2 ⟨cutSum_ok (List.forall_mem_cons.2 ⟨⟨rfl, q1752⟩, List.forall_mem_cons.2 ⟨⟨rfl, q2100⟩, List.forall_mem_cons.2 ⟨⟨rfl, q2388⟩, List.forall_mem_cons.2 ⟨⟨rfl, q2401⟩, List.forall_mem_cons.2 ⟨⟨rfl, q2414⟩, List.forall_mem_cons.2 ⟨⟨rfl, q2427⟩, List.forall_mem_cons.2 ⟨⟨rfl, q2440⟩, List.forall_mem_cons.2 ⟨⟨rfl, q2453⟩, List.forall_mem_cons.2 ⟨⟨rfl, q2466⟩, List.forall_mem_cons.2 ⟨⟨rfl, q2541⟩, List.forall_mem_nil _⟩⟩⟩⟩⟩⟩⟩⟩⟩⟩), List.forall_mem_nil _⟩⟩
theorem q1751 : CutOk Tryz.prog c1751 := cut_ok tabOk (sums_ok s1751) k1751
theorem s1613 : ∀ p ∈ l1613, SumOk Tryz.prog p := List.forall_mem_cons.2 ⟨crcOk, List.forall_mem_cons.2 ⟨cutSum_ok (List.forall_mem_cons.2 ⟨⟨rfl, q1751⟩, List.forall_mem_nil _⟩), List.forall_mem_nil _⟩⟩
theorem q1613 : CutOk Tryz.prog c1613 := cut_ok tabOk (sums_ok s1613) k1613
theorem s2763 : ∀ p ∈ l2763, SumOk Tryz.prog p := List.forall_mem_cons.2 ⟨crcOk, List.forall_mem_nil _⟩
theorem q2763 : CutOk Tryz.prog c2763 := cut_ok tabOk (sums_ok s2763) k2763
theorem s2991 : ∀ p ∈ l2991, SumOk Tryz.prog p := List.forall_mem_cons.2 ⟨crcOk, List.forall_mem_nil _⟩
theorem q2991 : CutOk Tryz.prog c2991 := cut_ok tabOk (sums_ok s2991) k2991
theorem s2971 : ∀ p ∈ l2971, SumOk Tryz.prog p := List.forall_mem_cons.2 ⟨crcOk, List.forall_mem_cons.2 ⟨cutSum_ok (List.forall_mem_cons.2 ⟨⟨rfl, q2991⟩, List.forall_mem_nil _⟩), List.forall_mem_nil _⟩⟩
theorem q2971 : CutOk Tryz.prog c2971 := cut_ok tabOk (sums_ok s2971) k2971
theorem s2948 : ∀ p ∈ l2948, SumOk Tryz.prog p := List.forall_mem_cons.2 ⟨crcOk, List.forall_mem_cons.2 ⟨cutSum_ok (List.forall_mem_cons.2 ⟨⟨rfl, q2971⟩, List.forall_mem_nil _⟩), List.forall_mem_nil _⟩⟩
theorem q2948 : CutOk Tryz.prog c2948 := cut_ok tabOk (sums_ok s2948) k2948
theorem s2947 : ∀ p ∈ l2947, SumOk Tryz.prog p := List.forall_mem_cons.2 ⟨crcOk, List.forall_mem_cons.2 ⟨cutSum_ok (List.forall_mem_cons.2 ⟨⟨rfl, q2948⟩, List.forall_mem_nil _⟩), List.forall_mem_nil _⟩⟩
theorem q2947 : CutOk Tryz.prog c2947 := cut_ok tabOk (sums_ok s2947) k2947
theorem s3271 : ∀ p ∈ l3271, SumOk Tryz.prog p := List.forall_mem_cons.2 ⟨crcOk, List.forall_mem_nil _⟩
theorem q3271 : CutOk Tryz.prog c3271 := cut_ok tabOk (sums_ok s3271) k3271
theorem s2762 : ∀ p ∈ l2762, SumOk Tryz.prog p := List.forall_mem_cons.2 ⟨crcOk, List.forall_mem_cons.2 ⟨cutSum_ok (List.forall_mem_cons.2 ⟨⟨rfl, q2763⟩, List.forall_mem_cons.2 ⟨⟨rfl, q2947⟩, List.forall_mem_cons.2 ⟨⟨rfl, q3271⟩, List.forall_mem_nil _⟩⟩⟩), List.forall_mem_nil _⟩⟩
theorem q2762 : CutOk Tryz.prog c2762 := cut_ok tabOk (sums_ok s2762) k2762
theorem s3496 : ∀ p ∈ l3496, SumOk Tryz.prog p := List.forall_mem_cons.2 ⟨crcOk, List.forall_mem_nil _⟩
theorem q3496 : CutOk Tryz.prog c3496 := cut_ok tabOk (sums_ok s3496) k3496
theorem s3675 : ∀ p ∈ l3675, SumOk Tryz.prog p := List.forall_mem_cons.2 ⟨crcOk, List.forall_mem_nil _⟩
theorem q3675 : CutOk Tryz.prog c3675 := cut_ok tabOk (sums_ok s3675) k3675
theorem s3714 : ∀ p ∈ l3714, SumOk Tryz.prog p := List.forall_mem_cons.2 ⟨crcOk, List.forall_mem_nil _⟩
theorem q3714 : CutOk Tryz.prog c3714 := cut_ok tabOk (sums_ok s3714) k3714
theorem s3688 : ∀ p ∈ l3688, SumOk Tryz.prog p := List.forall_mem_cons.2 ⟨crcOk, List.forall_mem_cons.2 ⟨cutSum_ok (List.forall_mem_cons.2 ⟨⟨rfl, q3714⟩, List.forall_mem_nil _⟩), List.forall_mem_nil _⟩⟩
theorem q3688 : CutOk Tryz.prog c3688 := cut_ok tabOk (sums_ok s3688) k3688
theorem s3937 : ∀ p ∈ l3937, SumOk Tryz.prog p := List.forall_mem_cons.2 ⟨crcOk, List.forall_mem_nil _⟩
theorem q3937 : CutOk Tryz.prog c3937 := cut_ok tabOk (sums_ok s3937) k3937
theorem s3947 : ∀ p ∈ l3947, SumOk Tryz.prog p := List.forall_mem_cons.2 ⟨crcOk, List.forall_mem_nil _⟩
theorem q3947 : CutOk Tryz.prog c3947 := cut_ok tabOk (sums_ok s3947) k3947
theorem s3997 : ∀ p ∈ l3997, SumOk Tryz.prog p := List.forall_mem_cons.2 ⟨crcOk, List.forall_mem_nil _⟩
theorem q3997 : CutOk Tryz.prog c3997 := cut_ok tabOk (sums_ok s3997) k3997
theorem s4069 : ∀ p ∈ l4069, SumOk Tryz.prog p := List.forall_mem_cons.2 ⟨crcOk, List.forall_mem_nil _⟩
theorem q4069 : CutOk Tryz.prog c4069 := cut_ok tabOk (sums_ok s4069) k4069
theorem s3674 : ∀ p ∈ l3674, SumOk Tryz.prog p := List.forall_mem_cons.2 ⟨crcOk, List.forall_mem_cons.2 ⟨cutSum_ok (List.forall_mem_cons.2 ⟨⟨rfl, q3675⟩, List.forall_mem_cons.2 ⟨⟨rfl, q3688⟩, List.forall_mem_cons.2 ⟨⟨rfl, q3937⟩, List.forall_mem_cons.2 ⟨⟨rfl, q3947⟩, List.forall_mem_cons.2 ⟨⟨rfl, q3997⟩, List.forall_mem_cons.2 ⟨⟨rfl, q4069⟩, List.forall_mem_nil _⟩⟩⟩⟩⟩⟩), List.forall_mem_nil _⟩⟩
theorem q3674 : CutOk Tryz.prog c3674 := cut_ok tabOk (sums_ok s3674) k3674
theorem s4272 : ∀ p ∈ l4272, SumOk Tryz.prog p := List.forall_mem_cons.2 ⟨crcOk, List.forall_mem_nil _⟩
theorem q4272 : CutOk Tryz.prog c4272 := cut_ok tabOk (sums_ok s4272) k4272
theorem s4250 : ∀ p ∈ l4250, SumOk Tryz.prog p := List.forall_mem_cons.2 ⟨crcOk, List.forall_mem_cons.2 ⟨cutSum_ok (List.forall_mem_cons.2 ⟨⟨rfl, q4272⟩, List.forall_mem_nil _⟩), List.forall_mem_nil _⟩⟩
theorem q4250 : CutOk Tryz.prog c4250 := cut_ok tabOk (sums_ok s4250) k4250
theorem sLast : ∀ p ∈ lLast, SumOk Tryz.prog p := List.forall_mem_cons.2 ⟨crcOk, List.forall_mem_cons.2 ⟨cutSum_ok (List.forall_mem_cons.2 ⟨⟨rfl, q74⟩, List.forall_mem_cons.2 ⟨⟨rfl, q3674⟩, List.forall_mem_nil _⟩⟩), List.forall_mem_cons.2 ⟨cutSum_ok (List.forall_mem_cons.2 ⟨⟨rfl, q326⟩, List.forall_mem_cons.2 ⟨⟨rfl, q459⟩, List.forall_mem_cons.2 ⟨⟨rfl, q1613⟩, List.forall_mem_cons.2 ⟨⟨rfl, q2762⟩, List.forall_mem_nil _⟩⟩⟩⟩), List.forall_mem_cons.2 ⟨cutSum_ok (List.forall_mem_cons.2 ⟨⟨rfl, q3496⟩, List.forall_mem_nil _⟩), List.forall_mem_cons.2 ⟨cutSum_ok (List.forall_mem_cons.2 ⟨⟨rfl, q4250⟩, List.forall_mem_nil _⟩), List.forall_mem_nil _⟩⟩⟩⟩⟩
theorem walk (w : World) : Calls Tryz.prog 8 #[] w fun e w' => e = .returned (.bool true) ∧ Below w.heap.size w w' := closedP_true tabOk (sums_ok sLast) (by kernel_rfl) run w

/-! ### THE ROW's STEP: WRITTEN OUT: LEAVE IT -/
set_option maxRecDepth 100000 in
theorem lifted (os : Os) (started : os.Started) (H : Type) (enc : TypeId × Value → H) :
    ReturnsInHanded {} Tryz.checked os 8 .any (Rows.houseNamesSpec.pre6 enc Tryz.prog Tryz.f8 Rows.houseNamesRow.domain false) (Rows.houseNamesSpec.post enc Tryz.prog Tryz.f8 false true false false) := by
  refine returnsInHanded_of_change (C := Tryz.checked) own started (by kernel_rfl) Tryz.func8
    (ChangeSpec.witness6 (enc := enc) (C := Tryz.checked) false ⟨#[], #[], []⟩ 8 (by kernel_rfl) (by kernel_rfl) (by kernel_rfl) (by kernel_rfl)) ?_
  intro W base args ds gs before hval0 hW hcnd _
  have hval : ∀ (j : Nat) t v, Tryz.f8.params[j]? = some t → args[j]? = some v → Value.okWide Tryz.prog W .any base t v := hval0
  have hW' := hW
  obtain ⟨p, q, hA0, hV, rfl, hfz, hnd⟩ := hW
  have hA : DataW.TrodAll enc Tryz.prog W 0 (fun _ => true) true Tryz.f8.params.toList args.toList ds p := hA0
  rw [Tryz.params8] at hA hval
  obtain ⟨rfl, rfl, rfl⟩ := trodAll_none hA
  obtain ⟨rfl, rfl⟩ := trodVars_none hV
  clear hA0 hval0
  simp only [List.append_nil] at hW'
  refine (walk W).mono fun e W' ⟨he, bel⟩ => ?_
  subst he
  exact ⟨_, rfl, _, _, _, [], [], [], hW', trodAll_mk1 (shut_bool Tryz.underlying4 _), rfl, rfl, bel.frame _, fun h => by cases h⟩

theorem over : Rows.houseNamesRow.holds Tryz.pinned (OpenSpec.ofChange Rows.houseNamesSpec) :=
  OpenClaim.holds_of_wide 8 Tryz.f8 rfl rfl rfl rfl rfl rfl rfl ⟨rfl, rfl, rfl, rfl, rfl⟩ rfl rfl rfl rfl rfl (by kernel_rfl) Tryz.func8 facts
    (of_decide_eq_true (by kernel_rfl)) (by unfold Func.isWrapper; first | (rw [if_pos (by decide +kernel)]; kernel_rfl) | (rw [if_neg (by decide +kernel)]; exact ⟨rfl, rfl⟩))
    (fun os started H enc _ => lifted os started H enc)

/-- THE STATEMENT -/
theorem proved : Rows.HouseNamesSaid :=
  over
#print axioms proved
end Go.Proofs.YtijfafacddefhadGreat.houseNames
