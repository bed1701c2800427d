/- Pieces of the run of 'cloakroom/cloakroomlaw21.HouseNames', each run by the kernel; no condition. -/
import Derived.Test.YtijfafacddefhadGreatXHouseNamesD
namespace Go.Proofs.YtijfafacddefhadGreat.houseNames
open Ab
theorem run : isTrue (aCallP tab (sumsOf lLast) 1000000 200 8 [] ⟨.leaf, 0⟩) = true := by kernel_rfl
end Go.Proofs.YtijfafacddefhadGreat.houseNames
