/- Pieces of the run of 'cloakroom/cloakroomlaw09.StoreNames', each run by the kernel; no condition. -/
import Derived.Test.YtijfafacddefhabXStoreNamesD
namespace Go.Proofs.Ytijfafacddefhab.storeNames
open Ab
theorem run : isTrue (aCallP tab (sumsOf lLast) 1000000 200 3 [] ⟨.leaf, 0⟩) = true := by kernel_rfl
end Go.Proofs.Ytijfafacddefhab.storeNames
