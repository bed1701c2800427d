/- The closed facts of the row of 'houseNames', each by itself, run by the kernel; no condition. -/
import Derived.Test.YtijfafacddefhadGreatRows
import Derived.Test.YtijfafacddefhadGreatChecked
import Derived.ProofKit
import Derived.OpenShut
namespace Go.Proofs.YtijfafacddefhadGreat.houseNames
open Go.ChangeShapes Go.WideShapes Go.ChangeAt Go.RowKit
theorem g0 : (Rows.houseNamesRow.wf (OpenSpec.ofChange Rows.houseNamesSpec)) = true := by kernel_rfl
theorem g1 : (laidOutB Tryz.pinned.checked.prog) = true := by kernel_rfl
theorem g2 : (mapsRowed Tryz.pinned.checked.prog) = true := by kernel_rfl
theorem g3 : (Tryz.f8.params.all (Tryz.pinned.checked.prog.readableRec ·)) = true := by kernel_rfl
theorem g4 : (namedTie Tryz.pinned.checked.prog Rows.houseNamesRow.named Rows.houseNamesSpec.vars) = true := by kernel_rfl
theorem g5 : ((Rows.houseNamesRow.stops == [])) = true := by kernel_rfl
theorem g6 : ((Tryz.pinned.checked.prog.stops == [])) = true := by kernel_rfl
theorem g7 : ((Rows.houseNamesRow.knobs == [])) = true := by kernel_rfl
theorem g8 : ((Tryz.pinned.checked.prog.stopKnobs == [])) = true := by kernel_rfl
theorem g9 : ((Rows.houseNamesRow.inPlace == Tryz.pinned.checked.prog.inPlace 8)) = true := by kernel_rfl
theorem g10 : ((Rows.houseNamesRow.unfollowed == Tryz.pinned.checked.prog.unfollowed 8)) = true := by kernel_rfl
theorem g11 : ((Rows.houseNamesRow.recurses == Tryz.pinned.checked.prog.recurses 8)) = true := by kernel_rfl
theorem g12 : ((Rows.houseNamesRow.named == Tryz.pinned.checked.prog.varsNamed 8)) = true := by kernel_rfl
theorem g13 : ((Rows.houseNamesRow.maps == (Tryz.f8.params.toList ++ Rows.houseNamesSpec.plain.varTypes Tryz.pinned.checked.prog).any (Tryz.pinned.checked.prog.mapsRec ·))) = true := by kernel_rfl
theorem g14 : ((Rows.houseNamesRow.ifaces == (Tryz.f8.params.toList ++ Rows.houseNamesSpec.plain.varTypes Tryz.pinned.checked.prog).any (Tryz.pinned.checked.prog.ifacesRec ·))) = true := by kernel_rfl
theorem g15 : ((Rows.houseNamesRow.mapsOut == Tryz.pinned.checked.prog.mapsAmong Tryz.f8.resultTypes.toList)) = true := by kernel_rfl
theorem g16 : ((Rows.houseNamesRow.loops == (Tryz.f8.params.toList ++ Rows.houseNamesSpec.plain.varTypes Tryz.pinned.checked.prog).any (Tryz.pinned.checked.prog.loopsFrom ·))) = true := by kernel_rfl
theorem g17 : ((Rows.houseNamesRow.wideKeys == (Tryz.f8.params.toList ++ Rows.houseNamesSpec.plain.varTypes Tryz.pinned.checked.prog ++ Tryz.f8.resultTypes.toList).any (Tryz.pinned.checked.prog.wideKeysFrom ·))) = true := by kernel_rfl
theorem g18 : (Rows.houseNamesSpec.vars.all (Tryz.pinned.checked.prog.varReadable ·)) = true := by kernel_rfl
theorem g19 : (Tryz.f8.resultTypes.all (fun t => Tryz.pinned.checked.prog.readableRec t && decide (t < Tryz.pinned.checked.prog.types.size))) = true := by kernel_rfl
theorem g20 : ((Rows.houseNamesRow.ifacesOut == Tryz.f8.resultTypes.toList.any (Tryz.pinned.checked.prog.ifacesRec ·))) = true := by kernel_rfl
theorem g21 : ((Rows.houseNamesRow.loopsOut == Tryz.f8.resultTypes.toList.any (Tryz.pinned.checked.prog.loopsFrom ·))) = true := by kernel_rfl
theorem g22 : ((Rows.houseNamesRow.plainKeys == Tryz.pinned.checked.prog.plainKeys)) = true := by kernel_rfl
theorem g23 : (Rows.houseNamesRow.shortTexts.isNone) = true := by kernel_rfl
theorem g24 : (Tryz.pinned.checked.prog.stopsHeard) = true := by kernel_rfl
theorem g25 : (Tryz.pinned.checked.prog.mayEnter) = true := by kernel_rfl
theorem g26 : ((Rows.houseNamesRow.lifted == Tryz.pinned.checked.prog.liftsFinal)) = true := by kernel_rfl
theorem g27 : ((Tryz.pinned.checked.prog.make == some Rows.houseNamesRow.make)) = true := by kernel_rfl
theorem g28 : ((Rows.houseNamesRow.kinds == (if Rows.houseNamesRow.domain.isEmpty then [] else Tryz.f8.params.toList.map fun t => match Tryz.pinned.checked.prog.underlying t with | some (.int k) => some k | _ => none))) = true := by kernel_rfl
theorem g29 : ((Rows.houseNamesRow.pinned == Rows.houseNamesRow.pinnedBy)) = true := by kernel_rfl
theorem g30 : ((Rows.houseNamesRow.veiled == (Tryz.f8.params.toList ++ Rows.houseNamesSpec.plain.varTypes Tryz.pinned.checked.prog ++ Tryz.f8.resultTypes.toList).any (Tryz.pinned.checked.prog.veiledRec ·))) = true := by kernel_rfl
theorem g31 : (Rows.houseNamesRow.veiledFits Tryz.pinned.checked.prog Tryz.f8.params.toList (Tryz.f8.params.toList ++ Rows.houseNamesSpec.plain.varTypes Tryz.pinned.checked.prog ++ Tryz.f8.resultTypes.toList)) = true := by kernel_rfl
theorem both {a b : Bool} (h : a = true) (k : b = true) : (a && b) = true := by rw [h, k]; rfl
set_option maxRecDepth 100000 in
theorem facts : joinedFacts Tryz.pinned.checked.prog 8 Tryz.f8 Rows.houseNamesSpec Rows.houseNamesRow = true := by
  unfold joinedFacts
  exact (both (both (both (both (both (both (both (both (both (both (both (both (both (both (both (both (both (both (both (both (both (both (both (both (both (both (both (both (both (both (both g0 g1) g2) g3) g4) g5) g6) g7) g8) g9) g10) g11) g12) g13) g14) g15) g16) g17) g18) g19) g20) g21) g22) g23) g24) g25) g26) g27) g28) g29) g30) g31)
end Go.Proofs.YtijfafacddefhadGreat.houseNames
