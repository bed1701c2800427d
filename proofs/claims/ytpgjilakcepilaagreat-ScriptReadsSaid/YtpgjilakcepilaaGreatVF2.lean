/- The closed facts of the row of 'scriptReads', each by itself, run by the kernel; no condition. -/
import Derived.Test.YtpgjilakcepilaaGreatRows
import Derived.Test.YtpgjilakcepilaaGreatChecked
import Derived.ProofKit
import Derived.OpenShut
namespace Go.Proofs.YtpgjilakcepilaaGreat.scriptReads
open Go.ChangeShapes Go.WideShapes Go.ChangeAt Go.RowKit
theorem g0 : (Rows.scriptReadsRow.wf (OpenSpec.ofChange Rows.scriptReadsSpec)) = true := by kernel_rfl
theorem g1 : (laidOutB Tryz.pinned.checked.prog) = true := by kernel_rfl
theorem g2 : (mapsRowed Tryz.pinned.checked.prog) = true := by kernel_rfl
theorem g3 : (Tryz.f3.params.all (Tryz.pinned.checked.prog.readableRec ·)) = true := by kernel_rfl
theorem g4 : (namedTie Tryz.pinned.checked.prog Rows.scriptReadsRow.named Rows.scriptReadsSpec.vars) = true := by kernel_rfl
theorem g5 : ((Rows.scriptReadsRow.stops == [])) = true := by kernel_rfl
theorem g6 : ((Tryz.pinned.checked.prog.stops == [])) = true := by kernel_rfl
theorem g7 : ((Rows.scriptReadsRow.knobs == [])) = true := by kernel_rfl
theorem g8 : ((Tryz.pinned.checked.prog.stopKnobs == [])) = true := by kernel_rfl
theorem g9 : ((Rows.scriptReadsRow.inPlace == Tryz.pinned.checked.prog.inPlace 3)) = true := by kernel_rfl
theorem g10 : ((Rows.scriptReadsRow.unfollowed == Tryz.pinned.checked.prog.unfollowed 3)) = true := by kernel_rfl
theorem g11 : ((Rows.scriptReadsRow.recurses == Tryz.pinned.checked.prog.recurses 3)) = true := by kernel_rfl
theorem g12 : ((Rows.scriptReadsRow.named == Tryz.pinned.checked.prog.varsNamed 3)) = true := by kernel_rfl
theorem g13 : ((Rows.scriptReadsRow.maps == (Tryz.f3.params.toList ++ Rows.scriptReadsSpec.plain.varTypes Tryz.pinned.checked.prog).any (Tryz.pinned.checked.prog.mapsRec ·))) = true := by kernel_rfl
theorem g14 : ((Rows.scriptReadsRow.ifaces == (Tryz.f3.params.toList ++ Rows.scriptReadsSpec.plain.varTypes Tryz.pinned.checked.prog).any (Tryz.pinned.checked.prog.ifacesRec ·))) = true := by kernel_rfl
theorem g15 : ((Rows.scriptReadsRow.mapsOut == Tryz.pinned.checked.prog.mapsAmong Tryz.f3.resultTypes.toList)) = true := by kernel_rfl
theorem g16 : ((Rows.scriptReadsRow.loops == (Tryz.f3.params.toList ++ Rows.scriptReadsSpec.plain.varTypes Tryz.pinned.checked.prog).any (Tryz.pinned.checked.prog.loopsFrom ·))) = true := by kernel_rfl
theorem g17 : ((Rows.scriptReadsRow.wideKeys == (Tryz.f3.params.toList ++ Rows.scriptReadsSpec.plain.varTypes Tryz.pinned.checked.prog ++ Tryz.f3.resultTypes.toList).any (Tryz.pinned.checked.prog.wideKeysFrom ·))) = true := by kernel_rfl
theorem g18 : (Rows.scriptReadsSpec.vars.all (Tryz.pinned.checked.prog.varReadable ·)) = true := by kernel_rfl
theorem g19 : (Tryz.f3.resultTypes.all (fun t => Tryz.pinned.checked.prog.readableRec t && decide (t < Tryz.pinned.checked.prog.types.size))) = true := by kernel_rfl
theorem g20 : ((Rows.scriptReadsRow.ifacesOut == Tryz.f3.resultTypes.toList.any (Tryz.pinned.checked.prog.ifacesRec ·))) = true := by kernel_rfl
theorem g21 : ((Rows.scriptReadsRow.loopsOut == Tryz.f3.resultTypes.toList.any (Tryz.pinned.checked.prog.loopsFrom ·))) = true := by kernel_rfl
theorem g22 : ((Rows.scriptReadsRow.plainKeys == Tryz.pinned.checked.prog.plainKeys)) = true := by kernel_rfl
theorem g23 : (Rows.scriptReadsRow.shortTexts.isNone) = true := by kernel_rfl
theorem g24 : (Tryz.pinned.checked.prog.stopsHeard) = true := by kernel_rfl
theorem g25 : (Tryz.pinned.checked.prog.mayEnter) = true := by kernel_rfl
theorem g26 : ((Rows.scriptReadsRow.lifted == Tryz.pinned.checked.prog.liftsFinal)) = true := by kernel_rfl
theorem g27 : ((Tryz.pinned.checked.prog.make == some Rows.scriptReadsRow.make)) = true := by kernel_rfl
theorem g28 : ((Rows.scriptReadsRow.kinds == (if Rows.scriptReadsRow.domain.isEmpty then [] else Tryz.f3.params.toList.map fun t => match Tryz.pinned.checked.prog.underlying t with | some (.int k) => some k | _ => none))) = true := by kernel_rfl
theorem g29 : ((Rows.scriptReadsRow.pinned == Rows.scriptReadsRow.pinnedBy)) = true := by kernel_rfl
theorem g30 : ((Rows.scriptReadsRow.veiled == (Tryz.f3.params.toList ++ Rows.scriptReadsSpec.plain.varTypes Tryz.pinned.checked.prog ++ Tryz.f3.resultTypes.toList).any (Tryz.pinned.checked.prog.veiledRec ·))) = true := by kernel_rfl
theorem g31 : (Rows.scriptReadsRow.veiledFits Tryz.pinned.checked.prog Tryz.f3.params.toList (Tryz.f3.params.toList ++ Rows.scriptReadsSpec.plain.varTypes Tryz.pinned.checked.prog ++ Tryz.f3.resultTypes.toList)) = true := by kernel_rfl
theorem both {a b : Bool} (h : a = true) (k : b = true) : (a && b) = true := by rw [h, k]; rfl
set_option maxRecDepth 100000 in
theorem facts : joinedFacts Tryz.pinned.checked.prog 3 Tryz.f3 Rows.scriptReadsSpec Rows.scriptReadsRow = true := by
  unfold joinedFacts
  exact (both (both (both (both (both (both (both (both (both (both (both (both (both (both (both (both (both (both (both (both (both (both (both (both (both (both (both (both (both (both (both g0 g1) g2) g3) g4) g5) g6) g7) g8) g9) g10) g11) g12) g13) g14) g15) g16) g17) g18) g19) g20) g21) g22) g23) g24) g25) g26) g27) g28) g29) g30) g31)
end Go.Proofs.YtpgjilakcepilaaGreat.scriptReads
