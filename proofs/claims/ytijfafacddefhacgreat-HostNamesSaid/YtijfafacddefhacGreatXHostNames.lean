/- 'cloakroom/cloakroomlaw19.HostNames' returns true, whatever the world in which it is called: no condition. The short run (aCallP) is sound over the model, and the kernel runs it over the program's own tables, piece by piece. -/
import Derived.Test.YtijfafacddefhacGreatRows
import Derived.Test.YtijfafacddefhacGreatXHostNamesP0
import Derived.Test.YtijfafacddefhacGreatXHostNamesP1
import Derived.Test.YtijfafacddefhacGreatXHostNamesP2
import Derived.ProofKit
import Derived.OpenShut
namespace Go.Proofs.YtijfafacddefhacGreat.hostNames
open Go.ChangeShapes Go.WideShapes Go.ChangeAt Go.RowKit
open Ab

theorem own : ownKnob Tryz.prog.godebug = none := by kernel_rfl

/-! ### The walk: by the short run -/
theorem s270 : ∀ p ∈ l270, SumOk Tryz.prog p := List.forall_mem_cons.2 ⟨crcOk, List.forall_mem_nil _⟩
theorem q270 : CutOk Tryz.prog c270 := cut_ok tabOk (sums_ok s270) k270
theorem s172 : ∀ p ∈ l172, SumOk Tryz.prog p := List.forall_mem_cons.2 ⟨crcOk, List.forall_mem_cons.2 ⟨cutSum_ok (List.forall_mem_cons.2 ⟨⟨rfl, q270⟩, List.forall_mem_nil _⟩), List.forall_mem_nil _⟩⟩
theorem q172 : CutOk Tryz.prog c172 := cut_ok tabOk (sums_ok s172) k172
theorem s479 : ∀ p ∈ l479, SumOk Tryz.prog p := List.forall_mem_cons.2 ⟨crcOk, List.forall_mem_nil _⟩
theorem q479 : CutOk Tryz.prog c479 := cut_ok tabOk (sums_ok s479) k479
theorem s545 : ∀ p ∈ l545, SumOk Tryz.prog p := List.forall_mem_cons.2 ⟨crcOk, List.forall_mem_nil _⟩
theorem q545 : CutOk Tryz.prog c545 := cut_ok tabOk (sums_ok s545) k545
theorem s524 : ∀ p ∈ l524, SumOk Tryz.prog p := List.forall_mem_cons.2 ⟨crcOk, List.forall_mem_cons.2 ⟨cutSum_ok (List.forall_mem_cons.2 ⟨⟨rfl, q545⟩, List.forall_mem_nil _⟩), List.forall_mem_nil _⟩⟩
theorem q524 : CutOk Tryz.prog c524 := cut_ok tabOk (sums_ok s524) k524
theorem s738 : ∀ p ∈ l738, SumOk Tryz.prog p := List.forall_mem_cons.2 ⟨crcOk, List.forall_mem_nil _⟩
theorem q738 : CutOk Tryz.prog c738 := cut_ok tabOk (sums_ok s738) k738
theorem s898 : ∀ p ∈ l898, SumOk Tryz.prog p := List.forall_mem_cons.2 ⟨crcOk, List.forall_mem_nil _⟩
theorem q898 : CutOk Tryz.prog c898 := cut_ok tabOk (sums_ok s898) k898
theorem s31 : ∀ p ∈ l31, SumOk Tryz.prog p := List.forall_mem_cons.2 ⟨crcOk, List.forall_mem_cons.2 ⟨cutSum_ok (List.forall_mem_cons.2 ⟨⟨rfl, q172⟩, List.forall_mem_cons.2 ⟨⟨rfl, q524⟩, List.forall_mem_nil _⟩⟩), List.forall_mem_cons.2 ⟨cutSum_ok (List.forall_mem_cons.2 ⟨⟨rfl, q479⟩, List.forall_mem_nil _⟩), List.forall_mem_cons.2 ⟨cutSum_ok (List.forall_mem_cons.2 ⟨⟨rfl, q738⟩, List.forall_mem_nil _⟩), List.forall_mem_cons.2 ⟨cutSum_ok (List.forall_mem_cons.2 ⟨⟨rfl, q898⟩, List.forall_mem_nil _⟩), List.forall_mem_nil _⟩⟩⟩⟩⟩
theorem q31 : CutOk Tryz.prog c31 := cut_ok tabOk (sums_ok s31) k31
theorem sLast : ∀ p ∈ lLast, SumOk Tryz.prog p := List.forall_mem_cons.2 ⟨crcOk, List.forall_mem_cons.2 ⟨cutSum_ok (List.forall_mem_cons.2 ⟨⟨rfl, q31⟩, List.forall_mem_nil _⟩), List.forall_mem_nil _⟩⟩
theorem walk (w : World) : Calls Tryz.prog 3 #[] w fun e w' => e = .returned (.bool true) ∧ Below w.heap.size w w' := closedP_true tabOk (sums_ok sLast) (by kernel_rfl) run w

/-! ### THE ROW's STEP: WRITTEN OUT: LEAVE IT -/
set_option maxRecDepth 100000 in
theorem lifted (os : Os) (started : os.Started) (H : Type) (enc : TypeId × Value → H) :
    ReturnsInHanded {} Tryz.checked os 3 .any (Rows.hostNamesSpec.pre6 enc Tryz.prog Tryz.f3 Rows.hostNamesRow.domain false) (Rows.hostNamesSpec.post enc Tryz.prog Tryz.f3 false true false false) := by
  refine returnsInHanded_of_change (C := Tryz.checked) own started (by kernel_rfl) Tryz.func3
    (ChangeSpec.witness6 (enc := enc) (C := Tryz.checked) false ⟨#[], #[], []⟩ 8 (by kernel_rfl) (by kernel_rfl) (by kernel_rfl) (by kernel_rfl)) ?_
  intro W base args ds gs before hval0 hW hcnd _
  have hval : ∀ (j : Nat) t v, Tryz.f3.params[j]? = some t → args[j]? = some v → Value.okWide Tryz.prog W .any base t v := hval0
  have hW' := hW
  obtain ⟨p, q, hA0, hV, rfl, hfz, hnd⟩ := hW
  have hA : DataW.TrodAll enc Tryz.prog W 0 (fun _ => true) true Tryz.f3.params.toList args.toList ds p := hA0
  rw [Tryz.params3] at hA hval
  obtain ⟨rfl, rfl, rfl⟩ := trodAll_none hA
  obtain ⟨rfl, rfl⟩ := trodVars_none hV
  clear hA0 hval0
  simp only [List.append_nil] at hW'
  refine (walk W).mono fun e W' ⟨he, bel⟩ => ?_
  subst he
  exact ⟨_, rfl, _, _, _, [], [], [], hW', trodAll_mk1 (shut_bool Tryz.underlying4 _), rfl, rfl, bel.frame _, fun h => by cases h⟩

theorem over : Rows.hostNamesRow.holds Tryz.pinned (OpenSpec.ofChange Rows.hostNamesSpec) :=
  OpenClaim.holds_of_wide 3 Tryz.f3 rfl rfl rfl rfl rfl rfl rfl ⟨rfl, rfl, rfl, rfl, rfl⟩ rfl rfl rfl rfl rfl (by kernel_rfl) Tryz.func3 (by kernel_rfl)
    (of_decide_eq_true (by kernel_rfl)) (by unfold Func.isWrapper; first | (rw [if_pos (by decide +kernel)]; kernel_rfl) | (rw [if_neg (by decide +kernel)]; exact ⟨rfl, rfl⟩))
    (fun os started H enc _ => lifted os started H enc)

/-- THE STATEMENT -/
theorem proved : Rows.HostNamesSaid :=
  over
#print axioms proved
end Go.Proofs.YtijfafacddefhacGreat.hostNames
