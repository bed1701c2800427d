/- 'cloakroom/cloakroomlaw23.ScriptNames' returns true, whatever the world in which it is called: no condition. The short run (aCallP) is sound over the model, and the kernel runs it over the program's own tables, piece by piece. -/
import Derived.Test.YtijfafacddefhadGreatRows
import Derived.Test.YtijfafacddefhadGreatXScriptNamesP0
import Derived.Test.YtijfafacddefhadGreatXScriptNamesP1
import Derived.Test.YtijfafacddefhadGreatXScriptNamesF
import Derived.ProofKit
import Derived.OpenShut
namespace Go.Proofs.YtijfafacddefhadGreat.scriptNames
open Go.ChangeShapes Go.WideShapes Go.ChangeAt Go.RowKit
open Ab

theorem own : ownKnob Tryz.prog.godebug = none := by kernel_rfl

/-! ### The walk: by the short run -/
theorem s96 : ∀ p ∈ l96, SumOk Tryz.prog p := List.forall_mem_cons.2 ⟨crcOk, List.forall_mem_nil _⟩
theorem q96 : CutOk Tryz.prog c96 := cut_ok tabOk (sums_ok s96) k96
theorem s235 : ∀ p ∈ l235, SumOk Tryz.prog p := List.forall_mem_cons.2 ⟨crcOk, List.forall_mem_nil _⟩
theorem q235 : CutOk Tryz.prog c235 := cut_ok tabOk (sums_ok s235) k235
theorem s234 : ∀ p ∈ l234, SumOk Tryz.prog p := List.forall_mem_cons.2 ⟨crcOk, List.forall_mem_cons.2 ⟨cutSum_ok (List.forall_mem_cons.2 ⟨⟨rfl, q235⟩, List.forall_mem_nil _⟩), List.forall_mem_nil _⟩⟩
theorem q234 : CutOk Tryz.prog c234 := cut_ok tabOk (sums_ok s234) k234
theorem sLast : ∀ p ∈ lLast, SumOk Tryz.prog p := List.forall_mem_cons.2 ⟨crcOk, List.forall_mem_cons.2 ⟨cutSum_ok (List.forall_mem_cons.2 ⟨⟨rfl, q96⟩, List.forall_mem_nil _⟩), List.forall_mem_cons.2 ⟨cutSum_ok (List.forall_mem_cons.2 ⟨⟨rfl, q234⟩, List.forall_mem_nil _⟩), List.forall_mem_nil _⟩⟩⟩
theorem walk (w : World) : Calls Tryz.prog 9 #[] w fun e w' => e = .returned (.bool true) ∧ Below w.heap.size w w' := closedP_true tabOk (sums_ok sLast) (by kernel_rfl) run w

/-! ### THE ROW's STEP: WRITTEN OUT: LEAVE IT -/
set_option maxRecDepth 100000 in
theorem lifted (os : Os) (started : os.Started) (H : Type) (enc : TypeId × Value → H) :
    ReturnsInHanded {} Tryz.checked os 9 .any (Rows.scriptNamesSpec.pre6 enc Tryz.prog Tryz.f9 Rows.scriptNamesRow.domain false) (Rows.scriptNamesSpec.post enc Tryz.prog Tryz.f9 false true false false) := by
  refine returnsInHanded_of_change (C := Tryz.checked) own started (by kernel_rfl) Tryz.func9
    (ChangeSpec.witness6 (enc := enc) (C := Tryz.checked) false ⟨#[], #[], []⟩ 8 (by kernel_rfl) (by kernel_rfl) (by kernel_rfl) (by kernel_rfl)) ?_
  intro W base args ds gs before hval0 hW hcnd _
  have hval : ∀ (j : Nat) t v, Tryz.f9.params[j]? = some t → args[j]? = some v → Value.okWide Tryz.prog W .any base t v := hval0
  have hW' := hW
  obtain ⟨p, q, hA0, hV, rfl, hfz, hnd⟩ := hW
  have hA : DataW.TrodAll enc Tryz.prog W 0 (fun _ => true) true Tryz.f9.params.toList args.toList ds p := hA0
  rw [Tryz.params9] at hA hval
  obtain ⟨rfl, rfl, rfl⟩ := trodAll_none hA
  obtain ⟨rfl, rfl⟩ := trodVars_none hV
  clear hA0 hval0
  simp only [List.append_nil] at hW'
  refine (walk W).mono fun e W' ⟨he, bel⟩ => ?_
  subst he
  exact ⟨_, rfl, _, _, _, [], [], [], hW', trodAll_mk1 (shut_bool Tryz.underlying4 _), rfl, rfl, bel.frame _, fun h => by cases h⟩

theorem over : Rows.scriptNamesRow.holds Tryz.pinned (OpenSpec.ofChange Rows.scriptNamesSpec) :=
  OpenClaim.holds_of_wide 9 Tryz.f9 rfl rfl rfl rfl rfl rfl rfl ⟨rfl, rfl, rfl, rfl, rfl⟩ rfl rfl rfl rfl rfl (by kernel_rfl) Tryz.func9 facts
    (of_decide_eq_true (by kernel_rfl)) (by unfold Func.isWrapper; first | (rw [if_pos (by decide +kernel)]; kernel_rfl) | (rw [if_neg (by decide +kernel)]; exact ⟨rfl, rfl⟩))
    (fun os started H enc _ => lifted os started H enc)

/-- THE STATEMENT -/
theorem proved : Rows.ScriptNamesSaid :=
  over
#print axioms proved
end Go.Proofs.YtijfafacddefhadGreat.scriptNames
