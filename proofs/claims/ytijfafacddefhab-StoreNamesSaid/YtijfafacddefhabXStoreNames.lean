/- 'cloakroom/cloakroomlaw09.StoreNames' returns true, whatever the world in which it is called: no condition. The short run (aCallP) is sound over the model, and the kernel runs it over the program's own tables, piece by piece. -/
import Derived.Test.YtijfafacddefhabRows
import Derived.Test.YtijfafacddefhabXStoreNamesP0
import Derived.Test.YtijfafacddefhabXStoreNamesP1
import Derived.ProofKit
import Derived.OpenShut
namespace Go.Proofs.Ytijfafacddefhab.storeNames
open Go.ChangeShapes Go.WideShapes Go.ChangeAt Go.RowKit
open Ab

theorem own : ownKnob Try.prog.godebug = none := by kernel_rfl

/-! ### The walk: by the short run -/
theorem s77 : ∀ p ∈ l77, SumOk Try.prog p := List.forall_mem_cons.2 ⟨crcOk, List.forall_mem_nil _⟩
theorem q77 : CutOk Try.prog c77 := cut_ok tabOk (sums_ok s77) k77
theorem s222 : ∀ p ∈ l222, SumOk Try.prog p := List.forall_mem_cons.2 ⟨crcOk, List.forall_mem_nil _⟩
theorem q222 : CutOk Try.prog c222 := cut_ok tabOk (sums_ok s222) k222
theorem s287 : ∀ p ∈ l287, SumOk Try.prog p := List.forall_mem_cons.2 ⟨crcOk, List.forall_mem_nil _⟩
theorem q287 : CutOk Try.prog c287 := cut_ok tabOk (sums_ok s287) k287
theorem s286 : ∀ p ∈ l286, SumOk Try.prog p := List.forall_mem_cons.2 ⟨crcOk, List.forall_mem_cons.2 ⟨cutSum_ok (List.forall_mem_cons.2 ⟨⟨rfl, q287⟩, List.forall_mem_nil _⟩), List.forall_mem_nil _⟩⟩
theorem q286 : CutOk Try.prog c286 := cut_ok tabOk (sums_ok s286) k286
theorem sLast : ∀ p ∈ lLast, SumOk Try.prog p := List.forall_mem_cons.2 ⟨crcOk, List.forall_mem_cons.2 ⟨cutSum_ok (List.forall_mem_cons.2 ⟨⟨rfl, q77⟩, List.forall_mem_nil _⟩), List.forall_mem_cons.2 ⟨cutSum_ok (List.forall_mem_cons.2 ⟨⟨rfl, q222⟩, List.forall_mem_nil _⟩), List.forall_mem_cons.2 ⟨cutSum_ok (List.forall_mem_cons.2 ⟨⟨rfl, q286⟩, List.forall_mem_nil _⟩), List.forall_mem_nil _⟩⟩⟩⟩
theorem walk (w : World) : Calls Try.prog 3 #[] w fun e w' => e = .returned (.bool true) ∧ Below w.heap.size w w' := closedP_true tabOk (sums_ok sLast) (by kernel_rfl) run w

/-! ### THE ROW's STEP: WRITTEN OUT: LEAVE IT -/
set_option maxRecDepth 100000 in
theorem lifted (os : Os) (started : os.Started) (H : Type) (enc : TypeId × Value → H) :
    ReturnsInHanded {} Try.checked os 3 .any (Rows.storeNamesSpec.pre6 enc Try.prog Try.f3 Rows.storeNamesRow.domain false) (Rows.storeNamesSpec.post enc Try.prog Try.f3 false true false false) := by
  refine returnsInHanded_of_change (C := Try.checked) own started (by kernel_rfl) Try.func3
    (ChangeSpec.witness6 (enc := enc) (C := Try.checked) false ⟨#[], #[], []⟩ 8 (by kernel_rfl) (by kernel_rfl) (by kernel_rfl) (by kernel_rfl)) ?_
  intro W base args ds gs before hval0 hW hcnd _
  have hval : ∀ (j : Nat) t v, Try.f3.params[j]? = some t → args[j]? = some v → Value.okWide Try.prog W .any base t v := hval0
  have hW' := hW
  obtain ⟨p, q, hA0, hV, rfl, hfz, hnd⟩ := hW
  have hA : DataW.TrodAll enc Try.prog W 0 (fun _ => true) true Try.f3.params.toList args.toList ds p := hA0
  rw [Try.params3] at hA hval
  obtain ⟨rfl, rfl, rfl⟩ := trodAll_none hA
  obtain ⟨rfl, rfl⟩ := trodVars_none hV
  clear hA0 hval0
  simp only [List.append_nil] at hW'
  refine (walk W).mono fun e W' ⟨he, bel⟩ => ?_
  subst he
  exact ⟨_, rfl, _, _, _, [], [], [], hW', trodAll_mk1 (shut_bool Try.underlying4 _), rfl, rfl, bel.frame _, fun h => by cases h⟩

theorem over : Rows.storeNamesRow.holds Try.pinned (OpenSpec.ofChange Rows.storeNamesSpec) :=
  OpenClaim.holds_of_wide 3 Try.f3 rfl rfl rfl rfl rfl rfl rfl ⟨rfl, rfl, rfl, rfl, rfl⟩ rfl rfl rfl rfl rfl (by kernel_rfl) Try.func3 (by kernel_rfl)
    (of_decide_eq_true (by kernel_rfl)) (by unfold Func.isWrapper; first | (rw [if_pos (by decide +kernel)]; kernel_rfl) | (rw [if_neg (by decide +kernel)]; exact ⟨rfl, rfl⟩))
    (fun os started H enc _ => lifted os started H enc)

/-- THE STATEMENT -/
theorem proved : Rows.StoreNamesSaid :=
  over
#print axioms proved
end Go.Proofs.Ytijfafacddefhab.storeNames
