/- 'cloakroom/cloakroomlaw23.ScriptReads' returns true at every input, and its argument reads afterwards as before: no condition. -/
import Derived.Test.YtpgjilakcepilaaGreatRows
import Derived.Test.YtpgjilakcepilaaGreatZA
import Derived.Test.YtpgjilakcepilaaGreatVF2
import Derived.ChangeSlices
import Derived.ChangeSame
import Derived.ProofKit
import Derived.OpenShut
namespace Go.Proofs.YtpgjilakcepilaaGreat.scriptReads
open Go.ChangeShapes Go.WideShapes Go.ChangeAt Go.RowKit
open Go.Proofs.YtpgjilakcepilaaGreat.PV Go.Proofs.YtpgjilakcepilaaGreatW.PrintWords

theorem own : ownKnob Tryz.prog.godebug = none := by kernel_rfl
theorem cells5 : Tryz.prog.cellsOf 5 = 1 := by kernel_rfl

theorem walk (A : Option Addr) (c : Nat) (b : List Int) (w : World) (hr : Kd.C (Kd.int .u8) w A b.length b) (hc : b.length ≤ c) (hb : ∀ x ∈ b, byt x) :
    Calls Tryz.prog 3 #[.slice A b.length c] w fun e w' => e = .returned (.bool true) ∧ Below w.heap.size w w' := law_any alive.new_says alive.alive_says A c b w hr hc hb

set_option maxRecDepth 100000 in
theorem lifted (os : Os) (started : os.Started) (H : Type) (enc : TypeId × Value → H) :
    ReturnsInHanded {} Tryz.checked os 3 .any (Rows.scriptReadsSpec.pre6 enc Tryz.prog Tryz.f3 Rows.scriptReadsRow.domain false) (Rows.scriptReadsSpec.post enc Tryz.prog Tryz.f3 false true false false) := by
  refine returnsInHanded_of_change (C := Tryz.checked) own started (by kernel_rfl) Tryz.func3
    (ChangeSpec.witness6 (enc := enc) (C := Tryz.checked) false ⟨#[], #[.slice none 0 0], []⟩ 8 (by kernel_rfl) (by kernel_rfl) (by kernel_rfl) (by kernel_rfl)) ?_
  intro W base args ds gs before hval0 hW hcnd _
  have hval : ∀ (j : Nat) t v, Tryz.f3.params[j]? = some t → args[j]? = some v → Value.okWide Tryz.prog W .any base t v := hval0
  have hW' := hW
  obtain ⟨p, q, hA0, hV, rfl, hfz, hnd⟩ := hW
  have hA : DataW.TrodAll enc Tryz.prog W 0 (fun _ => true) true Tryz.f3.params.toList args.toList ds p := hA0
  rw [Tryz.params3] at hA hval
  obtain ⟨v0, d0, rfl, rfl, h0⟩ := trodAll_one hA
  obtain ⟨rfl, rfl⟩ := trodVars_none hV
  obtain ⟨a0, len, cap, rfl⟩ := okWide_slice Tryz.underlying22 (hval 0 22 v0 rfl rfl)
  obtain ⟨fuel, hf⟩ := h0
  clear hA0 hval0
  simp only [List.append_nil] at hW'
  rcases open_ints Tryz.underlying22 Tryz.underlying5 cells5 hf with ⟨hcs, hx⟩ | ⟨a, len', cap', zs, hcs, _, hl, hm, hz, hx, hcell, hwz⟩
  · simp [Value.cells] at hcs
    obtain ⟨rfl, rfl, rfl⟩ := hcs
    simp only [Prod.mk.injEq] at hx
    obtain ⟨rfl, rfl⟩ := hx
    refine (walk none 0 [] W (Kd.C_nil _ _) (Nat.le_refl 0) (fun x hx => by simp at hx)).mono fun e W' ⟨he, bel⟩ => ?_
    subst he
    exact ⟨_, rfl, _, _, _, [], [], [], hW', trodAll_mk1 (shut_bool Tryz.underlying4 _), trodAll_mk1 (shut_slice_nil Tryz.underlying22), rfl, bel.frame _, fun h => by cases h⟩
  · simp [Value.cells] at hcs
    obtain ⟨rfl, rfl, rfl⟩ := hcs
    simp only [Prod.mk.injEq] at hx
    obtain ⟨rfl, rfl⟩ := hx
    simp only [if_true] at hz
    have old : ∀ i, i < zs.length → a.block < W.heap.size := by
      intro i hi
      have := hcell i hi
      unfold World.cell? at this
      rw [block_add] at this
      rcases Nat.lt_or_ge a.block W.heap.size with h | h
      · exact h
      · rw [Array.getElem?_eq_none h] at this; cases this
    have hlen : (zs.take len).length = len := by rw [List.length_take]; omega
    have hC : Kd.C (Kd.int .u8) W (some a) (zs.take len).length (zs.take len) := by
      refine ⟨rfl, by have := hm; unfold maxLen at this; omega, fun _ => ⟨a, rfl, fun j p hj => ⟨[.int .u8 p], rfl, rfl, fun i u hu => ?_⟩⟩⟩
      cases i with
      | succ i => simp at hu
      | zero =>
        simp at hu
        subst hu
        obtain ⟨hj1, rfl⟩ := List.getElem?_eq_some_iff.1 hj
        have hj2 : j < zs.length := by omega
        have hc := hcell j hj2
        show W.cell? (a.add (j * 1 + 0)) = _
        rw [Nat.mul_one, Nat.add_zero, hc, List.getElem_take, List.getD_eq_getElem?_getD, List.getElem?_eq_getElem hj2]
        rfl
    have hB : ∀ x ∈ zs.take len, byt x := by
      intro x hx
      have h := hwz x (List.mem_of_mem_take hx)
      simp [Lit.wf] at h
      have e1 : IntKind.u8.min = 0 := rfl
      have e2 : IntKind.u8.max = 255 := rfl
      unfold byt
      omega
    have hwk := walk (some a) cap (zs.take len) W hC (by omega) hB
    rw [hlen] at hwk
    refine hwk.mono fun e W' ⟨he, bel⟩ => ?_
    subst he
    have again : DataW.Trod enc Tryz.prog W' 0 (fun b => decide (b < W.heap.size)) true 22 (.slice (some a) len cap) (.slice (lits .u8 (zs.take len)) (lits .u8 (zs.drop len))) (MemPlace.row a zs.length) := by
      have hcell' : ∀ i, i < zs.length → W'.cell? (a.add i) = some (.int .u8 (zs.getD i 0)) := fun i hi => by
        rw [bel.cell (by rw [block_add]; exact old i hi)]; exact hcell i hi
      have hsp : zs.length = (if (fun b => decide (b < W.heap.size)) a.block then cap else len) := by
        by_cases h0 : zs.length = 0
        · have : len = 0 := by omega
          split <;> omega
        · have : decide (a.block < W.heap.size) = true := by simpa using old 0 (by omega)
          simp only [this, if_true]
          exact hz
      have t0 := shut_ints (enc := enc) (w := W') (base := 0) (spare := fun b => decide (b < W.heap.size)) (held := true) (a := a) (len := len) (cap := cap) (zs := zs) 0 Tryz.underlying22 Tryz.underlying5 cells5 (Nat.zero_le _) hl hm hsp hcell' hwz
      exact ⟨2, by simpa [Value.cells] using t0⟩
    exact ⟨_, rfl, _, _, _, [], _, [], hW', trodAll_mk1 (shut_bool Tryz.underlying4 _), trodAll_mk1 again, rfl, bel.frame _, fun h => by cases h⟩

theorem over : Rows.scriptReadsRow.holds Tryz.pinned (OpenSpec.ofChange Rows.scriptReadsSpec) :=
  OpenClaim.holds_of_wide 3 Tryz.f3 rfl rfl rfl rfl rfl rfl rfl ⟨rfl, rfl, rfl, rfl, rfl⟩ rfl rfl rfl rfl rfl (by kernel_rfl) Tryz.func3 facts
    (of_decide_eq_true (by kernel_rfl)) (by unfold Func.isWrapper; first | (rw [if_pos (by decide +kernel)]; kernel_rfl) | (rw [if_neg (by decide +kernel)]; exact ⟨rfl, rfl⟩))
    (fun os started H enc _ => lifted os started H enc)

/-- THE STATEMENT -/
theorem proved : Rows.ScriptReadsSaid :=
  over
#print axioms proved
end Go.Proofs.YtpgjilakcepilaaGreat.scriptReads
