/- The law's walk, from what scriptAlive and house.New say. -/
import Derived.Test.YtpgjilakcepilaaGreatVW
namespace Go.Proofs.YtpgjilakcepilaaGreat.PV
open Go.RowKit Go.Proofs.YtpgjilakcepilaaGreat.PScriptReads Go.Proofs.YtpgjilakcepilaaGreatW.PrintWords Go.Proofs.YtpgjilakcepilaaGreatW.PrintLast Go.Proofs.YtpgjilakcepilaaGreatW.PrintMore
set_option linter.unusedVariables false
set_option linter.unusedSimpArgs false
attribute [local go_sem] run_store_complex

/-- what scriptAlive says -/
def AliveSays : Prop := ∀ w : World, Calls Tryz.prog 4 #[] w fun e w' => e = .returned (.bool true) ∧ Below w.heap.size w w'
theorem readL_len (b : List Int) : (readL b).length ≤ 1000 := by
  unfold readL
  split
  · rename_i h
    unfold readB at h
    rw [Bool.and_eq_true, Bool.and_eq_true, decide_eq_true_eq, decide_eq_true_eq] at h
    rw [stepsN_length]
    omega
  · simp
theorem readL_fit {b : List Int} (hb : ∀ x ∈ b, byt x) : ∀ s ∈ readL b, fitS s := by
  intro s hs
  unfold readL at hs
  split at hs
  · rename_i h
    obtain ⟨hm, _, hst, _⟩ := law_yes hb h
    rw [← hst] at hs
    exact (stepsR_fit (byt_drop hb 18) _ s hs).1
  · simp at hs
set_option maxHeartbeats 4000000 in
set_option maxRecDepth 100000 in
theorem law_any (hN : NewSays) (hS : AliveSays) (A : Option Addr) (c : Nat) (b : List Int) (w : World) (hr : Kd.C (Kd.int .u8) w A b.length b) (hc : b.length ≤ c) (hb : ∀ x ∈ b, byt x) :
    Calls Tryz.prog 3 #[.slice A b.length c] w fun e w' => e = .returned (.bool true) ∧ Below w.heap.size w w' := by
  have HS := Aside0.mk hS
  have HR := Aside0.mk hr
  by_cases h8 : b.length ≤ 8000
  · have h80 : (b.length : Int) ≤ 8000 := by omega
    have HA := Aside0.mk (fun W A1 c1 h1 h2 => read_any hN A1 c1 b W h1 h2 hb h8)
    have HB := Aside0.mk (fun W h1 => rread_any A c b W h1 hc hb h8)
    have HC := Aside0.mk (fun W A1 A2 c1 c2 h1 h2 => rSame_any (readG b) A1 A2 c1 c2 (readL b) W h1 h2 (readL_len b) (readL_fit hb))
    unfold scriptV at HA HB HC
    clear hr hc hb hS
    go_enter Tryz.func3, Tryz.ntmps3
    go_wp2_with fail
    refine (HS.out _).mono ?_
    rintro e w1 ⟨rfl, b1⟩
    have B1 := Aside0.mk b1
    have K1 := Aside0.mk (Kd.C_below HR.out b1)
    clear b1
    go_wp2_with ((with_reducible refine gate_builtin (b := .append) (xs := #[.tmp 13, .tmp 14]) rfl ?_); at_builtin; refine Kd.R_append_rows (Kd.int .u8) (w0 := w) w.heap.size rfl (.tmp 13) (.tmp 14) 22 5 (.int .u8 0) 1 rfl Tryz.underlying22 info5 rfl (by decide) (by omega) (.slice (some ⟨w1.heap.size, 0, none⟩) 0 0) [] b _ _ _ (fun _ => True) (fun _ => False) rfl rfl ?aO ?aR (fun _ _ h => h) (fun _ h => h.elim) (fun _ _ => trivial) ?aB ?aS ?aL ?_; (case aR => exact Kd.C_alloc K1.out _); (case aB => exact B1.out.alloc (below_size B1.out) _); (case aO => exact R_empty w1 _ (below_size B1.out)); (case aS => exact (below_size (B1.out.alloc (below_size B1.out) _))); (case aL => simp; omega); intro v2 w2 ho hb hg hat; rw [List.nil_append] at ho; obtain ⟨A2, c2, rfl, l2, k2⟩ := Kd.R_reads ho; have K2 := Aside0.mk k2; have L2 := Aside0.mk l2; have B2 := Aside0.mk hb; clear ho hb hg hat l2 k2)
    refine (HA.out _ A2 c2 K2.out L2.out).mono ?_
    rintro e w3 ⟨A3, c3, rfl, k3, l3, b3⟩
    have K3 := Aside0.mk k3
    have B3 := Aside0.mk (below_step B2.out b3)
    clear k3 l3 b3
    go_wp2_with fail
    refine (HB.out _ (Kd.C_below HR.out (B3.out.alloc (below_size B3.out) _))).mono ?_
    rintro e w5 ⟨A5, c5, rfl, k5, l5, b5⟩
    have K5 := Aside0.mk k5
    have K4 := Aside0.mk (Kd.C_below (Kd.C_alloc K3.out _) b5)
    have B5 := Aside0.mk (below_step (B3.out.alloc (below_size B3.out) _) b5)
    have Z5 := Aside0.mk (blk_below (blk_alloc w3 28 (cfgC (readG b) (.slice A3 (readL b).length c3))) b5)
    have hlt := blk_lt Z5.out
    have hy := blk_cell Z5.out
    have hyf := blk_frozen Z5.out
    unfold cfgC at hy
    clear k5 l5 b5
    go_wp2_with fail
    refine (HC.out _ A3 A5 c3 c5 (Kd.C_alloc K4.out _) (Kd.C_alloc K5.out _)).mono ?_
    rintro e w7 ⟨rfl, b7⟩
    have B7 := Aside0.mk (below_step (B5.out.alloc (below_size B5.out) _) b7)
    clear b7
    go_wp2
    go_ret
    exact ⟨by simp, B7.out⟩
  · have h80 : 8000 < (b.length : Int) := by omega
    clear hr hc hb hS
    go_enter Tryz.func3, Tryz.ntmps3
    go_wp2_with fail
    refine (HS.out _).mono ?_
    rintro e w1 ⟨rfl, b1⟩
    have B1 := Aside0.mk b1
    clear b1
    go_wp2
    go_ret
    exact ⟨rfl, B1.out⟩
end Go.Proofs.YtpgjilakcepilaaGreat.PV
