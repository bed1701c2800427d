/- The contract of the reference's Right. -/
import Derived.Test.YtpgjilakcepilaaGreatVQ
import Derived.Test.YtpgjilakcepilaaGreatVR
namespace Go.Proofs.YtpgjilakcepilaaGreat.PV
open Go.RowKit Go.Proofs.YtpgjilakcepilaaGreat.PScriptReads Go.Proofs.YtpgjilakcepilaaGreatW.PrintWords Go.Proofs.YtpgjilakcepilaaGreatW.PrintLast Go.Proofs.YtpgjilakcepilaaGreatW.PrintMore
set_option linter.unusedVariables false
set_option linter.unusedSimpArgs false
attribute [local go_sem] run_store_complex

set_option maxHeartbeats 4000000 in
set_option maxRecDepth 100000 in
theorem rRight_any (g : Cfg) (A : Option Addr) (c : Nat) (l : List Stp) (w : World) (hr : kStp.C w A l.length l) (hL : l.length ≤ 1000) (hf : ∀ s ∈ l, fitS s) :
    Calls Tryz.prog 35 #[scriptV g A l.length c] w fun e w' => e = .returned (.bool (scriptB g l)) ∧ Below w.heap.size w w' := by
  have HR := Aside0.mk hr
  have HL := Aside0.mk hL
  have HF := Aside0.mk hf
  have HN := Aside0.mk (rcfg_any g)
  unfold cfgV at HN
  unfold scriptV
  clear hr hf
  cases hg : cfgB g with
  | false =>
    have HE : Hid (scriptB g l = false) := Lib.hid (by unfold scriptB; rw [hg, Bool.and_false, Bool.and_false])
    rw [hg] at HN
    clear hg
    go_enter Tryz.func35, Tryz.ntmps35
    go_wp2_with (go_at_call 67; refine (HN.out _).mono ?_; rintro e w2 ⟨rfl, b2⟩; have B2 := Aside0.mk b2; clear b2)
    go_ret
    exact ⟨ret_bool (by rw [HE.out]), below_step ((Below.refl _ _).alloc (Nat.le_refl _) _) B2.out⟩
  | true =>
    rw [hg] at HN
    by_cases h5 : l.length ≤ 500
    · have HE : Hid (scriptB g l = l.all rightB) := Lib.hid (by unfold scriptB; rw [hg, decide_eq_true h5, Bool.and_true, Bool.true_and])
      clear hg
      go_enter Tryz.func35, Tryz.ntmps35
      go_wp2_with (go_at_call 67; refine (HN.out _).mono ?_; rintro e w2 ⟨rfl, b2⟩; have B2 := Aside0.mk b2; obtain ⟨hc2, hf2⟩ := bcell b2; clear b2)
      go_loopg [18] l.length (fun kq v18 w' => ∃ k : Nat, v18 = .int .i64 k ∧ Aside0 (k + kq = l.length) ∧ Aside0 (∀ s ∈ l.take k, rightB s = true) ∧ Aside0 (Below w.heap.size w w'))
      case atStart => exact ⟨0, rfl, ⟨by omega⟩, ⟨by simp⟩, ⟨below_step ((Below.refl _ _).alloc (Nat.le_refl _) _) B2.out⟩⟩
      case round =>
        obtain ⟨k, rfl, HK, HA, HB⟩ := hrel
        by_cases hk : k < l.length
        · have hk1 := hk
          obtain ⟨ad, s, rfl, hs, c0, c1, c2, c3, c4, c5, c6, c7, c8, c9⟩ := at_stp' (Kd.C_below HR.out HB.out) k hk
          have HS := Aside0.mk hs
          have HWR := Aside0.mk (fun W => rright_any s W (HF.out s (List.mem_of_getElem? hs)))
          clear hs
          unfold stepV at HWR
          cases hrs : rightB s with
          | true =>
            have HRS := Aside0.mk hrs
            clear hrs
            go_wp2_with (go_at_call 68; refine (HWR.out _).mono ?_; rw [HRS.out]; rintro e w3 ⟨rfl, b1⟩; have B1 := Aside0.mk b1; clear b1)
            go_roundg (gk - 1)
            case measure => have := HK.out; omega
            case rel => exact ⟨k + 1, by go_num, ⟨by have := HK.out; omega⟩, ⟨fun x hx => by
              rw [List.take_add_one, HS.out] at hx
              rcases List.mem_append.1 hx with hx | hx
              · exact HA.out x hx
              · simp at hx
                rw [hx]
                exact HRS.out⟩, ⟨below_step (HB.out.alloc (below_size HB.out) _) B1.out⟩⟩
          | false =>
            have HRS := Aside0.mk hrs
            clear hrs
            go_wp2_with (go_at_call 68; refine (HWR.out _).mono ?_; rw [HRS.out]; rintro e w3 ⟨rfl, b1⟩; have B1 := Aside0.mk b1; clear b1)
            go_ret
            refine ⟨ret_bool ?_, below_step (HB.out.alloc (below_size HB.out) _) B1.out⟩
            rw [HE.out]
            refine (List.all_eq_false.2 ⟨s, List.mem_of_getElem? HS.out, ?_⟩).symm
            rw [HRS.out]
            simp
        · obtain rfl : k = l.length := by have := HK.out; omega
          go_wp2
          go_ret
          refine ⟨ret_bool ?_, HB.out⟩
          rw [HE.out]
          have h := HA.out
          rw [List.take_length] at h
          exact (List.all_eq_true.2 h).symm
    · have HE : Hid (scriptB g l = false) := Lib.hid (by unfold scriptB; rw [decide_eq_false h5, Bool.false_and])
      have h6 : 500 < (l.length : Int) := by omega
      clear h5 hg
      go_enter Tryz.func35, Tryz.ntmps35
      go_wp2_with (go_at_call 67; refine (HN.out _).mono ?_; rintro e w2 ⟨rfl, b2⟩; have B2 := Aside0.mk b2; obtain ⟨hc2, hf2⟩ := bcell b2; clear b2)
      go_ret
      exact ⟨ret_bool (by rw [HE.out]), below_step ((Below.refl _ _).alloc (Nat.le_refl _) _) B2.out⟩
end Go.Proofs.YtpgjilakcepilaaGreat.PV
