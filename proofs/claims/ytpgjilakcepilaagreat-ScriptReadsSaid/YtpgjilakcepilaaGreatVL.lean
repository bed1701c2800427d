/- The contracts of the references' Bits and Same. -/
import Derived.Test.YtpgjilakcepilaaGreatVK
namespace Go.Proofs.YtpgjilakcepilaaGreat.PV
open Go.RowKit Go.Proofs.YtpgjilakcepilaaGreat.PScriptReads Go.Proofs.YtpgjilakcepilaaGreatW.PrintWords Go.Proofs.YtpgjilakcepilaaGreatW.PrintLast Go.Proofs.YtpgjilakcepilaaGreatW.PrintMore
set_option linter.unusedVariables false

theorem drawn_trans {w w1 w2 : World} (h : Drawn0 w w1) (h2 : Drawn0 w1 w2) : Drawn0 w w2 := by
  obtain ⟨n, rfl⟩ := h
  obtain ⟨m, rfl⟩ := h2
  exact ⟨n + m, by rw [World.drewN_drewN]⟩
set_option maxHeartbeats 1000000 in
set_option maxRecDepth 100000 in
theorem rbits_any (a b : Nat) (w : World) (ha : a < 18446744073709551616) (hb : b < 18446744073709551616) : Calls Tryz.prog 69 #[.complex .f64 a b] w fun e w' => e = .returned (.tuple #[.int .u64 (formN a), .int .u64 (formN b)]) ∧ Drawn0 w w' := by
  have h94 := run94
  have HA := Aside0.mk (refForm a ha)
  have HB := Aside0.mk (refForm b hb)
  clear ha hb
  go_enter Tryz.func69, Tryz.ntmps69
  go_wp2_with fail
  refine (cloakroomref01_Form.calls _ _ _ HA.out).mono ?_
  rintro e w1 ⟨rfl, d1⟩
  have D1 := Aside0.mk d1
  clear d1
  go_wp2_with fail
  refine (cloakroomref01_Form.calls _ _ _ HB.out).mono ?_
  rintro e w2 ⟨rfl, d2⟩
  have D2 := Aside0.mk d2
  clear d2
  go_wp2
  go_ret2
  exact ⟨rfl, drawn_trans D1.out D2.out⟩
set_option maxHeartbeats 1000000 in
set_option maxRecDepth 100000 in
theorem rsame_any (a b c d : Nat) (w : World) (ha : a < 18446744073709551616) (hb : b < 18446744073709551616) (hc : c < 18446744073709551616) (hd : d < 18446744073709551616) : Calls Tryz.prog 38 #[.complex .f64 a b, .complex .f64 c d] w fun e w' => e = .returned (.bool (sameC a b c d)) ∧ Drawn0 w w' := by
  have H1 := Aside0.mk (fun W => rbits_any a b W ha hb)
  have H2 := Aside0.mk (fun W => rbits_any c d W hc hd)
  clear ha hb hc hd
  go_enter Tryz.func38, Tryz.ntmps38
  go_wp2_with fail
  refine (H1.out _).mono ?_
  rintro e w1 ⟨rfl, d1⟩
  have D1 := Aside0.mk d1
  clear d1
  go_wp2_with fail
  refine (H2.out _).mono ?_
  rintro e w2 ⟨rfl, d2⟩
  have D2 := Aside0.mk d2
  clear d2
  go_wp2
  · go_ret
    have hc : (formN a : Int) = formN c := by assumption
    refine ⟨ret_bool ?_, drawn_trans D1.out D2.out⟩
    rw [sameC, Int.ofNat.inj hc, beq_self_eq_true, Bool.true_and, Bool.eq_iff_iff]
    simp only [beq_iff_eq]
    omega
  · go_ret
    have hc : ¬ (formN a : Int) = formN c := by assumption
    refine ⟨ret_bool ?_, drawn_trans D1.out D2.out⟩
    have h : (formN a == formN c) = false := by simpa using fun e : formN a = formN c => hc (by rw [e])
    rw [sameC, h, Bool.false_and]
end Go.Proofs.YtpgjilakcepilaaGreat.PV
