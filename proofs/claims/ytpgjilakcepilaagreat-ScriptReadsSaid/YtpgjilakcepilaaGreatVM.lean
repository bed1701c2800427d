/- The contract of the reference's Value, and what its part says. -/
import Derived.Test.YtpgjilakcepilaaGreatVL
namespace Go.Proofs.YtpgjilakcepilaaGreat.PV
open Go.RowKit Go.Proofs.YtpgjilakcepilaaGreat.PScriptReads Go.Proofs.YtpgjilakcepilaaGreatW.PrintWords Go.Proofs.YtpgjilakcepilaaGreatW.PrintLast Go.Proofs.YtpgjilakcepilaaGreatW.PrintMore
set_option linter.unusedVariables false

theorem part_step (k : Nat) (x : Int) (l : List Int) (i : Int) (h0 : 0 ≤ x) (h1 : x < 18446744073709551616) (hi0 : 0 ≤ i) (hi : i < 8) (hl : l.length < 100000) : cloakroomref02_part.l0 (k + 1) x l i = cloakroomref02_part.l0 k (x / 256) (x % 256 :: l) (i + 1) := by
  simp only [cloakroomref02_part.l0]
  rw [if_pos hi, Option.bind_some, if_pos (by simp; omega), w64 _ (by omega) (by omega), Int.tdiv_eq_ediv_of_nonneg h0, Int.tmod_eq_emod_of_nonneg h0, wu64 _ (by omega) (by omega), Int.emod_emod_of_dvd _ (Int.dvd_refl _)]
  rfl
theorem part_end (k : Nat) (x : Int) (l : List Int) : cloakroomref02_part.l0 (k + 1) x l 8 = some l := by
  simp only [cloakroomref02_part.l0]
  rw [if_neg (by omega)]
theorem part8 (n : Int) (h0 : 0 ≤ n) (h1 : n < 18446744073709551616) : cloakroomref02_part.f 9 n = some (tb8 n) := by
  unfold cloakroomref02_part.f
  rw [part_step _ _ _ _ (by omega) (by omega) (by omega) (by omega) (by simp), part_step _ _ _ _ (by omega) (by omega) (by omega) (by omega) (by simp), part_step _ _ _ _ (by omega) (by omega) (by omega) (by omega) (by simp), part_step _ _ _ _ (by omega) (by omega) (by omega) (by omega) (by simp), part_step _ _ _ _ (by omega) (by omega) (by omega) (by omega) (by simp), part_step _ _ _ _ (by omega) (by omega) (by omega) (by omega) (by simp), part_step _ _ _ _ (by omega) (by omega) (by omega) (by omega) (by simp), part_step _ _ _ _ (by omega) (by omega) (by omega) (by omega) (by simp), show (0 + 1 + 1 + 1 + 1 + 1 + 1 + 1 + 1 : Int) = 8 from rfl, part_end]
  unfold tb8
  simp only [Option.some.injEq, List.cons.injEq, and_true]
  omega
set_option maxHeartbeats 1000000 in
set_option maxRecDepth 100000 in
theorem rvalue_any (a b : Nat) (w : World) (ha : a < 18446744073709551616) (hb : b < 18446744073709551616) : Calls Tryz.prog 37 #[.complex .f64 a b] w fun e w' => ∃ v : Value, e = .returned v ∧ Kd.R (Kd.int .u8) 5 w' w.heap.size (fun _ => True) v (tb8 (formN a) ++ tb8 (formN b)) ∧ Below w.heap.size w w' := by
  have H1 := Aside0.mk (rbits_any a b w ha hb)
  have P1 := Aside0.mk (part8 (formN a) (by omega) (by have := formN_lt a ha; omega))
  have P2 := Aside0.mk (part8 (formN b) (by omega) (by have := formN_lt b hb; omega))
  clear ha hb
  go_enter Tryz.func37, Tryz.ntmps37
  go_wp2_with fail
  refine H1.out.mono ?_
  rintro e w0 ⟨rfl, ⟨n, rfl⟩⟩
  have B0 := Aside0.mk (pw_below_drewN (Below.refl w.heap.size w) n)
  generalize w.drewN n = w0 at B0 ⊢
  go_wp2_with fail
  refine (cloakroomref02_part.calls 9 _ _ w0 P1.out).mono ?_
  rintro e w1 ⟨v1, rfl, r1, b1⟩
  have O1 := Aside0.mk (Kd.R_lower r1 (below_size B0.out))
  have B1 := Aside0.mk (below_step B0.out b1)
  clear r1 b1
  go_wp2_with fail
  refine (cloakroomref02_part.calls 9 _ _ w1 P2.out).mono ?_
  rintro e w2 ⟨v2, rfl, r2, b2⟩
  have O2 := Aside0.mk (Kd.R_below O1.out b2)
  have B2 := Aside0.mk (below_step B1.out b2)
  obtain ⟨A2, c2, rfl, l2, k2⟩ := Kd.R_reads r2
  have K2 := Aside0.mk k2
  clear r2 b2 k2 l2
  go_wp2_with ((with_reducible refine gate_builtin (b := .append) (xs := #[.tmp 11, .tmp 13]) rfl ?_); at_builtin; refine Kd.R_append_rows (Kd.int .u8) (w0 := w) w.heap.size rfl (.tmp 11) (.tmp 13) 22 5 (.int .u8 0) 1 rfl Tryz.underlying22 info5 rfl (by decide) (by omega) v1 (tb8 (formN a)) (tb8 (formN b)) _ _ _ (fun _ => True) (fun _ => False) rfl rfl ?aO ?aR (fun _ _ h => h) (fun _ h => h.elim) ?aF ?aB ?aS ?aL ?_; (case aR => exact K2.out); (case aB => exact B2.out); (case aF => exact (fun _ _ => trivial)); (case aO => exact O2.out); (case aS => exact (below_size B2.out)); (case aL => simp [tb8]); intro v3 w3 ho hb hg hat; have O3 := Aside0.mk ho; have B3 := Aside0.mk hb; clear ho hb hg hat)
  go_ret
  exact ⟨v3, rfl, O3.out, B3.out⟩
end Go.Proofs.YtpgjilakcepilaaGreat.PV
