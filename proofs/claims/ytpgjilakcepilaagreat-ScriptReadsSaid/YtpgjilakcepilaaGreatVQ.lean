/- The contract of the reference's right. -/
import Derived.Test.YtpgjilakcepilaaGreatVO
namespace Go.Proofs.YtpgjilakcepilaaGreat.PV
open Go.RowKit Go.Proofs.YtpgjilakcepilaaGreat.PScriptReads Go.Proofs.YtpgjilakcepilaaGreatW.PrintWords Go.Proofs.YtpgjilakcepilaaGreatW.PrintLast Go.Proofs.YtpgjilakcepilaaGreatW.PrintMore
set_option linter.unusedVariables false
set_option linter.unusedSimpArgs false
attribute [local go_sem] run_store_complex

def zeroS : Stp := ⟨0, 0, 0, 0, 0, 0, 0, 0, 0, 0, 0⟩
theorem sameO_zero (s : Stp) (hs : fitS s) (w : World) : Calls Tryz.prog 18 #[.agg #[.int .i64 s.opk, .int .i64 s.page, .int .i64 s.obj, .complex .f64 s.re s.im], .agg #[.int .i64 0, .int .i64 0, .int .i64 0, .complex .f64 0 0]] w fun e w' => e = .returned (.bool (sameO s zeroS)) ∧ Below w.heap.size w w' :=
  sameOp_any s zeroS w hs ⟨by decide, by decide⟩
def hasL (k : Int) : List Value :=
  if k = 0 then [.bool true, .bool true, .bool false, .bool false, .bool false, .bool false]
  else if k = 1 ∨ k = 8 ∨ k = 9 then [.bool true, .bool false, .bool false, .bool false, .bool false, .bool false]
  else if k = 3 ∨ k = 4 ∨ k = 5 ∨ k = 7 then [.bool false, .bool false, .bool true, .bool true, .bool false, .bool false]
  else if k = 6 then [.bool false, .bool false, .bool true, .bool true, .bool true, .bool true]
  else if k = 10 then [.bool false, .bool false, .bool false, .bool true, .bool true, .bool false]
  else if k = 14 then [.bool false, .bool false, .bool false, .bool true, .bool false, .bool false]
  else [.bool false, .bool false, .bool false, .bool false, .bool false, .bool false]
theorem hasL_0 (s : Stp) (hk : s.kind = 0) : hasL s.kind = [.bool true, .bool true, .bool false, .bool false, .bool false, .bool false] := by
  rcases hk with hk <;> rw [hk] <;> rfl
theorem sb_0 (s : Stp) (hk : s.kind = 0) : sameS s (bareS s) = ((s.lane == 0) && ((s.n == 0) && ((s.at_ == 0) && (s.mask == 0)))) := by
  obtain ⟨kind, client, lane, n, at_, mask, opk, page, obj, re, im⟩ := s
  simp only at hk
  rcases hk with hk <;> subst hk <;> rw [Bool.eq_iff_iff] <;> simp [sameS, eqB, bareS, sameO, zeroS, sameC] <;> grind
theorem hasL_1 (s : Stp) (hk : s.kind = 1 ∨ s.kind = 8 ∨ s.kind = 9) : hasL s.kind = [.bool true, .bool false, .bool false, .bool false, .bool false, .bool false] := by
  rcases hk with hk | hk | hk <;> rw [hk] <;> rfl
theorem sb_1 (s : Stp) (hk : s.kind = 1 ∨ s.kind = 8 ∨ s.kind = 9) : sameS s (bareS s) = (sameO s zeroS && ((s.lane == 0) && ((s.n == 0) && ((s.at_ == 0) && (s.mask == 0))))) := by
  obtain ⟨kind, client, lane, n, at_, mask, opk, page, obj, re, im⟩ := s
  simp only at hk
  rcases hk with hk | hk | hk <;> subst hk <;> rw [Bool.eq_iff_iff] <;> simp [sameS, eqB, bareS, sameO, zeroS, sameC] <;> grind
theorem hasL_2 (s : Stp) (hk : s.kind = 3 ∨ s.kind = 4 ∨ s.kind = 5 ∨ s.kind = 7) : hasL s.kind = [.bool false, .bool false, .bool true, .bool true, .bool false, .bool false] := by
  rcases hk with hk | hk | hk | hk <;> rw [hk] <;> rfl
theorem sb_2 (s : Stp) (hk : s.kind = 3 ∨ s.kind = 4 ∨ s.kind = 5 ∨ s.kind = 7) : sameS s (bareS s) = (sameO s zeroS && ((s.client == 0) && ((s.at_ == 0) && (s.mask == 0)))) := by
  obtain ⟨kind, client, lane, n, at_, mask, opk, page, obj, re, im⟩ := s
  simp only at hk
  rcases hk with hk | hk | hk | hk <;> subst hk <;> rw [Bool.eq_iff_iff] <;> simp [sameS, eqB, bareS, sameO, zeroS, sameC] <;> grind
theorem hasL_3 (s : Stp) (hk : s.kind = 6) : hasL s.kind = [.bool false, .bool false, .bool true, .bool true, .bool true, .bool true] := by
  rcases hk with hk <;> rw [hk] <;> rfl
theorem sb_3 (s : Stp) (hk : s.kind = 6) : sameS s (bareS s) = (sameO s zeroS && (s.client == 0)) := by
  obtain ⟨kind, client, lane, n, at_, mask, opk, page, obj, re, im⟩ := s
  simp only at hk
  rcases hk with hk <;> subst hk <;> rw [Bool.eq_iff_iff] <;> simp [sameS, eqB, bareS, sameO, zeroS, sameC] <;> grind
theorem hasL_4 (s : Stp) (hk : s.kind = 10) : hasL s.kind = [.bool false, .bool false, .bool false, .bool true, .bool true, .bool false] := by
  rcases hk with hk <;> rw [hk] <;> rfl
theorem sb_4 (s : Stp) (hk : s.kind = 10) : sameS s (bareS s) = (sameO s zeroS && ((s.client == 0) && ((s.lane == 0) && (s.mask == 0)))) := by
  obtain ⟨kind, client, lane, n, at_, mask, opk, page, obj, re, im⟩ := s
  simp only at hk
  rcases hk with hk <;> subst hk <;> rw [Bool.eq_iff_iff] <;> simp [sameS, eqB, bareS, sameO, zeroS, sameC] <;> grind
theorem hasL_5 (s : Stp) (hk : s.kind = 14) : hasL s.kind = [.bool false, .bool false, .bool false, .bool true, .bool false, .bool false] := by
  rcases hk with hk <;> rw [hk] <;> rfl
theorem sb_5 (s : Stp) (hk : s.kind = 14) : sameS s (bareS s) = (sameO s zeroS && ((s.client == 0) && ((s.lane == 0) && ((s.at_ == 0) && (s.mask == 0))))) := by
  obtain ⟨kind, client, lane, n, at_, mask, opk, page, obj, re, im⟩ := s
  simp only at hk
  rcases hk with hk <;> subst hk <;> rw [Bool.eq_iff_iff] <;> simp [sameS, eqB, bareS, sameO, zeroS, sameC] <;> grind
theorem hasL_6 (s : Stp) (hk : s.kind = 2 ∨ s.kind = 11 ∨ s.kind = 12 ∨ s.kind = 13) : hasL s.kind = [.bool false, .bool false, .bool false, .bool false, .bool false, .bool false] := by
  rcases hk with hk | hk | hk | hk <;> rw [hk] <;> rfl
theorem sb_6 (s : Stp) (hk : s.kind = 2 ∨ s.kind = 11 ∨ s.kind = 12 ∨ s.kind = 13) : sameS s (bareS s) = (sameO s zeroS && ((s.client == 0) && ((s.lane == 0) && ((s.n == 0) && ((s.at_ == 0) && (s.mask == 0)))))) := by
  obtain ⟨kind, client, lane, n, at_, mask, opk, page, obj, re, im⟩ := s
  simp only at hk
  rcases hk with hk | hk | hk | hk <;> subst hk <;> rw [Bool.eq_iff_iff] <;> simp [sameS, eqB, bareS, sameO, zeroS, sameC] <;> grind
theorem has_all (k : Int) (hk : 0 ≤ k) (hk1 : k ≤ 14) (w : World) : Calls Tryz.prog 93 #[.int .i64 k] w fun e w' => e = .returned (.agg (hasL k).toArray) ∧ Below w.heap.size w w' := by
  have h : k = 0 ∨ k = 1 ∨ k = 2 ∨ k = 3 ∨ k = 4 ∨ k = 5 ∨ k = 6 ∨ k = 7 ∨ k = 8 ∨ k = 9 ∨ k = 10 ∨ k = 11 ∨ k = 12 ∨ k = 13 ∨ k = 14 := by omega
  rcases h with rfl | rfl | rfl | rfl | rfl | rfl | rfl | rfl | rfl | rfl | rfl | rfl | rfl | rfl | rfl
  · exact has_0 w
  · exact has_1 w
  · exact has_2 w
  · exact has_3 w
  · exact has_4 w
  · exact has_5 w
  · exact has_6 w
  · exact has_7 w
  · exact has_8 w
  · exact has_9 w
  · exact has_10 w
  · exact has_11 w
  · exact has_12 w
  · exact has_13 w
  · exact has_14 w
set_option maxHeartbeats 4000000 in
set_option maxRecDepth 100000 in
theorem rright_bad (s : Stp) (w : World) (hb : (btw s.kind 0 14 && placesB s) = false) : Calls Tryz.prog 68 #[stepV s] w fun e w' => e = .returned (.bool (rightB s)) ∧ Below w.heap.size w w' := by
  have E : Hid (rightB s = false) := Lib.hid (by unfold rightB; rw [← Bool.and_assoc, hb, Bool.false_and])
  have HBB := Aside0.mk hb
  clear hb
  unfold stepV
  go_enter Tryz.func68, Tryz.ntmps68
  go_upto_region 1 with (fail)
  go_cut [51] (fun v51 wc => v51 = .bool (!(btw s.kind 0 14 && placesB s)) ∧ wc = boxW s w)
  case first =>
    go_wp2
    all_goals go_meet
    all_goals refine ⟨congrArg Value.bool ?_, rfl⟩
    all_goals rw [Bool.eq_iff_iff]
    all_goals simp only [btw, placesB, Bool.not_eq_true', Bool.and_eq_false_iff, Bool.and_eq_true, Bool.or_eq_true, decide_eq_true_eq, decide_eq_false_iff_not, true_iff]
    all_goals omega
  case rest =>
    obtain ⟨rfl, rfl⟩ := hcut
    have HB := Aside0.mk (boxW_below s w)
    generalize boxW s w = w1 at HB ⊢
    rw [HBB.out]
    go_wp2
    go_ret
    exact ⟨ret_bool (by rw [E.out]), HB.out⟩
set_option maxHeartbeats 4000000 in
set_option maxRecDepth 100000 in
theorem rright_0 (s : Stp) (w : World) (hs : fitS s) (hb : (btw s.kind 0 14 && placesB s) = true) (hk : s.kind = 0) : Calls Tryz.prog 68 #[stepV s] w fun e w' => e = .returned (.bool (rightB s)) ∧ Below w.heap.size w w' := by
  have HS := Aside0.mk (sameO_zero s hs)
  have HE : Hid (rightB s = (opB s && ((s.lane == 0) && ((s.n == 0) && ((s.at_ == 0) && (s.mask == 0)))))) := Lib.hid (by unfold rightB; rw [← Bool.and_assoc, hb, Bool.true_and, sb_0 s hk])
  have hq := hb
  simp only [btw, placesB, Bool.and_eq_true, decide_eq_true_eq] at hq
  obtain ⟨⟨q1, q2⟩, ⟨q3, q4⟩, ⟨q5, q6⟩, ⟨q7, q8⟩, q9, q10⟩ := hq
  have hh := fun W => has_all s.kind q1 q2 W
  rw [hasL_0 s hk] at hh
  have HH := Aside0.mk hh
  clear hs hb hk hh
  unfold stepV
  go_enter Tryz.func68, Tryz.ntmps68
  go_wp2_with (first | (go_at_call 93; refine (HH.out _).mono ?_; rintro e w2 ⟨rfl, b2⟩; have B2 := Aside0.mk b2; have Z2 := Aside0.mk (blk_below (blk_alloc w 49 (stepC s)) b2); have hlt := blk_lt Z2.out; have hy := blk_cell Z2.out; have hyf := blk_frozen Z2.out; unfold stepC at hy; clear b2) | (go_at_call 18; refine (HS.out _).mono ?_; rintro e w3 ⟨rfl, b3⟩; have B3 := Aside0.mk b3; have Z3 := Aside0.mk (blk_below (blk_below Z2.out ((Below.refl _ _).alloc (Nat.le_refl _) _)) b3); have X3 := Aside0.mk (blk_below (blk_alloc w2 173 ([.bool true, .bool true, .bool false, .bool false, .bool false, .bool false])) b3); have hy3 := blk_cell Z3.out; have hyf3 := blk_frozen Z3.out; unfold stepC at hy3; have hx3 := blk_cell X3.out; have hxf3 := blk_frozen X3.out; clear b3 hy hyf))
  all_goals go_ret
  all_goals (first | refine ⟨ret_bool ?_, ((below_step ((Below.refl _ _).alloc (Nat.le_refl _) _) B2.out).alloc (by have := blk_lt Z2.out; omega) _)⟩ | refine ⟨ret_bool ?_, below_step ((below_step ((Below.refl _ _).alloc (Nat.le_refl _) _) B2.out).alloc (by have := blk_lt Z2.out; omega) _) B3.out⟩)
  all_goals rw [HE.out]
  all_goals (first | have hm0 : s.mask ≠ 0 := bne_iff_ne.1 ‹(s.mask != 0) = true› | have hm1 : s.mask = 0 := bne_eq_false_iff_eq.1 ‹(s.mask != 0) = false› | skip)
  all_goals (rw [Bool.eq_iff_iff]; simp only [opB, Bool.and_false, Bool.false_and, Bool.true_and, btw, bne_iff_ne, ne_eq, Bool.not_eq_true', Bool.and_eq_false_iff, Bool.and_eq_true, Bool.or_eq_true, beq_eq_false_iff_ne, beq_iff_eq, true_iff, false_iff, iff_true, Bool.false_eq_true, decide_eq_true_eq, decide_eq_false_iff_not, and_false, false_and, not_false_eq_true]; try omega)
set_option maxHeartbeats 4000000 in
set_option maxRecDepth 100000 in
theorem rright_1 (s : Stp) (w : World) (hs : fitS s) (hb : (btw s.kind 0 14 && placesB s) = true) (hk : s.kind = 1 ∨ s.kind = 8 ∨ s.kind = 9) : Calls Tryz.prog 68 #[stepV s] w fun e w' => e = .returned (.bool (rightB s)) ∧ Below w.heap.size w w' := by
  have HS := Aside0.mk (sameO_zero s hs)
  have HE : Hid (rightB s = (opB s && (sameO s zeroS && ((s.lane == 0) && ((s.n == 0) && ((s.at_ == 0) && (s.mask == 0))))))) := Lib.hid (by unfold rightB; rw [← Bool.and_assoc, hb, Bool.true_and, sb_1 s hk])
  have hq := hb
  simp only [btw, placesB, Bool.and_eq_true, decide_eq_true_eq] at hq
  obtain ⟨⟨q1, q2⟩, ⟨q3, q4⟩, ⟨q5, q6⟩, ⟨q7, q8⟩, q9, q10⟩ := hq
  have hh := fun W => has_all s.kind q1 q2 W
  rw [hasL_1 s hk] at hh
  have HH := Aside0.mk hh
  clear hs hb hk hh
  cases ho : sameO s zeroS with
  | false =>
    have HO := Aside0.mk ho
    rw [ho] at HE
    clear ho
    unfold stepV
    go_enter Tryz.func68, Tryz.ntmps68
    go_wp2_with (first | (go_at_call 93; refine (HH.out _).mono ?_; rintro e w2 ⟨rfl, b2⟩; have B2 := Aside0.mk b2; have Z2 := Aside0.mk (blk_below (blk_alloc w 49 (stepC s)) b2); have hlt := blk_lt Z2.out; have hy := blk_cell Z2.out; have hyf := blk_frozen Z2.out; unfold stepC at hy; clear b2) | (go_at_call 18; refine (HS.out _).mono ?_; rw [HO.out]; rintro e w3 ⟨rfl, b3⟩; have B3 := Aside0.mk b3; have Z3 := Aside0.mk (blk_below (blk_below Z2.out ((Below.refl _ _).alloc (Nat.le_refl _) _)) b3); have X3 := Aside0.mk (blk_below (blk_alloc w2 173 ([.bool true, .bool false, .bool false, .bool false, .bool false, .bool false])) b3); have hy3 := blk_cell Z3.out; have hyf3 := blk_frozen Z3.out; unfold stepC at hy3; have hx3 := blk_cell X3.out; have hxf3 := blk_frozen X3.out; clear b3 hy hyf))
    all_goals go_ret
    all_goals (first | refine ⟨ret_bool ?_, ((below_step ((Below.refl _ _).alloc (Nat.le_refl _) _) B2.out).alloc (by have := blk_lt Z2.out; omega) _)⟩ | refine ⟨ret_bool ?_, below_step ((below_step ((Below.refl _ _).alloc (Nat.le_refl _) _) B2.out).alloc (by have := blk_lt Z2.out; omega) _) B3.out⟩)
    all_goals rw [HE.out]
    all_goals (first | have hm0 : s.mask ≠ 0 := bne_iff_ne.1 ‹(s.mask != 0) = true› | have hm1 : s.mask = 0 := bne_eq_false_iff_eq.1 ‹(s.mask != 0) = false› | skip)
    all_goals (rw [Bool.eq_iff_iff]; simp only [opB, Bool.and_false, Bool.false_and, Bool.true_and, btw, bne_iff_ne, ne_eq, Bool.not_eq_true', Bool.and_eq_false_iff, Bool.and_eq_true, Bool.or_eq_true, beq_eq_false_iff_ne, beq_iff_eq, true_iff, false_iff, iff_true, Bool.false_eq_true, decide_eq_true_eq, decide_eq_false_iff_not, and_false, false_and, not_false_eq_true]; try omega)
  | true =>
    have HO := Aside0.mk ho
    rw [ho] at HE
    clear ho
    unfold stepV
    go_enter Tryz.func68, Tryz.ntmps68
    go_wp2_with (first | (go_at_call 93; refine (HH.out _).mono ?_; rintro e w2 ⟨rfl, b2⟩; have B2 := Aside0.mk b2; have Z2 := Aside0.mk (blk_below (blk_alloc w 49 (stepC s)) b2); have hlt := blk_lt Z2.out; have hy := blk_cell Z2.out; have hyf := blk_frozen Z2.out; unfold stepC at hy; clear b2) | (go_at_call 18; refine (HS.out _).mono ?_; rw [HO.out]; rintro e w3 ⟨rfl, b3⟩; have B3 := Aside0.mk b3; have Z3 := Aside0.mk (blk_below (blk_below Z2.out ((Below.refl _ _).alloc (Nat.le_refl _) _)) b3); have X3 := Aside0.mk (blk_below (blk_alloc w2 173 ([.bool true, .bool false, .bool false, .bool false, .bool false, .bool false])) b3); have hy3 := blk_cell Z3.out; have hyf3 := blk_frozen Z3.out; unfold stepC at hy3; have hx3 := blk_cell X3.out; have hxf3 := blk_frozen X3.out; clear b3 hy hyf))
    all_goals go_ret
    all_goals (first | refine ⟨ret_bool ?_, ((below_step ((Below.refl _ _).alloc (Nat.le_refl _) _) B2.out).alloc (by have := blk_lt Z2.out; omega) _)⟩ | refine ⟨ret_bool ?_, below_step ((below_step ((Below.refl _ _).alloc (Nat.le_refl _) _) B2.out).alloc (by have := blk_lt Z2.out; omega) _) B3.out⟩)
    all_goals rw [HE.out]
    all_goals (first | have hm0 : s.mask ≠ 0 := bne_iff_ne.1 ‹(s.mask != 0) = true› | have hm1 : s.mask = 0 := bne_eq_false_iff_eq.1 ‹(s.mask != 0) = false› | skip)
    all_goals (rw [Bool.eq_iff_iff]; simp only [opB, Bool.and_false, Bool.false_and, Bool.true_and, btw, bne_iff_ne, ne_eq, Bool.not_eq_true', Bool.and_eq_false_iff, Bool.and_eq_true, Bool.or_eq_true, beq_eq_false_iff_ne, beq_iff_eq, true_iff, false_iff, iff_true, Bool.false_eq_true, decide_eq_true_eq, decide_eq_false_iff_not, and_false, false_and, not_false_eq_true]; try omega)
set_option maxHeartbeats 4000000 in
set_option maxRecDepth 100000 in
theorem rright_2 (s : Stp) (w : World) (hs : fitS s) (hb : (btw s.kind 0 14 && placesB s) = true) (hk : s.kind = 3 ∨ s.kind = 4 ∨ s.kind = 5 ∨ s.kind = 7) : Calls Tryz.prog 68 #[stepV s] w fun e w' => e = .returned (.bool (rightB s)) ∧ Below w.heap.size w w' := by
  have HS := Aside0.mk (sameO_zero s hs)
  have HE : Hid (rightB s = (opB s && (sameO s zeroS && ((s.client == 0) && ((s.at_ == 0) && (s.mask == 0)))))) := Lib.hid (by unfold rightB; rw [← Bool.and_assoc, hb, Bool.true_and, sb_2 s hk])
  have hq := hb
  simp only [btw, placesB, Bool.and_eq_true, decide_eq_true_eq] at hq
  obtain ⟨⟨q1, q2⟩, ⟨q3, q4⟩, ⟨q5, q6⟩, ⟨q7, q8⟩, q9, q10⟩ := hq
  have hh := fun W => has_all s.kind q1 q2 W
  rw [hasL_2 s hk] at hh
  have HH := Aside0.mk hh
  clear hs hb hk hh
  cases ho : sameO s zeroS with
  | false =>
    have HO := Aside0.mk ho
    rw [ho] at HE
    clear ho
    unfold stepV
    go_enter Tryz.func68, Tryz.ntmps68
    go_wp2_with (first | (go_at_call 93; refine (HH.out _).mono ?_; rintro e w2 ⟨rfl, b2⟩; have B2 := Aside0.mk b2; have Z2 := Aside0.mk (blk_below (blk_alloc w 49 (stepC s)) b2); have hlt := blk_lt Z2.out; have hy := blk_cell Z2.out; have hyf := blk_frozen Z2.out; unfold stepC at hy; clear b2) | (go_at_call 18; refine (HS.out _).mono ?_; rw [HO.out]; rintro e w3 ⟨rfl, b3⟩; have B3 := Aside0.mk b3; have Z3 := Aside0.mk (blk_below (blk_below Z2.out ((Below.refl _ _).alloc (Nat.le_refl _) _)) b3); have X3 := Aside0.mk (blk_below (blk_alloc w2 173 ([.bool false, .bool false, .bool true, .bool true, .bool false, .bool false])) b3); have hy3 := blk_cell Z3.out; have hyf3 := blk_frozen Z3.out; unfold stepC at hy3; have hx3 := blk_cell X3.out; have hxf3 := blk_frozen X3.out; clear b3 hy hyf))
    all_goals go_ret
    all_goals (first | refine ⟨ret_bool ?_, ((below_step ((Below.refl _ _).alloc (Nat.le_refl _) _) B2.out).alloc (by have := blk_lt Z2.out; omega) _)⟩ | refine ⟨ret_bool ?_, below_step ((below_step ((Below.refl _ _).alloc (Nat.le_refl _) _) B2.out).alloc (by have := blk_lt Z2.out; omega) _) B3.out⟩)
    all_goals rw [HE.out]
    all_goals (first | have hm0 : s.mask ≠ 0 := bne_iff_ne.1 ‹(s.mask != 0) = true› | have hm1 : s.mask = 0 := bne_eq_false_iff_eq.1 ‹(s.mask != 0) = false› | skip)
    all_goals (rw [Bool.eq_iff_iff]; simp only [opB, Bool.and_false, Bool.false_and, Bool.true_and, btw, bne_iff_ne, ne_eq, Bool.not_eq_true', Bool.and_eq_false_iff, Bool.and_eq_true, Bool.or_eq_true, beq_eq_false_iff_ne, beq_iff_eq, true_iff, false_iff, iff_true, Bool.false_eq_true, decide_eq_true_eq, decide_eq_false_iff_not, and_false, false_and, not_false_eq_true]; try omega)
  | true =>
    have HO := Aside0.mk ho
    rw [ho] at HE
    clear ho
    unfold stepV
    go_enter Tryz.func68, Tryz.ntmps68
    go_wp2_with (first | (go_at_call 93; refine (HH.out _).mono ?_; rintro e w2 ⟨rfl, b2⟩; have B2 := Aside0.mk b2; have Z2 := Aside0.mk (blk_below (blk_alloc w 49 (stepC s)) b2); have hlt := blk_lt Z2.out; have hy := blk_cell Z2.out; have hyf := blk_frozen Z2.out; unfold stepC at hy; clear b2) | (go_at_call 18; refine (HS.out _).mono ?_; rw [HO.out]; rintro e w3 ⟨rfl, b3⟩; have B3 := Aside0.mk b3; have Z3 := Aside0.mk (blk_below (blk_below Z2.out ((Below.refl _ _).alloc (Nat.le_refl _) _)) b3); have X3 := Aside0.mk (blk_below (blk_alloc w2 173 ([.bool false, .bool false, .bool true, .bool true, .bool false, .bool false])) b3); have hy3 := blk_cell Z3.out; have hyf3 := blk_frozen Z3.out; unfold stepC at hy3; have hx3 := blk_cell X3.out; have hxf3 := blk_frozen X3.out; clear b3 hy hyf))
    all_goals go_ret
    all_goals (first | refine ⟨ret_bool ?_, ((below_step ((Below.refl _ _).alloc (Nat.le_refl _) _) B2.out).alloc (by have := blk_lt Z2.out; omega) _)⟩ | refine ⟨ret_bool ?_, below_step ((below_step ((Below.refl _ _).alloc (Nat.le_refl _) _) B2.out).alloc (by have := blk_lt Z2.out; omega) _) B3.out⟩)
    all_goals rw [HE.out]
    all_goals (first | have hm0 : s.mask ≠ 0 := bne_iff_ne.1 ‹(s.mask != 0) = true› | have hm1 : s.mask = 0 := bne_eq_false_iff_eq.1 ‹(s.mask != 0) = false› | skip)
    all_goals (rw [Bool.eq_iff_iff]; simp only [opB, Bool.and_false, Bool.false_and, Bool.true_and, btw, bne_iff_ne, ne_eq, Bool.not_eq_true', Bool.and_eq_false_iff, Bool.and_eq_true, Bool.or_eq_true, beq_eq_false_iff_ne, beq_iff_eq, true_iff, false_iff, iff_true, Bool.false_eq_true, decide_eq_true_eq, decide_eq_false_iff_not, and_false, false_and, not_false_eq_true]; try omega)
set_option maxHeartbeats 4000000 in
set_option maxRecDepth 100000 in
theorem rright_3 (s : Stp) (w : World) (hs : fitS s) (hb : (btw s.kind 0 14 && placesB s) = true) (hk : s.kind = 6) : Calls Tryz.prog 68 #[stepV s] w fun e w' => e = .returned (.bool (rightB s)) ∧ Below w.heap.size w w' := by
  have HS := Aside0.mk (sameO_zero s hs)
  have HE : Hid (rightB s = (opB s && (sameO s zeroS && (s.client == 0)))) := Lib.hid (by unfold rightB; rw [← Bool.and_assoc, hb, Bool.true_and, sb_3 s hk])
  have hq := hb
  simp only [btw, placesB, Bool.and_eq_true, decide_eq_true_eq] at hq
  obtain ⟨⟨q1, q2⟩, ⟨q3, q4⟩, ⟨q5, q6⟩, ⟨q7, q8⟩, q9, q10⟩ := hq
  have hh := fun W => has_all s.kind q1 q2 W
  rw [hasL_3 s hk] at hh
  have HH := Aside0.mk hh
  clear hs hb hk hh
  cases ho : sameO s zeroS with
  | false =>
    have HO := Aside0.mk ho
    rw [ho] at HE
    clear ho
    unfold stepV
    go_enter Tryz.func68, Tryz.ntmps68
    go_wp2_with (first | (go_at_call 93; refine (HH.out _).mono ?_; rintro e w2 ⟨rfl, b2⟩; have B2 := Aside0.mk b2; have Z2 := Aside0.mk (blk_below (blk_alloc w 49 (stepC s)) b2); have hlt := blk_lt Z2.out; have hy := blk_cell Z2.out; have hyf := blk_frozen Z2.out; unfold stepC at hy; clear b2) | (go_at_call 18; refine (HS.out _).mono ?_; rw [HO.out]; rintro e w3 ⟨rfl, b3⟩; have B3 := Aside0.mk b3; have Z3 := Aside0.mk (blk_below (blk_below Z2.out ((Below.refl _ _).alloc (Nat.le_refl _) _)) b3); have X3 := Aside0.mk (blk_below (blk_alloc w2 173 ([.bool false, .bool false, .bool true, .bool true, .bool true, .bool true])) b3); have hy3 := blk_cell Z3.out; have hyf3 := blk_frozen Z3.out; unfold stepC at hy3; have hx3 := blk_cell X3.out; have hxf3 := blk_frozen X3.out; clear b3 hy hyf))
    all_goals go_ret
    all_goals (first | refine ⟨ret_bool ?_, ((below_step ((Below.refl _ _).alloc (Nat.le_refl _) _) B2.out).alloc (by have := blk_lt Z2.out; omega) _)⟩ | refine ⟨ret_bool ?_, below_step ((below_step ((Below.refl _ _).alloc (Nat.le_refl _) _) B2.out).alloc (by have := blk_lt Z2.out; omega) _) B3.out⟩)
    all_goals rw [HE.out]
    all_goals (first | have hm0 : s.mask ≠ 0 := bne_iff_ne.1 ‹(s.mask != 0) = true› | have hm1 : s.mask = 0 := bne_eq_false_iff_eq.1 ‹(s.mask != 0) = false› | skip)
    all_goals (rw [Bool.eq_iff_iff]; simp only [opB, Bool.and_false, Bool.false_and, Bool.true_and, btw, bne_iff_ne, ne_eq, Bool.not_eq_true', Bool.and_eq_false_iff, Bool.and_eq_true, Bool.or_eq_true, beq_eq_false_iff_ne, beq_iff_eq, true_iff, false_iff, iff_true, Bool.false_eq_true, decide_eq_true_eq, decide_eq_false_iff_not, and_false, false_and, not_false_eq_true]; try omega)
  | true =>
    have HO := Aside0.mk ho
    rw [ho] at HE
    clear ho
    unfold stepV
    go_enter Tryz.func68, Tryz.ntmps68
    go_wp2_with (first | (go_at_call 93; refine (HH.out _).mono ?_; rintro e w2 ⟨rfl, b2⟩; have B2 := Aside0.mk b2; have Z2 := Aside0.mk (blk_below (blk_alloc w 49 (stepC s)) b2); have hlt := blk_lt Z2.out; have hy := blk_cell Z2.out; have hyf := blk_frozen Z2.out; unfold stepC at hy; clear b2) | (go_at_call 18; refine (HS.out _).mono ?_; rw [HO.out]; rintro e w3 ⟨rfl, b3⟩; have B3 := Aside0.mk b3; have Z3 := Aside0.mk (blk_below (blk_below Z2.out ((Below.refl _ _).alloc (Nat.le_refl _) _)) b3); have X3 := Aside0.mk (blk_below (blk_alloc w2 173 ([.bool false, .bool false, .bool true, .bool true, .bool true, .bool true])) b3); have hy3 := blk_cell Z3.out; have hyf3 := blk_frozen Z3.out; unfold stepC at hy3; have hx3 := blk_cell X3.out; have hxf3 := blk_frozen X3.out; clear b3 hy hyf))
    all_goals go_ret
    all_goals (first | refine ⟨ret_bool ?_, ((below_step ((Below.refl _ _).alloc (Nat.le_refl _) _) B2.out).alloc (by have := blk_lt Z2.out; omega) _)⟩ | refine ⟨ret_bool ?_, below_step ((below_step ((Below.refl _ _).alloc (Nat.le_refl _) _) B2.out).alloc (by have := blk_lt Z2.out; omega) _) B3.out⟩)
    all_goals rw [HE.out]
    all_goals (first | have hm0 : s.mask ≠ 0 := bne_iff_ne.1 ‹(s.mask != 0) = true› | have hm1 : s.mask = 0 := bne_eq_false_iff_eq.1 ‹(s.mask != 0) = false› | skip)
    all_goals (rw [Bool.eq_iff_iff]; simp only [opB, Bool.and_false, Bool.false_and, Bool.true_and, btw, bne_iff_ne, ne_eq, Bool.not_eq_true', Bool.and_eq_false_iff, Bool.and_eq_true, Bool.or_eq_true, beq_eq_false_iff_ne, beq_iff_eq, true_iff, false_iff, iff_true, Bool.false_eq_true, decide_eq_true_eq, decide_eq_false_iff_not, and_false, false_and, not_false_eq_true]; try omega)
set_option maxHeartbeats 4000000 in
set_option maxRecDepth 100000 in
theorem rright_4 (s : Stp) (w : World) (hs : fitS s) (hb : (btw s.kind 0 14 && placesB s) = true) (hk : s.kind = 10) : Calls Tryz.prog 68 #[stepV s] w fun e w' => e = .returned (.bool (rightB s)) ∧ Below w.heap.size w w' := by
  have HS := Aside0.mk (sameO_zero s hs)
  have HE : Hid (rightB s = (opB s && (sameO s zeroS && ((s.client == 0) && ((s.lane == 0) && (s.mask == 0)))))) := Lib.hid (by unfold rightB; rw [← Bool.and_assoc, hb, Bool.true_and, sb_4 s hk])
  have hq := hb
  simp only [btw, placesB, Bool.and_eq_true, decide_eq_true_eq] at hq
  obtain ⟨⟨q1, q2⟩, ⟨q3, q4⟩, ⟨q5, q6⟩, ⟨q7, q8⟩, q9, q10⟩ := hq
  have hh := fun W => has_all s.kind q1 q2 W
  rw [hasL_4 s hk] at hh
  have HH := Aside0.mk hh
  clear hs hb hk hh
  cases ho : sameO s zeroS with
  | false =>
    have HO := Aside0.mk ho
    rw [ho] at HE
    clear ho
    unfold stepV
    go_enter Tryz.func68, Tryz.ntmps68
    go_wp2_with (first | (go_at_call 93; refine (HH.out _).mono ?_; rintro e w2 ⟨rfl, b2⟩; have B2 := Aside0.mk b2; have Z2 := Aside0.mk (blk_below (blk_alloc w 49 (stepC s)) b2); have hlt := blk_lt Z2.out; have hy := blk_cell Z2.out; have hyf := blk_frozen Z2.out; unfold stepC at hy; clear b2) | (go_at_call 18; refine (HS.out _).mono ?_; rw [HO.out]; rintro e w3 ⟨rfl, b3⟩; have B3 := Aside0.mk b3; have Z3 := Aside0.mk (blk_below (blk_below Z2.out ((Below.refl _ _).alloc (Nat.le_refl _) _)) b3); have X3 := Aside0.mk (blk_below (blk_alloc w2 173 ([.bool false, .bool false, .bool false, .bool true, .bool true, .bool false])) b3); have hy3 := blk_cell Z3.out; have hyf3 := blk_frozen Z3.out; unfold stepC at hy3; have hx3 := blk_cell X3.out; have hxf3 := blk_frozen X3.out; clear b3 hy hyf))
    all_goals go_ret
    all_goals (first | refine ⟨ret_bool ?_, ((below_step ((Below.refl _ _).alloc (Nat.le_refl _) _) B2.out).alloc (by have := blk_lt Z2.out; omega) _)⟩ | refine ⟨ret_bool ?_, below_step ((below_step ((Below.refl _ _).alloc (Nat.le_refl _) _) B2.out).alloc (by have := blk_lt Z2.out; omega) _) B3.out⟩)
    all_goals rw [HE.out]
    all_goals (first | have hm0 : s.mask ≠ 0 := bne_iff_ne.1 ‹(s.mask != 0) = true› | have hm1 : s.mask = 0 := bne_eq_false_iff_eq.1 ‹(s.mask != 0) = false› | skip)
    all_goals (rw [Bool.eq_iff_iff]; simp only [opB, Bool.and_false, Bool.false_and, Bool.true_and, btw, bne_iff_ne, ne_eq, Bool.not_eq_true', Bool.and_eq_false_iff, Bool.and_eq_true, Bool.or_eq_true, beq_eq_false_iff_ne, beq_iff_eq, true_iff, false_iff, iff_true, Bool.false_eq_true, decide_eq_true_eq, decide_eq_false_iff_not, and_false, false_and, not_false_eq_true]; try omega)
  | true =>
    have HO := Aside0.mk ho
    rw [ho] at HE
    clear ho
    unfold stepV
    go_enter Tryz.func68, Tryz.ntmps68
    go_wp2_with (first | (go_at_call 93; refine (HH.out _).mono ?_; rintro e w2 ⟨rfl, b2⟩; have B2 := Aside0.mk b2; have Z2 := Aside0.mk (blk_below (blk_alloc w 49 (stepC s)) b2); have hlt := blk_lt Z2.out; have hy := blk_cell Z2.out; have hyf := blk_frozen Z2.out; unfold stepC at hy; clear b2) | (go_at_call 18; refine (HS.out _).mono ?_; rw [HO.out]; rintro e w3 ⟨rfl, b3⟩; have B3 := Aside0.mk b3; have Z3 := Aside0.mk (blk_below (blk_below Z2.out ((Below.refl _ _).alloc (Nat.le_refl _) _)) b3); have X3 := Aside0.mk (blk_below (blk_alloc w2 173 ([.bool false, .bool false, .bool false, .bool true, .bool true, .bool false])) b3); have hy3 := blk_cell Z3.out; have hyf3 := blk_frozen Z3.out; unfold stepC at hy3; have hx3 := blk_cell X3.out; have hxf3 := blk_frozen X3.out; clear b3 hy hyf))
    all_goals go_ret
    all_goals (first | refine ⟨ret_bool ?_, ((below_step ((Below.refl _ _).alloc (Nat.le_refl _) _) B2.out).alloc (by have := blk_lt Z2.out; omega) _)⟩ | refine ⟨ret_bool ?_, below_step ((below_step ((Below.refl _ _).alloc (Nat.le_refl _) _) B2.out).alloc (by have := blk_lt Z2.out; omega) _) B3.out⟩)
    all_goals rw [HE.out]
    all_goals (first | have hm0 : s.mask ≠ 0 := bne_iff_ne.1 ‹(s.mask != 0) = true› | have hm1 : s.mask = 0 := bne_eq_false_iff_eq.1 ‹(s.mask != 0) = false› | skip)
    all_goals (rw [Bool.eq_iff_iff]; simp only [opB, Bool.and_false, Bool.false_and, Bool.true_and, btw, bne_iff_ne, ne_eq, Bool.not_eq_true', Bool.and_eq_false_iff, Bool.and_eq_true, Bool.or_eq_true, beq_eq_false_iff_ne, beq_iff_eq, true_iff, false_iff, iff_true, Bool.false_eq_true, decide_eq_true_eq, decide_eq_false_iff_not, and_false, false_and, not_false_eq_true]; try omega)
set_option maxHeartbeats 4000000 in
set_option maxRecDepth 100000 in
theorem rright_5 (s : Stp) (w : World) (hs : fitS s) (hb : (btw s.kind 0 14 && placesB s) = true) (hk : s.kind = 14) : Calls Tryz.prog 68 #[stepV s] w fun e w' => e = .returned (.bool (rightB s)) ∧ Below w.heap.size w w' := by
  have HS := Aside0.mk (sameO_zero s hs)
  have HE : Hid (rightB s = (opB s && (sameO s zeroS && ((s.client == 0) && ((s.lane == 0) && ((s.at_ == 0) && (s.mask == 0))))))) := Lib.hid (by unfold rightB; rw [← Bool.and_assoc, hb, Bool.true_and, sb_5 s hk])
  have hq := hb
  simp only [btw, placesB, Bool.and_eq_true, decide_eq_true_eq] at hq
  obtain ⟨⟨q1, q2⟩, ⟨q3, q4⟩, ⟨q5, q6⟩, ⟨q7, q8⟩, q9, q10⟩ := hq
  have hh := fun W => has_all s.kind q1 q2 W
  rw [hasL_5 s hk] at hh
  have HH := Aside0.mk hh
  clear hs hb hk hh
  cases ho : sameO s zeroS with
  | false =>
    have HO := Aside0.mk ho
    rw [ho] at HE
    clear ho
    unfold stepV
    go_enter Tryz.func68, Tryz.ntmps68
    go_wp2_with (first | (go_at_call 93; refine (HH.out _).mono ?_; rintro e w2 ⟨rfl, b2⟩; have B2 := Aside0.mk b2; have Z2 := Aside0.mk (blk_below (blk_alloc w 49 (stepC s)) b2); have hlt := blk_lt Z2.out; have hy := blk_cell Z2.out; have hyf := blk_frozen Z2.out; unfold stepC at hy; clear b2) | (go_at_call 18; refine (HS.out _).mono ?_; rw [HO.out]; rintro e w3 ⟨rfl, b3⟩; have B3 := Aside0.mk b3; have Z3 := Aside0.mk (blk_below (blk_below Z2.out ((Below.refl _ _).alloc (Nat.le_refl _) _)) b3); have X3 := Aside0.mk (blk_below (blk_alloc w2 173 ([.bool false, .bool false, .bool false, .bool true, .bool false, .bool false])) b3); have hy3 := blk_cell Z3.out; have hyf3 := blk_frozen Z3.out; unfold stepC at hy3; have hx3 := blk_cell X3.out; have hxf3 := blk_frozen X3.out; clear b3 hy hyf))
    all_goals go_ret
    all_goals (first | refine ⟨ret_bool ?_, ((below_step ((Below.refl _ _).alloc (Nat.le_refl _) _) B2.out).alloc (by have := blk_lt Z2.out; omega) _)⟩ | refine ⟨ret_bool ?_, below_step ((below_step ((Below.refl _ _).alloc (Nat.le_refl _) _) B2.out).alloc (by have := blk_lt Z2.out; omega) _) B3.out⟩)
    all_goals rw [HE.out]
    all_goals (first | have hm0 : s.mask ≠ 0 := bne_iff_ne.1 ‹(s.mask != 0) = true› | have hm1 : s.mask = 0 := bne_eq_false_iff_eq.1 ‹(s.mask != 0) = false› | skip)
    all_goals (rw [Bool.eq_iff_iff]; simp only [opB, Bool.and_false, Bool.false_and, Bool.true_and, btw, bne_iff_ne, ne_eq, Bool.not_eq_true', Bool.and_eq_false_iff, Bool.and_eq_true, Bool.or_eq_true, beq_eq_false_iff_ne, beq_iff_eq, true_iff, false_iff, iff_true, Bool.false_eq_true, decide_eq_true_eq, decide_eq_false_iff_not, and_false, false_and, not_false_eq_true]; try omega)
  | true =>
    have HO := Aside0.mk ho
    rw [ho] at HE
    clear ho
    unfold stepV
    go_enter Tryz.func68, Tryz.ntmps68
    go_wp2_with (first | (go_at_call 93; refine (HH.out _).mono ?_; rintro e w2 ⟨rfl, b2⟩; have B2 := Aside0.mk b2; have Z2 := Aside0.mk (blk_below (blk_alloc w 49 (stepC s)) b2); have hlt := blk_lt Z2.out; have hy := blk_cell Z2.out; have hyf := blk_frozen Z2.out; unfold stepC at hy; clear b2) | (go_at_call 18; refine (HS.out _).mono ?_; rw [HO.out]; rintro e w3 ⟨rfl, b3⟩; have B3 := Aside0.mk b3; have Z3 := Aside0.mk (blk_below (blk_below Z2.out ((Below.refl _ _).alloc (Nat.le_refl _) _)) b3); have X3 := Aside0.mk (blk_below (blk_alloc w2 173 ([.bool false, .bool false, .bool false, .bool true, .bool false, .bool false])) b3); have hy3 := blk_cell Z3.out; have hyf3 := blk_frozen Z3.out; unfold stepC at hy3; have hx3 := blk_cell X3.out; have hxf3 := blk_frozen X3.out; clear b3 hy hyf))
    all_goals go_ret
    all_goals (first | refine ⟨ret_bool ?_, ((below_step ((Below.refl _ _).alloc (Nat.le_refl _) _) B2.out).alloc (by have := blk_lt Z2.out; omega) _)⟩ | refine ⟨ret_bool ?_, below_step ((below_step ((Below.refl _ _).alloc (Nat.le_refl _) _) B2.out).alloc (by have := blk_lt Z2.out; omega) _) B3.out⟩)
    all_goals rw [HE.out]
    all_goals (first | have hm0 : s.mask ≠ 0 := bne_iff_ne.1 ‹(s.mask != 0) = true› | have hm1 : s.mask = 0 := bne_eq_false_iff_eq.1 ‹(s.mask != 0) = false› | skip)
    all_goals (rw [Bool.eq_iff_iff]; simp only [opB, Bool.and_false, Bool.false_and, Bool.true_and, btw, bne_iff_ne, ne_eq, Bool.not_eq_true', Bool.and_eq_false_iff, Bool.and_eq_true, Bool.or_eq_true, beq_eq_false_iff_ne, beq_iff_eq, true_iff, false_iff, iff_true, Bool.false_eq_true, decide_eq_true_eq, decide_eq_false_iff_not, and_false, false_and, not_false_eq_true]; try omega)
set_option maxHeartbeats 4000000 in
set_option maxRecDepth 100000 in
theorem rright_6 (s : Stp) (w : World) (hs : fitS s) (hb : (btw s.kind 0 14 && placesB s) = true) (hk : s.kind = 2 ∨ s.kind = 11 ∨ s.kind = 12 ∨ s.kind = 13) : Calls Tryz.prog 68 #[stepV s] w fun e w' => e = .returned (.bool (rightB s)) ∧ Below w.heap.size w w' := by
  have HS := Aside0.mk (sameO_zero s hs)
  have HE : Hid (rightB s = (opB s && (sameO s zeroS && ((s.client == 0) && ((s.lane == 0) && ((s.n == 0) && ((s.at_ == 0) && (s.mask == 0)))))))) := Lib.hid (by unfold rightB; rw [← Bool.and_assoc, hb, Bool.true_and, sb_6 s hk])
  have hq := hb
  simp only [btw, placesB, Bool.and_eq_true, decide_eq_true_eq] at hq
  obtain ⟨⟨q1, q2⟩, ⟨q3, q4⟩, ⟨q5, q6⟩, ⟨q7, q8⟩, q9, q10⟩ := hq
  have hh := fun W => has_all s.kind q1 q2 W
  rw [hasL_6 s hk] at hh
  have HH := Aside0.mk hh
  clear hs hb hk hh
  cases ho : sameO s zeroS with
  | false =>
    have HO := Aside0.mk ho
    rw [ho] at HE
    clear ho
    unfold stepV
    go_enter Tryz.func68, Tryz.ntmps68
    go_wp2_with (first | (go_at_call 93; refine (HH.out _).mono ?_; rintro e w2 ⟨rfl, b2⟩; have B2 := Aside0.mk b2; have Z2 := Aside0.mk (blk_below (blk_alloc w 49 (stepC s)) b2); have hlt := blk_lt Z2.out; have hy := blk_cell Z2.out; have hyf := blk_frozen Z2.out; unfold stepC at hy; clear b2) | (go_at_call 18; refine (HS.out _).mono ?_; rw [HO.out]; rintro e w3 ⟨rfl, b3⟩; have B3 := Aside0.mk b3; have Z3 := Aside0.mk (blk_below (blk_below Z2.out ((Below.refl _ _).alloc (Nat.le_refl _) _)) b3); have X3 := Aside0.mk (blk_below (blk_alloc w2 173 ([.bool false, .bool false, .bool false, .bool false, .bool false, .bool false])) b3); have hy3 := blk_cell Z3.out; have hyf3 := blk_frozen Z3.out; unfold stepC at hy3; have hx3 := blk_cell X3.out; have hxf3 := blk_frozen X3.out; clear b3 hy hyf))
    all_goals go_ret
    all_goals (first | refine ⟨ret_bool ?_, ((below_step ((Below.refl _ _).alloc (Nat.le_refl _) _) B2.out).alloc (by have := blk_lt Z2.out; omega) _)⟩ | refine ⟨ret_bool ?_, below_step ((below_step ((Below.refl _ _).alloc (Nat.le_refl _) _) B2.out).alloc (by have := blk_lt Z2.out; omega) _) B3.out⟩)
    all_goals rw [HE.out]
    all_goals (first | have hm0 : s.mask ≠ 0 := bne_iff_ne.1 ‹(s.mask != 0) = true› | have hm1 : s.mask = 0 := bne_eq_false_iff_eq.1 ‹(s.mask != 0) = false› | skip)
    all_goals (rw [Bool.eq_iff_iff]; simp only [opB, Bool.and_false, Bool.false_and, Bool.true_and, btw, bne_iff_ne, ne_eq, Bool.not_eq_true', Bool.and_eq_false_iff, Bool.and_eq_true, Bool.or_eq_true, beq_eq_false_iff_ne, beq_iff_eq, true_iff, false_iff, iff_true, Bool.false_eq_true, decide_eq_true_eq, decide_eq_false_iff_not, and_false, false_and, not_false_eq_true]; try omega)
  | true =>
    have HO := Aside0.mk ho
    rw [ho] at HE
    clear ho
    unfold stepV
    go_enter Tryz.func68, Tryz.ntmps68
    go_wp2_with (first | (go_at_call 93; refine (HH.out _).mono ?_; rintro e w2 ⟨rfl, b2⟩; have B2 := Aside0.mk b2; have Z2 := Aside0.mk (blk_below (blk_alloc w 49 (stepC s)) b2); have hlt := blk_lt Z2.out; have hy := blk_cell Z2.out; have hyf := blk_frozen Z2.out; unfold stepC at hy; clear b2) | (go_at_call 18; refine (HS.out _).mono ?_; rw [HO.out]; rintro e w3 ⟨rfl, b3⟩; have B3 := Aside0.mk b3; have Z3 := Aside0.mk (blk_below (blk_below Z2.out ((Below.refl _ _).alloc (Nat.le_refl _) _)) b3); have X3 := Aside0.mk (blk_below (blk_alloc w2 173 ([.bool false, .bool false, .bool false, .bool false, .bool false, .bool false])) b3); have hy3 := blk_cell Z3.out; have hyf3 := blk_frozen Z3.out; unfold stepC at hy3; have hx3 := blk_cell X3.out; have hxf3 := blk_frozen X3.out; clear b3 hy hyf))
    all_goals go_ret
    all_goals (first | refine ⟨ret_bool ?_, ((below_step ((Below.refl _ _).alloc (Nat.le_refl _) _) B2.out).alloc (by have := blk_lt Z2.out; omega) _)⟩ | refine ⟨ret_bool ?_, below_step ((below_step ((Below.refl _ _).alloc (Nat.le_refl _) _) B2.out).alloc (by have := blk_lt Z2.out; omega) _) B3.out⟩)
    all_goals rw [HE.out]
    all_goals (first | have hm0 : s.mask ≠ 0 := bne_iff_ne.1 ‹(s.mask != 0) = true› | have hm1 : s.mask = 0 := bne_eq_false_iff_eq.1 ‹(s.mask != 0) = false› | skip)
    all_goals (rw [Bool.eq_iff_iff]; simp only [opB, Bool.and_false, Bool.false_and, Bool.true_and, btw, bne_iff_ne, ne_eq, Bool.not_eq_true', Bool.and_eq_false_iff, Bool.and_eq_true, Bool.or_eq_true, beq_eq_false_iff_ne, beq_iff_eq, true_iff, false_iff, iff_true, Bool.false_eq_true, decide_eq_true_eq, decide_eq_false_iff_not, and_false, false_and, not_false_eq_true]; try omega)
theorem rright_any (s : Stp) (w : World) (hs : fitS s) : Calls Tryz.prog 68 #[stepV s] w fun e w' => e = .returned (.bool (rightB s)) ∧ Below w.heap.size w w' := by
  cases hb : (btw s.kind 0 14 && placesB s) with
  | false => exact rright_bad s w hb
  | true =>
    have hk : (s.kind = 0) ∨ (s.kind = 1 ∨ s.kind = 8 ∨ s.kind = 9) ∨ (s.kind = 3 ∨ s.kind = 4 ∨ s.kind = 5 ∨ s.kind = 7) ∨ (s.kind = 6) ∨ (s.kind = 10) ∨ (s.kind = 14) ∨ (s.kind = 2 ∨ s.kind = 11 ∨ s.kind = 12 ∨ s.kind = 13) := by
      have h1 := (Bool.and_eq_true_iff.1 hb).1
      simp only [btw, Bool.and_eq_true, decide_eq_true_eq] at h1
      omega
    rcases hk with hk | hk | hk | hk | hk | hk | hk
    · exact rright_0 s w hs hb hk
    · exact rright_1 s w hs hb hk
    · exact rright_2 s w hs hb hk
    · exact rright_3 s w hs hb hk
    · exact rright_4 s w hs hb hk
    · exact rright_5 s w hs hb hk
    · exact rright_6 s w hs hb hk
end Go.Proofs.YtpgjilakcepilaaGreat.PV
