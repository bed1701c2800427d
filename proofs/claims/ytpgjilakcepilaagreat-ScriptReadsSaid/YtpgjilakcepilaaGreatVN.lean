/- The contract of the reference's Take. -/
import Derived.Test.YtpgjilakcepilaaGreatVM
namespace Go.Proofs.YtpgjilakcepilaaGreat.PV
open Go.RowKit Go.Proofs.YtpgjilakcepilaaGreat.PScriptReads Go.Proofs.YtpgjilakcepilaaGreatW.PrintWords Go.Proofs.YtpgjilakcepilaaGreatW.PrintLast Go.Proofs.YtpgjilakcepilaaGreatW.PrintMore
set_option linter.unusedVariables false
set_option linter.unusedSimpArgs false

theorem rbits_oct {l : List Int} (hb : ∀ x ∈ l, byt x) (i : Nat) : cloakroomref02_bits.f 9 (octL l i) = some (oct l i) :=
  rbits8 _ _ _ _ _ _ _ _ (byt_getD hb _) (byt_getD hb _) (byt_getD hb _) (byt_getD hb _) (byt_getD hb _) (byt_getD hb _) (byt_getD hb _) (byt_getD hb _)
theorem take16_oct (l : List Int) (hl : 16 ≤ l.length) : l.take 16 = octL l 0 ++ octL l 8 := by
  have h1 := mid8 l 0 (by omega)
  have h2 := mid8 l 8 (by omega)
  rw [List.drop_zero] at h1
  have h3 : l.take 16 = (l.take 16).take 8 ++ (l.take 16).drop 8 := (List.take_append_drop 8 _).symm
  rw [List.take_take] at h3
  rw [h3, ← h1, ← h2]
  rfl
theorem clean_iff {l : List Int} (hb : ∀ x ∈ l, byt x) (hl : 16 ≤ l.length) : cleanB l = true ↔ ((formN (oct l 0).toNat : Nat) : Int) = oct l 0 ∧ ((formN (oct l 8).toNat : Nat) : Int) = oct l 8 := by
  unfold cleanB
  rw [decide_eq_true_eq, take16_oct l hl, ← tb8_oct hb 0, ← tb8_oct hb 8]
  have b0 := oct_bd hb 0
  have b8 := oct_bd hb 8
  have f0 := formN_lt (oct l 0).toNat (by omega)
  have f8 := formN_lt (oct l 8).toNat (by omega)
  constructor
  · intro h
    obtain ⟨h1, h2⟩ := List.append_inj h rfl
    exact ⟨tb8_inj (by omega) (by omega) b0.1 b0.2 h1, tb8_inj (by omega) (by omega) b8.1 b8.2 h2⟩
  · rintro ⟨h1, h2⟩
    rw [h1, h2]
theorem R_empty (w : World) (base : Nat) (hb : base ≤ w.heap.size) : Kd.R (Kd.int .u8) 5 (w.alloc (.cells #[] 5)) base (fun _ => True) (.slice (some ⟨w.heap.size, 0, none⟩) 0 0) [] := by
  refine ⟨fun _ _ => trivial, [], ⟨rfl, .inr ⟨w.heap.size, 0, #[], rfl, hb, ?_, ?_⟩⟩, Reps.none _ _⟩
  · exact blk_alloc w 5 []
  · exact ⟨Nat.le_refl _, Nat.zero_le _, rfl, rfl⟩
set_option maxHeartbeats 1000000 in
set_option maxRecDepth 100000 in
theorem rtake_short (A : Option Addr) (c : Nat) (l : List Int) (w : World) (hl : l.length < 16) :
    Calls Tryz.prog 16 #[.slice A l.length c] w fun e w' => e = .returned (.tuple #[.complex .f64 0 0, .slice none 0 0, .int .i64 21]) ∧ w = w' := by
  have h1 : (l.length : Int) < 16 := by omega
  go_enter Tryz.func16, Tryz.ntmps16
  go_wp2
  go_ret3
  exact ⟨rfl, rfl⟩
set_option maxHeartbeats 1000000 in
set_option maxRecDepth 100000 in
theorem rtake_no0 (A : Option Addr) (c : Nat) (l : List Int) (w : World) (hr : Kd.C (Kd.int .u8) w A l.length l) (hc : l.length ≤ c) (hb : ∀ x ∈ l, byt x) (hl : 16 ≤ l.length) (hL : l.length ≤ 100000) (hne : ¬ (oct l 0 = ((formN (oct l 0).toNat : Nat) : Int))) :
    Calls Tryz.prog 16 #[.slice A l.length c] w fun e w' => e = .returned (.tuple #[.complex .f64 0 0, .slice none 0 0, .int .i64 21]) ∧ Below w.heap.size w w' := by
  have h1 : 16 ≤ (l.length : Int) := by omega
  obtain ⟨hs1, hs2, hs3⟩ := take8 A c l hl hc
  obtain ⟨A', c', hm1, hm2, hm3⟩ := mid816 A c l hl hc
  have b0 := oct_bd hb 0
  have b8 := oct_bd hb 8
  have hf0 := refForm (oct l 0).toNat (by omega)
  have hf8 := refForm (oct l 8).toNat (by omega)
  rw [show (((oct l 0).toNat : Nat) : Int) = oct l 0 by omega] at hf0
  rw [show (((oct l 8).toNat : Nat) : Int) = oct l 8 by omega] at hf8
  have HF0 := Aside0.mk hf0
  have HF8 := Aside0.mk hf8
  clear hf0 hf8 b0 b8
  have HR := Aside0.mk hr
  have HC := Aside0.mk hc
  have HY := Aside0.mk hb
  have HL := Aside0.mk hL
  have HS2 := Aside0.mk hs2
  have HS3 := Aside0.mk hs3
  have HM2 := Aside0.mk hm2
  have HM3 := Aside0.mk hm3
  clear hr hc hb hL hs2 hs3 hm2 hm3
  go_enter Tryz.func16, Tryz.ntmps16
  go_wp2
  have hg1 := fun W hW => (cloakroomref02_bits.calls 9 A c (octL l 0) _ W hW HS3.out (rbits_oct HY.out 0))
  have hg2 := fun W hW => (cloakroomref02_bits.calls 9 A' c' (octL l 8) _ W hW HM3.out (rbits_oct HY.out 8))
  refine wp_region_quiet_lit (by kernel_rfl) (by kernel_rfl) ?_
  go_big_quiet_step (fail)
  go_big_quiet_step (fail)
  go_big_quiet_step (exact quiet_drawn (hg1 _ (Kd.C_drewN (HS2.out _ HR.out) _)))
  go_big_quiet_step (fail)
  go_big_quiet_step (fail)
  go_big_quiet_step (exact quiet_drawn (hg2 _ (Kd.C_drewN (HM2.out _ HR.out) _)))
  go_big_quiet_step (fail)
  go_big_quiet_step (fail)
  refine wpQuiet_nil ?_
  intro _ hw'
  obtain ⟨nq, hw''⟩ := hw'
  subst hw''
  clear hg1 hg2
  have HB := Aside0.mk (pw_below_drewN (Below.refl w.heap.size w) nq)
  generalize w.drewN nq = w1 at HB ⊢
  go_wp2_with fail
  refine (cloakroomref01_Form.calls _ _ _ HF0.out).mono ?_
  rintro e w2 ⟨rfl, ⟨n2, rfl⟩⟩
  have HB2 := Aside0.mk (pw_below_drewN HB.out n2)
  generalize w1.drewN n2 = w2 at HB2 ⊢
  go_wp2
  go_ret3
  exact ⟨rfl, HB2.out⟩
set_option maxHeartbeats 1000000 in
set_option maxRecDepth 100000 in
theorem rtake_no8 (A : Option Addr) (c : Nat) (l : List Int) (w : World) (hr : Kd.C (Kd.int .u8) w A l.length l) (hc : l.length ≤ c) (hb : ∀ x ∈ l, byt x) (hl : 16 ≤ l.length) (hL : l.length ≤ 100000) (h0 : ((formN (oct l 0).toNat : Nat) : Int) = oct l 0) (hne : ¬ (oct l 8 = ((formN (oct l 8).toNat : Nat) : Int))) :
    Calls Tryz.prog 16 #[.slice A l.length c] w fun e w' => e = .returned (.tuple #[.complex .f64 0 0, .slice none 0 0, .int .i64 21]) ∧ Below w.heap.size w w' := by
  have h1 : 16 ≤ (l.length : Int) := by omega
  obtain ⟨hs1, hs2, hs3⟩ := take8 A c l hl hc
  obtain ⟨A', c', hm1, hm2, hm3⟩ := mid816 A c l hl hc
  have b0 := oct_bd hb 0
  have b8 := oct_bd hb 8
  have hf0 := refForm (oct l 0).toNat (by omega)
  have hf8 := refForm (oct l 8).toNat (by omega)
  rw [show (((oct l 0).toNat : Nat) : Int) = oct l 0 by omega] at hf0
  rw [show (((oct l 8).toNat : Nat) : Int) = oct l 8 by omega] at hf8
  rw [h0] at hf0
  have HF0 := Aside0.mk hf0
  have HF8 := Aside0.mk hf8
  clear hf0 hf8 b0 b8 h0
  have HR := Aside0.mk hr
  have HC := Aside0.mk hc
  have HY := Aside0.mk hb
  have HL := Aside0.mk hL
  have HS2 := Aside0.mk hs2
  have HS3 := Aside0.mk hs3
  have HM2 := Aside0.mk hm2
  have HM3 := Aside0.mk hm3
  clear hr hc hb hL hs2 hs3 hm2 hm3
  go_enter Tryz.func16, Tryz.ntmps16
  go_wp2
  have hg1 := fun W hW => (cloakroomref02_bits.calls 9 A c (octL l 0) _ W hW HS3.out (rbits_oct HY.out 0))
  have hg2 := fun W hW => (cloakroomref02_bits.calls 9 A' c' (octL l 8) _ W hW HM3.out (rbits_oct HY.out 8))
  refine wp_region_quiet_lit (by kernel_rfl) (by kernel_rfl) ?_
  go_big_quiet_step (fail)
  go_big_quiet_step (fail)
  go_big_quiet_step (exact quiet_drawn (hg1 _ (Kd.C_drewN (HS2.out _ HR.out) _)))
  go_big_quiet_step (fail)
  go_big_quiet_step (fail)
  go_big_quiet_step (exact quiet_drawn (hg2 _ (Kd.C_drewN (HM2.out _ HR.out) _)))
  go_big_quiet_step (fail)
  go_big_quiet_step (fail)
  refine wpQuiet_nil ?_
  intro _ hw'
  obtain ⟨nq, hw''⟩ := hw'
  subst hw''
  clear hg1 hg2
  have HB := Aside0.mk (pw_below_drewN (Below.refl w.heap.size w) nq)
  generalize w.drewN nq = w1 at HB ⊢
  go_wp2_with fail
  refine (cloakroomref01_Form.calls _ _ _ HF0.out).mono ?_
  rintro e w2 ⟨rfl, ⟨n2, rfl⟩⟩
  have HB2 := Aside0.mk (pw_below_drewN HB.out n2)
  generalize w1.drewN n2 = w2 at HB2 ⊢
  go_wp2_with fail
  refine (cloakroomref01_Form.calls _ _ _ HF8.out).mono ?_
  rintro e w3 ⟨rfl, ⟨n3, rfl⟩⟩
  have HB3 := Aside0.mk (pw_below_drewN HB2.out n3)
  generalize w2.drewN n3 = w3 at HB3 ⊢
  go_wp2
  go_ret3
  exact ⟨rfl, HB3.out⟩
set_option maxHeartbeats 1000000 in
set_option maxRecDepth 100000 in
theorem rtake_yes (A : Option Addr) (c : Nat) (l : List Int) (w : World) (hr : Kd.C (Kd.int .u8) w A l.length l) (hc : l.length ≤ c) (hb : ∀ x ∈ l, byt x) (hl : 16 ≤ l.length) (hL : l.length ≤ 100000) (h0 : ((formN (oct l 0).toNat : Nat) : Int) = oct l 0) (h8 : ((formN (oct l 8).toNat : Nat) : Int) = oct l 8) :
    Calls Tryz.prog 16 #[.slice A l.length c] w fun e w' => ∃ v1 : Value, e = .returned (.tuple #[.complex .f64 (oct l 0).toNat (oct l 8).toNat, v1, .int .i64 0]) ∧ Kd.R (Kd.int .u8) 5 w' w.heap.size (fun _ => True) v1 (l.drop 16) ∧ Below w.heap.size w w' := by
  have h1 : 16 ≤ (l.length : Int) := by omega
  obtain ⟨hs1, hs2, hs3⟩ := take8 A c l hl hc
  obtain ⟨A', c', hm1, hm2, hm3⟩ := mid816 A c l hl hc
  have b0 := oct_bd hb 0
  have b8 := oct_bd hb 8
  have hf0 := refForm (oct l 0).toNat (by omega)
  have hf8 := refForm (oct l 8).toNat (by omega)
  rw [show (((oct l 0).toNat : Nat) : Int) = oct l 0 by omega] at hf0
  rw [show (((oct l 8).toNat : Nat) : Int) = oct l 8 by omega] at hf8
  rw [h0] at hf0
  have HF0 := Aside0.mk hf0
  rw [h8] at hf8
  have HF8 := Aside0.mk hf8
  clear hf0 hf8 b0 b8 h0 h8
  have HR := Aside0.mk hr
  have HC := Aside0.mk hc
  have HY := Aside0.mk hb
  have HL := Aside0.mk hL
  have HS2 := Aside0.mk hs2
  have HS3 := Aside0.mk hs3
  have HM2 := Aside0.mk hm2
  have HM3 := Aside0.mk hm3
  clear hr hc hb hL hs2 hs3 hm2 hm3
  go_enter Tryz.func16, Tryz.ntmps16
  go_wp2
  have hg1 := fun W hW => (cloakroomref02_bits.calls 9 A c (octL l 0) _ W hW HS3.out (rbits_oct HY.out 0))
  have hg2 := fun W hW => (cloakroomref02_bits.calls 9 A' c' (octL l 8) _ W hW HM3.out (rbits_oct HY.out 8))
  refine wp_region_quiet_lit (by kernel_rfl) (by kernel_rfl) ?_
  go_big_quiet_step (fail)
  go_big_quiet_step (fail)
  go_big_quiet_step (exact quiet_drawn (hg1 _ (Kd.C_drewN (HS2.out _ HR.out) _)))
  go_big_quiet_step (fail)
  go_big_quiet_step (fail)
  go_big_quiet_step (exact quiet_drawn (hg2 _ (Kd.C_drewN (HM2.out _ HR.out) _)))
  go_big_quiet_step (fail)
  go_big_quiet_step (fail)
  refine wpQuiet_nil ?_
  intro _ hw'
  obtain ⟨nq, hw''⟩ := hw'
  subst hw''
  clear hg1 hg2
  have HB := Aside0.mk (pw_below_drewN (Below.refl w.heap.size w) nq)
  generalize w.drewN nq = w1 at HB ⊢
  go_wp2_with fail
  refine (cloakroomref01_Form.calls _ _ _ HF0.out).mono ?_
  rintro e w2 ⟨rfl, ⟨n2, rfl⟩⟩
  have HB2 := Aside0.mk (pw_below_drewN HB.out n2)
  generalize w1.drewN n2 = w2 at HB2 ⊢
  go_wp2_with fail
  refine (cloakroomref01_Form.calls _ _ _ HF8.out).mono ?_
  rintro e w3 ⟨rfl, ⟨n3, rfl⟩⟩
  have HB3 := Aside0.mk (pw_below_drewN HB2.out n3)
  generalize w2.drewN n3 = w3 at HB3 ⊢
  have h34 := run34
  go_wp2
  obtain ⟨A2, c2, hd1, hd2, hd3⟩ := drop3 A c l 16 hl HC.out
  rw [show ((16 : Nat) : Int) = 16 from rfl] at hd1
  have HD2 := Aside0.mk hd2
  have HD3 := Aside0.mk hd3
  clear hd2 hd3
  refine start_ (n := 12) (S := fun w' => True) (ds := []) #[false, false, false, false, false, false, false, false, false, false, false, false] (by kernel_rfl) rfl rfl trivial (fun hHeld => ?_)
  have HB4 := Aside0.mk (below_drew1 HB3.out)
  generalize w3.drew = w4 at HB4 ⊢
  refine pure_ (i := 0) (N := some 26) (v := ?_) (a' := ?_) #[true, false, false, false, false, false, false, false, false, false, false, false] rfl rfl (by kernel_rfl) (fun _ _ _ h => h) (Or.inl ⟨by rfl, ?_⟩) ?_ ?_
  rotate_left
  · intro w'
    go_simp
    with_reducible rfl
  rotate_left
  · simp only [Act.put, List.setIfInBounds_toArray, List.set_cons_zero, List.set_cons_succ, i64_w, i32_w]
    rfl
  refine pure_ (i := 1) (N := some 27) (v := ?_) (a' := ?_) #[true, true, false, false, false, false, false, false, false, false, false, false] rfl rfl (by kernel_rfl) (fun _ _ _ h => h) (Or.inl ⟨by rfl, ?_⟩) ?_ ?_
  rotate_left
  · intro w'
    go_simp
    with_reducible rfl
  rotate_left
  · simp only [Act.put, List.setIfInBounds_toArray, List.set_cons_zero, List.set_cons_succ, i64_w, i32_w]
    rfl
  refine pure_ (i := 2) (N := some 28) (v := ?_) (a' := ?_) #[true, true, true, false, false, false, false, false, false, false, false, false] rfl rfl (by kernel_rfl) (fun _ _ _ h => h) (Or.inl ⟨by rfl, ?_⟩) ?_ ?_
  rotate_left
  · intro w'
    go_simp
    with_reducible rfl
  rotate_left
  · simp only [Act.put, List.setIfInBounds_toArray, List.set_cons_zero, List.set_cons_succ, i64_w, i32_w]
    rfl
  refine pure_ (i := 3) (N := some 29) (v := ?_) (a' := ?_) #[true, true, true, true, false, false, false, false, false, false, false, false] rfl rfl (by kernel_rfl) (fun _ _ _ h => h) (Or.inl ⟨by rfl, ?_⟩) ?_ ?_
  rotate_left
  · intro w'
    go_simp
    with_reducible rfl
  rotate_left
  · simp only [Act.put, List.setIfInBounds_toArray, List.set_cons_zero, List.set_cons_succ, i64_w, i32_w]
    rfl
  refine pure_ (i := 4) (N := some 30) (v := ?_) (a' := ?_) #[true, true, true, true, true, false, false, false, false, false, false, false] rfl rfl (by kernel_rfl) (fun _ _ _ h => h) (Or.inl ⟨by rfl, ?_⟩) ?_ ?_
  rotate_left
  · intro w'
    go_simp
    with_reducible rfl
  rotate_left
  · simp only [Act.put, List.setIfInBounds_toArray, List.set_cons_zero, List.set_cons_succ, i64_w, i32_w]
    rfl
  refine pure_ (i := 6) (N := some 32) (v := ?_) (a' := ?_) #[true, true, true, true, true, false, true, false, false, false, false, false] rfl rfl (by kernel_rfl) (fun _ _ _ h => h) (Or.inl ⟨by rfl, ?_⟩) ?_ ?_
  rotate_left
  · intro w'
    go_simp
    with_reducible rfl
  rotate_left
  · simp only [Act.put, List.setIfInBounds_toArray, List.set_cons_zero, List.set_cons_succ, i64_w, i32_w]
    rfl
  refine pure_ (i := 7) (N := some 33) (v := ?_) (a' := ?_) #[true, true, true, true, true, false, true, true, false, false, false, false] rfl rfl (by kernel_rfl) (fun _ _ _ h => h) (Or.inl ⟨by rfl, ?_⟩) ?_ ?_
  rotate_left
  · intro w'
    go_simp
    with_reducible rfl
  rotate_left
  · simp only [Act.put, List.setIfInBounds_toArray, List.set_cons_zero, List.set_cons_succ, i64_w, i32_w]
    rfl
  refine one_ (i := 5) (N := some 31) #[true, true, true, true, true, true, true, true, false, false, false, false] rfl rfl (by kernel_rfl) (by decide) (fun K hK => ?_)
  refine value_ (w1 := ?_) (v := ?_) (by rfl) rfl ?_ ?_
  rotate_left 2
  · go_simp
    constructor
    · rfl
    · rfl
  refine hK.out _ _ trivial (fun hHeld => ?_)
  clear hK K
  refine norm_ (a' := ?_) ?_ ?_
  rotate_left
  · show Act.put _ (some 31) _ = _
    simp only [Act.put, List.setIfInBounds_toArray, List.set_cons_zero, List.set_cons_succ, i64_w, i32_w]
    rfl
  refine one_ (i := 8) (N := some 34) #[true, true, true, true, true, true, true, true, true, false, false, false] rfl rfl (by kernel_rfl) (by decide) (fun K hK => ?_)
  refine Kd.R_append_rows_step (Kd.int .u8) (w0 := w) w.heap.size (by rfl) (.tmp 31) (.tmp 33) 22 5 (.int .u8 0) 1 rfl Tryz.underlying22 info5 rfl (by decide) (by omega) (.slice (some ⟨w4.heap.size, 0, none⟩) 0 0) ([] : List Int) (l.drop 16) _ _ _ (fun _ => True) (fun _ => False) rfl rfl ?aO ?aR (fun _ _ h => h) (fun _ h => h.elim) ?aF ?aB ?aS ?aL ?_
  (case aR => exact Kd.C_alloc (Kd.C_below (HD2.out _ HR.out) HB4.out) _)
  (case aB => exact below_alloc HB4.out _)
  (case aF => exact (fun _ _ => trivial))
  (case aO => exact R_empty w4 _ (below_size HB4.out))
  (case aS => exact below_size (below_alloc HB4.out _))
  (case aL => have := HL.out; simp only [List.length_nil]; omega)
  intro v5 w5 ho hb hg hat
  rw [List.nil_append] at ho
  have O5 := Aside0.mk ho
  have B5 := Aside0.mk hb
  clear ho hb hg hat
  refine hK.out _ _ trivial (fun hHeld => ?_)
  clear hK K
  refine norm_ (a' := ?_) ?_ ?_
  rotate_left
  · show Act.put _ (some 34) _ = _
    simp only [Act.put, List.setIfInBounds_toArray, List.set_cons_zero, List.set_cons_succ, i64_w, i32_w]
    rfl
  refine pure_ (i := 9) (N := some 2) (v := ?_) (a' := ?_) #[true, true, true, true, true, true, true, true, true, true, false, false] rfl rfl (by kernel_rfl) (fun _ _ _ h => h) (Or.inl ⟨by rfl, ?_⟩) ?_ ?_
  rotate_left
  · intro w'
    go_simp
    with_reducible rfl
  rotate_left
  · simp only [Act.put, List.setIfInBounds_toArray, List.set_cons_zero, List.set_cons_succ, i64_w, i32_w]
    rfl
  refine pure_ (i := 10) (N := some 3) (v := ?_) (a' := ?_) #[true, true, true, true, true, true, true, true, true, true, true, false] rfl rfl (by kernel_rfl) (fun _ _ _ h => h) (Or.inl ⟨by rfl, ?_⟩) ?_ ?_
  rotate_left
  · intro w'
    go_simp
    with_reducible rfl
  rotate_left
  · simp only [Act.put, List.setIfInBounds_toArray, List.set_cons_zero, List.set_cons_succ, i64_w, i32_w]
    rfl
  refine pure_ (i := 11) (N := some 4) (v := ?_) (a' := ?_) #[true, true, true, true, true, true, true, true, true, true, true, true] rfl rfl (by kernel_rfl) (fun _ _ _ h => h) (Or.inl ⟨by rfl, ?_⟩) ?_ ?_
  rotate_left
  · intro w'
    go_simp
    with_reducible rfl
  rotate_left
  · simp only [Act.put, List.setIfInBounds_toArray, List.set_cons_zero, List.set_cons_succ, i64_w, i32_w]
    rfl
  refine done_ (by kernel_rfl) ?_
  go_wp2
  go_ret3
  exact ⟨v5, rfl, O5.out, B5.out⟩
end Go.Proofs.YtpgjilakcepilaaGreat.PV
