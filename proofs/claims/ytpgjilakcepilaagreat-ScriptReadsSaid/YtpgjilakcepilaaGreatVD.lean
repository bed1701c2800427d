/- The contract of package pack's Take. -/
import Derived.Test.YtpgjilakcepilaaGreatVC
namespace Go.Proofs.YtpgjilakcepilaaGreat.PV
open Go.RowKit Go.Proofs.YtpgjilakcepilaaGreat.PScriptReads Go.Proofs.YtpgjilakcepilaaGreatW.PrintWords Go.Proofs.YtpgjilakcepilaaGreatW.PrintLast Go.Proofs.YtpgjilakcepilaaGreatW.PrintMore
set_option linter.unusedVariables false
set_option linter.unusedSimpArgs false

theorem quiet_drawn {P : Program} {f : FuncId} {args : Array Value} {w : World} {n : Nat} {v : Value} (h : Calls P f args (w.drewN n) fun e w' => e = .returned v ∧ Drawn0 (w.drewN n) w') : Calls P f args (w.drewN n) fun e w'' => e = .returned v ∧ ∃ m, w'' = w.drewN m :=
  Calls.quiet_of (h.mono fun _ _ ⟨he, hd⟩ => ⟨he, hd.out⟩)
theorem quiet_same {P : Program} {f : FuncId} {args : Array Value} {w : World} {n : Nat} {v : Value} (h : Calls P f args (w.drewN n) fun e w' => e = .returned v ∧ w.drewN n = w') : Calls P f args (w.drewN n) fun e w'' => e = .returned v ∧ ∃ m, w'' = w.drewN m :=
  Calls.quiet_of_same (h.mono fun _ _ ⟨he, hd⟩ => ⟨he, hd.symm⟩)
theorem take8 (A : Option Addr) (c : Nat) (l : List Int) (h : 16 ≤ l.length) (hc : l.length ≤ c) : (∀ W : World, (Instr.slice 22 (.slice A l.length c) none (some (.int .i64 8)) none).run Tryz.prog W = .ok (.slice A 8 c) W) ∧
    (∀ w : World, Kd.C (Kd.int .u8) w A l.length l → Kd.C (Kd.int .u8) w A (octL l 0).length (octL l 0)) ∧ 8 ≤ c := by
  obtain ⟨i0, hi0, _, hsz, _⟩ := info_parts info5
  obtain ⟨h1, h2, h3⟩ := print_take_of (P := Tryz.prog) (Value.int .u8) 0 22 5 .i64 Tryz.underlying22 hi0 hsz A c l 8 (by omega) (by omega) hc
  have e : l.take 8 = octL l 0 := by
    have := mid8 l 0 (by omega)
    rwa [List.drop_zero] at this
  rw [show (8 : Int).toNat = 8 from rfl, e] at h1 h2 h3
  exact ⟨h1, fun w hw => Kd.C_of_reads (h1 := fun _ => rfl) (h2 w (Kd.reads_of_C hw)), by omega⟩
theorem take16 (A : Option Addr) (c : Nat) (l : List Int) (h : 16 ≤ l.length) (hc : l.length ≤ c) : (∀ W : World, (Instr.slice 22 (.slice A l.length c) none (some (.int .i64 16)) none).run Tryz.prog W = .ok (.slice A 16 c) W) ∧
    (∀ w : World, Kd.C (Kd.int .u8) w A l.length l → Kd.C (Kd.int .u8) w A 16 (l.take 16)) ∧ 16 ≤ c := by
  obtain ⟨i0, hi0, _, hsz, _⟩ := info_parts info5
  obtain ⟨h1, h2, h3⟩ := print_take_of (P := Tryz.prog) (Value.int .u8) 0 22 5 .i64 Tryz.underlying22 hi0 hsz A c l 16 (by omega) (by omega) hc
  have e : (l.take 16).length = 16 := by rw [List.length_take]; omega
  rw [show (16 : Int).toNat = 16 from rfl, e] at h1 h2 h3
  exact ⟨h1, fun w hw => Kd.C_of_reads (h1 := fun _ => rfl) (h2 w (Kd.reads_of_C hw)), by omega⟩
theorem mid816 (A : Option Addr) (c : Nat) (l : List Int) (h : 16 ≤ l.length) (hc : l.length ≤ c) : ∃ (A' : Option Addr) (c' : Nat), (∀ W : World, (Instr.slice 22 (.slice A l.length c) (some (.int .i64 8)) (some (.int .i64 16)) none).run Tryz.prog W = .ok (.slice A' 8 c') W) ∧
    (∀ w : World, Kd.C (Kd.int .u8) w A l.length l → Kd.C (Kd.int .u8) w A' (octL l 8).length (octL l 8)) ∧ 8 ≤ c' := by
  obtain ⟨i0, hi0, _, hsz, _⟩ := info_parts info5
  obtain ⟨A', h1, h2, h3⟩ := print_mid_of (P := Tryz.prog) (Value.int .u8) 0 22 5 .i64 .i64 Tryz.underlying22 hi0 hsz A c l 8 16 (by omega) (by omega) (by omega) hc
  rw [show (8 : Int).toNat = 8 from rfl, show (16 : Int).toNat = 16 from rfl, mid8 l 8 (by omega)] at h1 h2 h3
  exact ⟨A', _, h1, fun w hw => Kd.C_of_reads (h1 := fun _ => rfl) (h2 w (Kd.reads_of_C hw)), h3⟩
set_option maxHeartbeats 4000000 in
set_option maxRecDepth 100000 in
theorem take_short (A : Option Addr) (c : Nat) (l : List Int) (w : World) (hl : l.length < 16) :
    Calls Tryz.prog 28 #[.slice A l.length c] w fun e w' => e = .returned (.tuple #[.complex .f64 0 0, .slice none 0 0, .int .i64 21]) ∧ w = w' := by
  have h1 : (l.length : Int) < 16 := by omega
  go_enter Tryz.func28, Tryz.ntmps28
  go_wp2
  go_ret3
  exact ⟨rfl, rfl⟩
/-- is a complex number's form the one form? -/
def cleanB (l : List Int) : Bool := decide (tb8 (formN (oct l 0).toNat) ++ tb8 (formN (oct l 8).toNat) = l.take 16)
set_option maxHeartbeats 4000000 in
set_option maxRecDepth 100000 in
theorem take_yes (A : Option Addr) (c : Nat) (l : List Int) (w : World) (hr : Kd.C (Kd.int .u8) w A l.length l) (hc : l.length ≤ c) (hb : ∀ x ∈ l, byt x) (hl : 16 ≤ l.length) (hL : l.length ≤ 100000) (hcl : cleanB l = true) :
    Calls Tryz.prog 28 #[.slice A l.length c] w fun e w' => ∃ v1 : Value, e = .returned (.tuple #[.complex .f64 (oct l 0).toNat (oct l 8).toNat, v1, .int .i64 0]) ∧ Kd.R (Kd.int .u8) 5 w' w.heap.size (fun _ => True) v1 (l.drop 16) ∧ Below w.heap.size w w' := by
  have h1 : 16 ≤ (l.length : Int) := by omega
  obtain ⟨hs1, hs2, hs3⟩ := take8 A c l hl hc
  obtain ⟨ht1, ht2, ht3⟩ := take16 A c l hl hc
  obtain ⟨A', c', hm1, hm2, hm3⟩ := mid816 A c l hl hc
  have HR := Aside0.mk hr
  have HC := Aside0.mk hc
  have HY := Aside0.mk hb
  have HL := Aside0.mk hL
  have HS2 := Aside0.mk hs2
  have HS3 := Aside0.mk hs3
  have HT2 := Aside0.mk ht2
  have HT3 := Aside0.mk ht3
  have HM2 := Aside0.mk hm2
  have HM3 := Aside0.mk hm3
  clear hr hc hb hL hs2 hs3 ht2 ht3 hm2 hm3
  go_enter Tryz.func28, Tryz.ntmps28
  go_wp2
  have hg1 := fun W hW => (pack_get.calls 9 A c (octL l 0) _ W hW HS3.out (get_oct HY.out 0))
  have hg2 := fun W hW => (pack_get.calls 9 A' c' (octL l 8) _ W hW HM3.out (get_oct HY.out 8))
  refine wp_region_quiet_lit (by kernel_rfl) (by kernel_rfl) ?_
  go_big_quiet_step (fail)
  go_big_quiet_step (fail)
  go_big_quiet_step (exact quiet_drawn (hg1 _ (Kd.C_drewN (HS2.out _ HR.out) _)))
  go_big_quiet_step (fail)
  go_big_quiet_step (fail)
  go_big_quiet_step (exact quiet_drawn (hg2 _ (Kd.C_drewN (HM2.out _ HR.out) _)))
  go_big_quiet_step (exact quiet_same (of_any _ _ _))
  go_big_quiet_step (fail)
  refine wpQuiet_nil ?_
  intro _ hw'
  obtain ⟨nq, hw''⟩ := hw'
  subst hw''
  clear hg1 hg2
  have HB := Aside0.mk (pw_below_drewN (n := nq) (Below.refl w.heap.size w))
  generalize w.drewN nq = w1 at HB ⊢
  go_wp2
  refine start_ (n := 6) (S := fun _ => True) (ds := []) #[false, false, false, false, false, false] (by kernel_rfl) rfl rfl trivial (fun hHeld => ?_)
  have HB := Aside0.mk (below_drew1 HB.out)
  generalize w1.drew = w2 at HB ⊢
  refine pure_ (i := 0) (N := some 16) (v := ?_) (a' := ?_) #[true, false, false, false, false, false] rfl rfl (by kernel_rfl) (fun _ _ _ h => h) (Or.inl ⟨by rfl, ?_⟩) ?_ ?_
  rotate_left
  · intro w'
    go_simp
    with_reducible rfl
  rotate_left
  · simp only [Act.put, List.setIfInBounds_toArray, List.set_cons_zero, List.set_cons_succ, i64_w, i32_w]
    rfl
  refine pure_ (i := 2) (N := some 18) (v := ?_) (a' := ?_) #[true, false, true, false, false, false] rfl rfl (by kernel_rfl) (fun _ _ _ h => h) (Or.inl ⟨by rfl, ?_⟩) ?_ ?_
  rotate_left
  · intro w'
    go_simp
    with_reducible rfl
  rotate_left
  · simp only [Act.put, List.setIfInBounds_toArray, List.set_cons_zero, List.set_cons_succ, i64_w, i32_w]
    rfl
  refine pure_ (i := 3) (N := some 19) (v := ?_) (a' := ?_) #[true, false, true, true, false, false] rfl rfl (by kernel_rfl) (fun _ _ _ h => h) (Or.inl ⟨by rfl, ?_⟩) ?_ ?_
  rotate_left
  · intro w'
    go_simp
    with_reducible rfl
  rotate_left
  · simp only [Act.put, List.setIfInBounds_toArray, List.set_cons_zero, List.set_cons_succ, i64_w, i32_w]
    rfl
  refine one_ (i := 1) (N := some 17) #[true, true, true, true, false, false] rfl rfl (by kernel_rfl) (by decide) (fun K hK => ?_)
  refine goes_ Tryz.func25 (by kernel_rfl) rfl #[.complex .f64 (oct l 0).toNat (oct l 8).toNat] (by rfl) rfl rfl (by simp only [List.map_toArray, List.map_cons, List.map_nil]; rfl) ?_
  refine (value_any _ _ _ w2 (val_all _ _)).mono ?_
  rintro e w3 ⟨v3, rfl, r3, b3⟩
  refine ⟨_, rfl, ?_⟩
  refine hK.out _ _ trivial (fun hHeld => ?_)
  clear hK K
  refine norm_ (a' := ?_) ?_ ?_
  rotate_left
  · show Act.put _ (some 17) _ = _
    simp only [Act.put, List.setIfInBounds_toArray, List.set_cons_zero, List.set_cons_succ, i64_w, i32_w]
    rfl
  have HV := Aside0.mk r3
  have HB3 := Aside0.mk (below_step HB.out b3)
  clear r3 b3
  obtain ⟨Av, cv, ev, hv1, hv2⟩ := Kd.R_reads HV.out
  subst ev
  have hq : Calls Tryz.prog 62 #[.slice Av (tb8 (formN (oct l 0).toNat) ++ tb8 (formN (oct l 8).toNat)).length cv, .slice A 16 c] w3 fun e w' => e = .returned (.bool (cleanB l)) ∧ Drawn0 w3 w' := equal_any Av A cv c _ 16 _ (l.take 16) w3 rfl (by have := hl; rw [List.length_take]; omega) hv2 hv1 (Kd.C_below (HT2.out _ HR.out) HB3.out) HT3.out (by simp [tb8])
  rw [hcl] at hq
  have HQ := Aside0.mk hq
  clear hq hv1 hv2
  refine one_ (i := 4) (N := some 20) #[true, true, true, true, true, false] rfl rfl (by kernel_rfl) (by decide) (fun K hK => ?_)
  refine goes_ Tryz.func62 (by kernel_rfl) rfl #[.slice Av (tb8 (formN (oct l 0).toNat) ++ tb8 (formN (oct l 8).toNat)).length cv, .slice A 16 c] (by rfl) rfl rfl (by simp only [List.map_toArray, List.map_cons, List.map_nil]; rfl) ?_
  refine (HQ.out).mono ?_
  rintro e w4 ⟨rfl, ⟨n4, rfl⟩⟩
  refine ⟨_, rfl, ?_⟩
  refine hK.out _ _ trivial (fun hHeld => ?_)
  clear hK K
  refine norm_ (a' := ?_) ?_ ?_
  rotate_left
  · show Act.put _ (some 20) _ = _
    simp only [Act.put, List.setIfInBounds_toArray, List.set_cons_zero, List.set_cons_succ, i64_w, i32_w]
    rfl
  refine pure_ (i := 5) (N := some 21) (v := ?_) (a' := ?_) #[true, true, true, true, true, true] rfl rfl (by kernel_rfl) (fun _ _ _ h => h) (Or.inl ⟨by rfl, ?_⟩) ?_ ?_
  rotate_left
  · intro w'
    go_simp
    with_reducible rfl
  rotate_left
  · simp only [Act.put, List.setIfInBounds_toArray, List.set_cons_zero, List.set_cons_succ, i64_w, i32_w]
    rfl
  refine done_ (by kernel_rfl) ?_
  have HB4 := Aside0.mk (pw_below_drewN HB3.out n4)
  generalize w3.drewN n4 = w4 at HB4 ⊢
  obtain ⟨A2, c2, hd1, hd2, hd3⟩ := drop3 A c l 16 hl HC.out
  rw [show ((16 : Nat) : Int) = 16 from rfl] at hd1
  have HD2 := Aside0.mk hd2
  have HD3 := Aside0.mk hd3
  clear hd2 hd3
  go_wp2_with (go_at_call 27; refine (clone_n _ A2 c2 (l.drop 16) _ List.length_drop (Kd.C_below (HD2.out _ HR.out) HB4.out) HD3.out (by have := HL.out; omega)).mono ?_; rintro e w' ⟨v5, rfl, r5, b5⟩; have R5 := Aside0.mk r5; have B5 := Aside0.mk b5; clear r5 b5)
  go_ret3
  exact ⟨v5, rfl, Kd.R_lower R5.out (below_size HB4.out), below_step HB4.out B5.out⟩
set_option maxHeartbeats 4000000 in
set_option maxRecDepth 100000 in
theorem take_no (A : Option Addr) (c : Nat) (l : List Int) (w : World) (hr : Kd.C (Kd.int .u8) w A l.length l) (hc : l.length ≤ c) (hb : ∀ x ∈ l, byt x) (hl : 16 ≤ l.length) (hL : l.length ≤ 100000) (hcl : cleanB l = false) :
    Calls Tryz.prog 28 #[.slice A l.length c] w fun e w' => e = .returned (.tuple #[.complex .f64 0 0, .slice none 0 0, .int .i64 21]) ∧ Below w.heap.size w w' := by
  have h1 : 16 ≤ (l.length : Int) := by omega
  obtain ⟨hs1, hs2, hs3⟩ := take8 A c l hl hc
  obtain ⟨ht1, ht2, ht3⟩ := take16 A c l hl hc
  obtain ⟨A', c', hm1, hm2, hm3⟩ := mid816 A c l hl hc
  have HR := Aside0.mk hr
  have HC := Aside0.mk hc
  have HY := Aside0.mk hb
  have HL := Aside0.mk hL
  have HS2 := Aside0.mk hs2
  have HS3 := Aside0.mk hs3
  have HT2 := Aside0.mk ht2
  have HT3 := Aside0.mk ht3
  have HM2 := Aside0.mk hm2
  have HM3 := Aside0.mk hm3
  clear hr hc hb hL hs2 hs3 ht2 ht3 hm2 hm3
  go_enter Tryz.func28, Tryz.ntmps28
  go_wp2
  have hg1 := fun W hW => (pack_get.calls 9 A c (octL l 0) _ W hW HS3.out (get_oct HY.out 0))
  have hg2 := fun W hW => (pack_get.calls 9 A' c' (octL l 8) _ W hW HM3.out (get_oct HY.out 8))
  refine wp_region_quiet_lit (by kernel_rfl) (by kernel_rfl) ?_
  go_big_quiet_step (fail)
  go_big_quiet_step (fail)
  go_big_quiet_step (exact quiet_drawn (hg1 _ (Kd.C_drewN (HS2.out _ HR.out) _)))
  go_big_quiet_step (fail)
  go_big_quiet_step (fail)
  go_big_quiet_step (exact quiet_drawn (hg2 _ (Kd.C_drewN (HM2.out _ HR.out) _)))
  go_big_quiet_step (exact quiet_same (of_any _ _ _))
  go_big_quiet_step (fail)
  refine wpQuiet_nil ?_
  intro _ hw'
  obtain ⟨nq, hw''⟩ := hw'
  subst hw''
  clear hg1 hg2
  have HB := Aside0.mk (pw_below_drewN (n := nq) (Below.refl w.heap.size w))
  generalize w.drewN nq = w1 at HB ⊢
  go_wp2
  refine start_ (n := 6) (S := fun _ => True) (ds := []) #[false, false, false, false, false, false] (by kernel_rfl) rfl rfl trivial (fun hHeld => ?_)
  have HB := Aside0.mk (below_drew1 HB.out)
  generalize w1.drew = w2 at HB ⊢
  refine pure_ (i := 0) (N := some 16) (v := ?_) (a' := ?_) #[true, false, false, false, false, false] rfl rfl (by kernel_rfl) (fun _ _ _ h => h) (Or.inl ⟨by rfl, ?_⟩) ?_ ?_
  rotate_left
  · intro w'
    go_simp
    with_reducible rfl
  rotate_left
  · simp only [Act.put, List.setIfInBounds_toArray, List.set_cons_zero, List.set_cons_succ, i64_w, i32_w]
    rfl
  refine pure_ (i := 2) (N := some 18) (v := ?_) (a' := ?_) #[true, false, true, false, false, false] rfl rfl (by kernel_rfl) (fun _ _ _ h => h) (Or.inl ⟨by rfl, ?_⟩) ?_ ?_
  rotate_left
  · intro w'
    go_simp
    with_reducible rfl
  rotate_left
  · simp only [Act.put, List.setIfInBounds_toArray, List.set_cons_zero, List.set_cons_succ, i64_w, i32_w]
    rfl
  refine pure_ (i := 3) (N := some 19) (v := ?_) (a' := ?_) #[true, false, true, true, false, false] rfl rfl (by kernel_rfl) (fun _ _ _ h => h) (Or.inl ⟨by rfl, ?_⟩) ?_ ?_
  rotate_left
  · intro w'
    go_simp
    with_reducible rfl
  rotate_left
  · simp only [Act.put, List.setIfInBounds_toArray, List.set_cons_zero, List.set_cons_succ, i64_w, i32_w]
    rfl
  refine one_ (i := 1) (N := some 17) #[true, true, true, true, false, false] rfl rfl (by kernel_rfl) (by decide) (fun K hK => ?_)
  refine goes_ Tryz.func25 (by kernel_rfl) rfl #[.complex .f64 (oct l 0).toNat (oct l 8).toNat] (by rfl) rfl rfl (by simp only [List.map_toArray, List.map_cons, List.map_nil]; rfl) ?_
  refine (value_any _ _ _ w2 (val_all _ _)).mono ?_
  rintro e w3 ⟨v3, rfl, r3, b3⟩
  refine ⟨_, rfl, ?_⟩
  refine hK.out _ _ trivial (fun hHeld => ?_)
  clear hK K
  refine norm_ (a' := ?_) ?_ ?_
  rotate_left
  · show Act.put _ (some 17) _ = _
    simp only [Act.put, List.setIfInBounds_toArray, List.set_cons_zero, List.set_cons_succ, i64_w, i32_w]
    rfl
  have HV := Aside0.mk r3
  have HB3 := Aside0.mk (below_step HB.out b3)
  clear r3 b3
  obtain ⟨Av, cv, ev, hv1, hv2⟩ := Kd.R_reads HV.out
  subst ev
  have hq : Calls Tryz.prog 62 #[.slice Av (tb8 (formN (oct l 0).toNat) ++ tb8 (formN (oct l 8).toNat)).length cv, .slice A 16 c] w3 fun e w' => e = .returned (.bool (cleanB l)) ∧ Drawn0 w3 w' := equal_any Av A cv c _ 16 _ (l.take 16) w3 rfl (by have := hl; rw [List.length_take]; omega) hv2 hv1 (Kd.C_below (HT2.out _ HR.out) HB3.out) HT3.out (by simp [tb8])
  rw [hcl] at hq
  have HQ := Aside0.mk hq
  clear hq hv1 hv2
  refine one_ (i := 4) (N := some 20) #[true, true, true, true, true, false] rfl rfl (by kernel_rfl) (by decide) (fun K hK => ?_)
  refine goes_ Tryz.func62 (by kernel_rfl) rfl #[.slice Av (tb8 (formN (oct l 0).toNat) ++ tb8 (formN (oct l 8).toNat)).length cv, .slice A 16 c] (by rfl) rfl rfl (by simp only [List.map_toArray, List.map_cons, List.map_nil]; rfl) ?_
  refine (HQ.out).mono ?_
  rintro e w4 ⟨rfl, ⟨n4, rfl⟩⟩
  refine ⟨_, rfl, ?_⟩
  refine hK.out _ _ trivial (fun hHeld => ?_)
  clear hK K
  refine norm_ (a' := ?_) ?_ ?_
  rotate_left
  · show Act.put _ (some 20) _ = _
    simp only [Act.put, List.setIfInBounds_toArray, List.set_cons_zero, List.set_cons_succ, i64_w, i32_w]
    rfl
  refine pure_ (i := 5) (N := some 21) (v := ?_) (a' := ?_) #[true, true, true, true, true, true] rfl rfl (by kernel_rfl) (fun _ _ _ h => h) (Or.inl ⟨by rfl, ?_⟩) ?_ ?_
  rotate_left
  · intro w'
    go_simp
    with_reducible rfl
  rotate_left
  · simp only [Act.put, List.setIfInBounds_toArray, List.set_cons_zero, List.set_cons_succ, i64_w, i32_w]
    rfl
  refine done_ (by kernel_rfl) ?_
  have HB4 := Aside0.mk (pw_below_drewN HB3.out n4)
  generalize w3.drewN n4 = w4 at HB4 ⊢
  go_wp2
  go_ret3
  exact ⟨rfl, HB4.out⟩
end Go.Proofs.YtpgjilakcepilaaGreat.PV
