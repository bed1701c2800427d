/- The contracts of package script's between and bare. -/
import Derived.Test.YtpgjilakcepilaaGreatVE
namespace Go.Proofs.YtpgjilakcepilaaGreat.PV
open Go.RowKit Go.Proofs.YtpgjilakcepilaaGreat.PScriptReads Go.Proofs.YtpgjilakcepilaaGreatW.PrintWords Go.Proofs.YtpgjilakcepilaaGreatW.PrintLast Go.Proofs.YtpgjilakcepilaaGreatW.PrintMore
set_option linter.unusedVariables false
set_option linter.unusedSimpArgs false
attribute [local go_sem] run_store_complex

def btw (a lo hi : Int) : Bool := decide (lo ≤ a) && decide (a ≤ hi)
theorem between_any (a lo hi : Int) (w : World) : Calls Tryz.prog 64 #[.int .i64 a, .int .i64 lo, .int .i64 hi] w fun e w' => e = .returned (.bool (btw a lo hi)) ∧ w = w' := by
  by_cases h1 : lo ≤ a
  · have h2 : decide (lo ≤ a) = true := decide_eq_true h1
    have E : Hid (btw a lo hi = decide (a ≤ hi)) := Lib.hid (by unfold btw; rw [h2, Bool.true_and])
    go_enter Tryz.func64, Tryz.ntmps64
    go_wp2
    go_ret
    exact ⟨ret_bool (by rw [E.out]), rfl⟩
  · have h2 : decide (lo ≤ a) = false := decide_eq_false h1
    have E : Hid (btw a lo hi = false) := Lib.hid (by unfold btw; rw [h2, Bool.false_and])
    go_enter Tryz.func64, Tryz.ntmps64
    go_wp2
    go_ret
    exact ⟨ret_bool (by rw [E.out]), rfl⟩
set_option maxHeartbeats 1000000 in
set_option maxRecDepth 100000 in
theorem bare_0 (client lane n at_ mask opk page obj : Int) (re im : Nat) (w : World) : Calls Tryz.prog 66 #[stepV ⟨0, client, lane, n, at_, mask, opk, page, obj, re, im⟩] w fun e w' => e = .returned (stepV ⟨0, client, 0, 0, 0, 0, opk, page, obj, re, im⟩) ∧ Below w.heap.size w w' := by
  unfold stepV
  go_enter Tryz.func66, Tryz.ntmps66
  go_wp2
  refine bodyPost_ret (v := .agg #[.int .i64 0, .int .i64 client, .int .i64 0, .int .i64 0, .int .i64 0, .int .u16 0, .int .i64 opk, .int .i64 page, .int .i64 obj, .complex .f64 re im]) ?_ rfl ⟨rfl, ?_⟩
  · simp [results, Tryz.results66, go_sem]
  · repeat (first | (with_reducible exact Below.refl _ _) | (with_reducible refine below_drew1 ?_) | (refine Below.alloc ?_ (by first | (simp; done) | (simp; omega)) _))
set_option maxHeartbeats 1000000 in
set_option maxRecDepth 100000 in
theorem bare_1 (client lane n at_ mask opk page obj : Int) (re im : Nat) (w : World) : Calls Tryz.prog 66 #[stepV ⟨1, client, lane, n, at_, mask, opk, page, obj, re, im⟩] w fun e w' => e = .returned (stepV ⟨1, client, 0, 0, 0, 0, 0, 0, 0, 0, 0⟩) ∧ Below w.heap.size w w' := by
  unfold stepV
  go_enter Tryz.func66, Tryz.ntmps66
  go_wp2
  refine bodyPost_ret (v := .agg #[.int .i64 1, .int .i64 client, .int .i64 0, .int .i64 0, .int .i64 0, .int .u16 0, .int .i64 0, .int .i64 0, .int .i64 0, .complex .f64 0 0]) ?_ rfl ⟨rfl, ?_⟩
  · simp [results, Tryz.results66, go_sem]
  · repeat (first | (with_reducible exact Below.refl _ _) | (with_reducible refine below_drew1 ?_) | (refine Below.alloc ?_ (by first | (simp; done) | (simp; omega)) _))
set_option maxHeartbeats 1000000 in
set_option maxRecDepth 100000 in
theorem bare_2 (client lane n at_ mask opk page obj : Int) (re im : Nat) (w : World) : Calls Tryz.prog 66 #[stepV ⟨2, client, lane, n, at_, mask, opk, page, obj, re, im⟩] w fun e w' => e = .returned (stepV ⟨2, 0, 0, 0, 0, 0, 0, 0, 0, 0, 0⟩) ∧ Below w.heap.size w w' := by
  unfold stepV
  go_enter Tryz.func66, Tryz.ntmps66
  go_wp2
  refine bodyPost_ret (v := .agg #[.int .i64 2, .int .i64 0, .int .i64 0, .int .i64 0, .int .i64 0, .int .u16 0, .int .i64 0, .int .i64 0, .int .i64 0, .complex .f64 0 0]) ?_ rfl ⟨rfl, ?_⟩
  · simp [results, Tryz.results66, go_sem]
  · repeat (first | (with_reducible exact Below.refl _ _) | (with_reducible refine below_drew1 ?_) | (refine Below.alloc ?_ (by first | (simp; done) | (simp; omega)) _))
set_option maxHeartbeats 1000000 in
set_option maxRecDepth 100000 in
theorem bare_3 (client lane n at_ mask opk page obj : Int) (re im : Nat) (w : World) : Calls Tryz.prog 66 #[stepV ⟨3, client, lane, n, at_, mask, opk, page, obj, re, im⟩] w fun e w' => e = .returned (stepV ⟨3, 0, lane, n, 0, 0, 0, 0, 0, 0, 0⟩) ∧ Below w.heap.size w w' := by
  unfold stepV
  go_enter Tryz.func66, Tryz.ntmps66
  go_wp2
  refine start_ (n := 8) (S := fun w' => w'.cell? ⟨w.heap.size, 2, none⟩ = some (.int .i64 lane) ∧ w'.cell? ⟨w.heap.size, 3, none⟩ = some (.int .i64 n)) (ds := []) #[false, false, false, false, false, false, false, false] (by kernel_rfl) rfl rfl (by go_simp) (fun hHeld => ?_)
  refine pure_ (i := 0) (N := some 38) (v := ?_) (a' := ?_) #[true, false, false, false, false, false, false, false] rfl rfl (by kernel_rfl) (fun _ _ _ h => h) (Or.inl ⟨by rfl, ?_⟩) ?_ ?_
  rotate_left
  · intro w'
    go_simp
    with_reducible rfl
  rotate_left
  · simp only [Act.put, List.setIfInBounds_toArray, List.set_cons_zero, List.set_cons_succ, i64_w, i32_w]
    rfl
  refine take_ (i := 1) (N := some 39) (v := ?_) (a' := ?_) #[true, true, false, false, false, false, false, false] rfl rfl (by kernel_rfl) (fun _ _ _ h => h) (Or.inl ⟨by rfl, ?_⟩) hHeld ?_ ?_
  rotate_left
  · rintro w' ⟨s0, s1⟩
    go_simp
    with_reducible rfl
  rotate_left
  · simp only [Act.put, List.setIfInBounds_toArray, List.set_cons_zero, List.set_cons_succ, i64_w, i32_w]
    rfl
  refine pure_ (i := 2) (N := some 40) (v := ?_) (a' := ?_) #[true, true, true, false, false, false, false, false] rfl rfl (by kernel_rfl) (fun _ _ _ h => h) (Or.inl ⟨by rfl, ?_⟩) ?_ ?_
  rotate_left
  · intro w'
    go_simp
    with_reducible rfl
  rotate_left
  · simp only [Act.put, List.setIfInBounds_toArray, List.set_cons_zero, List.set_cons_succ, i64_w, i32_w]
    rfl
  refine take_ (i := 3) (N := some 41) (v := ?_) (a' := ?_) #[true, true, true, true, false, false, false, false] rfl rfl (by kernel_rfl) (fun _ _ _ h => h) (Or.inl ⟨by rfl, ?_⟩) hHeld ?_ ?_
  rotate_left
  · rintro w' ⟨s0, s1⟩
    go_simp
    with_reducible rfl
  rotate_left
  · simp only [Act.put, List.setIfInBounds_toArray, List.set_cons_zero, List.set_cons_succ, i64_w, i32_w]
    rfl
  refine pure_ (i := 4) (N := some 42) (v := ?_) (a' := ?_) #[true, true, true, true, true, false, false, false] rfl rfl (by kernel_rfl) (fun _ _ _ h => h) (Or.inl ⟨by rfl, ?_⟩) ?_ ?_
  rotate_left
  · intro w'
    go_simp
    with_reducible rfl
  rotate_left
  · simp only [Act.put, List.setIfInBounds_toArray, List.set_cons_zero, List.set_cons_succ, i64_w, i32_w]
    rfl
  refine one_ (i := 5) (N := none) #[true, true, true, true, true, true, false, false] rfl rfl (by kernel_rfl) (by decide) (fun K hK => ?_)
  refine skip_ (w1 := ?_) (by rfl) rfl ?_ ?_
  rotate_left
  · go_simp
    rfl
  refine hK.out _ _ (by go_simp) (fun hHeld => ?_)
  clear hK K
  refine pure_ (i := 6) (N := some 43) (v := ?_) (a' := ?_) #[true, true, true, true, true, true, true, false] rfl rfl (by kernel_rfl) (fun _ _ _ h => h) (Or.inl ⟨by rfl, ?_⟩) ?_ ?_
  rotate_left
  · intro w'
    go_simp
    with_reducible rfl
  rotate_left
  · simp only [Act.put, List.setIfInBounds_toArray, List.set_cons_zero, List.set_cons_succ, i64_w, i32_w]
    rfl
  refine one_ (i := 7) (N := none) #[true, true, true, true, true, true, true, true] rfl rfl (by kernel_rfl) (by decide) (fun K hK => ?_)
  refine skip_ (w1 := ?_) (by rfl) rfl ?_ ?_
  rotate_left
  · go_simp
    rfl
  refine hK.out _ _ (by go_simp) (fun hHeld => ?_)
  clear hK K
  refine done_ (by kernel_rfl) ?_
  go_wp2
  refine bodyPost_ret (v := .agg #[.int .i64 3, .int .i64 0, .int .i64 lane, .int .i64 n, .int .i64 0, .int .u16 0, .int .i64 0, .int .i64 0, .int .i64 0, .complex .f64 0 0]) ?_ rfl ⟨rfl, ?_⟩
  · simp [results, Tryz.results66, go_sem]
  · repeat (first | (with_reducible exact Below.refl _ _) | (with_reducible refine below_drew1 ?_) | (refine Below.alloc ?_ (by first | (simp; done) | (simp; omega)) _))
set_option maxHeartbeats 1000000 in
set_option maxRecDepth 100000 in
theorem bare_4 (client lane n at_ mask opk page obj : Int) (re im : Nat) (w : World) : Calls Tryz.prog 66 #[stepV ⟨4, client, lane, n, at_, mask, opk, page, obj, re, im⟩] w fun e w' => e = .returned (stepV ⟨4, 0, lane, n, 0, 0, 0, 0, 0, 0, 0⟩) ∧ Below w.heap.size w w' := by
  unfold stepV
  go_enter Tryz.func66, Tryz.ntmps66
  go_wp2
  refine start_ (n := 8) (S := fun w' => w'.cell? ⟨w.heap.size, 2, none⟩ = some (.int .i64 lane) ∧ w'.cell? ⟨w.heap.size, 3, none⟩ = some (.int .i64 n)) (ds := []) #[false, false, false, false, false, false, false, false] (by kernel_rfl) rfl rfl (by go_simp) (fun hHeld => ?_)
  refine pure_ (i := 0) (N := some 38) (v := ?_) (a' := ?_) #[true, false, false, false, false, false, false, false] rfl rfl (by kernel_rfl) (fun _ _ _ h => h) (Or.inl ⟨by rfl, ?_⟩) ?_ ?_
  rotate_left
  · intro w'
    go_simp
    with_reducible rfl
  rotate_left
  · simp only [Act.put, List.setIfInBounds_toArray, List.set_cons_zero, List.set_cons_succ, i64_w, i32_w]
    rfl
  refine take_ (i := 1) (N := some 39) (v := ?_) (a' := ?_) #[true, true, false, false, false, false, false, false] rfl rfl (by kernel_rfl) (fun _ _ _ h => h) (Or.inl ⟨by rfl, ?_⟩) hHeld ?_ ?_
  rotate_left
  · rintro w' ⟨s0, s1⟩
    go_simp
    with_reducible rfl
  rotate_left
  · simp only [Act.put, List.setIfInBounds_toArray, List.set_cons_zero, List.set_cons_succ, i64_w, i32_w]
    rfl
  refine pure_ (i := 2) (N := some 40) (v := ?_) (a' := ?_) #[true, true, true, false, false, false, false, false] rfl rfl (by kernel_rfl) (fun _ _ _ h => h) (Or.inl ⟨by rfl, ?_⟩) ?_ ?_
  rotate_left
  · intro w'
    go_simp
    with_reducible rfl
  rotate_left
  · simp only [Act.put, List.setIfInBounds_toArray, List.set_cons_zero, List.set_cons_succ, i64_w, i32_w]
    rfl
  refine take_ (i := 3) (N := some 41) (v := ?_) (a' := ?_) #[true, true, true, true, false, false, false, false] rfl rfl (by kernel_rfl) (fun _ _ _ h => h) (Or.inl ⟨by rfl, ?_⟩) hHeld ?_ ?_
  rotate_left
  · rintro w' ⟨s0, s1⟩
    go_simp
    with_reducible rfl
  rotate_left
  · simp only [Act.put, List.setIfInBounds_toArray, List.set_cons_zero, List.set_cons_succ, i64_w, i32_w]
    rfl
  refine pure_ (i := 4) (N := some 42) (v := ?_) (a' := ?_) #[true, true, true, true, true, false, false, false] rfl rfl (by kernel_rfl) (fun _ _ _ h => h) (Or.inl ⟨by rfl, ?_⟩) ?_ ?_
  rotate_left
  · intro w'
    go_simp
    with_reducible rfl
  rotate_left
  · simp only [Act.put, List.setIfInBounds_toArray, List.set_cons_zero, List.set_cons_succ, i64_w, i32_w]
    rfl
  refine one_ (i := 5) (N := none) #[true, true, true, true, true, true, false, false] rfl rfl (by kernel_rfl) (by decide) (fun K hK => ?_)
  refine skip_ (w1 := ?_) (by rfl) rfl ?_ ?_
  rotate_left
  · go_simp
    rfl
  refine hK.out _ _ (by go_simp) (fun hHeld => ?_)
  clear hK K
  refine pure_ (i := 6) (N := some 43) (v := ?_) (a' := ?_) #[true, true, true, true, true, true, true, false] rfl rfl (by kernel_rfl) (fun _ _ _ h => h) (Or.inl ⟨by rfl, ?_⟩) ?_ ?_
  rotate_left
  · intro w'
    go_simp
    with_reducible rfl
  rotate_left
  · simp only [Act.put, List.setIfInBounds_toArray, List.set_cons_zero, List.set_cons_succ, i64_w, i32_w]
    rfl
  refine one_ (i := 7) (N := none) #[true, true, true, true, true, true, true, true] rfl rfl (by kernel_rfl) (by decide) (fun K hK => ?_)
  refine skip_ (w1 := ?_) (by rfl) rfl ?_ ?_
  rotate_left
  · go_simp
    rfl
  refine hK.out _ _ (by go_simp) (fun hHeld => ?_)
  clear hK K
  refine done_ (by kernel_rfl) ?_
  go_wp2
  refine bodyPost_ret (v := .agg #[.int .i64 4, .int .i64 0, .int .i64 lane, .int .i64 n, .int .i64 0, .int .u16 0, .int .i64 0, .int .i64 0, .int .i64 0, .complex .f64 0 0]) ?_ rfl ⟨rfl, ?_⟩
  · simp [results, Tryz.results66, go_sem]
  · repeat (first | (with_reducible exact Below.refl _ _) | (with_reducible refine below_drew1 ?_) | (refine Below.alloc ?_ (by first | (simp; done) | (simp; omega)) _))
set_option maxHeartbeats 1000000 in
set_option maxRecDepth 100000 in
theorem bare_5 (client lane n at_ mask opk page obj : Int) (re im : Nat) (w : World) : Calls Tryz.prog 66 #[stepV ⟨5, client, lane, n, at_, mask, opk, page, obj, re, im⟩] w fun e w' => e = .returned (stepV ⟨5, 0, lane, n, 0, 0, 0, 0, 0, 0, 0⟩) ∧ Below w.heap.size w w' := by
  unfold stepV
  go_enter Tryz.func66, Tryz.ntmps66
  go_wp2
  refine start_ (n := 8) (S := fun w' => w'.cell? ⟨w.heap.size, 2, none⟩ = some (.int .i64 lane) ∧ w'.cell? ⟨w.heap.size, 3, none⟩ = some (.int .i64 n)) (ds := []) #[false, false, false, false, false, false, false, false] (by kernel_rfl) rfl rfl (by go_simp) (fun hHeld => ?_)
  refine pure_ (i := 0) (N := some 38) (v := ?_) (a' := ?_) #[true, false, false, false, false, false, false, false] rfl rfl (by kernel_rfl) (fun _ _ _ h => h) (Or.inl ⟨by rfl, ?_⟩) ?_ ?_
  rotate_left
  · intro w'
    go_simp
    with_reducible rfl
  rotate_left
  · simp only [Act.put, List.setIfInBounds_toArray, List.set_cons_zero, List.set_cons_succ, i64_w, i32_w]
    rfl
  refine take_ (i := 1) (N := some 39) (v := ?_) (a' := ?_) #[true, true, false, false, false, false, false, false] rfl rfl (by kernel_rfl) (fun _ _ _ h => h) (Or.inl ⟨by rfl, ?_⟩) hHeld ?_ ?_
  rotate_left
  · rintro w' ⟨s0, s1⟩
    go_simp
    with_reducible rfl
  rotate_left
  · simp only [Act.put, List.setIfInBounds_toArray, List.set_cons_zero, List.set_cons_succ, i64_w, i32_w]
    rfl
  refine pure_ (i := 2) (N := some 40) (v := ?_) (a' := ?_) #[true, true, true, false, false, false, false, false] rfl rfl (by kernel_rfl) (fun _ _ _ h => h) (Or.inl ⟨by rfl, ?_⟩) ?_ ?_
  rotate_left
  · intro w'
    go_simp
    with_reducible rfl
  rotate_left
  · simp only [Act.put, List.setIfInBounds_toArray, List.set_cons_zero, List.set_cons_succ, i64_w, i32_w]
    rfl
  refine take_ (i := 3) (N := some 41) (v := ?_) (a' := ?_) #[true, true, true, true, false, false, false, false] rfl rfl (by kernel_rfl) (fun _ _ _ h => h) (Or.inl ⟨by rfl, ?_⟩) hHeld ?_ ?_
  rotate_left
  · rintro w' ⟨s0, s1⟩
    go_simp
    with_reducible rfl
  rotate_left
  · simp only [Act.put, List.setIfInBounds_toArray, List.set_cons_zero, List.set_cons_succ, i64_w, i32_w]
    rfl
  refine pure_ (i := 4) (N := some 42) (v := ?_) (a' := ?_) #[true, true, true, true, true, false, false, false] rfl rfl (by kernel_rfl) (fun _ _ _ h => h) (Or.inl ⟨by rfl, ?_⟩) ?_ ?_
  rotate_left
  · intro w'
    go_simp
    with_reducible rfl
  rotate_left
  · simp only [Act.put, List.setIfInBounds_toArray, List.set_cons_zero, List.set_cons_succ, i64_w, i32_w]
    rfl
  refine one_ (i := 5) (N := none) #[true, true, true, true, true, true, false, false] rfl rfl (by kernel_rfl) (by decide) (fun K hK => ?_)
  refine skip_ (w1 := ?_) (by rfl) rfl ?_ ?_
  rotate_left
  · go_simp
    rfl
  refine hK.out _ _ (by go_simp) (fun hHeld => ?_)
  clear hK K
  refine pure_ (i := 6) (N := some 43) (v := ?_) (a' := ?_) #[true, true, true, true, true, true, true, false] rfl rfl (by kernel_rfl) (fun _ _ _ h => h) (Or.inl ⟨by rfl, ?_⟩) ?_ ?_
  rotate_left
  · intro w'
    go_simp
    with_reducible rfl
  rotate_left
  · simp only [Act.put, List.setIfInBounds_toArray, List.set_cons_zero, List.set_cons_succ, i64_w, i32_w]
    rfl
  refine one_ (i := 7) (N := none) #[true, true, true, true, true, true, true, true] rfl rfl (by kernel_rfl) (by decide) (fun K hK => ?_)
  refine skip_ (w1 := ?_) (by rfl) rfl ?_ ?_
  rotate_left
  · go_simp
    rfl
  refine hK.out _ _ (by go_simp) (fun hHeld => ?_)
  clear hK K
  refine done_ (by kernel_rfl) ?_
  go_wp2
  refine bodyPost_ret (v := .agg #[.int .i64 5, .int .i64 0, .int .i64 lane, .int .i64 n, .int .i64 0, .int .u16 0, .int .i64 0, .int .i64 0, .int .i64 0, .complex .f64 0 0]) ?_ rfl ⟨rfl, ?_⟩
  · simp [results, Tryz.results66, go_sem]
  · repeat (first | (with_reducible exact Below.refl _ _) | (with_reducible refine below_drew1 ?_) | (refine Below.alloc ?_ (by first | (simp; done) | (simp; omega)) _))
set_option maxHeartbeats 1000000 in
set_option maxRecDepth 100000 in
theorem bare_6 (client lane n at_ mask opk page obj : Int) (re im : Nat) (w : World) : Calls Tryz.prog 66 #[stepV ⟨6, client, lane, n, at_, mask, opk, page, obj, re, im⟩] w fun e w' => e = .returned (stepV ⟨6, 0, lane, n, at_, mask, 0, 0, 0, 0, 0⟩) ∧ Below w.heap.size w w' := by
  unfold stepV
  go_enter Tryz.func66, Tryz.ntmps66
  go_wp2
  refine start_ (n := 8) (S := fun w' => w'.cell? ⟨w.heap.size, 4, none⟩ = some (.int .i64 at_) ∧ w'.cell? ⟨w.heap.size, 5, none⟩ = some (.int .u16 mask)) (ds := []) #[false, false, false, false, false, false, false, false] (by kernel_rfl) rfl rfl (by go_simp) (fun hHeld => ?_)
  refine pure_ (i := 0) (N := some 32) (v := ?_) (a' := ?_) #[true, false, false, false, false, false, false, false] rfl rfl (by kernel_rfl) (fun _ _ _ h => h) (Or.inl ⟨by rfl, ?_⟩) ?_ ?_
  rotate_left
  · intro w'
    go_simp
    with_reducible rfl
  rotate_left
  · simp only [Act.put, List.setIfInBounds_toArray, List.set_cons_zero, List.set_cons_succ, i64_w, i32_w]
    rfl
  refine take_ (i := 1) (N := some 33) (v := ?_) (a' := ?_) #[true, true, false, false, false, false, false, false] rfl rfl (by kernel_rfl) (fun _ _ _ h => h) (Or.inl ⟨by rfl, ?_⟩) hHeld ?_ ?_
  rotate_left
  · rintro w' ⟨s0, s1⟩
    go_simp
    with_reducible rfl
  rotate_left
  · simp only [Act.put, List.setIfInBounds_toArray, List.set_cons_zero, List.set_cons_succ, i64_w, i32_w]
    rfl
  refine pure_ (i := 2) (N := some 34) (v := ?_) (a' := ?_) #[true, true, true, false, false, false, false, false] rfl rfl (by kernel_rfl) (fun _ _ _ h => h) (Or.inl ⟨by rfl, ?_⟩) ?_ ?_
  rotate_left
  · intro w'
    go_simp
    with_reducible rfl
  rotate_left
  · simp only [Act.put, List.setIfInBounds_toArray, List.set_cons_zero, List.set_cons_succ, i64_w, i32_w]
    rfl
  refine take_ (i := 3) (N := some 35) (v := ?_) (a' := ?_) #[true, true, true, true, false, false, false, false] rfl rfl (by kernel_rfl) (fun _ _ _ h => h) (Or.inl ⟨by rfl, ?_⟩) hHeld ?_ ?_
  rotate_left
  · rintro w' ⟨s0, s1⟩
    go_simp
    with_reducible rfl
  rotate_left
  · simp only [Act.put, List.setIfInBounds_toArray, List.set_cons_zero, List.set_cons_succ, i64_w, i32_w]
    rfl
  refine pure_ (i := 4) (N := some 36) (v := ?_) (a' := ?_) #[true, true, true, true, true, false, false, false] rfl rfl (by kernel_rfl) (fun _ _ _ h => h) (Or.inl ⟨by rfl, ?_⟩) ?_ ?_
  rotate_left
  · intro w'
    go_simp
    with_reducible rfl
  rotate_left
  · simp only [Act.put, List.setIfInBounds_toArray, List.set_cons_zero, List.set_cons_succ, i64_w, i32_w]
    rfl
  refine one_ (i := 5) (N := none) #[true, true, true, true, true, true, false, false] rfl rfl (by kernel_rfl) (by decide) (fun K hK => ?_)
  refine skip_ (w1 := ?_) (by rfl) rfl ?_ ?_
  rotate_left
  · go_simp
    rfl
  refine hK.out _ _ (by go_simp) (fun hHeld => ?_)
  clear hK K
  refine pure_ (i := 6) (N := some 37) (v := ?_) (a' := ?_) #[true, true, true, true, true, true, true, false] rfl rfl (by kernel_rfl) (fun _ _ _ h => h) (Or.inl ⟨by rfl, ?_⟩) ?_ ?_
  rotate_left
  · intro w'
    go_simp
    with_reducible rfl
  rotate_left
  · simp only [Act.put, List.setIfInBounds_toArray, List.set_cons_zero, List.set_cons_succ, i64_w, i32_w]
    rfl
  refine one_ (i := 7) (N := none) #[true, true, true, true, true, true, true, true] rfl rfl (by kernel_rfl) (by decide) (fun K hK => ?_)
  refine skip_ (w1 := ?_) (by rfl) rfl ?_ ?_
  rotate_left
  · go_simp
    rfl
  refine hK.out _ _ (by go_simp) (fun hHeld => ?_)
  clear hK K
  refine done_ (by kernel_rfl) ?_
  go_wp2
  refine start_ (n := 8) (S := fun w' => w'.cell? ⟨w.heap.size, 2, none⟩ = some (.int .i64 lane) ∧ w'.cell? ⟨w.heap.size, 3, none⟩ = some (.int .i64 n)) (ds := []) #[false, false, false, false, false, false, false, false] (by kernel_rfl) rfl rfl (by go_simp) (fun hHeld => ?_)
  refine pure_ (i := 0) (N := some 38) (v := ?_) (a' := ?_) #[true, false, false, false, false, false, false, false] rfl rfl (by kernel_rfl) (fun _ _ _ h => h) (Or.inl ⟨by rfl, ?_⟩) ?_ ?_
  rotate_left
  · intro w'
    go_simp
    with_reducible rfl
  rotate_left
  · simp only [Act.put, List.setIfInBounds_toArray, List.set_cons_zero, List.set_cons_succ, i64_w, i32_w]
    rfl
  refine take_ (i := 1) (N := some 39) (v := ?_) (a' := ?_) #[true, true, false, false, false, false, false, false] rfl rfl (by kernel_rfl) (fun _ _ _ h => h) (Or.inl ⟨by rfl, ?_⟩) hHeld ?_ ?_
  rotate_left
  · rintro w' ⟨s0, s1⟩
    go_simp
    with_reducible rfl
  rotate_left
  · simp only [Act.put, List.setIfInBounds_toArray, List.set_cons_zero, List.set_cons_succ, i64_w, i32_w]
    rfl
  refine pure_ (i := 2) (N := some 40) (v := ?_) (a' := ?_) #[true, true, true, false, false, false, false, false] rfl rfl (by kernel_rfl) (fun _ _ _ h => h) (Or.inl ⟨by rfl, ?_⟩) ?_ ?_
  rotate_left
  · intro w'
    go_simp
    with_reducible rfl
  rotate_left
  · simp only [Act.put, List.setIfInBounds_toArray, List.set_cons_zero, List.set_cons_succ, i64_w, i32_w]
    rfl
  refine take_ (i := 3) (N := some 41) (v := ?_) (a' := ?_) #[true, true, true, true, false, false, false, false] rfl rfl (by kernel_rfl) (fun _ _ _ h => h) (Or.inl ⟨by rfl, ?_⟩) hHeld ?_ ?_
  rotate_left
  · rintro w' ⟨s0, s1⟩
    go_simp
    with_reducible rfl
  rotate_left
  · simp only [Act.put, List.setIfInBounds_toArray, List.set_cons_zero, List.set_cons_succ, i64_w, i32_w]
    rfl
  refine pure_ (i := 4) (N := some 42) (v := ?_) (a' := ?_) #[true, true, true, true, true, false, false, false] rfl rfl (by kernel_rfl) (fun _ _ _ h => h) (Or.inl ⟨by rfl, ?_⟩) ?_ ?_
  rotate_left
  · intro w'
    go_simp
    with_reducible rfl
  rotate_left
  · simp only [Act.put, List.setIfInBounds_toArray, List.set_cons_zero, List.set_cons_succ, i64_w, i32_w]
    rfl
  refine one_ (i := 5) (N := none) #[true, true, true, true, true, true, false, false] rfl rfl (by kernel_rfl) (by decide) (fun K hK => ?_)
  refine skip_ (w1 := ?_) (by rfl) rfl ?_ ?_
  rotate_left
  · go_simp
    rfl
  refine hK.out _ _ (by go_simp) (fun hHeld => ?_)
  clear hK K
  refine pure_ (i := 6) (N := some 43) (v := ?_) (a' := ?_) #[true, true, true, true, true, true, true, false] rfl rfl (by kernel_rfl) (fun _ _ _ h => h) (Or.inl ⟨by rfl, ?_⟩) ?_ ?_
  rotate_left
  · intro w'
    go_simp
    with_reducible rfl
  rotate_left
  · simp only [Act.put, List.setIfInBounds_toArray, List.set_cons_zero, List.set_cons_succ, i64_w, i32_w]
    rfl
  refine one_ (i := 7) (N := none) #[true, true, true, true, true, true, true, true] rfl rfl (by kernel_rfl) (by decide) (fun K hK => ?_)
  refine skip_ (w1 := ?_) (by rfl) rfl ?_ ?_
  rotate_left
  · go_simp
    rfl
  refine hK.out _ _ (by go_simp) (fun hHeld => ?_)
  clear hK K
  refine done_ (by kernel_rfl) ?_
  go_wp2
  refine bodyPost_ret (v := .agg #[.int .i64 6, .int .i64 0, .int .i64 lane, .int .i64 n, .int .i64 at_, .int .u16 mask, .int .i64 0, .int .i64 0, .int .i64 0, .complex .f64 0 0]) ?_ rfl ⟨rfl, ?_⟩
  · simp [results, Tryz.results66, go_sem]
  · repeat (first | (with_reducible exact Below.refl _ _) | (with_reducible refine below_drew1 ?_) | (refine Below.alloc ?_ (by first | (simp; done) | (simp; omega)) _))
set_option maxHeartbeats 1000000 in
set_option maxRecDepth 100000 in
theorem bare_7 (client lane n at_ mask opk page obj : Int) (re im : Nat) (w : World) : Calls Tryz.prog 66 #[stepV ⟨7, client, lane, n, at_, mask, opk, page, obj, re, im⟩] w fun e w' => e = .returned (stepV ⟨7, 0, lane, n, 0, 0, 0, 0, 0, 0, 0⟩) ∧ Below w.heap.size w w' := by
  unfold stepV
  go_enter Tryz.func66, Tryz.ntmps66
  go_wp2
  refine start_ (n := 8) (S := fun w' => w'.cell? ⟨w.heap.size, 2, none⟩ = some (.int .i64 lane) ∧ w'.cell? ⟨w.heap.size, 3, none⟩ = some (.int .i64 n)) (ds := []) #[false, false, false, false, false, false, false, false] (by kernel_rfl) rfl rfl (by go_simp) (fun hHeld => ?_)
  refine pure_ (i := 0) (N := some 38) (v := ?_) (a' := ?_) #[true, false, false, false, false, false, false, false] rfl rfl (by kernel_rfl) (fun _ _ _ h => h) (Or.inl ⟨by rfl, ?_⟩) ?_ ?_
  rotate_left
  · intro w'
    go_simp
    with_reducible rfl
  rotate_left
  · simp only [Act.put, List.setIfInBounds_toArray, List.set_cons_zero, List.set_cons_succ, i64_w, i32_w]
    rfl
  refine take_ (i := 1) (N := some 39) (v := ?_) (a' := ?_) #[true, true, false, false, false, false, false, false] rfl rfl (by kernel_rfl) (fun _ _ _ h => h) (Or.inl ⟨by rfl, ?_⟩) hHeld ?_ ?_
  rotate_left
  · rintro w' ⟨s0, s1⟩
    go_simp
    with_reducible rfl
  rotate_left
  · simp only [Act.put, List.setIfInBounds_toArray, List.set_cons_zero, List.set_cons_succ, i64_w, i32_w]
    rfl
  refine pure_ (i := 2) (N := some 40) (v := ?_) (a' := ?_) #[true, true, true, false, false, false, false, false] rfl rfl (by kernel_rfl) (fun _ _ _ h => h) (Or.inl ⟨by rfl, ?_⟩) ?_ ?_
  rotate_left
  · intro w'
    go_simp
    with_reducible rfl
  rotate_left
  · simp only [Act.put, List.setIfInBounds_toArray, List.set_cons_zero, List.set_cons_succ, i64_w, i32_w]
    rfl
  refine take_ (i := 3) (N := some 41) (v := ?_) (a' := ?_) #[true, true, true, true, false, false, false, false] rfl rfl (by kernel_rfl) (fun _ _ _ h => h) (Or.inl ⟨by rfl, ?_⟩) hHeld ?_ ?_
  rotate_left
  · rintro w' ⟨s0, s1⟩
    go_simp
    with_reducible rfl
  rotate_left
  · simp only [Act.put, List.setIfInBounds_toArray, List.set_cons_zero, List.set_cons_succ, i64_w, i32_w]
    rfl
  refine pure_ (i := 4) (N := some 42) (v := ?_) (a' := ?_) #[true, true, true, true, true, false, false, false] rfl rfl (by kernel_rfl) (fun _ _ _ h => h) (Or.inl ⟨by rfl, ?_⟩) ?_ ?_
  rotate_left
  · intro w'
    go_simp
    with_reducible rfl
  rotate_left
  · simp only [Act.put, List.setIfInBounds_toArray, List.set_cons_zero, List.set_cons_succ, i64_w, i32_w]
    rfl
  refine one_ (i := 5) (N := none) #[true, true, true, true, true, true, false, false] rfl rfl (by kernel_rfl) (by decide) (fun K hK => ?_)
  refine skip_ (w1 := ?_) (by rfl) rfl ?_ ?_
  rotate_left
  · go_simp
    rfl
  refine hK.out _ _ (by go_simp) (fun hHeld => ?_)
  clear hK K
  refine pure_ (i := 6) (N := some 43) (v := ?_) (a' := ?_) #[true, true, true, true, true, true, true, false] rfl rfl (by kernel_rfl) (fun _ _ _ h => h) (Or.inl ⟨by rfl, ?_⟩) ?_ ?_
  rotate_left
  · intro w'
    go_simp
    with_reducible rfl
  rotate_left
  · simp only [Act.put, List.setIfInBounds_toArray, List.set_cons_zero, List.set_cons_succ, i64_w, i32_w]
    rfl
  refine one_ (i := 7) (N := none) #[true, true, true, true, true, true, true, true] rfl rfl (by kernel_rfl) (by decide) (fun K hK => ?_)
  refine skip_ (w1 := ?_) (by rfl) rfl ?_ ?_
  rotate_left
  · go_simp
    rfl
  refine hK.out _ _ (by go_simp) (fun hHeld => ?_)
  clear hK K
  refine done_ (by kernel_rfl) ?_
  go_wp2
  refine bodyPost_ret (v := .agg #[.int .i64 7, .int .i64 0, .int .i64 lane, .int .i64 n, .int .i64 0, .int .u16 0, .int .i64 0, .int .i64 0, .int .i64 0, .complex .f64 0 0]) ?_ rfl ⟨rfl, ?_⟩
  · simp [results, Tryz.results66, go_sem]
  · repeat (first | (with_reducible exact Below.refl _ _) | (with_reducible refine below_drew1 ?_) | (refine Below.alloc ?_ (by first | (simp; done) | (simp; omega)) _))
set_option maxHeartbeats 1000000 in
set_option maxRecDepth 100000 in
theorem bare_8 (client lane n at_ mask opk page obj : Int) (re im : Nat) (w : World) : Calls Tryz.prog 66 #[stepV ⟨8, client, lane, n, at_, mask, opk, page, obj, re, im⟩] w fun e w' => e = .returned (stepV ⟨8, client, 0, 0, 0, 0, 0, 0, 0, 0, 0⟩) ∧ Below w.heap.size w w' := by
  unfold stepV
  go_enter Tryz.func66, Tryz.ntmps66
  go_wp2
  refine bodyPost_ret (v := .agg #[.int .i64 8, .int .i64 client, .int .i64 0, .int .i64 0, .int .i64 0, .int .u16 0, .int .i64 0, .int .i64 0, .int .i64 0, .complex .f64 0 0]) ?_ rfl ⟨rfl, ?_⟩
  · simp [results, Tryz.results66, go_sem]
  · repeat (first | (with_reducible exact Below.refl _ _) | (with_reducible refine below_drew1 ?_) | (refine Below.alloc ?_ (by first | (simp; done) | (simp; omega)) _))
set_option maxHeartbeats 1000000 in
set_option maxRecDepth 100000 in
theorem bare_9 (client lane n at_ mask opk page obj : Int) (re im : Nat) (w : World) : Calls Tryz.prog 66 #[stepV ⟨9, client, lane, n, at_, mask, opk, page, obj, re, im⟩] w fun e w' => e = .returned (stepV ⟨9, client, 0, 0, 0, 0, 0, 0, 0, 0, 0⟩) ∧ Below w.heap.size w w' := by
  unfold stepV
  go_enter Tryz.func66, Tryz.ntmps66
  go_wp2
  refine bodyPost_ret (v := .agg #[.int .i64 9, .int .i64 client, .int .i64 0, .int .i64 0, .int .i64 0, .int .u16 0, .int .i64 0, .int .i64 0, .int .i64 0, .complex .f64 0 0]) ?_ rfl ⟨rfl, ?_⟩
  · simp [results, Tryz.results66, go_sem]
  · repeat (first | (with_reducible exact Below.refl _ _) | (with_reducible refine below_drew1 ?_) | (refine Below.alloc ?_ (by first | (simp; done) | (simp; omega)) _))
set_option maxHeartbeats 1000000 in
set_option maxRecDepth 100000 in
theorem bare_10 (client lane n at_ mask opk page obj : Int) (re im : Nat) (w : World) : Calls Tryz.prog 66 #[stepV ⟨10, client, lane, n, at_, mask, opk, page, obj, re, im⟩] w fun e w' => e = .returned (stepV ⟨10, 0, 0, n, at_, 0, 0, 0, 0, 0, 0⟩) ∧ Below w.heap.size w w' := by
  unfold stepV
  go_enter Tryz.func66, Tryz.ntmps66
  go_wp2
  refine bodyPost_ret (v := .agg #[.int .i64 10, .int .i64 0, .int .i64 0, .int .i64 n, .int .i64 at_, .int .u16 0, .int .i64 0, .int .i64 0, .int .i64 0, .complex .f64 0 0]) ?_ rfl ⟨rfl, ?_⟩
  · simp [results, Tryz.results66, go_sem]
  · repeat (first | (with_reducible exact Below.refl _ _) | (with_reducible refine below_drew1 ?_) | (refine Below.alloc ?_ (by first | (simp; done) | (simp; omega)) _))
set_option maxHeartbeats 1000000 in
set_option maxRecDepth 100000 in
theorem bare_11 (client lane n at_ mask opk page obj : Int) (re im : Nat) (w : World) : Calls Tryz.prog 66 #[stepV ⟨11, client, lane, n, at_, mask, opk, page, obj, re, im⟩] w fun e w' => e = .returned (stepV ⟨11, 0, 0, 0, 0, 0, 0, 0, 0, 0, 0⟩) ∧ Below w.heap.size w w' := by
  unfold stepV
  go_enter Tryz.func66, Tryz.ntmps66
  go_wp2
  refine bodyPost_ret (v := .agg #[.int .i64 11, .int .i64 0, .int .i64 0, .int .i64 0, .int .i64 0, .int .u16 0, .int .i64 0, .int .i64 0, .int .i64 0, .complex .f64 0 0]) ?_ rfl ⟨rfl, ?_⟩
  · simp [results, Tryz.results66, go_sem]
  · repeat (first | (with_reducible exact Below.refl _ _) | (with_reducible refine below_drew1 ?_) | (refine Below.alloc ?_ (by first | (simp; done) | (simp; omega)) _))
set_option maxHeartbeats 1000000 in
set_option maxRecDepth 100000 in
theorem bare_12 (client lane n at_ mask opk page obj : Int) (re im : Nat) (w : World) : Calls Tryz.prog 66 #[stepV ⟨12, client, lane, n, at_, mask, opk, page, obj, re, im⟩] w fun e w' => e = .returned (stepV ⟨12, 0, 0, 0, 0, 0, 0, 0, 0, 0, 0⟩) ∧ Below w.heap.size w w' := by
  unfold stepV
  go_enter Tryz.func66, Tryz.ntmps66
  go_wp2
  refine bodyPost_ret (v := .agg #[.int .i64 12, .int .i64 0, .int .i64 0, .int .i64 0, .int .i64 0, .int .u16 0, .int .i64 0, .int .i64 0, .int .i64 0, .complex .f64 0 0]) ?_ rfl ⟨rfl, ?_⟩
  · simp [results, Tryz.results66, go_sem]
  · repeat (first | (with_reducible exact Below.refl _ _) | (with_reducible refine below_drew1 ?_) | (refine Below.alloc ?_ (by first | (simp; done) | (simp; omega)) _))
set_option maxHeartbeats 1000000 in
set_option maxRecDepth 100000 in
theorem bare_13 (client lane n at_ mask opk page obj : Int) (re im : Nat) (w : World) : Calls Tryz.prog 66 #[stepV ⟨13, client, lane, n, at_, mask, opk, page, obj, re, im⟩] w fun e w' => e = .returned (stepV ⟨13, 0, 0, 0, 0, 0, 0, 0, 0, 0, 0⟩) ∧ Below w.heap.size w w' := by
  unfold stepV
  go_enter Tryz.func66, Tryz.ntmps66
  go_wp2
  refine bodyPost_ret (v := .agg #[.int .i64 13, .int .i64 0, .int .i64 0, .int .i64 0, .int .i64 0, .int .u16 0, .int .i64 0, .int .i64 0, .int .i64 0, .complex .f64 0 0]) ?_ rfl ⟨rfl, ?_⟩
  · simp [results, Tryz.results66, go_sem]
  · repeat (first | (with_reducible exact Below.refl _ _) | (with_reducible refine below_drew1 ?_) | (refine Below.alloc ?_ (by first | (simp; done) | (simp; omega)) _))
set_option maxHeartbeats 1000000 in
set_option maxRecDepth 100000 in
theorem bare_14 (client lane n at_ mask opk page obj : Int) (re im : Nat) (w : World) : Calls Tryz.prog 66 #[stepV ⟨14, client, lane, n, at_, mask, opk, page, obj, re, im⟩] w fun e w' => e = .returned (stepV ⟨14, 0, 0, n, 0, 0, 0, 0, 0, 0, 0⟩) ∧ Below w.heap.size w w' := by
  unfold stepV
  go_enter Tryz.func66, Tryz.ntmps66
  go_wp2
  refine bodyPost_ret (v := .agg #[.int .i64 14, .int .i64 0, .int .i64 0, .int .i64 n, .int .i64 0, .int .u16 0, .int .i64 0, .int .i64 0, .int .i64 0, .complex .f64 0 0]) ?_ rfl ⟨rfl, ?_⟩
  · simp [results, Tryz.results66, go_sem]
  · repeat (first | (with_reducible exact Below.refl _ _) | (with_reducible refine below_drew1 ?_) | (refine Below.alloc ?_ (by first | (simp; done) | (simp; omega)) _))
end Go.Proofs.YtpgjilakcepilaaGreat.PV
