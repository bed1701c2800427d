/- The contracts of the reference's has and sameOp. -/
import Derived.Test.YtpgjilakcepilaaGreatVN
namespace Go.Proofs.YtpgjilakcepilaaGreat.PV
open Go.RowKit Go.Proofs.YtpgjilakcepilaaGreat.PScriptReads Go.Proofs.YtpgjilakcepilaaGreatW.PrintWords Go.Proofs.YtpgjilakcepilaaGreatW.PrintLast Go.Proofs.YtpgjilakcepilaaGreatW.PrintMore
set_option linter.unusedVariables false
set_option linter.unusedSimpArgs false
attribute [local go_sem] run_store_complex

theorem has_0 (w : World) : Calls Tryz.prog 93 #[.int .i64 0] w fun e w' => e = .returned (.agg #[.bool true, .bool true, .bool false, .bool false, .bool false, .bool false]) ∧ Below w.heap.size w w' := by
  go_enter Tryz.func93, Tryz.ntmps93
  go_wp2
  refine bodyPost_ret (v := .agg #[.bool true, .bool true, .bool false, .bool false, .bool false, .bool false]) ?_ rfl ⟨rfl, ?_⟩
  · simp [results, Tryz.results93, go_sem]
  · repeat (first | (with_reducible exact Below.refl _ _) | (with_reducible refine below_drew1 ?_) | (refine Below.alloc ?_ (by first | (simp; done) | (simp; omega)) _))
theorem has_1 (w : World) : Calls Tryz.prog 93 #[.int .i64 1] w fun e w' => e = .returned (.agg #[.bool true, .bool false, .bool false, .bool false, .bool false, .bool false]) ∧ Below w.heap.size w w' := by
  go_enter Tryz.func93, Tryz.ntmps93
  go_wp2
  refine bodyPost_ret (v := .agg #[.bool true, .bool false, .bool false, .bool false, .bool false, .bool false]) ?_ rfl ⟨rfl, ?_⟩
  · simp [results, Tryz.results93, go_sem]
  · repeat (first | (with_reducible exact Below.refl _ _) | (with_reducible refine below_drew1 ?_) | (refine Below.alloc ?_ (by first | (simp; done) | (simp; omega)) _))
theorem has_2 (w : World) : Calls Tryz.prog 93 #[.int .i64 2] w fun e w' => e = .returned (.agg #[.bool false, .bool false, .bool false, .bool false, .bool false, .bool false]) ∧ Below w.heap.size w w' := by
  go_enter Tryz.func93, Tryz.ntmps93
  go_wp2
  refine bodyPost_ret (v := .agg #[.bool false, .bool false, .bool false, .bool false, .bool false, .bool false]) ?_ rfl ⟨rfl, ?_⟩
  · simp [results, Tryz.results93, go_sem]
  · repeat (first | (with_reducible exact Below.refl _ _) | (with_reducible refine below_drew1 ?_) | (refine Below.alloc ?_ (by first | (simp; done) | (simp; omega)) _))
theorem has_3 (w : World) : Calls Tryz.prog 93 #[.int .i64 3] w fun e w' => e = .returned (.agg #[.bool false, .bool false, .bool true, .bool true, .bool false, .bool false]) ∧ Below w.heap.size w w' := by
  go_enter Tryz.func93, Tryz.ntmps93
  go_wp2
  refine bodyPost_ret (v := .agg #[.bool false, .bool false, .bool true, .bool true, .bool false, .bool false]) ?_ rfl ⟨rfl, ?_⟩
  · simp [results, Tryz.results93, go_sem]
  · repeat (first | (with_reducible exact Below.refl _ _) | (with_reducible refine below_drew1 ?_) | (refine Below.alloc ?_ (by first | (simp; done) | (simp; omega)) _))
theorem has_4 (w : World) : Calls Tryz.prog 93 #[.int .i64 4] w fun e w' => e = .returned (.agg #[.bool false, .bool false, .bool true, .bool true, .bool false, .bool false]) ∧ Below w.heap.size w w' := by
  go_enter Tryz.func93, Tryz.ntmps93
  go_wp2
  refine bodyPost_ret (v := .agg #[.bool false, .bool false, .bool true, .bool true, .bool false, .bool false]) ?_ rfl ⟨rfl, ?_⟩
  · simp [results, Tryz.results93, go_sem]
  · repeat (first | (with_reducible exact Below.refl _ _) | (with_reducible refine below_drew1 ?_) | (refine Below.alloc ?_ (by first | (simp; done) | (simp; omega)) _))
theorem has_5 (w : World) : Calls Tryz.prog 93 #[.int .i64 5] w fun e w' => e = .returned (.agg #[.bool false, .bool false, .bool true, .bool true, .bool false, .bool false]) ∧ Below w.heap.size w w' := by
  go_enter Tryz.func93, Tryz.ntmps93
  go_wp2
  refine bodyPost_ret (v := .agg #[.bool false, .bool false, .bool true, .bool true, .bool false, .bool false]) ?_ rfl ⟨rfl, ?_⟩
  · simp [results, Tryz.results93, go_sem]
  · repeat (first | (with_reducible exact Below.refl _ _) | (with_reducible refine below_drew1 ?_) | (refine Below.alloc ?_ (by first | (simp; done) | (simp; omega)) _))
theorem has_6 (w : World) : Calls Tryz.prog 93 #[.int .i64 6] w fun e w' => e = .returned (.agg #[.bool false, .bool false, .bool true, .bool true, .bool true, .bool true]) ∧ Below w.heap.size w w' := by
  go_enter Tryz.func93, Tryz.ntmps93
  go_wp2
  refine bodyPost_ret (v := .agg #[.bool false, .bool false, .bool true, .bool true, .bool true, .bool true]) ?_ rfl ⟨rfl, ?_⟩
  · simp [results, Tryz.results93, go_sem]
  · repeat (first | (with_reducible exact Below.refl _ _) | (with_reducible refine below_drew1 ?_) | (refine Below.alloc ?_ (by first | (simp; done) | (simp; omega)) _))
theorem has_7 (w : World) : Calls Tryz.prog 93 #[.int .i64 7] w fun e w' => e = .returned (.agg #[.bool false, .bool false, .bool true, .bool true, .bool false, .bool false]) ∧ Below w.heap.size w w' := by
  go_enter Tryz.func93, Tryz.ntmps93
  go_wp2
  refine bodyPost_ret (v := .agg #[.bool false, .bool false, .bool true, .bool true, .bool false, .bool false]) ?_ rfl ⟨rfl, ?_⟩
  · simp [results, Tryz.results93, go_sem]
  · repeat (first | (with_reducible exact Below.refl _ _) | (with_reducible refine below_drew1 ?_) | (refine Below.alloc ?_ (by first | (simp; done) | (simp; omega)) _))
theorem has_8 (w : World) : Calls Tryz.prog 93 #[.int .i64 8] w fun e w' => e = .returned (.agg #[.bool true, .bool false, .bool false, .bool false, .bool false, .bool false]) ∧ Below w.heap.size w w' := by
  go_enter Tryz.func93, Tryz.ntmps93
  go_wp2
  refine bodyPost_ret (v := .agg #[.bool true, .bool false, .bool false, .bool false, .bool false, .bool false]) ?_ rfl ⟨rfl, ?_⟩
  · simp [results, Tryz.results93, go_sem]
  · repeat (first | (with_reducible exact Below.refl _ _) | (with_reducible refine below_drew1 ?_) | (refine Below.alloc ?_ (by first | (simp; done) | (simp; omega)) _))
theorem has_9 (w : World) : Calls Tryz.prog 93 #[.int .i64 9] w fun e w' => e = .returned (.agg #[.bool true, .bool false, .bool false, .bool false, .bool false, .bool false]) ∧ Below w.heap.size w w' := by
  go_enter Tryz.func93, Tryz.ntmps93
  go_wp2
  refine bodyPost_ret (v := .agg #[.bool true, .bool false, .bool false, .bool false, .bool false, .bool false]) ?_ rfl ⟨rfl, ?_⟩
  · simp [results, Tryz.results93, go_sem]
  · repeat (first | (with_reducible exact Below.refl _ _) | (with_reducible refine below_drew1 ?_) | (refine Below.alloc ?_ (by first | (simp; done) | (simp; omega)) _))
theorem has_10 (w : World) : Calls Tryz.prog 93 #[.int .i64 10] w fun e w' => e = .returned (.agg #[.bool false, .bool false, .bool false, .bool true, .bool true, .bool false]) ∧ Below w.heap.size w w' := by
  go_enter Tryz.func93, Tryz.ntmps93
  go_wp2
  refine bodyPost_ret (v := .agg #[.bool false, .bool false, .bool false, .bool true, .bool true, .bool false]) ?_ rfl ⟨rfl, ?_⟩
  · simp [results, Tryz.results93, go_sem]
  · repeat (first | (with_reducible exact Below.refl _ _) | (with_reducible refine below_drew1 ?_) | (refine Below.alloc ?_ (by first | (simp; done) | (simp; omega)) _))
theorem has_11 (w : World) : Calls Tryz.prog 93 #[.int .i64 11] w fun e w' => e = .returned (.agg #[.bool false, .bool false, .bool false, .bool false, .bool false, .bool false]) ∧ Below w.heap.size w w' := by
  go_enter Tryz.func93, Tryz.ntmps93
  go_wp2
  refine bodyPost_ret (v := .agg #[.bool false, .bool false, .bool false, .bool false, .bool false, .bool false]) ?_ rfl ⟨rfl, ?_⟩
  · simp [results, Tryz.results93, go_sem]
  · repeat (first | (with_reducible exact Below.refl _ _) | (with_reducible refine below_drew1 ?_) | (refine Below.alloc ?_ (by first | (simp; done) | (simp; omega)) _))
theorem has_12 (w : World) : Calls Tryz.prog 93 #[.int .i64 12] w fun e w' => e = .returned (.agg #[.bool false, .bool false, .bool false, .bool false, .bool false, .bool false]) ∧ Below w.heap.size w w' := by
  go_enter Tryz.func93, Tryz.ntmps93
  go_wp2
  refine bodyPost_ret (v := .agg #[.bool false, .bool false, .bool false, .bool false, .bool false, .bool false]) ?_ rfl ⟨rfl, ?_⟩
  · simp [results, Tryz.results93, go_sem]
  · repeat (first | (with_reducible exact Below.refl _ _) | (with_reducible refine below_drew1 ?_) | (refine Below.alloc ?_ (by first | (simp; done) | (simp; omega)) _))
theorem has_13 (w : World) : Calls Tryz.prog 93 #[.int .i64 13] w fun e w' => e = .returned (.agg #[.bool false, .bool false, .bool false, .bool false, .bool false, .bool false]) ∧ Below w.heap.size w w' := by
  go_enter Tryz.func93, Tryz.ntmps93
  go_wp2
  refine bodyPost_ret (v := .agg #[.bool false, .bool false, .bool false, .bool false, .bool false, .bool false]) ?_ rfl ⟨rfl, ?_⟩
  · simp [results, Tryz.results93, go_sem]
  · repeat (first | (with_reducible exact Below.refl _ _) | (with_reducible refine below_drew1 ?_) | (refine Below.alloc ?_ (by first | (simp; done) | (simp; omega)) _))
theorem has_14 (w : World) : Calls Tryz.prog 93 #[.int .i64 14] w fun e w' => e = .returned (.agg #[.bool false, .bool false, .bool false, .bool true, .bool false, .bool false]) ∧ Below w.heap.size w w' := by
  go_enter Tryz.func93, Tryz.ntmps93
  go_wp2
  refine bodyPost_ret (v := .agg #[.bool false, .bool false, .bool false, .bool true, .bool false, .bool false]) ?_ rfl ⟨rfl, ?_⟩
  · simp [results, Tryz.results93, go_sem]
  · repeat (first | (with_reducible exact Below.refl _ _) | (with_reducible refine below_drew1 ?_) | (refine Below.alloc ?_ (by first | (simp; done) | (simp; omega)) _))
/-- an op, its value -/
def opvV (s : Stp) : Value := .agg #[.int .i64 s.opk, .int .i64 s.page, .int .i64 s.obj, .complex .f64 s.re s.im]
def sameO (s t : Stp) : Bool := (s.opk == t.opk) && ((s.page == t.page) && ((s.obj == t.obj) && sameC s.re s.im t.re t.im))
def fitS (s : Stp) : Prop := s.re < 18446744073709551616 ∧ s.im < 18446744073709551616
set_option maxHeartbeats 1000000 in
set_option maxRecDepth 100000 in
theorem sameOp_any (s t : Stp) (w : World) (hs : fitS s) (ht : fitS t) : Calls Tryz.prog 18 #[opvV s, opvV t] w fun e w' => e = .returned (.bool (sameO s t)) ∧ Below w.heap.size w w' := by
  have HS := Aside0.mk (fun W => rsame_any s.re s.im t.re t.im W hs.1 hs.2 ht.1 ht.2)
  clear hs ht
  unfold opvV
  by_cases h1 : s.opk = t.opk
  · by_cases h2 : s.page = t.page
    · by_cases h3 : s.obj = t.obj
      · have E : Hid (sameO s t = sameC s.re s.im t.re t.im) := Lib.hid (by unfold sameO; rw [h1, h2, h3, beq_self_eq_true, beq_self_eq_true, beq_self_eq_true, Bool.true_and, Bool.true_and, Bool.true_and])
        rw [h1, h2, h3]
        clear h1 h2 h3
        go_enter Tryz.func18, Tryz.ntmps18
        go_wp2_with (go_at_call 38; refine (HS.out _).mono ?_; rintro e w' ⟨rfl, ⟨n, rfl⟩⟩)
        go_ret
        exact ⟨ret_bool (by rw [E.out]), by
          repeat (first | (with_reducible exact Below.refl _ _) | (with_reducible refine below_drew1 ?_) | (with_reducible refine pw_below_drewN ?_ _) | (refine Below.alloc ?_ (by first | (simp; done) | (simp; omega)) _))⟩
      · have E : Hid (sameO s t = false) := Lib.hid (by unfold sameO; rw [show (s.obj == t.obj) = false by simpa using h3]; simp)
        rw [h1, h2]
        clear h1 h2
        go_enter Tryz.func18, Tryz.ntmps18
        go_wp2
        go_ret
        exact ⟨ret_bool (by rw [E.out]), by
          repeat (first | (with_reducible exact Below.refl _ _) | (with_reducible refine below_drew1 ?_) | (refine Below.alloc ?_ (by first | (simp; done) | (simp; omega)) _))⟩
    · have E : Hid (sameO s t = false) := Lib.hid (by unfold sameO; rw [show (s.page == t.page) = false by simpa using h2]; simp)
      rw [h1]
      clear h1
      go_enter Tryz.func18, Tryz.ntmps18
      go_wp2
      go_ret
      exact ⟨ret_bool (by rw [E.out]), by
        repeat (first | (with_reducible exact Below.refl _ _) | (with_reducible refine below_drew1 ?_) | (refine Below.alloc ?_ (by first | (simp; done) | (simp; omega)) _))⟩
  · have E : Hid (sameO s t = false) := Lib.hid (by unfold sameO; rw [show (s.opk == t.opk) = false by simpa using h1]; simp)
    go_enter Tryz.func18, Tryz.ntmps18
    go_wp2
    go_ret
    exact ⟨ret_bool (by rw [E.out]), by
      repeat (first | (with_reducible exact Below.refl _ _) | (with_reducible refine below_drew1 ?_) | (refine Below.alloc ?_ (by first | (simp; done) | (simp; omega)) _))⟩
end Go.Proofs.YtpgjilakcepilaaGreat.PV
