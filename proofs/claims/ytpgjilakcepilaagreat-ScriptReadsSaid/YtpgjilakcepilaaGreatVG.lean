/- The contract of package script's same. -/
import Derived.Test.YtpgjilakcepilaaGreatVF
import Derived.Laws.StructEq
namespace Go.Proofs.YtpgjilakcepilaaGreat.PV
open Go.RowKit Go.Proofs.YtpgjilakcepilaaGreat.PScriptReads Go.Proofs.YtpgjilakcepilaaGreatW.PrintWords Go.Proofs.YtpgjilakcepilaaGreatW.PrintLast Go.Proofs.YtpgjilakcepilaaGreatW.PrintMore
set_option linter.unusedVariables false
set_option linter.unusedSimpArgs false
attribute [local go_sem] run_store_complex

/-- the same but for the value? -/
def eqB (s t : Stp) : Bool := (s.kind == t.kind) && ((s.client == t.client) && ((s.lane == t.lane) && ((s.n == t.n) && ((s.at_ == t.at_) && ((s.mask == t.mask) && ((s.opk == t.opk) && ((s.page == t.page) && (s.obj == t.obj))))))))
def zv (s : Stp) : Value := .agg #[.int .i64 s.kind, .int .i64 s.client, .int .i64 s.lane, .int .i64 s.n, .int .i64 s.at_, .int .u16 s.mask, .int .i64 s.opk, .int .i64 s.page, .int .i64 s.obj, .complex .f64 0 0]
theorem eqz45 (w : World) : (Op.equalIn 9998 45 (.complex .f64 0 0) (.complex .f64 0 0)).run Tryz.prog w = .ok true w := by
  kernel_rfl
theorem eqi (d : Nat) (a b : Int) (w : World) : (Op.equalIn (d + 1) 3 (.int .i64 a) (.int .i64 b)).run Tryz.prog w = .ok (a == b) w := run_equalIn_int w d 3 .i64 .i64 a b Tryz.underlying3
theorem equ (d : Nat) (a b : Int) (w : World) : (Op.equalIn (d + 1) 44 (.int .u16 a) (.int .u16 b)).run Tryz.prog w = .ok (a == b) w := run_equalIn_int w d 44 .u16 .u16 a b Tryz.underlying44
set_option maxRecDepth 100000 in
theorem eqOp (a b c a' b' c' : Int) (w : World) : (Op.equalIn (9998 + 1) 47 (.agg #[.int .i64 a, .int .i64 b, .int .i64 c, .complex .f64 0 0]) (.agg #[.int .i64 a', .int .i64 b', .int .i64 c', .complex .f64 0 0])).run Tryz.prog w = .ok ((a == a') && ((b == b') && ((c == c') && true))) w :=
  eqA_of Tryz.underlying47 (by kernel_rfl) (eqf_cons rfl rfl rfl (eqi 9997 _ _ _) (eqf_cons rfl rfl rfl (eqi 9997 _ _ _) (eqf_cons rfl rfl rfl (eqi 9997 _ _ _) (eqf_last rfl rfl rfl (eqz45 _)))))
def zl (s : Stp) : Array Value := #[.int .i64 s.kind, .int .i64 s.client, .int .i64 s.lane, .int .i64 s.n, .int .i64 s.at_, .int .u16 s.mask, .int .i64 s.opk, .int .i64 s.page, .int .i64 s.obj, .complex .f64 0 0]
theorem partOp (s : Stp) (w : World) : (part 47 (zl s) 6).run Tryz.prog w = .ok (.agg #[.int .i64 s.opk, .int .i64 s.page, .int .i64 s.obj, .complex .f64 0 0]) w := by
  kernel_rfl
set_option maxRecDepth 100000 in
theorem eqStep (s t : Stp) (w : World) : (Op.equalIn (9999 + 1) 49 (.agg (zl s)) (.agg (zl t))).run Tryz.prog w = .ok ((s.kind == t.kind) && ((s.client == t.client) && ((s.lane == t.lane) && ((s.n == t.n) && ((s.at_ == t.at_) && ((s.mask == t.mask) && ((s.opk == t.opk) && ((s.page == t.page) && ((s.obj == t.obj) && true))))))))) w :=
  eqA_of (P := Tryz.prog) (d := 9999) (w := w) (xs := zl s) (ys := zl t) Tryz.underlying49 (by kernel_rfl) (eqf_cons rfl rfl rfl (eqi 9998 s.kind t.kind _) (eqf_cons rfl rfl rfl (eqi 9998 s.client t.client _) (eqf_cons rfl rfl rfl (eqi 9998 s.lane t.lane _) (eqf_cons rfl rfl rfl (eqi 9998 s.n t.n _) (eqf_cons rfl rfl rfl (eqi 9998 s.at_ t.at_ _) (eqf_cons rfl rfl rfl (equ 9998 s.mask t.mask _) (eqf_last rfl (partOp s w) (partOp t w) (eqOp s.opk s.page s.obj t.opk t.page t.obj _))))))))
set_option maxRecDepth 100000 in
theorem run_eqStep (s t : Stp) (w : World) : (binOp .eql 49 (zv s) (zv t)).run Tryz.prog w = .ok (.bool (eqB s t)) w := by
  unfold zv
  rw [run_eql_struct]
  have h := eqStep s t w
  unfold zl at h
  rw [show (10000 : Nat) = 9999 + 1 from rfl, h, Bool.and_true]
  rfl
def sameS (s t : Stp) : Bool := sameC s.re s.im t.re t.im && eqB s t
set_option maxHeartbeats 1000000 in
set_option maxRecDepth 100000 in
theorem sameS_any (s t : Stp) (w : World) : Calls Tryz.prog 65 #[stepV s, stepV t] w fun e w' => e = .returned (.bool (sameS s t)) ∧ Below w.heap.size w w' := by
  have he := run_eqStep s t
  unfold zv at he
  have hgd : Tryz.prog.eqGuardType Tryz.prog.depth 49 = false := by kernel_rfl
  unfold stepV
  cases hc : sameC s.re s.im t.re t.im with
  | true =>
    have E : Hid (sameS s t = eqB s t) := Lib.hid (by unfold sameS; rw [hc, Bool.true_and])
    have HC := Aside0.mk hc
    clear hc
    go_enter Tryz.func65, Tryz.ntmps65
    go_wp2_with (go_at_call 92; refine (same_any _ _ _ _ _).mono ?_; rw [HC.out]; rintro e w' ⟨rfl, rfl⟩)
    go_ret
    exact ⟨ret_bool (by rw [E.out]), by
      repeat (first | (with_reducible exact Below.refl _ _) | (with_reducible refine below_drew1 ?_) | (refine Below.alloc ?_ (by first | (simp; done) | (simp; omega)) _))⟩
  | false =>
    have E : Hid (sameS s t = false) := Lib.hid (by unfold sameS; rw [hc, Bool.false_and])
    have HC := Aside0.mk hc
    clear hc
    go_enter Tryz.func65, Tryz.ntmps65
    go_wp2_with (go_at_call 92; refine (same_any _ _ _ _ _).mono ?_; rw [HC.out]; rintro e w' ⟨rfl, rfl⟩)
    go_ret
    exact ⟨ret_bool (by rw [E.out]), by
      repeat (first | (with_reducible exact Below.refl _ _) | (with_reducible refine below_drew1 ?_) | (refine Below.alloc ?_ (by first | (simp; done) | (simp; omega)) _))⟩
end Go.Proofs.YtpgjilakcepilaaGreat.PV
