/- The contracts of the functions on complex numbers (package cnum), without conditions. -/
import Derived.Test.YtpgjilakcepilaaGreatVW0
import Derived.Laws.Cover3
import Derived.Laws.Externs
import Derived.Lib.Hide
namespace Go.Proofs.YtpgjilakcepilaaGreat.PV
open Go.RowKit Go.Proofs.YtpgjilakcepilaaGreat.PScriptReads Go.Proofs.YtpgjilakcepilaaGreatW.PrintWords Go.Proofs.YtpgjilakcepilaaGreatW.PrintLast Go.Proofs.YtpgjilakcepilaaGreatW.PrintMore

/-- is a word of 64 bits no number? -/
def nanB (b : Nat) : Bool := !(FloatKind.f64.format.order b b == some .eq)
def formN (b : Nat) : Nat := if nanB b = true then 9221120237041090561 else b

theorem run94 (b : Nat) (w : World) : (callFunc 94 #[.float .f64 b]).run Tryz.prog w = .ok (.value (.int .u64 b)) w := by
  rw [run_callFunc_extern Tryz.func94 (by kernel_rfl) (by kernel_rfl) (by kernel_rfl) (e := Extern.MathFloatBits.float64bits) (by kernel_rfl)]
  rfl
theorem run34 (n : Int) (w : World) : (callFunc 34 #[.int .u64 n]).run Tryz.prog w = .ok (.value (.float .f64 n.toNat)) w := by
  rw [run_callFunc_extern Tryz.func34 (by kernel_rfl) (by kernel_rfl) (by kernel_rfl) (e := Extern.MathFloatBits.float64frombits) (by kernel_rfl)]
  rfl

theorem ret_u64 {a b : Int} (h : a = b) : Ending.returned (.int .u64 a) = .returned (.int .u64 b) := by rw [h]
theorem isNaN_any (b : Nat) (w : World) : Calls Tryz.prog 122 #[.float .f64 b] w fun e w' => e = .returned (.bool (nanB b)) ∧ w = w' := by
  go_enter Tryz.func122, Tryz.ntmps122
  go_wp2
  go_ret
  exact ⟨rfl, rfl⟩
theorem form_any (b : Nat) (w : World) : Calls Tryz.prog 91 #[.float .f64 b] w fun e w' => e = .returned (.int .u64 (formN b)) ∧ w = w' := by
  have h94 := run94
  by_cases hn : nanB b = true
  · have E : Hid (formN b = 9221120237041090561) := Lib.hid (by unfold formN; rw [if_pos hn])
    go_enter Tryz.func91, Tryz.ntmps91
    go_wp2_with (refine (isNaN_any _ _).mono ?_; rintro e w' ⟨rfl, rfl⟩)
    go_ret
    exact ⟨ret_u64 (by rw [E.out]; rfl), rfl⟩
  · have E : Hid (formN b = b) := Lib.hid (by unfold formN; rw [if_neg hn])
    have hn' : nanB b = false := by simpa using hn
    clear hn
    go_enter Tryz.func91, Tryz.ntmps91
    go_wp2_with (refine (isNaN_any _ _).mono ?_; rintro e w' ⟨rfl, rfl⟩)
    go_ret
    exact ⟨ret_u64 (by rw [E.out]), rfl⟩
theorem bits_any (a b : Nat) (w : World) : Calls Tryz.prog 60 #[.complex .f64 a b] w fun e w' => e = .returned (.tuple #[.int .u64 (formN a), .int .u64 (formN b)]) ∧ w = w' := by
  go_enter Tryz.func60, Tryz.ntmps60
  go_wp2_with (refine (form_any _ _).mono ?_; rintro e w' ⟨rfl, rfl⟩)
  go_ret2
  exact ⟨rfl, rfl⟩
theorem of_any (a b : Int) (w : World) : Calls Tryz.prog 61 #[.int .u64 a, .int .u64 b] w fun e w' => e = .returned (.complex .f64 a.toNat b.toNat) ∧ w = w' := by
  have h34 := run34
  go_enter Tryz.func61, Tryz.ntmps61
  go_wp2
  go_ret
  exact ⟨rfl, rfl⟩
/-- are two complex numbers the same? -/
def sameC (a b c d : Nat) : Bool := (formN a == formN c) && (formN b == formN d)
theorem ret_bool {a b : Bool} (h : a = b) : Ending.returned (.bool a) = .returned (.bool b) := by rw [h]
theorem same_any (a b c d : Nat) (w : World) : Calls Tryz.prog 92 #[.complex .f64 a b, .complex .f64 c d] w fun e w' => e = .returned (.bool (sameC a b c d)) ∧ w = w' := by
  go_enter Tryz.func92, Tryz.ntmps92
  go_wp2_with (refine (bits_any _ _ _).mono ?_; rintro e w' ⟨rfl, rfl⟩)
  · go_ret
    have hc : (formN a : Int) = formN c := by assumption
    refine ⟨ret_bool ?_, rfl⟩
    rw [sameC, Int.ofNat.inj hc, beq_self_eq_true, Bool.true_and, Bool.eq_iff_iff]
    simp only [beq_iff_eq]
    omega
  · go_ret
    have hc : ¬ (formN a : Int) = formN c := by assumption
    refine ⟨ret_bool ?_, rfl⟩
    have h : (formN a == formN c) = false := by simpa using fun e : formN a = formN c => hc (by rw [e])
    rw [sameC, h, Bool.false_and]
/-- the bytes of a complex number -/
def valL (a b : Nat) : Option (List Int) := (pack_put.f 9 [] (formN a) 8).bind fun l => pack_put.f 9 l (formN b) 8
set_option maxHeartbeats 1000000 in
theorem value_any (a b : Nat) (l : List Int) (w : World) (h : valL a b = some l) : Calls Tryz.prog 25 #[.complex .f64 a b] w fun e w' => ∃ v : Value, e = .returned v ∧ Kd.R (Kd.int .u8) 5 w' w.heap.size (fun _ => True) v l ∧ Below w.heap.size w w' := by
  obtain ⟨l1, h1, h2⟩ := Option.bind_eq_some_iff.mp h
  clear h
  have H1 := Lib.hid h1
  have H2 := Lib.hid h2
  clear h1 h2
  go_enter Tryz.func25, Tryz.ntmps25
  go_wp2_with (first | (go_at_call 60; refine (bits_any _ _ _).mono ?_; rintro e w' ⟨rfl, rfl⟩))
  refine ((pack_put.calls 9 (fun _ => True) (.slice none 0 0) [] (formN a) 8 l1 w w (Below.refl _ _) (Kd.R_nil _ _ _ _ _) H1.out).mono ?_)
  rintro e w1 ⟨v1, rfl, r1, b1, -⟩
  have R1 := Aside0.mk r1
  have B1 := Aside0.mk b1
  clear r1 b1
  go_wp2_with fail
  refine ((pack_put.calls 9 (fun _ => True) v1 l1 (formN b) 8 l w w1 B1.out (Kd.R_mono R1.out (fun _ _ => trivial)) H2.out).mono ?_)
  rintro e w2 ⟨v2, rfl, r2, b2, -⟩
  have R2 := Aside0.mk r2
  have B2 := Aside0.mk b2
  clear r2 b2
  go_wp2
  go_ret
  exact ⟨v2, rfl, Kd.R_mono R2.out (fun _ _ => trivial), B2.out⟩
end Go.Proofs.YtpgjilakcepilaaGreat.PV
