/- What is not a number, by its bits: the program's form is the reference's. -/
import Derived.Test.YtpgjilakcepilaaGreatVJ
namespace Go.Proofs.YtpgjilakcepilaaGreat.PV
open Go.RowKit Go.Proofs.YtpgjilakcepilaaGreat.PScriptReads Go.Proofs.YtpgjilakcepilaaGreatW.PrintWords Go.Proofs.YtpgjilakcepilaaGreatW.PrintLast Go.Proofs.YtpgjilakcepilaaGreatW.PrintMore
set_option linter.unusedVariables false

theorem order_num (s : Bool) (m : Nat) (p : Int) : (Ieee.Datum.number s m p).order (Ieee.Datum.number s m p) = some .eq := by
  simp [Ieee.Datum.order]
theorem order_inf (s : Bool) : (Ieee.Datum.infinity s).order (Ieee.Datum.infinity s) = some .eq := by
  cases s <;> rfl
theorem order_nan (s : Bool) (m : Nat) : (Ieee.Datum.nan s m).order (Ieee.Datum.nan s m) = none := rfl
theorem nanB_eq (b : Nat) : nanB b = decide (9218868437227405312 < b % 9223372036854775808) := by
  unfold nanB Ieee.Format.order Ieee.Format.read
  have e1 : FloatKind.f64.format.signWeight = 9223372036854775808 := by decide
  have e2 : FloatKind.f64.format.binade = 4503599627370496 := by decide
  have e3 : FloatKind.f64.format.infRung = 9218868437227405312 := by decide
  simp only [e1, e2, e3]
  generalize b % 9223372036854775808 = r
  generalize (b / 9223372036854775808 % 2 == 1) = s
  by_cases h1 : r < 4503599627370496
  · rw [if_pos h1, order_num, decide_eq_false (by omega)]
    rfl
  · rw [if_neg h1]
    by_cases h2 : r < 9218868437227405312
    · rw [if_pos h2, order_num, decide_eq_false (by omega)]
      rfl
    · rw [if_neg h2]
      by_cases h3 : r = 9218868437227405312
      · rw [if_pos h3, order_inf, decide_eq_false (by omega)]
        rfl
      · rw [if_neg h3, order_nan, decide_eq_true (by omega)]
        rfl
theorem and2047 (x : Int) (h0 : 0 ≤ x) (h1 : x < 18446744073709551616) : Go.bits .and .u64 x 2047 = x % 2048 := bits_mask .u64 64 (by decide) (fun n a b => wu64 n a (by omega)) 11 (by decide) x h0 (by omega)
theorem and52 (x : Int) (h0 : 0 ≤ x) (h1 : x < 18446744073709551616) : Go.bits .and .u64 x 4503599627370495 = x % 4503599627370496 := bits_mask .u64 64 (by decide) (fun n a b => wu64 n a (by omega)) 52 (by decide) x h0 (by omega)
theorem refForm (b : Nat) (hb : b < 18446744073709551616) : cloakroomref01_Form.f (b : Int) = some ((formN b : Nat) : Int) := by
  unfold cloakroomref01_Form.f
  rw [and2047 _ (by omega) (by omega), and52 _ (by omega) (by omega)]
  unfold formN
  rw [nanB_eq]
  by_cases h : 9218868437227405312 < b % 9223372036854775808
  · rw [if_pos (by omega), if_neg (by omega), if_pos (decide_eq_true h)]
    rfl
  · rw [if_neg (c := decide _ = true) (by simpa using h)]
    by_cases h2 : (b : Int) / 4503599627370496 % 2048 = 2047
    · rw [if_pos h2, if_pos (by omega)]
    · rw [if_neg h2]
theorem formN_lt (b : Nat) (hb : b < 18446744073709551616) : formN b < 18446744073709551616 := by
  unfold formN
  split <;> omega
end Go.Proofs.YtpgjilakcepilaaGreat.PV
