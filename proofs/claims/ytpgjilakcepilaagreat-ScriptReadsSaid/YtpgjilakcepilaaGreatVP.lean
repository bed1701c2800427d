/- Numbers as bytes and back, in plain Lean: what the printed functions say at three and at eight bytes. -/
import Derived.Test.YtpgjilakcepilaaGreatVW0
import Derived.Laws.BitsLemmas
import Derived.Laws.Bits64b
import Derived.IntWalk
namespace Go.Proofs.YtpgjilakcepilaaGreat.PV
open Go.RowKit Go.Proofs.YtpgjilakcepilaaGreat.PScriptReads Go.Proofs.YtpgjilakcepilaaGreatW.PrintWords Go.Proofs.YtpgjilakcepilaaGreatW.PrintLast Go.Proofs.YtpgjilakcepilaaGreatW.PrintMore

def byt (x : Int) : Prop := 0 ≤ x ∧ x < 256
def be3 (a b c : Int) : Int := 65536 * a + 256 * b + c
def tb3 (n : Int) : List Int := [n / 65536 % 256, n / 256 % 256, n % 256]
def tb8 (n : Int) : List Int := [n / 72057594037927936 % 256, n / 281474976710656 % 256, n / 1099511627776 % 256, n / 4294967296 % 256, n / 16777216 % 256, n / 65536 % 256, n / 256 % 256, n % 256]
def be8 (a b c d e f g h : Int) : Int := ((((((a * 256 + b) * 256 + c) * 256 + d) * 256 + e) * 256 + f) * 256 + g) * 256 + h

theorem w64 (n : Int) (h0 : -9223372036854775808 ≤ n) (h1 : n ≤ 9223372036854775807) : wrap64 n = n := by unfold wrap64; omega
theorem wu64 (n : Int) (h0 : 0 ≤ n) (h1 : n < 18446744073709551616) : IntKind.u64.wrap n = n := by
  simp only [IntKind.wrap, IntKind.bits, IntKind.signed]
  simp
  omega
theorem or_u64 (x y : Int) (h0 : 0 ≤ x) (h1 : x < 72057594037927936) (h2 : 0 ≤ y) (h3 : y < 256) : Go.bits .or .u64 (IntKind.u64.wrap (x * 256)) (IntKind.u64.wrap y) = x * 256 + y := by
  rw [wu64 _ (by omega) (by omega), wu64 _ (by omega) (by omega)]
  exact bits_join .u64 64 (by decide) (fun n a b => wu64 n a (by omega)) 8 _ _ (by omega) (by omega) (by omega) h2 (by omega) (by omega)

theorem put_step (k : Nat) (l : List Int) (n i : Int) (h0 : 0 ≤ i) (h1 : i < 8) (hl : l.length < 140737488355328) : pack_put.l0 (k + 1) l n i = pack_put.l0 k (l ++ [(shr .u64 n (8 * i)) % 256]) n (i - 1) := by
  simp only [pack_put.l0]
  rw [if_pos h0, w64 _ (by omega) (by omega), if_pos (by omega), if_pos hl, w64 _ (by omega) (by omega)]
theorem put_end (k : Nat) (l : List Int) (n : Int) : pack_put.l0 (k + 1) l n (-1) = some l := by
  simp only [pack_put.l0]
  rw [if_neg (by omega)]
theorem put3 (l : List Int) (n : Int) (hl : l.length < 100000) : pack_put.f 9 l n 3 = some (l ++ tb3 n) := by
  unfold pack_put.f
  rw [w64 _ (by omega) (by omega), show (3 - 1 : Int) = 2 from rfl, put_step _ _ _ _ (by omega) (by omega) (by omega), put_step _ _ _ _ (by omega) (by omega) (by simp; omega), put_step _ _ _ _ (by omega) (by omega) (by simp; omega), show (2 - 1 - 1 - 1 : Int) = -1 from rfl, put_end]
  simp [tb3, shr, IntKind.bits]
theorem put8 (l : List Int) (n : Int) (hl : l.length < 100000) : pack_put.f 9 l n 8 = some (l ++ tb8 n) := by
  unfold pack_put.f
  rw [w64 _ (by omega) (by omega), show (8 - 1 : Int) = 7 from rfl, put_step _ _ _ _ (by omega) (by omega) (by omega), put_step _ _ _ _ (by omega) (by omega) (by simp; omega), put_step _ _ _ _ (by omega) (by omega) (by simp; omega), put_step _ _ _ _ (by omega) (by omega) (by simp; omega), put_step _ _ _ _ (by omega) (by omega) (by simp; omega), put_step _ _ _ _ (by omega) (by omega) (by simp; omega), put_step _ _ _ _ (by omega) (by omega) (by simp; omega), put_step _ _ _ _ (by omega) (by omega) (by simp; omega), show (7 - 1 - 1 - 1 - 1 - 1 - 1 - 1 - 1 : Int) = -1 from rfl, put_end]
  simp [tb8, shr, IntKind.bits]

theorem get_step (k : Nat) (x : Int) (l : List Int) (i : Nat) (hi : i < l.length) (hl : l.length < 100000) (h0 : 0 ≤ x) (h1 : x < 72057594037927936) (hb : byt (l.getD i 0)) : pack_get.l0 (k + 1) x l l.length i = pack_get.l0 k (x * 256 + l.getD i 0) l l.length ((i + 1 : Nat) : Int) := by
  simp only [pack_get.l0]
  rw [if_pos (by omega), if_pos (by omega), if_pos (by omega), w64 _ (by omega) (by omega)]
  have hr : rd l (i : Int) = l.getD i 0 := by simp [rd]
  rw [hr, or_u64 _ _ h0 h1 hb.1 hb.2]
  rfl
theorem get_end (k : Nat) (x : Int) (l : List Int) : pack_get.l0 (k + 1) x l l.length ((l.length : Nat) : Int) = some x := by
  simp only [pack_get.l0]
  rw [if_neg (by omega)]
theorem pow_le7 (i : Nat) (h : i ≤ 7) : (256 : Int) ^ i ≤ 72057594037927936 := by
  have : i = 0 ∨ i = 1 ∨ i = 2 ∨ i = 3 ∨ i = 4 ∨ i = 5 ∨ i = 6 ∨ i = 7 := by omega
  rcases this with rfl | rfl | rfl | rfl | rfl | rfl | rfl | rfl <;> decide
theorem get_fold (l : List Int) (hl : l.length ≤ 8) (hb : ∀ x ∈ l, byt x) : ∀ (d i k : Nat) (x : Int), i + d = l.length → d < k → 0 ≤ x → x < 256 ^ i → pack_get.l0 k x l l.length i = some ((l.drop i).foldl (fun n y => n * 256 + y) x)
  | 0, i, k, x, hd, hk, h0, h1 => by
    obtain ⟨k, rfl⟩ : ∃ m, k = m + 1 := ⟨k - 1, by omega⟩
    obtain rfl : i = l.length := by omega
    rw [get_end, List.drop_of_length_le (Nat.le_refl _)]
    rfl
  | d + 1, i, k, x, hd, hk, h0, h1 => by
    obtain ⟨k, rfl⟩ : ∃ m, k = m + 1 := ⟨k - 1, by omega⟩
    have hi : i < l.length := by omega
    have hy : byt (l.getD i 0) := by
      rw [List.getD_eq_getElem?_getD, List.getElem?_eq_getElem hi]
      exact hb _ (List.getElem_mem hi)
    have h7 := pow_le7 i (by omega)
    have h8 : (256 : Int) ^ (i + 1) = 256 ^ i * 256 := Int.pow_succ _ _
    rw [get_step k x l i hi (by omega) h0 (by omega) hy]
    have hy' := hy
    unfold byt at hy'
    rw [get_fold l hl hb d (i + 1) k _ (by omega) (by omega) (by omega) (by rw [h8]; omega)]
    rw [List.drop_eq_getElem_cons hi, List.foldl_cons, List.getD_eq_getElem?_getD, List.getElem?_eq_getElem hi]
    rfl
theorem get3 (a b c : Int) (ha : byt a) (hb : byt b) (hc : byt c) : pack_get.f 9 [a, b, c] = some (be3 a b c) := by
  have h := get_fold [a, b, c] (by simp) (by simp [ha, hb, hc]) 3 0 9 0 (by simp) (by omega) (by omega) (by simp)
  show pack_get.l0 9 0 _ _ ((0 : Nat) : Int) = _
  rw [h]
  simp [be3]
  omega
theorem get8 (a b c d e f g h : Int) (ha : byt a) (hb : byt b) (hc : byt c) (hd : byt d) (he : byt e) (hf : byt f) (hg : byt g) (hh : byt h) : pack_get.f 9 [a, b, c, d, e, f, g, h] = some (be8 a b c d e f g h) := by
  have h := get_fold [a, b, c, d, e, f, g, h] (by simp) (by simp [ha, hb, hc, hd, he, hf, hg, hh]) 8 0 9 0 (by simp) (by omega) (by omega) (by simp)
  show pack_get.l0 9 0 _ _ ((0 : Nat) : Int) = _
  rw [h]
  simp [be8]

/-! the references' functions -/
theorem rbits_step (k : Nat) (x : Int) (l : List Int) (i : Nat) (hi : i < l.length) (hl : l.length < 100000) (h0 : 0 ≤ x) (h1 : x < 72057594037927936) (hb : byt (l.getD i 0)) : cloakroomref02_bits.l0 (k + 1) x l l.length i = cloakroomref02_bits.l0 k (x * 256 + l.getD i 0) l l.length ((i + 1 : Nat) : Int) := by
  unfold byt at hb
  simp only [cloakroomref02_bits.l0]
  rw [if_pos (by omega), if_pos (by omega), if_pos (by omega), w64 _ (by omega) (by omega)]
  have hr : rd l (i : Int) = l.getD i 0 := by simp [rd]
  rw [hr, wu64 (256 * x) (by omega) (by omega), wu64 (l.getD i 0) (by omega) (by omega), wu64 _ (by omega) (by omega), Int.mul_comm 256 x]
  rfl
theorem rbits_end (k : Nat) (x : Int) (l : List Int) : cloakroomref02_bits.l0 (k + 1) x l l.length ((l.length : Nat) : Int) = some x := by
  simp only [cloakroomref02_bits.l0]
  rw [if_neg (by omega)]
theorem rbits_fold (l : List Int) (hl : l.length ≤ 8) (hb : ∀ x ∈ l, byt x) : ∀ (d i k : Nat) (x : Int), i + d = l.length → d < k → 0 ≤ x → x < 256 ^ i → cloakroomref02_bits.l0 k x l l.length i = some ((l.drop i).foldl (fun n y => n * 256 + y) x)
  | 0, i, k, x, hd, hk, h0, h1 => by
    obtain ⟨k, rfl⟩ : ∃ m, k = m + 1 := ⟨k - 1, by omega⟩
    obtain rfl : i = l.length := by omega
    rw [rbits_end, List.drop_of_length_le (Nat.le_refl _)]
    rfl
  | d + 1, i, k, x, hd, hk, h0, h1 => by
    obtain ⟨k, rfl⟩ : ∃ m, k = m + 1 := ⟨k - 1, by omega⟩
    have hi : i < l.length := by omega
    have hy : byt (l.getD i 0) := by
      rw [List.getD_eq_getElem?_getD, List.getElem?_eq_getElem hi]
      exact hb _ (List.getElem_mem hi)
    have h7 := pow_le7 i (by omega)
    have h8 : (256 : Int) ^ (i + 1) = 256 ^ i * 256 := Int.pow_succ _ _
    rw [rbits_step k x l i hi (by omega) h0 (by omega) hy]
    have hy' := hy
    unfold byt at hy'
    rw [rbits_fold l hl hb d (i + 1) k _ (by omega) (by omega) (by omega) (by rw [h8]; omega)]
    rw [List.drop_eq_getElem_cons hi, List.foldl_cons, List.getD_eq_getElem?_getD, List.getElem?_eq_getElem hi]
    rfl
theorem rbits8 (a b c d e f g h : Int) (ha : byt a) (hb : byt b) (hc : byt c) (hd : byt d) (he : byt e) (hf : byt f) (hg : byt g) (hh : byt h) : cloakroomref02_bits.f 9 [a, b, c, d, e, f, g, h] = some (be8 a b c d e f g h) := by
  have h := rbits_fold [a, b, c, d, e, f, g, h] (by simp) (by simp [ha, hb, hc, hd, he, hf, hg, hh]) 8 0 9 0 (by simp) (by omega) (by omega) (by simp)
  show cloakroomref02_bits.l0 9 0 _ _ ((0 : Nat) : Int) = _
  rw [h]
  simp [be8]
end Go.Proofs.YtpgjilakcepilaaGreat.PV
