/- The contract of package pack's Take, and what it leans on. -/
import Derived.Test.YtpgjilakcepilaaGreatVB
namespace Go.Proofs.YtpgjilakcepilaaGreat.PV
open Go.RowKit Go.Proofs.YtpgjilakcepilaaGreat.PScriptReads Go.Proofs.YtpgjilakcepilaaGreatW.PrintWords Go.Proofs.YtpgjilakcepilaaGreatW.PrintLast Go.Proofs.YtpgjilakcepilaaGreatW.PrintMore

theorem equal_go (l r : List Int) (hn : l.length = r.length) (hL : l.length ≤ 100000) : ∀ (d i k : Nat), i + d = l.length → d < k → slices_Equal_byte_byte.l0 k l r l.length i = some (decide (l.drop i = r.drop i))
  | 0, i, k, hd, hk => by
    obtain ⟨k, rfl⟩ : ∃ m, k = m + 1 := ⟨k - 1, by omega⟩
    simp only [slices_Equal_byte_byte.l0]
    rw [if_neg (by omega), List.drop_of_length_le (by omega), List.drop_of_length_le (by omega)]
    rfl
  | d + 1, i, k, hd, hk => by
    obtain ⟨k, rfl⟩ : ∃ m, k = m + 1 := ⟨k - 1, by omega⟩
    have ih := equal_go l r hn hL d (i + 1) k (by omega) (by omega)
    have hl := drop_getD l i (by omega)
    have hr := drop_getD r i (by omega)
    have e1 : rd l (i : Int) = l.getD i 0 := by simp [rd]
    have e2 : rd r (i : Int) = r.getD i 0 := by simp [rd]
    simp only [slices_Equal_byte_byte.l0]
    rw [if_pos (by omega), if_pos (by omega), if_pos (by omega), if_pos (by omega), e1, e2, hl, hr]
    rw [w64 _ (by omega) (by omega), show ((i : Int) + 1) = ((i + 1 : Nat) : Int) by omega, ih]
    by_cases h : l.getD i 0 = r.getD i 0
    · rw [if_pos h, h]
      simp
    · rw [if_neg h]
      exact congrArg some (decide_eq_false (fun e => h (List.cons.inj e).1)).symm
theorem equal_all (l r : List Int) (hL : l.length ≤ 100000) : slices_Equal_byte_byte.f (l.length + 1) l r = some (decide (l = r)) := by
  unfold slices_Equal_byte_byte.f
  by_cases hn : l.length = r.length
  · rw [if_pos (by omega)]
    exact equal_go l r hn hL l.length 0 (l.length + 1) (by omega) (by omega)
  · rw [if_neg (by omega)]
    have : l ≠ r := fun e => hn (by rw [e])
    simp [this]
theorem equal_any (A B : Option Addr) (c d n m : Nat) (l r : List Int) (w : World) (hn : l.length = n) (hm : r.length = m) (hl : Kd.C (Kd.int .u8) w A n l) (hc : n ≤ c) (hr : Kd.C (Kd.int .u8) w B m r) (hd : m ≤ d) (hL : n ≤ 100000) :
    Calls Tryz.prog 62 #[.slice A n c, .slice B m d] w fun e w' => e = .returned (.bool (decide (l = r))) ∧ Drawn0 w w' := by
  subst hn
  subst hm
  exact slices_Equal_byte_byte.calls _ A c l B d r _ w hl hc hr hd (equal_all l r hL)
theorem val_all (a b : Nat) : valL a b = some (tb8 (formN a) ++ tb8 (formN b)) := by
  unfold valL
  rw [put8 _ _ (by simp)]
  simp only [Option.bind_some, List.nil_append]
  exact put8 _ _ (by simp [tb8])

/-- the eight bytes from i on -/
def oct (l : List Int) (i : Nat) : Int := be8 (l.getD i 0) (l.getD (i + 1) 0) (l.getD (i + 2) 0) (l.getD (i + 3) 0) (l.getD (i + 4) 0) (l.getD (i + 5) 0) (l.getD (i + 6) 0) (l.getD (i + 7) 0)
def octL (l : List Int) (i : Nat) : List Int := [l.getD i 0, l.getD (i + 1) 0, l.getD (i + 2) 0, l.getD (i + 3) 0, l.getD (i + 4) 0, l.getD (i + 5) 0, l.getD (i + 6) 0, l.getD (i + 7) 0]
theorem mid8 (l : List Int) (i : Nat) (h : i + 8 ≤ l.length) : (l.take (i + 8)).drop i = octL l i := by
  rw [List.drop_take, show i + 8 - i = 8 by omega, drop_getD l i (by omega), drop_getD l (i + 1) (by omega), drop_getD l (i + 1 + 1) (by omega), drop_getD l (i + 1 + 1 + 1) (by omega), drop_getD l (i + 1 + 1 + 1 + 1) (by omega), drop_getD l (i + 1 + 1 + 1 + 1 + 1) (by omega), drop_getD l (i + 1 + 1 + 1 + 1 + 1 + 1) (by omega), drop_getD l (i + 1 + 1 + 1 + 1 + 1 + 1 + 1) (by omega)]
  rfl
theorem get_oct {l : List Int} (hb : ∀ x ∈ l, byt x) (i : Nat) : pack_get.f 9 (octL l i) = some (oct l i) :=
  get8 _ _ _ _ _ _ _ _ (byt_getD hb _) (byt_getD hb _) (byt_getD hb _) (byt_getD hb _) (byt_getD hb _) (byt_getD hb _) (byt_getD hb _) (byt_getD hb _)
theorem oct_bd {l : List Int} (hb : ∀ x ∈ l, byt x) (i : Nat) : 0 ≤ oct l i ∧ oct l i < 18446744073709551616 := by
  have h0 := byt_getD hb i
  have h1 := byt_getD hb (i + 1)
  have h2 := byt_getD hb (i + 2)
  have h3 := byt_getD hb (i + 3)
  have h4 := byt_getD hb (i + 4)
  have h5 := byt_getD hb (i + 5)
  have h6 := byt_getD hb (i + 6)
  have h7 := byt_getD hb (i + 7)
  unfold byt at h0 h1 h2 h3 h4 h5 h6 h7
  unfold oct be8
  omega
theorem tb8_oct {l : List Int} (hb : ∀ x ∈ l, byt x) (i : Nat) : tb8 (oct l i) = octL l i := by
  have h0 := byt_getD hb i
  have h1 := byt_getD hb (i + 1)
  have h2 := byt_getD hb (i + 2)
  have h3 := byt_getD hb (i + 3)
  have h4 := byt_getD hb (i + 4)
  have h5 := byt_getD hb (i + 5)
  have h6 := byt_getD hb (i + 6)
  have h7 := byt_getD hb (i + 7)
  unfold byt at h0 h1 h2 h3 h4 h5 h6 h7
  unfold oct be8 tb8 octL
  simp only [List.cons.injEq, and_true]
  refine ⟨by omega, by omega, by omega, by omega, by omega, by omega, by omega, by omega⟩
theorem tb8_inj {a b : Int} (ha : 0 ≤ a) (ha' : a < 18446744073709551616) (hb : 0 ≤ b) (hb' : b < 18446744073709551616) (h : tb8 a = tb8 b) : a = b := by
  unfold tb8 at h
  simp only [List.cons.injEq, and_true] at h
  omega
end Go.Proofs.YtpgjilakcepilaaGreat.PV
