/- The plain law: what the program's Read takes is what the reference's Read takes. -/
import Derived.Test.YtpgjilakcepilaaGreatVT
namespace Go.Proofs.YtpgjilakcepilaaGreat.PV
open Go.RowKit Go.Proofs.YtpgjilakcepilaaGreat.PScriptReads Go.Proofs.YtpgjilakcepilaaGreatW.PrintWords Go.Proofs.YtpgjilakcepilaaGreatW.PrintLast Go.Proofs.YtpgjilakcepilaaGreatW.PrintMore

set_option linter.unusedVariables false
/-- the reference takes the bytes as a step -/
def stepOkR (r : List Int) : Bool := decide (43 ≤ r.length) && cleanB (r.drop 27)
/-- the step that the reference reads -/
def stepR (r : List Int) : Stp := ⟨num r 0, num r 1, num r 2, num r 3 - 1, num r 4 - 1, num r 5 % 65536, num r 6, num r 7, num r 8, (oct (r.drop 27) 0).toNat, (oct (r.drop 27) 8).toNat⟩
def stepsR (r : List Int) (k : Nat) : List Stp := (List.range k).map fun i => stepR (r.drop (43 * i))
def okR (r : List Int) (k : Nat) : Bool := (List.range k).all fun i => stepOkR (r.drop (43 * i))
def manyR (b : List Int) : Nat := min (many b) 501
theorem stepsR_succ (r : List Int) (k : Nat) : stepsR r (k + 1) = stepsR r k ++ [stepR (r.drop (43 * k))] := by simp [stepsR, List.range_succ]
theorem stepsR_length (r : List Int) (k : Nat) : (stepsR r k).length = k := by simp [stepsR]
theorem okR_succ (r : List Int) (k : Nat) : okR r (k + 1) = (okR r k && stepOkR (r.drop (43 * k))) := by simp [okR, List.range_succ]
theorem okR_mono (r : List Int) (n k : Nat) (h : k ≤ n) (hk : okR r k = false) : okR r n = false := by
  unfold okR at hk ⊢
  rw [List.all_eq_false] at hk ⊢
  obtain ⟨x, hx, h1⟩ := hk
  exact ⟨x, List.mem_range.2 (Nat.lt_of_lt_of_le (List.mem_range.1 hx) h), h1⟩
theorem byt_drop {l : List Int} (hb : ∀ x ∈ l, byt x) (n : Nat) : ∀ x ∈ l.drop n, byt x := fun x hx => hb x (List.mem_of_mem_drop hx)
theorem stepR_eq (r : List Int) (h0 : 0 ≤ num r 5) (h1 : num r 5 ≤ 65535) : stepR r = stepOf r := by
  unfold stepR stepOf
  rw [show num r 5 % 65536 = num r 5 by omega]
theorem stepR_fit {r : List Int} (hb : ∀ x ∈ r, byt x) : fit2 (stepR r) := by
  have h0 := oct_bd (byt_drop hb 27) 0
  have h8 := oct_bd (byt_drop hb 27) 8
  refine ⟨⟨?_, ?_⟩, ?_, ?_⟩
  · show (oct (r.drop 27) 0).toNat < 18446744073709551616
    omega
  · show (oct (r.drop 27) 8).toNat < 18446744073709551616
    omega
  · show 0 ≤ num r 5 % 65536
    omega
  · show num r 5 % 65536 ≤ 65535
    omega
theorem stepsR_fit {r : List Int} (hb : ∀ x ∈ r, byt x) (k : Nat) : ∀ s ∈ stepsR r k, fit2 s := by
  intro s hs
  unfold stepsR at hs
  obtain ⟨i, _, rfl⟩ := List.mem_map.1 hs
  exact stepR_fit (byt_drop hb _)
/-- numbers of bytes, as bytes again -/
theorem tb3_num {l : List Int} (hb : ∀ x ∈ l, byt x) (k : Nat) : tb3 (num l k) = [l.getD (3 * k) 0, l.getD (3 * k + 1) 0, l.getD (3 * k + 2) 0] := by
  have h0 := byt_getD hb (3 * k)
  have h1 := byt_getD hb (3 * k + 1)
  have h2 := byt_getD hb (3 * k + 2)
  unfold byt at h0 h1 h2
  unfold tb3 num be3
  simp only [List.cons.injEq, and_true]
  omega
theorem encN_nums {l : List Int} (hb : ∀ x ∈ l, byt x) : ∀ m : Nat, 3 * m ≤ l.length → encN (nums l m) = l.take (3 * m)
  | 0, _ => by simp [nums, encN]
  | m + 1, h => by
    rw [nums_succ, encN, List.flatMap_append, ← encN, encN_nums hb m (by omega)]
    have h1 : l.take (3 * (m + 1)) = l.take (3 * m) ++ (l.take (3 * m + 3)).drop (3 * m) := by
      rw [show 3 * (m + 1) = 3 * m + 3 by omega]
      have := (List.take_append_drop (3 * m) (l.take (3 * m + 3))).symm
      rw [List.take_take, show min (3 * m) (3 * m + 3) = 3 * m by omega] at this
      exact this
    rw [h1, mid3 l m (by omega)]
    simp [tb3_num hb m]
theorem enc_step {r : List Int} (hb : ∀ x ∈ r, byt x) (hl : 43 ≤ r.length) (h5 : num r 5 ≤ 65535) (hc : cleanB (r.drop 27) = true) : encS (stepR r) = r.take 43 := by
  have h0 := (num_bd hb 5).1
  rw [stepR_eq r h0 h5]
  have hn : numsS (stepOf r) = nums r 9 := by
    unfold numsS stepOf nums
    simp [List.range_succ]
  unfold encS
  rw [hn, encN_nums hb 9 (by omega)]
  unfold cleanB at hc
  have hc := of_decide_eq_true hc
  have h1 : r.take 43 = r.take 27 ++ (r.drop 27).take 16 := by
    have := (List.take_append_drop 27 (r.take 43)).symm
    rw [List.take_take, List.drop_take] at this
    exact this
  rw [h1, ← hc]
  rfl
theorem enc_mask {r : List Int} (hb : ∀ x ∈ r, byt x) (hl : 43 ≤ r.length) (h : encS (stepR r) = r.take 43) : num r 5 ≤ 65535 := by
  have h15 : (encS (stepR r)).getD 15 0 = (r.take 43).getD 15 0 := by rw [h]
  have h0 : (r.take 43).getD 15 0 = r.getD 15 0 := by simp [List.getD_eq_getElem?_getD]
  have h1 : (encS (stepR r)).getD 15 0 = num r 5 % 65536 / 65536 % 256 := rfl
  rw [h0, h1] at h15
  have hx := byt_getD hb 16
  have hy := byt_getD hb 17
  have hz := byt_getD hb 15
  unfold byt at hx hy hz
  have e : num r 5 = 65536 * r.getD 15 0 + 256 * r.getD 16 0 + r.getD 17 0 := rfl
  omega
theorem flat_piece (l : List Stp) : ∀ (i : Nat) (s : Stp), l[i]? = some s → ((l.flatMap encS).drop (43 * i)).take 43 = encS s := by
  induction l with
  | nil => intro i s h; simp at h
  | cons x l ih =>
    intro i s h
    cases i with
    | zero =>
      simp at h
      subst h
      rw [List.flatMap_cons, Nat.mul_zero, List.drop_zero, ← encS_length x, List.take_left]
    | succ i =>
      simp at h
      rw [List.flatMap_cons, show 43 * (i + 1) = (encS x).length + 43 * i by rw [encS_length]; omega, ← List.drop_drop, List.drop_left]
      exact ih i s h
theorem okR_at {r : List Int} {k : Nat} (h : okR r k = true) {i : Nat} (hi : i < k) : 43 ≤ (r.drop (43 * i)).length ∧ cleanB ((r.drop (43 * i)).drop 27) = true := by
  unfold okR at h
  have := List.all_eq_true.1 h i (List.mem_range.2 hi)
  unfold stepOkR at this
  rw [Bool.and_eq_true, decide_eq_true_eq] at this
  exact this
theorem okN_at {r : List Int} {k : Nat} (h : okN r k = true) {i : Nat} (hi : i < k) : 43 ≤ (r.drop (43 * i)).length ∧ num (r.drop (43 * i)) 5 ≤ 65535 ∧ cleanB ((r.drop (43 * i)).drop 27) = true := by
  unfold okN at h
  have := List.all_eq_true.1 h i (List.mem_range.2 hi)
  unfold stepOk at this
  rw [Bool.and_eq_true, Bool.and_eq_true, decide_eq_true_eq, decide_eq_true_eq] at this
  exact this
theorem steps_same {r : List Int} (hb : ∀ x ∈ r, byt x) {k : Nat} (h : ∀ i, i < k → num (r.drop (43 * i)) 5 ≤ 65535) : stepsR r k = stepsN r k := by
  unfold stepsR stepsN
  refine List.map_congr_left fun i hi => ?_
  exact stepR_eq _ (num_bd (byt_drop hb _) 5).1 (h i (List.mem_range.1 hi))
theorem okR_of {r : List Int} {k : Nat} (h : okN r k = true) : okR r k = true := by
  unfold okR
  refine List.all_eq_true.2 fun i hi => ?_
  have := okN_at h (List.mem_range.1 hi)
  unfold stepOkR
  rw [decide_eq_true this.1, this.2.2]
  rfl
theorem okN_of {r : List Int} {k : Nat} (h : okR r k = true) (h5 : ∀ i, i < k → num (r.drop (43 * i)) 5 ≤ 65535) : okN r k = true := by
  unfold okN
  refine List.all_eq_true.2 fun i hi => ?_
  have h1 := okR_at h (List.mem_range.1 hi)
  have h2 := h5 i (List.mem_range.1 hi)
  unfold stepOk
  rw [decide_eq_true h1.1, decide_eq_true h2, h1.2]
  rfl
theorem enc_steps {r : List Int} (hb : ∀ x ∈ r, byt x) : ∀ k : Nat, okN r k = true → (stepsR r k).flatMap encS = r.take (43 * k)
  | 0, _ => by simp [stepsR]
  | k + 1, h => by
    have h1 := okN_at h (Nat.lt_succ_self k)
    have h0 : okN r k = true := by
      rw [okN_succ, Bool.and_eq_true] at h
      exact h.1
    rw [stepsR_succ, List.flatMap_append, enc_steps hb k h0]
    have h2 : r.take (43 * (k + 1)) = r.take (43 * k) ++ (r.drop (43 * k)).take 43 := by
      have := (List.take_append_drop (43 * k) (r.take (43 * (k + 1)))).symm
      rw [List.take_take, List.drop_take, show min (43 * k) (43 * (k + 1)) = 43 * k by omega, show 43 * (k + 1) - 43 * k = 43 by omega] at this
      exact this
    rw [h2]
    simp [enc_step (byt_drop hb _) h1.1 h1.2.1 h1.2.2]
theorem many_num {b : List Int} (hb : ∀ x ∈ b, byt x) : ((many b : Nat) : Int) = num b 5 := by
  have := (num_bd hb 5).1
  unfold many
  omega
theorem head_enc {b : List Int} (hb : ∀ x ∈ b, byt x) (hl : 18 ≤ b.length) : encN (headS (cfgOf b) (many b)) = b.take 18 := by
  have h : headS (cfgOf b) (many b) = nums b 6 := by
    unfold headS cfgOf nums
    rw [many_num hb]
    simp [List.range_succ]
  rw [h, encN_nums hb 6 (by omega)]
theorem law_yes {b : List Int} (hb : ∀ x ∈ b, byt x) (h : readB b = true) : manyR b = many b ∧ okR (b.drop 18) (many b) = true ∧ stepsR (b.drop 18) (many b) = stepsN (b.drop 18) (many b) ∧ scriptB (cfgOf b) (stepsR (b.drop 18) (many b)) = true ∧ encL (cfgOf b) (stepsR (b.drop 18) (many b)) = b := by
  unfold readB at h
  rw [Bool.and_eq_true, Bool.and_eq_true, Bool.and_eq_true, Bool.and_eq_true, decide_eq_true_eq, decide_eq_true_eq, decide_eq_true_eq] at h
  obtain ⟨h18, h500, hok, hlen, hs⟩ := h
  have he := steps_same (byt_drop hb 18) (k := many b) (fun i hi => (okN_at hok hi).2.1)
  refine ⟨by unfold manyR; omega, okR_of hok, he, by rw [he]; exact hs, ?_⟩
  unfold encL
  rw [stepsR_length, head_enc hb h18, enc_steps (byt_drop hb 18) _ hok]
  have : (b.drop 18).take (43 * many b) = b.drop 18 := List.take_of_length_le (by rw [List.length_drop]; omega)
  rw [this, List.take_append_drop]
theorem law_back {b : List Int} (hb : ∀ x ∈ b, byt x) (h18 : 18 ≤ b.length) (hok : okR (b.drop 18) (manyR b) = true) (hs : scriptB (cfgOf b) (stepsR (b.drop 18) (manyR b)) = true) (he : encL (cfgOf b) (stepsR (b.drop 18) (manyR b)) = b) : readB b = true := by
  have hs1 := hs
  unfold scriptB at hs1
  rw [Bool.and_eq_true, decide_eq_true_eq, stepsR_length] at hs1
  have hm : manyR b = many b := by
    have := hs1.1
    unfold manyR at this ⊢
    omega
  rw [hm] at hok hs he hs1
  have hlen : b.length = 18 + 43 * many b := by
    have := congrArg List.length he
    rw [encL_length, stepsR_length] at this
    exact this.symm
  have hd : (stepsR (b.drop 18) (many b)).flatMap encS = b.drop 18 := by
    have h2 : (encN (headS (cfgOf b) (stepsR (b.drop 18) (many b)).length)).length = 18 := encN_length _
    have h1 := congrArg (List.drop 18) he
    unfold encL at h1
    rw [List.drop_left' h2] at h1
    exact h1
  have h5 : ∀ i, i < many b → num ((b.drop 18).drop (43 * i)) 5 ≤ 65535 := by
    intro i hi
    have h1 := okR_at hok hi
    refine enc_mask (byt_drop (byt_drop hb 18) _) h1.1 ?_
    have h2 := flat_piece (stepsR (b.drop 18) (many b)) i (stepR ((b.drop 18).drop (43 * i))) (by simp [stepsR, hi])
    rw [hd] at h2
    exact h2.symm
  have hN := okN_of hok h5
  have hst := steps_same (byt_drop hb 18) h5
  rw [hst] at hs
  unfold readB
  rw [decide_eq_true h18, decide_eq_true hs1.1, hN, decide_eq_true hlen, hs]
  rfl
end Go.Proofs.YtpgjilakcepilaaGreat.PV
