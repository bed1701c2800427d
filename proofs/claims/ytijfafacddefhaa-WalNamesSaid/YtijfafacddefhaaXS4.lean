/- The short run is sound over the model: a part of the proof. -/
import Derived.Test.YtijfafacddefhaaXS3
namespace Go.Proofs.Ytijfafacddefhaa.Ab

theorem fmod_eq (n : Int) {m : Nat} (h : 0 < m) : ((fmod n m : Nat) : Int) = n % (m : Int) := by
  cases n with
  | ofNat a => simp [fmod]
  | negSucc a =>
    have h1 := Int.negSucc_emod a (b := (m : Int)) (by omega)
    have h2 : a % m < m := Nat.mod_lt _ h
    rw [h1]
    simp only [fmod]
    omega
theorem fmod_lt (n : Int) {m : Nat} (h : 0 < m) : fmod n m < m := by
  have h1 := fmod_eq n h
  have h2 := Int.emod_lt_of_pos n (b := (m : Int)) (by omega)
  omega
theorem modulus_pos (k : IntKind) : 0 < modulus k := by cases k <;> decide
theorem modulus_pow (k : IntKind) : modulus k = 2 ^ k.bits := by cases k <;> decide
theorem fwrapR_eq (sg : Bool) (m r : Nat) (h : r < m) : fwrapR sg m r = if (sg = true ∧ m ≤ 2 * r) then (r : Int) - m else r := by
  unfold fwrapR
  cases sg with
  | false => simp
  | true =>
    cases hb : Nat.ble m (2 * r) with
    | true =>
      have : m ≤ 2 * r := Nat.le_of_ble_eq_true hb
      simp [this]
      omega
    | false =>
      have : ¬ m ≤ 2 * r := fun hl => by rw [Nat.ble_eq_true_of_le hl] at hb; cases hb
      simp [this]
theorem pow_bits (k : IntKind) : ((2 : Int) ^ k.bits) = (modulus k : Int) ∧ (2 : Int) ^ (k.bits - 1) * 2 = (modulus k : Int) ∧ (signedK k) = k.signed := by cases k <;> decide
theorem fwrap_eq (k : IntKind) (n : Int) : fwrap k n = k.wrap n := by
  unfold fwrap IntKind.wrap
  obtain ⟨h1, h2, h3⟩ := pow_bits k
  have h4 := fmod_eq n (modulus_pos k)
  rw [fwrapR_eq _ _ _ (fmod_lt n (modulus_pos k)), h3]
  simp only [h1]
  generalize hh : (2 : Int) ^ (k.bits - 1) = half at *
  rw [← h4]
  cases k.signed with
  | false => simp
  | true =>
    simp only [true_and, Bool.true_and, ge_iff_le, decide_eq_true_eq]
    by_cases hc : modulus k ≤ 2 * fmod n (modulus k)
    · rw [if_pos hc, if_pos (by omega)]
    · rw [if_neg hc, if_neg (by omega)]
theorem ieq_eq (a b : Int) : ieq a b = (a == b) := by
  cases a <;> cases b <;> simp only [ieq]
  · rename_i a b
    rw [Bool.eq_iff_iff]; simp; omega
  · simp
  · simp
  · rename_i a b
    rw [Bool.eq_iff_iff]; simp
theorem ilt_eq (a b : Int) : ilt a b = decide (a < b) := by
  cases a <;> cases b <;> simp only [ilt]
  · rename_i a b
    rw [Bool.eq_iff_iff]; simp [Nat.ble_eq]; omega
  · simp; omega
  · simp; omega
  · rename_i a b
    rw [Bool.eq_iff_iff]; simp [Nat.ble_eq]; omega
theorem keq_eq {j k : IntKind} (h : keq j k = true) : j = k := by cases j <;> cases k <;> first | rfl | cases h
theorem bv_toNat (k : IntKind) (a : Int) : (BitVec.ofInt k.bits a).toNat = fmod a (modulus k) := by
  have h := fmod_eq a (modulus_pos k)
  rw [BitVec.toNat_ofInt]
  have hp : ((2 ^ k.bits : Nat) : Int) = (modulus k : Int) := by rw [modulus_pow]
  rw [hp, ← h]
  rfl
theorem shrI_eq (x : Int) (n : Nat) : shrI x n = x.fdiv (2 ^ n) := by
  have hp : (2 : Int) ^ n = ((2 ^ n : Nat) : Int) := by simp
  rw [hp]
  cases x with
  | ofNat a =>
    simp only [shrI]
    rw [Int.fdiv_eq_ediv_of_nonneg _ (Int.natCast_nonneg _)]
    rfl
  | negSucc a =>
    simp only [shrI]
    rw [Int.fdiv_eq_ediv_of_nonneg _ (Int.natCast_nonneg _)]
    have hpos : 0 < 2 ^ n := Nat.two_pow_pos n
    rw [Int.negSucc_ediv _ (Int.natCast_pos.2 hpos)]
    rfl

section
variable {P : Program}
theorem binOp_int (op : BinOp) (t : TypeId) (k : IntKind) (a b : Int) (hs : isShift op = false) :
    binOp op t (.int k a) (.int k b) = (match op with
      | .add | .sub | .mul => Op.intArith op k a b
      | .quo | .rem => Op.intDiv op k a b
      | .and | .or | .xor | .andNot => Op.intBits op k a b
      | _ => Op.intCmp op a b) := by
  cases op <;> first | (simp [isShift] at hs; done) | simp [binOp]
theorem aInt_sound {op : BinOp} {k : IntKind} {a b : Int} {v : Value} (hs : isShift op = false) (h : aInt op k a b = some v) (t : TypeId) (w : World) :
    (binOp op t (.int k a) (.int k b)).run P w = .ok v w ∧ plain1 v = true := by
  rw [binOp_int op t k a b hs]
  cases op <;> simp only [aInt] at h
  case add => cases h; simp [Op.intArith, fwrap_eq, plain1]
  case sub => cases h; simp [Op.intArith, fwrap_eq, plain1]
  case mul => cases h; simp [Op.intArith, fwrap_eq, plain1]
  case quo =>
    unfold iQuo at h
    cases hb : ieq b 0 with
    | true => rw [hb] at h; cases h
    | false =>
      rw [hb] at h
      cases h
      rw [ieq_eq] at hb
      have : b ≠ 0 := by simpa using hb
      simp [Op.intDiv, this, fwrap_eq, plain1]
  case rem =>
    unfold iRem at h
    cases hb : ieq b 0 with
    | true => rw [hb] at h; cases h
    | false =>
      rw [hb] at h
      cases h
      rw [ieq_eq] at hb
      have : b ≠ 0 := by simpa using hb
      simp [Op.intDiv, this, plain1]
  case and =>
    cases h
    refine ⟨?_, rfl⟩
    simp only [Op.intBits, Sem.run_pure, fwrap_eq]
    rw [BitVec.toNat_and, bv_toNat, bv_toNat]
    rfl
  case or =>
    cases h
    refine ⟨?_, rfl⟩
    simp only [Op.intBits, Sem.run_pure, fwrap_eq]
    rw [BitVec.toNat_or, bv_toNat, bv_toNat]
    rfl
  case xor =>
    cases h
    refine ⟨?_, rfl⟩
    simp only [Op.intBits, Sem.run_pure, fwrap_eq]
    rw [BitVec.toNat_xor, bv_toNat, bv_toNat]
    rfl
  case andNot =>
    cases h
    refine ⟨?_, rfl⟩
    simp only [Op.intBits, Sem.run_pure, fwrap_eq]
    rw [BitVec.toNat_and, BitVec.toNat_not, bv_toNat, bv_toNat, ← modulus_pow]
    rfl
  case shl => simp [isShift] at hs
  case shr => simp [isShift] at hs
  all_goals
    cases h
    refine ⟨?_, rfl⟩
    simp only [Op.intCmp, Sem.run_pure, ieq_eq, ilt_eq]
    try rfl
  · have : (!decide (b < a)) = decide (a ≤ b) := by rw [Bool.eq_iff_iff]; simp
    rw [this]
  · have : (!decide (a < b)) = decide (a ≥ b) := by rw [Bool.eq_iff_iff]; simp
    rw [this]
theorem natmin (a b : Nat) : Nat.min a b = min a b := rfl
theorem bitsK_eq (k : IntKind) : bitsK k = k.bits := by cases k <;> rfl
theorem aShift_sound {op : BinOp} {k k' : IntKind} {a b : Int} {v : Value} (hs : isShift op = true) (h : aInt op k a b = some v) (t : TypeId) (w : World) :
    (binOp op t (.int k a) (.int k' b)).run P w = .ok v w ∧ plain1 v = true := by
  cases op <;> simp [isShift] at hs
  all_goals
    simp only [aInt, iShl, iShr, shiftBy] at h
    split at h
    · cases h
    · cases h
      refine ⟨?_, rfl⟩
      have hn : ∀ n : Nat, ¬ ((n : Int) < 0) := fun n => by omega
      simp [binOp, Op.shift, natmin, bitsK_eq, fwrap_eq, shrI_eq, hn]
end
end Go.Proofs.Ytijfafacddefhaa.Ab
