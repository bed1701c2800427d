/- The short run is sound over the model: a part of the proof. -/
import Derived.Test.YtijfafacddefhaaXS12
namespace Go.Proofs.Ytijfafacddefhaa.Ab
theorem negM_eq (a : Int) {m : Nat} (h : 0 < m) : negM a m = fmod (0 - a) m := by
  have h1 := fmod_eq (0 - a) h
  have h2 : ((negM a m : Nat) : Int) = (0 - a) % (m : Int) := by
    cases a with
    | ofNat a =>
      simp only [negM]
      have hlt : a % m < m := Nat.mod_lt _ h
      rw [Int.natCast_emod, Int.ofNat_sub (Nat.le_of_lt hlt), Int.natCast_emod]
      simp only [Int.zero_sub, Int.ofNat_eq_natCast]
      rw [Int.sub_emod, Int.emod_self, Int.emod_emod, ← Int.zero_emod (m : Int), ← Int.sub_emod, Int.zero_sub]
    | negSucc a => simp [negM, Int.neg_negSucc]
  rw [← h1] at h2
  exact Int.ofNat.inj h2
theorem aUn_sound {P : Program} {op : UnOp} {s : St} {u : Value} {r : AR} (h : aUn op s u = some r) (w : World) :
    ∃ v, r = .val v s ∧ plain1 v = true ∧ plain1 u = true ∧ (Op.unary op u).run P w = .ok v w := by
  have other : ∀ {x : Sem Value} {r : AR}, pureV s x = some r → ∃ v, r = .val v s ∧ plain1 v = true ∧ x.run P w = .ok v w := fun h => by
    obtain ⟨v, h1, h2, h3⟩ := pure_sound h w
    exact ⟨v, h1, h2, h3 P⟩
  unfold aUn at h
  split at h
  · rename_i k a
    unfold unInt at h
    split at h
    · cases h
      refine ⟨_, rfl, rfl, rfl, ?_⟩
      rw [negM_eq a (modulus_pos k)]
      have : fwrapR (signedK k) (modulus k) (fmod (0 - a) (modulus k)) = k.wrap (0 - a) := fwrap_eq k (0 - a)
      rw [this]
      simp [Op.unary, Op.intArith]
    · obtain ⟨v, h1, h2, h3⟩ := other h
      exact ⟨v, h1, h2, rfl, h3⟩
  · obtain ⟨hp, h⟩ := cond_some h
    obtain ⟨v, h1, h2, h3⟩ := other h
    exact ⟨v, h1, h2, hp, h3⟩
end Go.Proofs.Ytijfafacddefhaa.Ab
