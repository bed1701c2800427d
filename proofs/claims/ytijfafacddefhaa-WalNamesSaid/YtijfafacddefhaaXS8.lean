/- The short run is sound over the model: a part of the proof. -/
import Derived.Test.YtijfafacddefhaaXS7
namespace Go.Proofs.Ytijfafacddefhaa.Ab
open Go.RowKit

section
variable {B0 : Nat} {w0 : World} {σ : Inj} {s : St} {w : World}
/-- a slice's array grown in place: its block is named anew -/
theorem Inv.regrow (hI : Inv B0 w0 σ s w) {b : Nat} {l : Loc} (hb : σ b = some l) {cs : List Value} {es : Nat} (hg : s.heap.get b = some (.cells cs es true))
    {X : AObj} {o d x' : Nat} (hX : X = .dead ∨ (X = .cells cs es false ∧ o = cs.length)) {new new' : List Value} (hn : LRel σ new new')
    (hd : o + d ≤ cs.length) (htot : o + (d + new.length) + x' * es = cs.length + l.x * es) :
    Inv B0 w0 (σ.add s.next ⟨l.blk, l.off + o, x'⟩) ((s.put b X).push (.cells ((cs.drop o).take d ++ new) es true)) (w.setCells l.blk (l.off + o + d) new') := by
  have hbn := (hI.dom b l hb).1
  have hlen := hn.length
  have hle := Inj.add_le (l := ⟨l.blk, l.off + o, x'⟩) hI.fresh
  have hK : ((cs.drop o).take d ++ new).length = d + new.length := by simp; omega
  have hroomb := hI.room b l cs es true hb hg
  have htotb : tot cs es true l.x = cs.length + l.x * es := rfl
  have hcin : ∀ i, i < new'.length → (w.cell? ⟨l.blk, l.off + o + d + i, none⟩).isSome = true := fun i hi => by
    have := (hroomb (o + d + i) (by rw [htotb]; omega)).1
    rwa [show l.off + o + d + i = l.off + (o + d + i) by omega]
  -- what is known of the other blocks
  have get' : ∀ b1 cs1 es1 sp1, ((s.put b X).push (.cells ((cs.drop o).take d ++ new) es true)).heap.get b1 = some (.cells cs1 es1 sp1) → b1 ≠ s.next →
      (b1 ≠ b ∧ s.heap.get b1 = some (.cells cs1 es1 sp1)) ∨ (b1 = b ∧ cs1 = cs ∧ es1 = es ∧ sp1 = false ∧ o = cs.length) := by
    intro b1 cs1 es1 sp1 h1 hne
    rw [get_push] at h1
    have : (s.put b X).next = s.next := rfl
    rw [this, if_neg hne, get_put] at h1
    split at h1
    · rename_i e
      rcases hX with rfl | ⟨rfl, ho⟩
      · cases h1
      · cases h1; exact .inr ⟨e, rfl, rfl, rfl, ho⟩
    · rename_i e; exact .inl ⟨e, h1⟩
  have getm : ∀ b1 es1 ck, ((s.put b X).push (.cells ((cs.drop o).take d ++ new) es true)).heap.get b1 = some (.map es1 ck) → s.heap.get b1 = some (.map es1 ck) := by
    intro b1 es1 ck h1
    rw [get_push] at h1
    split at h1
    · cases h1
    · rw [get_put] at h1
      split at h1
      · rcases hX with rfl | ⟨rfl, _⟩ <;> cases h1
      · exact h1
  have getn : ((s.put b X).push (.cells ((cs.drop o).take d ++ new) es true)).heap.get s.next = some (.cells ((cs.drop o).take d ++ new) es true) := by
    rw [get_push]
    exact if_pos rfl
  have σcases : ∀ b1 l1, σ.add s.next ⟨l.blk, l.off + o, x'⟩ b1 = some l1 → (b1 = s.next ∧ l1 = ⟨l.blk, l.off + o, x'⟩) ∨ (b1 ≠ s.next ∧ σ b1 = some l1) := by
    intro b1 l1 h1
    by_cases h : b1 = s.next
    · subst h; rw [Inj.add_same] at h1; cases h1; exact .inl ⟨rfl, rfl⟩
    · rw [Inj.add_other h] at h1; exact .inr ⟨h, h1⟩
  -- an old block's cell lies apart from what b has from o on
  have far : ∀ b1 l1 cs1 es1 sp1, σ b1 = some l1 → ((b1 ≠ b ∧ s.heap.get b1 = some (.cells cs1 es1 sp1)) ∨ (b1 = b ∧ cs1 = cs ∧ es1 = es ∧ sp1 = false ∧ o = cs.length)) →
      ∀ i, i < tot cs1 es1 sp1 l1.x → l1.blk = l.blk → ∀ j, o ≤ j → j < cs.length + l.x * es → l1.off + i ≠ l.off + j := by
    intro b1 l1 cs1 es1 sp1 h1 hc i hi hblk j hj1 hj2
    rcases hc with ⟨hne, hg1⟩ | ⟨rfl, rfl, rfl, rfl, ho⟩
    · exact hI.apart b1 b l1 l cs1 es1 sp1 cs es true hne h1 hb hg1 hg i j hi (by rw [htotb]; exact hj2) hblk
    · rw [hb] at h1; cases h1
      have : tot cs1 es1 false l.x = cs1.length := by simp [tot]
      omega
  have room' : ∀ b1 l1 cs1 es1 sp1, σ b1 = some l1 → ((b1 ≠ b ∧ s.heap.get b1 = some (.cells cs1 es1 sp1)) ∨ (b1 = b ∧ cs1 = cs ∧ es1 = es ∧ sp1 = false ∧ o = cs.length)) →
      ∀ i, i < tot cs1 es1 sp1 l1.x → (w.cell? ⟨l1.blk, l1.off + i, none⟩).isSome = true ∧ w.frozen? ⟨l1.blk, l1.off + i, none⟩ = false := by
    intro b1 l1 cs1 es1 sp1 h1 hc i hi
    rcases hc with ⟨hne, hg1⟩ | ⟨rfl, rfl, rfl, rfl, ho⟩
    · exact hI.room b1 l1 cs1 es1 sp1 h1 hg1 i hi
    · rw [hb] at h1; cases h1
      have : tot cs1 es1 false l.x = cs1.length := by simp [tot]
      exact hroomb i (by rw [htotb]; omega)
  have cells' : ∀ b1 l1 cs1 es1 sp1, σ b1 = some l1 → ((b1 ≠ b ∧ s.heap.get b1 = some (.cells cs1 es1 sp1)) ∨ (b1 = b ∧ cs1 = cs ∧ es1 = es ∧ sp1 = false ∧ o = cs.length)) →
      ∀ i v, cs1[i]? = some v → ∃ v', w.cell? ⟨l1.blk, l1.off + i, none⟩ = some v' ∧ VRel σ v v' := by
    intro b1 l1 cs1 es1 sp1 h1 hc i v hv
    rcases hc with ⟨hne, hg1⟩ | ⟨rfl, rfl, rfl, rfl, ho⟩
    · exact hI.cells b1 l1 cs1 es1 sp1 h1 hg1 i v hv
    · exact hI.cells _ l1 cs1 es1 true h1 hg i v hv
  have same : ∀ b1 l1 cs1 es1 sp1, σ b1 = some l1 → ((b1 ≠ b ∧ s.heap.get b1 = some (.cells cs1 es1 sp1)) ∨ (b1 = b ∧ cs1 = cs ∧ es1 = es ∧ sp1 = false ∧ o = cs.length)) →
      ∀ i, i < tot cs1 es1 sp1 l1.x → (w.setCells l.blk (l.off + o + d) new').cell? ⟨l1.blk, l1.off + i, none⟩ = w.cell? ⟨l1.blk, l1.off + i, none⟩ := by
    intro b1 l1 cs1 es1 sp1 h1 hc i hi
    refine cell_setCells_out new' _ fun hblk _ j hj => ?_
    have := far b1 l1 cs1 es1 sp1 h1 hc i hi hblk (o + d + j) (by omega) (by omega)
    simp only
    omega
  refine ⟨below_setCells (hI.dom b l hb).2.1 _ _ hI.below, by rw [size_setCells]; exact hI.base, fun b1 l1 hb1 => ?_, fun b1 l1 cs1 es1 sp1 hb1 hg1 i v hv => ?_, fun b1 l1 cs1 es1 sp1 hb1 hg1 i hi => ?_, fun b1 b2 l1 l2 cs1 es1 sp1 cs2 es2 sp2 hne hb1 hb2 hg1 hg2 i i' hi hi' hblk => ?_, fun b1 l1 es1 ck hb1 hg1 => ?_, fun b1 b2 l1 l2 es1 ck es2 ck2 hne hb1 hb2 hg1 hg2 => ?_⟩
  · rw [size_setCells]
    rcases σcases b1 l1 hb1 with ⟨rfl, rfl⟩ | ⟨_, h⟩
    · exact ⟨Nat.lt_succ_self _, (hI.dom b l hb).2⟩
    · have := hI.dom b1 l1 h; exact ⟨Nat.lt_succ_of_lt this.1, this.2⟩
  · rcases σcases b1 l1 hb1 with ⟨rfl, rfl⟩ | ⟨hne, h⟩
    · rw [getn] at hg1; cases hg1
      have hi : i < d + new.length := by rw [← hK]; exact (List.getElem?_eq_some_iff.1 hv).1
      rw [List.getElem?_append] at hv
      have hk1 : ((cs.drop o).take d).length = d := by simp; omega
      rw [hk1] at hv
      split at hv
      · rename_i hid
        rw [List.getElem?_take, if_pos hid, List.getElem?_drop] at hv
        obtain ⟨v', hc, hr⟩ := hI.cells b l cs es true hb hg (o + i) v hv
        refine ⟨v', ?_, hr.mono hle⟩
        rw [cell_setCells_out]
        · simp only; rw [show l.off + o + i = l.off + (o + i) by omega]; exact hc
        · intro _ _ j hj; simp only; omega
      · rename_i hid
        obtain ⟨v', hv', hr⟩ := hn.get _ _ hv
        refine ⟨v', ?_, hr.mono hle⟩
        have := World.cell?_setCells_in l.blk new' (l.off + o + d) w hcin (i - d) (by omega)
        obtain ⟨_, e⟩ := List.getElem?_eq_some_iff.1 hv'
        simp only
        rw [show l.off + o + i = l.off + o + d + (i - d) by omega, this, e]
    · have hc := get' _ _ _ _ hg1 hne
      obtain ⟨v', h1, h2⟩ := cells' b1 l1 cs1 es1 sp1 h hc i v hv
      have hi : i < cs1.length := (List.getElem?_eq_some_iff.1 hv).1
      exact ⟨v', by rw [same b1 l1 cs1 es1 sp1 h hc i (by unfold tot; omega)]; exact h1, h2.mono hle⟩
  · rw [World.frozen?_setCells]
    rcases σcases b1 l1 hb1 with ⟨rfl, rfl⟩ | ⟨hne, h⟩
    · rw [getn] at hg1; cases hg1
      have hi2 : i < d + new.length + x' * es := by
        have : tot ((cs.drop o).take d ++ new) es true x' = d + new.length + x' * es := by simp only [tot, hK, cond_true]
        rwa [← this]
      have hr := hroomb (o + i) (by rw [htotb]; omega)
      simp only
      rw [show l.off + o + i = l.off + (o + i) by omega]
      refine ⟨?_, hr.2⟩
      by_cases hin : d ≤ i ∧ i < d + new'.length
      · have := World.cell?_setCells_in l.blk new' (l.off + o + d) w hcin (i - d) (by omega)
        rw [show l.off + (o + i) = l.off + o + d + (i - d) by omega, this]
        rfl
      · rw [cell_setCells_out]
        · exact hr.1
        · intro _ _ j hj; simp only; omega
    · have hc := get' _ _ _ _ hg1 hne
      have hr := room' b1 l1 cs1 es1 sp1 h hc i hi
      exact ⟨by rw [same b1 l1 cs1 es1 sp1 h hc i hi]; exact hr.1, hr.2⟩
  · rcases σcases b1 l1 hb1 with ⟨rfl, rfl⟩ | ⟨hne1, h1⟩
    · rcases σcases b2 l2 hb2 with ⟨rfl, rfl⟩ | ⟨hne2, h2⟩
      · exact absurd rfl hne
      · rw [getn] at hg1; cases hg1
        have hi2 : i < d + new.length + x' * es := by
          have : tot ((cs.drop o).take d ++ new) es true x' = d + new.length + x' * es := by simp only [tot, hK, cond_true]
          rwa [← this]
        have := far b2 l2 cs2 es2 sp2 h2 (get' _ _ _ _ hg2 hne2) i' hi' hblk.symm (o + i) (by omega) (by omega)
        simp only
        omega
    · rcases σcases b2 l2 hb2 with ⟨rfl, rfl⟩ | ⟨hne2, h2⟩
      · rw [getn] at hg2; cases hg2
        have hi2 : i' < d + new.length + x' * es := by
          have : tot ((cs.drop o).take d ++ new) es true x' = d + new.length + x' * es := by simp only [tot, hK, cond_true]
          rwa [← this]
        have := far b1 l1 cs1 es1 sp1 h1 (get' _ _ _ _ hg1 hne1) i hi hblk (o + i') (by omega) (by omega)
        simp only
        omega
      · have hc1 := get' _ _ _ _ hg1 hne1
        have hc2 := get' _ _ _ _ hg2 hne2
        rcases hc1 with ⟨n1, g1⟩ | ⟨rfl, rfl, rfl, rfl, ho⟩
        · rcases hc2 with ⟨n2, g2⟩ | ⟨rfl, rfl, rfl, rfl, ho⟩
          · exact hI.apart b1 b2 l1 l2 cs1 es1 sp1 cs2 es2 sp2 hne h1 h2 g1 g2 i i' hi hi' hblk
          · have ht : tot cs2 es2 false l2.x ≤ tot cs2 es2 true l2.x := by simp [tot]
            exact hI.apart b1 b2 l1 l2 cs1 es1 sp1 cs2 es2 true hne h1 h2 g1 hg i i' hi (by omega) hblk
        · rcases hc2 with ⟨n2, g2⟩ | ⟨rfl, _⟩
          · have ht : tot cs1 es1 false l1.x ≤ tot cs1 es1 true l1.x := by simp [tot]
            exact hI.apart b1 b2 l1 l2 cs1 es1 true cs2 es2 sp2 hne h1 h2 hg g2 i i' (by omega) hi' hblk
          · exact absurd rfl hne
  · rcases σcases b1 l1 hb1 with ⟨rfl, rfl⟩ | ⟨hne, h⟩
    · rw [getn] at hg1; cases hg1
    · obtain ⟨es', he, hm⟩ := hI.maps b1 l1 es1 ck h (getm _ _ _ hg1)
      refine ⟨es', ?_, hm.mono hle⟩
      by_cases hvs : new' = []
      · subst hvs; exact he
      · have hpos : 0 < new'.length := List.length_pos_iff.2 hvs
        rw [heap_setCells]
        · exact he
        · intro e
          have hcell := hcin 0 hpos
          simp only [World.cell?, ← e, he] at hcell
          cases hcell
  · rcases σcases b1 l1 hb1 with ⟨rfl, rfl⟩ | ⟨hne1, h1⟩
    · rw [getn] at hg1; cases hg1
    · rcases σcases b2 l2 hb2 with ⟨rfl, rfl⟩ | ⟨hne2, h2⟩
      · rw [getn] at hg2; cases hg2
      · exact hI.mapart b1 b2 l1 l2 es1 ck es2 ck2 hne h1 h2 (getm _ _ _ hg1) (getm _ _ _ hg2)
end
end Go.Proofs.Ytijfafacddefhaa.Ab
