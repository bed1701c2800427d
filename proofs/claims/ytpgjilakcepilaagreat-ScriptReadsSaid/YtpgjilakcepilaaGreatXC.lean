/- The short run is sound over the model, second part: each operation; no condition. -/
import Derived.Test.YtpgjilakcepilaaGreatXB
import Derived.Laws.StructEq
import Derived.Laws.BytesString
namespace Go.Proofs.YtpgjilakcepilaaGreat.Ab
open Go.RowKit
set_option linter.unusedSectionVars false
variable [Tok]

def ValOk (B0 : Nat) (w0 : World) (σ : Inj) (s : St) (run : Result Value) (v : Value) (s' : St) : Prop :=
  ∃ σ' w' v', Ext s.next σ σ' ∧ s.next ≤ s'.next ∧ Inv B0 w0 σ' s' w' ∧ VRel σ' v v' ∧ run = .ok v' w'

theorem growBy_le (newLen : Nat) : ∀ (r c : Nat), Builtin.growBy newLen r c ≤ max c (newLen + (newLen + 768) / 4)
  | 0, c => by simp [Builtin.growBy]; omega
  | r + 1, c => by
    simp only [Builtin.growBy]
    split
    · omega
    · have := growBy_le newLen r (c + (c + 768) / 4)
      omega
theorem nextcap_le {need cap : Nat} (h : cap < need) : Builtin.nextslicecap need cap ≤ 4 * need + 1000 := by
  unfold Builtin.nextslicecap
  split
  · omega
  · split
    · omega
    · have := growBy_le need 4 cap
      omega

theorem repL_length (z : List Value) : ∀ n, (repL z n).length = n * z.length
  | 0 => by simp [repL]
  | n + 1 => by simp [repL, repL_length z n, Nat.succ_mul]; omega
theorem repL_get (z : List Value) (hz : 0 < z.length) : ∀ (n i : Nat), i < n * z.length → (repL z n)[i]? = z[i % z.length]?
  | 0, i, h => by omega
  | n + 1, i, h => by
    simp only [repL]
    rw [List.getElem?_append]
    split
    · rw [Nat.mod_eq_of_lt (by assumption)]
    · rename_i hge
      rw [repL_get z hz n (i - z.length) (by rw [Nat.succ_mul] at h; omega)]
      congr 1
      exact (Nat.mod_eq_sub_mod (by omega)).symm
theorem zeroCells_eq (z : Array Value) (n : Nat) (hz : 0 < z.size) : Builtin.zeroCells z n = (repL z.toList n).toArray := by
  apply Array.ext_getElem?
  intro i
  simp only [Builtin.zeroCells, List.getElem?_toArray]
  by_cases hi : i < n * z.size
  · rw [repL_get z.toList (by simpa using hz) n i (by simpa using hi)]
    have hm : i % z.size < z.size := Nat.mod_lt _ hz
    simp [hi, hm]
  · rw [Array.getElem?_eq_none (by simp; omega), List.getElem?_eq_none (by rw [repL_length]; simp; omega)]
theorem rangeZero_eq (z : Array Value) (n : Nat) (hz : 0 < z.size) : (Array.range (n * z.size)).map (fun i => z[i % z.size]!) = (repL z.toList n).toArray := zeroCells_eq z n hz
theorem repL_rel {σ : Inj} {z z' : List Value} (h : LRel σ z z') : ∀ n, LRel σ (repL z n) (repL z' n)
  | 0 => .nil
  | n + 1 => h.append (repL_rel h n)

section
variable {P : Program}
theorem append_fit {w w' : World} {ts : Array TypeId} {ty t u el : TypeId} {i : TypeInfo} {ud : TypeDesc} {args : Array Value} {base' : Option Addr} {sLen cap' n : Nat} {x' : Value} {new' : List Value}
    (h0 : ts[0]? = some t) (h1 : ts[1]? = some u) (a0 : args[0]? = some (.slice base' sLen cap')) (a1 : args[1]? = some x') (ht : P.underlying t = some (.slice el)) (hu : P.underlying u = some ud) (hi : P.info? el = some i)
    (hne : ∀ k, ud ≠ .int k) (hn : (Builtin.lenOf x').run P w = .ok n w) (hfit : sLen + n ≤ cap') (hnew : (Builtin.firstCells i.size n x').run P w = .ok new'.toArray w)
    (hst : ∀ a, base' = some a → (storeCells (a.add (sLen * i.size)) new').run P w = .ok () w') (hw : base' = none → w' = w) :
    (Builtin.append_ ts ty args).run P w = .ok (.slice base' (sLen + n) cap') w' := by
  cases base' with
  | none =>
    rw [hw rfl]
    simp [Builtin.append_, h0, h1, a0, a1, run_underlying ht, run_underlying hu, sizeOf, typeInfo, hi, hn, hfit, hnew]
  | some a =>
    have := hst a rfl
    simp [Builtin.append_, h0, h1, a0, a1, run_underlying ht, run_underlying hu, sizeOf, typeInfo, hi, hn, hfit, hnew, this]
theorem append_fit0 {w w' : World} {ts : Array TypeId} {ty t u el : TypeId} {i : TypeInfo} {k : IntKind} {z : Value} {args : Array Value} {base' : Option Addr} {sLen cap' n : Nat} {k' : IntKind}
    (h0 : ts[0]? = some t) (h1 : ts[1]? = some u) (a0 : args[0]? = some (.slice base' sLen cap')) (a1 : args[1]? = some (.int k' (n : Int))) (ht : P.underlying t = some (.slice el)) (hu : P.underlying u = some (.int k)) (hi : P.info? el = some i)
    (hz : i.zero = some z) (hzs : z.cells.size = i.size) (hs : 1 ≤ i.size) (hn : n ≤ 1048576) (hb : n * i.bytes ≤ 140737488355328) (hfit : sLen + n ≤ cap')
    (hst : ∀ a, base' = some a → (storeCells (a.add (sLen * i.size)) (repL z.cells.toList n)).run P w = .ok () w') (hw : base' = none → w' = w) :
    (Builtin.append_ ts ty args).run P w = .ok (.slice base' (sLen + n) cap') w' := by
  have hwrap : IntKind.i64.wrap (n : Int) = n := by rw [← fwrap_eq]; unfold fwrap; rw [fwrapR_eq _ _ _ (fmod_lt _ (modulus_pos _))]; simp [signedK, fmod, modulus]; omega
  have h2 : ¬ ((n : Int) * (i.bytes : Int) > 2 ^ 48) := by
    have : ((n * i.bytes : Nat) : Int) ≤ 140737488355328 := by omega
    rw [Int.natCast_mul] at this
    omega
  have h3 : ¬ ((n : Int) < 0) := by omega
  have h2' : ¬ (281474976710656 < (n : Int) * (i.bytes : Int)) := by omega
  have hzv : ∀ w : World, (zeroValue el).run P w = .ok z w := fun w => by simp [zeroValue, typeInfo, hi, hz]
  have hzc := zeroCells_eq z.cells n (by omega)
  cases base' with
  | none =>
    rw [hw rfl]
    simp [Builtin.append_, h0, h1, a0, a1, run_underlying ht, run_underlying hu, sizeOf, typeInfo, hi, hfit, asInt, asIntOf, hwrap, h3, h2', hzv]
  | some a =>
    have hs1 := hst a rfl
    by_cases hn0 : n = 0
    · have hs2 : (storeCells (a.add (sLen * i.size)) []).run P w = .ok () w' := by
        have e : repL z.cells.toList n = [] := by rw [hn0]; rfl
        rw [← e]; exact hs1
      simp [Builtin.append_, h0, h1, a0, a1, run_underlying ht, run_underlying hu, sizeOf, typeInfo, hi, hfit, asInt, asIntOf, hwrap, h3, h2', hs2]
      intro h; exact absurd (by rw [hn0]; simp) h
    · have hns : ¬ (n * i.size = 0) := by have : 0 < n * i.size := Nat.mul_pos (by omega) (by omega); omega
      simp [Builtin.append_, h0, h1, a0, a1, run_underlying ht, run_underlying hu, sizeOf, typeInfo, hi, hfit, asInt, asIntOf, hwrap, h3, h2', hzv, hzc, hs1]
      intro h; exact absurd h hns
theorem forced_cap {need old : Nat} {e : TypeId} : (Question.appendCap need old e).forced = false := rfl
/-- what a grown array is filled up with -/
def restOf (z : Value) (n : Nat) : List Value := repL z.cells.toList n
theorem append_grow {w : World} {ts : Array TypeId} {ty t u el : TypeId} {i : TypeInfo} {ud : TypeDesc} {z : Value} {args : Array Value} {base' : Option Addr} {sLen cap' n : Nat} {x' : Value} {old' new' : List Value}
    (h0 : ts[0]? = some t) (h1 : ts[1]? = some u) (a0 : args[0]? = some (.slice base' sLen cap')) (a1 : args[1]? = some x') (ht : P.underlying t = some (.slice el)) (hu : P.underlying u = some ud) (hi : P.info? el = some i)
    (hz : i.zero = some z) (hzs : z.cells.size = i.size) (hs : 1 ≤ i.size)
    (hne : ∀ k, ud ≠ .int k) (hn : ∀ w, (Builtin.lenOf x').run P w = .ok n w) (hfit : cap' < sLen + n) (hb : (4 * (sLen + n) + 1000) * i.bytes ≤ 140737488355328)
    (hold : (Builtin.firstCells i.size sLen (.slice base' sLen cap')).run P w.drew = .ok old'.toArray w.drew) (hnew : (Builtin.firstCells i.size n x').run P w.drew = .ok new'.toArray w.drew) (hby : i.bytes ≠ 0 ∨ sLen + n < 4611686018427387904) :
    ∃ newCap, sLen + n ≤ newCap ∧ (Builtin.append_ ts ty args).run P w = .ok (.slice (some ⟨w.heap.size, 0, none⟩) (sLen + n) newCap) (w.drew.alloc (.cells (old' ++ new' ++ restOf z (newCap - (sLen + n))).toArray el)) := by
  have hcap := nextcap_le hfit
  have hcapb : ¬ (Builtin.nextslicecap (sLen + n) cap' * i.bytes > 2 ^ 48) := by
    have := Nat.mul_le_mul_right i.bytes hcap
    omega
  have hzv : ∀ w : World, (zeroValue el).run P w = .ok z w := fun w => by simp [zeroValue, typeInfo, hi, hz]
  have hge := grownCap_ge w (sLen + n) cap' el
  refine ⟨grownCap w (sLen + n) cap' el, hge, ?_⟩
  have hm : ¬ (9223372036854775807 < (sLen : Int) + (n : Int) ∧ i.bytes = 0) := by omega
  have hcapb' : ¬ (281474976710656 < Builtin.nextslicecap (sLen + n) cap' * i.bytes) := by omega
  have hzc := zeroCells_eq z.cells (grownCap w (sLen + n) cap' el - (sLen + n)) (by omega)
  simp [Builtin.append_, h0, h1, a0, a1, run_underlying ht, run_underlying hu, sizeOf, typeInfo, hi, hn, Nat.not_le.2 hfit]
  rw [if_neg hm, if_neg hcapb']
  have hcut : (Question.appendCap (sLen + n) cap' el).cut (w.tape w.drawn (Question.appendCap (sLen + n) cap' el)) = grownCap w (sLen + n) cap' el := rfl
  simp [forced_cap, hold, hnew, hzv, hcut, hzc, newRow, restOf]
theorem append_grow0 {w : World} {ts : Array TypeId} {ty t u el : TypeId} {i : TypeInfo} {k k' : IntKind} {z : Value} {args : Array Value} {base' : Option Addr} {sLen cap' n : Nat} {old' : List Value}
    (h0 : ts[0]? = some t) (h1 : ts[1]? = some u) (a0 : args[0]? = some (.slice base' sLen cap')) (a1 : args[1]? = some (.int k' (n : Int))) (ht : P.underlying t = some (.slice el)) (hu : P.underlying u = some (.int k)) (hi : P.info? el = some i)
    (hz : i.zero = some z) (hzs : z.cells.size = i.size) (hs : 1 ≤ i.size) (hn : n ≤ 1048576) (hn0 : n ≠ 0)
    (hfit : cap' < sLen + n) (hb : (4 * (sLen + n) + 1000) * i.bytes ≤ 140737488355328)
    (hold : (Builtin.firstCells i.size sLen (.slice base' sLen cap')).run P w.drew = .ok old'.toArray w.drew) (hby : sLen + n < 4611686018427387904) :
    ∃ newCap, sLen + n ≤ newCap ∧ (Builtin.append_ ts ty args).run P w = .ok (.slice (some ⟨w.heap.size, 0, none⟩) (sLen + n) newCap) (w.drew.alloc (.cells (old' ++ repL z.cells.toList n ++ restOf z (newCap - (sLen + n))).toArray el)) := by
  have hwrap : IntKind.i64.wrap (n : Int) = n := by rw [← fwrap_eq]; unfold fwrap; rw [fwrapR_eq _ _ _ (fmod_lt _ (modulus_pos _))]; simp [signedK, fmod, modulus]; omega
  have hnb : n * i.bytes ≤ 140737488355328 := by
    have : n * i.bytes ≤ (4 * (sLen + n) + 1000) * i.bytes := Nat.mul_le_mul_right _ (by omega)
    omega
  have h2' : ¬ (281474976710656 < (n : Int) * (i.bytes : Int)) := by
    have : ((n * i.bytes : Nat) : Int) ≤ 140737488355328 := by omega
    rw [Int.natCast_mul] at this
    omega
  have h3 : ¬ ((n : Int) < 0) := by omega
  have hcap := nextcap_le hfit
  have hcapb' : ¬ (281474976710656 < Builtin.nextslicecap (sLen + n) cap' * i.bytes) := by
    have := Nat.mul_le_mul_right i.bytes hcap
    omega
  have hzv : ∀ w : World, (zeroValue el).run P w = .ok z w := fun w => by simp [zeroValue, typeInfo, hi, hz]
  have hge := grownCap_ge w (sLen + n) cap' el
  refine ⟨grownCap w (sLen + n) cap' el, hge, ?_⟩
  have hm : ¬ (9223372036854775807 < (sLen : Int) + (n : Int)) := by omega
  have hzc := zeroCells_eq z.cells (grownCap w (sLen + n) cap' el - (sLen + n)) (by omega)
  have hzc1 := zeroCells_eq z.cells n (by omega)
  have hcut : (Question.appendCap (sLen + n) cap' el).cut (w.tape w.drawn (Question.appendCap (sLen + n) cap' el)) = grownCap w (sLen + n) cap' el := rfl
  have hns : ¬ (n * i.size = 0) := by have : 0 < n * i.size := Nat.mul_pos (by omega) (by omega); omega
  simp [Builtin.append_, h0, h1, a0, a1, run_underlying ht, run_underlying hu, sizeOf, typeInfo, hi, Nat.not_le.2 hfit, asInt, asIntOf, hwrap, h3, h2']
  rw [if_neg hm, if_neg hcapb']
  simp [forced_cap, hold, hzv, hcut, hzc, hzc1, newRow, restOf]
  intro h; exact absurd h hns
end
end Go.Proofs.YtpgjilakcepilaaGreat.Ab
namespace Go.Proofs.YtpgjilakcepilaaGreat.Ab
open Go.RowKit
set_option linter.unusedSectionVars false
variable [Tok]

section
variable {B0 : Nat} {w0 : World} {σ : Inj} {s : St} {w : World}
/-- a slice's array grown in place: its block is named anew -/
theorem Inv.regrow (hI : Inv B0 w0 σ s w) {b : Nat} {l : Loc} (hb : σ b = some l) {cs : List Value} {es : Nat} (hg : s.heap.get b = some (.cells cs es true))
    {X : AObj} {o d x' : Nat} (hX : X = .dead ∨ (X = .cells cs es false ∧ o = cs.length)) {new new' : List Value} (hn : LRel σ new new')
    (hd : o + d ≤ cs.length) (htot : o + (d + new.length) + x' * es = cs.length + l.x * es) :
    Inv B0 w0 (σ.add s.next ⟨l.blk, l.off + o, x'⟩) ((s.put b X).push (.cells ((cs.drop o).take d ++ new) es true)) (w.setCells l.blk (l.off + o + d) new') := by
  have hbn := (hI.dom b l hb).1
  have hlen := hn.length
  have hle := Inj.add_le (l := ⟨l.blk, l.off + o, x'⟩) hI.fresh
  have hK : ((cs.drop o).take d ++ new).length = d + new.length := by simp; omega
  have hroomb := hI.room b l cs es true hb hg
  have htotb : tot cs es true l.x = cs.length + l.x * es := rfl
  have hcin : ∀ i, i < new'.length → (w.cell? ⟨l.blk, l.off + o + d + i, none⟩).isSome = true := fun i hi => by
    have := (hroomb (o + d + i) (by rw [htotb]; omega)).1
    rwa [show l.off + o + d + i = l.off + (o + d + i) by omega]
  -- what is known of the other blocks
  have get' : ∀ b1 cs1 es1 sp1, ((s.put b X).push (.cells ((cs.drop o).take d ++ new) es true)).heap.get b1 = some (.cells cs1 es1 sp1) → b1 ≠ s.next →
      (b1 ≠ b ∧ s.heap.get b1 = some (.cells cs1 es1 sp1)) ∨ (b1 = b ∧ cs1 = cs ∧ es1 = es ∧ sp1 = false ∧ o = cs.length) := by
    intro b1 cs1 es1 sp1 h1 hne
    rw [get_push] at h1
    have : (s.put b X).next = s.next := rfl
    rw [this, if_neg hne, get_put] at h1
    split at h1
    · rename_i e
      rcases hX with rfl | ⟨rfl, ho⟩
      · cases h1
      · cases h1; exact .inr ⟨e, rfl, rfl, rfl, ho⟩
    · rename_i e; exact .inl ⟨e, h1⟩
  have getm : ∀ b1 o1, AObj.whole o1 → ((s.put b X).push (.cells ((cs.drop o).take d ++ new) es true)).heap.get b1 = some o1 → s.heap.get b1 = some o1 := by
    intro b1 o1 hw h1
    rw [get_push] at h1
    split at h1
    · cases h1; exact hw.elim
    · rw [get_put] at h1
      split at h1
      · rcases hX with rfl | ⟨rfl, _⟩ <;> (cases h1; exact hw.elim)
      · exact h1
  have getn : ((s.put b X).push (.cells ((cs.drop o).take d ++ new) es true)).heap.get s.next = some (.cells ((cs.drop o).take d ++ new) es true) := by
    rw [get_push]
    exact if_pos rfl
  have σcases : ∀ b1 l1, σ.add s.next ⟨l.blk, l.off + o, x'⟩ b1 = some l1 → (b1 = s.next ∧ l1 = ⟨l.blk, l.off + o, x'⟩) ∨ (b1 ≠ s.next ∧ σ b1 = some l1) := by
    intro b1 l1 h1
    by_cases h : b1 = s.next
    · subst h; rw [Inj.add_same] at h1; cases h1; exact .inl ⟨rfl, rfl⟩
    · rw [Inj.add_other h] at h1; exact .inr ⟨h, h1⟩
  -- an old block's cell lies apart from what b has from o on
  have far : ∀ b1 l1 cs1 es1 sp1, σ b1 = some l1 → ((b1 ≠ b ∧ s.heap.get b1 = some (.cells cs1 es1 sp1)) ∨ (b1 = b ∧ cs1 = cs ∧ es1 = es ∧ sp1 = false ∧ o = cs.length)) →
      ∀ i, i < tot cs1 es1 sp1 l1.x → l1.blk = l.blk → ∀ j, o ≤ j → j < cs.length + l.x * es → l1.off + i ≠ l.off + j := by
    intro b1 l1 cs1 es1 sp1 h1 hc i hi hblk j hj1 hj2
    rcases hc with ⟨hne, hg1⟩ | ⟨rfl, rfl, rfl, rfl, ho⟩
    · exact hI.apart b1 b l1 l cs1 es1 sp1 cs es true hne h1 hb hg1 hg i j hi (by rw [htotb]; exact hj2) hblk
    · rw [hb] at h1; cases h1
      have : tot cs1 es1 false l.x = cs1.length := by simp [tot]
      omega
  have room' : ∀ b1 l1 cs1 es1 sp1, σ b1 = some l1 → ((b1 ≠ b ∧ s.heap.get b1 = some (.cells cs1 es1 sp1)) ∨ (b1 = b ∧ cs1 = cs ∧ es1 = es ∧ sp1 = false ∧ o = cs.length)) →
      ∀ i, i < tot cs1 es1 sp1 l1.x → (w.cell? ⟨l1.blk, l1.off + i, none⟩).isSome = true ∧ w.frozen? ⟨l1.blk, l1.off + i, none⟩ = false := by
    intro b1 l1 cs1 es1 sp1 h1 hc i hi
    rcases hc with ⟨hne, hg1⟩ | ⟨rfl, rfl, rfl, rfl, ho⟩
    · exact hI.room b1 l1 cs1 es1 sp1 h1 hg1 i hi
    · rw [hb] at h1; cases h1
      have : tot cs1 es1 false l.x = cs1.length := by simp [tot]
      exact hroomb i (by rw [htotb]; omega)
  have cells' : ∀ b1 l1 cs1 es1 sp1, σ b1 = some l1 → ((b1 ≠ b ∧ s.heap.get b1 = some (.cells cs1 es1 sp1)) ∨ (b1 = b ∧ cs1 = cs ∧ es1 = es ∧ sp1 = false ∧ o = cs.length)) →
      ∀ i v, cs1[i]? = some v → ∃ v', w.cell? ⟨l1.blk, l1.off + i, none⟩ = some v' ∧ VRel σ v v' := by
    intro b1 l1 cs1 es1 sp1 h1 hc i v hv
    rcases hc with ⟨hne, hg1⟩ | ⟨rfl, rfl, rfl, rfl, ho⟩
    · exact hI.cells b1 l1 cs1 es1 sp1 h1 hg1 i v hv
    · exact hI.cells _ l1 cs1 es1 true h1 hg i v hv
  have same : ∀ b1 l1 cs1 es1 sp1, σ b1 = some l1 → ((b1 ≠ b ∧ s.heap.get b1 = some (.cells cs1 es1 sp1)) ∨ (b1 = b ∧ cs1 = cs ∧ es1 = es ∧ sp1 = false ∧ o = cs.length)) →
      ∀ i, i < tot cs1 es1 sp1 l1.x → (w.setCells l.blk (l.off + o + d) new').cell? ⟨l1.blk, l1.off + i, none⟩ = w.cell? ⟨l1.blk, l1.off + i, none⟩ := by
    intro b1 l1 cs1 es1 sp1 h1 hc i hi
    refine cell_setCells_out new' _ fun hblk _ j hj => ?_
    have := far b1 l1 cs1 es1 sp1 h1 hc i hi hblk (o + d + j) (by omega) (by omega)
    simp only
    omega
  refine ⟨below_setCells (hI.dom b l hb).2.1 _ _ hI.below, by rw [size_setCells]; exact hI.base, fun b1 l1 hb1 => ?_, fun b1 l1 cs1 es1 sp1 hb1 hg1 i v hv => ?_, fun b1 l1 cs1 es1 sp1 hb1 hg1 i hi => ?_, fun b1 b2 l1 l2 cs1 es1 sp1 cs2 es2 sp2 hne hb1 hb2 hg1 hg2 i i' hi hi' hblk => ?_, fun b1 l1 o1 hb1 hg1 hw => ?_, fun b1 b2 l1 l2 o1 o2 hne hb1 hb2 hg1 hg2 hw hw2 => ?_⟩
  · rw [size_setCells]
    rcases σcases b1 l1 hb1 with ⟨rfl, rfl⟩ | ⟨_, h⟩
    · exact ⟨Nat.lt_succ_self _, (hI.dom b l hb).2⟩
    · have := hI.dom b1 l1 h; exact ⟨Nat.lt_succ_of_lt this.1, this.2⟩
  · rcases σcases b1 l1 hb1 with ⟨rfl, rfl⟩ | ⟨hne, h⟩
    · rw [getn] at hg1; cases hg1
      have hi : i < d + new.length := by rw [← hK]; exact (List.getElem?_eq_some_iff.1 hv).1
      rw [List.getElem?_append] at hv
      have hk1 : ((cs.drop o).take d).length = d := by simp; omega
      rw [hk1] at hv
      split at hv
      · rename_i hid
        rw [List.getElem?_take, if_pos hid, List.getElem?_drop] at hv
        obtain ⟨v', hc, hr⟩ := hI.cells b l cs es true hb hg (o + i) v hv
        refine ⟨v', ?_, hr.mono hle⟩
        rw [cell_setCells_out]
        · simp only; rw [show l.off + o + i = l.off + (o + i) by omega]; exact hc
        · intro _ _ j hj; simp only; omega
      · rename_i hid
        obtain ⟨v', hv', hr⟩ := hn.get _ _ hv
        refine ⟨v', ?_, hr.mono hle⟩
        have := World.cell?_setCells_in l.blk new' (l.off + o + d) w hcin (i - d) (by omega)
        obtain ⟨_, e⟩ := List.getElem?_eq_some_iff.1 hv'
        simp only
        rw [show l.off + o + i = l.off + o + d + (i - d) by omega, this, e]
    · have hc := get' _ _ _ _ hg1 hne
      obtain ⟨v', h1, h2⟩ := cells' b1 l1 cs1 es1 sp1 h hc i v hv
      have hi : i < cs1.length := (List.getElem?_eq_some_iff.1 hv).1
      exact ⟨v', by rw [same b1 l1 cs1 es1 sp1 h hc i (by unfold tot; omega)]; exact h1, h2.mono hle⟩
  · rw [World.frozen?_setCells]
    rcases σcases b1 l1 hb1 with ⟨rfl, rfl⟩ | ⟨hne, h⟩
    · rw [getn] at hg1; cases hg1
      have hi2 : i < d + new.length + x' * es := by
        have : tot ((cs.drop o).take d ++ new) es true x' = d + new.length + x' * es := by simp only [tot, hK, cond_true]
        rwa [← this]
      have hr := hroomb (o + i) (by rw [htotb]; omega)
      simp only
      rw [show l.off + o + i = l.off + (o + i) by omega]
      refine ⟨?_, hr.2⟩
      by_cases hin : d ≤ i ∧ i < d + new'.length
      · have := World.cell?_setCells_in l.blk new' (l.off + o + d) w hcin (i - d) (by omega)
        rw [show l.off + (o + i) = l.off + o + d + (i - d) by omega, this]
        rfl
      · rw [cell_setCells_out]
        · exact hr.1
        · intro _ _ j hj; simp only; omega
    · have hc := get' _ _ _ _ hg1 hne
      have hr := room' b1 l1 cs1 es1 sp1 h hc i hi
      exact ⟨by rw [same b1 l1 cs1 es1 sp1 h hc i hi]; exact hr.1, hr.2⟩
  · rcases σcases b1 l1 hb1 with ⟨rfl, rfl⟩ | ⟨hne1, h1⟩
    · rcases σcases b2 l2 hb2 with ⟨rfl, rfl⟩ | ⟨hne2, h2⟩
      · exact absurd rfl hne
      · rw [getn] at hg1; cases hg1
        have hi2 : i < d + new.length + x' * es := by
          have : tot ((cs.drop o).take d ++ new) es true x' = d + new.length + x' * es := by simp only [tot, hK, cond_true]
          rwa [← this]
        have := far b2 l2 cs2 es2 sp2 h2 (get' _ _ _ _ hg2 hne2) i' hi' hblk.symm (o + i) (by omega) (by omega)
        simp only
        omega
    · rcases σcases b2 l2 hb2 with ⟨rfl, rfl⟩ | ⟨hne2, h2⟩
      · rw [getn] at hg2; cases hg2
        have hi2 : i' < d + new.length + x' * es := by
          have : tot ((cs.drop o).take d ++ new) es true x' = d + new.length + x' * es := by simp only [tot, hK, cond_true]
          rwa [← this]
        have := far b1 l1 cs1 es1 sp1 h1 (get' _ _ _ _ hg1 hne1) i hi hblk (o + i') (by omega) (by omega)
        simp only
        omega
      · have hc1 := get' _ _ _ _ hg1 hne1
        have hc2 := get' _ _ _ _ hg2 hne2
        rcases hc1 with ⟨n1, g1⟩ | ⟨rfl, rfl, rfl, rfl, ho⟩
        · rcases hc2 with ⟨n2, g2⟩ | ⟨rfl, rfl, rfl, rfl, ho⟩
          · exact hI.apart b1 b2 l1 l2 cs1 es1 sp1 cs2 es2 sp2 hne h1 h2 g1 g2 i i' hi hi' hblk
          · have ht : tot cs2 es2 false l2.x ≤ tot cs2 es2 true l2.x := by simp [tot]
            exact hI.apart b1 b2 l1 l2 cs1 es1 sp1 cs2 es2 true hne h1 h2 g1 hg i i' hi (by omega) hblk
        · rcases hc2 with ⟨n2, g2⟩ | ⟨rfl, _⟩
          · have ht : tot cs1 es1 false l1.x ≤ tot cs1 es1 true l1.x := by simp [tot]
            exact hI.apart b1 b2 l1 l2 cs1 es1 true cs2 es2 sp2 hne h1 h2 hg g2 i i' (by omega) hi' hblk
          · exact absurd rfl hne
  · rcases σcases b1 l1 hb1 with ⟨rfl, rfl⟩ | ⟨hne, h⟩
    · rw [getn] at hg1; cases hg1; exact hw.elim
    · obtain ⟨h0, O, he, hm⟩ := hI.maps b1 l1 o1 h (getm _ _ hw hg1) hw
      refine ⟨h0, O, ?_, hm.mono hle⟩
      by_cases hvs : new' = []
      · subst hvs; exact he
      · have hpos : 0 < new'.length := List.length_pos_iff.2 hvs
        rw [heap_setCells]
        · exact he
        · intro e
          have hcell := hcin 0 hpos
          rw [← e, hm.nocell he] at hcell
          cases hcell
  · rcases σcases b1 l1 hb1 with ⟨rfl, rfl⟩ | ⟨hne1, h1⟩
    · rw [getn] at hg1; cases hg1; exact hw.elim
    · rcases σcases b2 l2 hb2 with ⟨rfl, rfl⟩ | ⟨hne2, h2⟩
      · rw [getn] at hg2; cases hg2; exact hw2.elim
      · exact hI.mapart b1 b2 l1 l2 o1 o2 hne h1 h2 (getm _ _ hw hg1) (getm _ _ hw2 hg2) hw hw2
end
end Go.Proofs.YtpgjilakcepilaaGreat.Ab
namespace Go.Proofs.YtpgjilakcepilaaGreat.Ab
open Go.RowKit
set_option linter.unusedSectionVars false
variable [Tok]

theorem bytesOfL_eq (l : List UInt8) : bytesOfL l = l.map fun b => Value.int .u8 (b.toNat : Int) := by
  induction l with
  | nil => rfl
  | cons b l ih => simp only [bytesOfL, ih, List.map_cons]; rfl
theorem bytes_plain (l : List Value) (h : ∀ v ∈ l, plain1 v = true) : l.all plain1 = true := by simpa using h
theorem extract_bytes (y : ByteArray) (n : Nat) : ((y.extract 0 n).data.map fun b => Value.int .u8 (b.toNat : Int)).toList = (bytesOfL y.data.toList).take n := by
  rw [bytesOfL_eq]
  simp [ByteArray.data_extract, List.extract_eq_take_drop]

theorem capOf_lt {c : Nat} (h : c < OPEN) : capOf c = c := by
  unfold capOf
  have : Nat.blt c OPEN = true := by rw [Nat.blt_eq]; exact h
  rw [this]; rfl
theorem capOf_ge {c : Nat} (h : OPEN ≤ c) : capOf c = c - OPEN := by
  unfold capOf
  cases hb : Nat.blt c OPEN with
  | true => have := blt_true hb; exact absurd h (Nat.not_le.2 this)
  | false => rw [cond_false]
theorem capOf_open (k : Nat) : capOf (OPEN + k) = k := by
  rw [capOf_ge (Nat.le_add_right _ _), Nat.add_sub_cancel_left]
theorem capOf_le (c : Nat) : capOf c ≤ c := by
  unfold capOf
  cases Nat.blt c OPEN with
  | true => rw [cond_true]; exact Nat.le_refl _
  | false => rw [cond_false]; exact Nat.sub_le _ _
theorem slice_cap {σ : Inj} {b b' : Option Addr} {n c n' c' : Nat} (h : VRel σ (.slice b n c) (.slice b' n' c')) : n' = n ∧ (c' = c ∨ ∃ k x, c = OPEN + k ∧ c' = k + x) := by
  cases h with
  | nilSlice => exact ⟨rfl, .inl rfl⟩
  | slice => exact ⟨rfl, .inl rfl⟩
  | @sliceO _ _ _ k l => exact ⟨rfl, .inr ⟨k, l.x, rfl, rfl⟩⟩
  | sliceE => exact ⟨rfl, .inr ⟨0, 0, (Nat.add_zero _).symm, rfl⟩⟩
  | slice0 => exact ⟨rfl, .inl rfl⟩
theorem cap_le {σ : Inj} {b b' : Option Addr} {n c n' c' : Nat} (h : VRel σ (.slice b n c) (.slice b' n' c')) : capOf c ≤ c' := by
  rcases (slice_cap h).2 with rfl | ⟨k, x, rfl, rfl⟩
  · exact capOf_le _
  · rw [capOf_open]; exact Nat.le_add_right _ _
theorem cap_lt {σ : Inj} {b b' : Option Addr} {n c n' c' : Nat} (h : VRel σ (.slice b n c) (.slice b' n' c')) (hc : c < OPEN) : c' = c := by
  rcases (slice_cap h).2 with rfl | ⟨k, x, rfl, rfl⟩
  · rfl
  · exact absurd hc (Nat.not_lt.2 (Nat.le_add_right _ _))
section
variable {T : Tab} {P : Program} (hT : T.Ok P) {B0 : Nat} {w0 : World} {σ : Inj} {s : St} {w : World}

theorem aLen_sound {x x' : Value} {n : Nat} (h : aLen x = some n) (hx : VRel σ x x') (w : World) : (Builtin.lenOf x').run P w = .ok n w := by
  unfold aLen at h
  split at h
  · cases h; cases hx <;> rfl
  · cases h; cases hx; rfl
  · cases h
theorem aCells_sound (hI : Inv B0 w0 σ s w) {size n m : Nat} {x x' : Value} {cs : List Value} (h : aCells size n s x = some cs) (hx : VRel σ x x') (hm : aLen x = some m) (hnm : n ≤ m) :
    ∃ cs', LRel σ cs cs' ∧ (Builtin.firstCells size n x').run P w = .ok cs'.toArray w ∧ (Builtin.firstCells size n x').run P w.drew = .ok cs'.toArray w.drew := by
  unfold aCells at h
  cases hn : Nat.beq n 0 with
  | true =>
    rw [hn] at h
    have hn := Nat.eq_of_beq_eq_true hn
    subst hn
    cases h
    refine ⟨[], .nil, ?_⟩
    have hl : ∀ (a : Addr) (w : World), (loadCells a 0).run P w = .ok #[] w := fun a w => rfl
    unfold aLen at hm
    split at hm
    · cases hx <;> simp [Builtin.firstCells, hl]
    · cases hx; simp [Builtin.firstCells]
    · cases hm
  | false =>
    rw [hn] at h
    have hn := beq_false hn
    simp only [cond_false] at h
    split at h
    · rename_i a len cap
      obtain ⟨b, o, rfl, h⟩ := onAddr_some h
      have main : ∀ (l : Loc), σ b = some l → ∀ len' cap', ∃ cs', LRel σ cs cs' ∧ (Builtin.firstCells size n (.slice (some ⟨l.blk, l.off + o, none⟩) len' cap')).run P w = .ok cs'.toArray w ∧ (Builtin.firstCells size n (.slice (some ⟨l.blk, l.off + o, none⟩) len' cap')).run P w.drew = .ok cs'.toArray w.drew := by
        intro l hb len' cap'
        obtain ⟨vs', hl, hrel, hc⟩ := hI.read hb h
        have hc' : ∀ j v, vs'[j]? = some v → w.cell? ((⟨l.blk, l.off + o, none⟩ : Addr).add j) = some v := fun j v hj => by rw [addr_add]; exact hc j v hj
        have r1 := run_loadCells_list (P := P) w ⟨l.blk, l.off + o, none⟩ vs' hc'
        have r2 := run_loadCells_list (P := P) w.drew ⟨l.blk, l.off + o, none⟩ vs' (fun j v hj => hc' j v hj)
        rw [hl] at r1 r2
        exact ⟨vs', hrel, r1, r2⟩
      cases hm
      cases hx with
      | slice hb _ => exact main _ hb _ _
      | sliceO hb => exact main _ hb _ _
      | sliceE => omega
      | slice0 => omega
    · rename_i y
      cases hx
      obtain ⟨rfl, hle⟩ := takeN_spec h
      refine ⟨_, LRel.plain1 (bytes_plain _ ?_), ?_⟩
      · intro v hv
        rw [bytesOfL_eq] at hv
        have := List.mem_of_mem_take hv
        simp at this
        obtain ⟨b, _, rfl⟩ := this
        rfl
      · have e : ((y.extract 0 n).data.map fun b => Value.int .u8 (b.toNat : Int)) = ((bytesOfL y.data.toList).take n).toArray := by
          apply Array.ext'
          rw [extract_bytes]
        simp only [Builtin.firstCells, Sem.run_pure, e, and_self]
    · cases h

theorem valOk_same (hI : Inv B0 w0 σ s w) {v v' : Value} {run : Result Value} (hv : VRel σ v v') (h : run = .ok v' w) : ValOk B0 w0 σ s run v s :=
  ⟨σ, w, v', Ext.refl, Nat.le_refl _, hI, hv, h⟩

include hT
theorem zero_cells {el : Nat} {z : Value} {i : TypeInfo} (hz : T.zero el = some z) (hi : T.info el = some i) (hl : Nat.beq (cellsL z).length i.size = true) :
    P.info? el = some i ∧ i.zero = some z ∧ z.cells.size = i.size ∧ LRel σ (cellsL z) z.cells.toList := by
  obtain ⟨it, hit, hzz, hp⟩ := zero_info hT hz
  have h1 := hT.info _ _ hi
  rw [h1] at hit
  cases hit
  refine ⟨h1, hzz, ?_, by rw [cellsL_eq]; exact cellsL_rel (VRel.plain hp) (known_plain hp)⟩
  have := Nat.eq_of_beq_eq_true hl
  rw [← cellsL_eq] at this
  simpa using this

omit hT in
theorem new_slice (hI : Inv B0 w0 σ s w) {cs cs' : List Value} (hc : LRel σ cs cs') {es : Nat} {el : TypeId} {len cap : Nat} (hcap : cap < OPEN) :
    Inv B0 w0 (σ.add s.next ⟨w.heap.size, 0, 0⟩) (s.push (.cells cs es false)) (w.alloc (.cells cs'.toArray el)) ∧
      VRel (σ.add s.next ⟨w.heap.size, 0, 0⟩) (.slice (some ⟨s.next, 0, none⟩) len cap) (.slice (some ⟨w.heap.size, 0, none⟩) len cap) ∧
      VRel (σ.add s.next ⟨w.heap.size, 0, 0⟩) (.pointer (some ⟨s.next, 0, none⟩)) (.pointer (some ⟨w.heap.size, 0, none⟩)) := by
  refine ⟨hI.push (fun i v hv => ?_) ?_, ?_, ?_⟩
  · obtain ⟨v', h1, h2⟩ := hc.get i v hv
    exact ⟨v', by simpa using h1, h2⟩
  · simp [tot, hc.length]
  · exact .slice (l := ⟨w.heap.size, 0, 0⟩) Inj.add_same hcap
  · exact .ptr (l := ⟨w.heap.size, 0, 0⟩) Inj.add_same

omit hT in
/-- appending n elements: what is made of it, given how their number and the new cells came -/
theorem appendL_sound (hI : Inv B0 w0 σ s w) {ts : Array TypeId} {ty el : TypeId} {i : TypeInfo} {z : Value} {args' : Array Value} {base base' : Option Addr} {sLen sCap cap' n : Nat} {new new' : List Value} {fits : Bool} {r : AR}
    (hzs : z.cells.size = i.size) (hs : 1 ≤ i.size)
    (hy : VRel σ (.slice base sLen sCap) (.slice base' sLen cap'))
    (hfits : fits = true → (4 * (sLen + n) + 1000) * i.bytes ≤ 140737488355328) (hsmall : fits = true → sLen + n < 4611686018427387904)
    (hn : LRel σ new new')
    (rfit : ∀ w', sLen + n ≤ cap' → (∀ a, base' = some a → (storeCells (a.add (sLen * i.size)) new').run P w = .ok () w') → (base' = none → w' = w) → (Builtin.append_ ts ty args').run P w = .ok (.slice base' (sLen + n) cap') w')
    (rgrow : ∀ old', n ≠ 0 → cap' < sLen + n → (4 * (sLen + n) + 1000) * i.bytes ≤ 140737488355328 → sLen + n < 4611686018427387904 → (Builtin.firstCells i.size sLen (.slice base' sLen cap')).run P w.drew = .ok old'.toArray w.drew →
      ∃ newCap, sLen + n ≤ newCap ∧ (Builtin.append_ ts ty args').run P w = .ok (.slice (some ⟨w.heap.size, 0, none⟩) (sLen + n) newCap) (w.drew.alloc (.cells (old' ++ new' ++ restOf z (newCap - (sLen + n))).toArray el)))
    (hnew0 : n = 0 → new' = [])
    (h : aAppendL base i.size sLen sCap n fits s new = some r) :
    ∃ v s', r = .val v s' ∧ ValOk B0 w0 σ s ((Builtin.append_ ts ty args').run P w) v s' := by
  have hcaple : capOf sCap ≤ cap' := cap_le hy
  unfold aAppendL at h
  cases hb0 : Nat.beq n 0 with
  | true =>
    have hn0 := Nat.eq_of_beq_eq_true hb0
    rw [hb0] at h
    obtain ⟨hle, h⟩ := cond_some h
    cases h
    have hle := ble_true hle
    refine ⟨_, _, rfl, valOk_same hI (v' := .slice base' sLen cap') hy ?_⟩
    have := rfit w (by omega) (fun a ha => by rw [hnew0 hn0]; rfl) (fun _ => rfl)
    rw [this, hn0]
    rfl
  | false =>
    have hn0 := beq_false hb0
    rw [hb0] at h
    simp only [cond_false] at h
    cases hble : Nat.ble (sLen + n) (capOf sCap) with
    | true =>
      have hle := ble_true hble
      rw [hble] at h
      simp only [cond_true] at h
      obtain ⟨b, o, rfl, h⟩ := onAddr_some h
      obtain ⟨s', hw, h⟩ := obnd_some h
      cases h
      refine ⟨_, _, rfl, ?_⟩
      have main : ∀ l, σ b = some l → base' = some ⟨l.blk, l.off + o, none⟩ → (∀ m, VRel σ (.slice (some ⟨b, o, none⟩) m sCap) (.slice base' m cap')) → ValOk B0 w0 σ s ((Builtin.append_ ts ty args').run P w) (.slice (some ⟨b, o, none⟩) (sLen + n) sCap) s' := by
        rintro l hb rfl hrel
        obtain ⟨i1, i2, i3⟩ := hI.write hb hw hn
        refine ⟨σ, _, _, Ext.refl, by omega, i1, hrel _, rfit _ (by omega) (fun a ha => ?_) (fun hc => by cases hc)⟩
        cases ha
        rw [addr_add, Nat.add_assoc]
        exact i3 P
      cases hy with
      | slice hb hc => exact main _ hb rfl (fun m => .slice hb hc)
      | sliceO hb => exact main _ hb rfl (fun m => .sliceO hb)
      | sliceE => omega
      | slice0 => omega
    | false =>
      have hgt := ble_false hble
      rw [hble] at h
      simp only [cond_false] at h
      obtain ⟨hc, h⟩ := cond_some h
      obtain ⟨hf, hc⟩ := and_true hc
      obtain ⟨hlen, hone⟩ := and_true hc
      have hlen := Nat.eq_of_beq_eq_true hlen
      obtain ⟨old, ho, h⟩ := obnd_some h
      obtain ⟨hoone, h⟩ := cond_some h
      obtain ⟨old', hor, hor1, hor2⟩ := aCells_sound (P := P) hI ho hy (m := sLen) rfl (Nat.le_refl _)
      -- a new array
      have grown : ∀ (s1 : St), Inv B0 w0 σ s1 w → s1.next = s.next → cap' < sLen + n → ValOk B0 w0 σ s ((Builtin.append_ ts ty args').run P w) (.slice (some ⟨s1.next, 0, none⟩) (sLen + n) (OPEN + (sLen + n))) (s1.push (.cells (old ++ new) i.size true)) := by
        intro s1 hI1 hs1 hlt
        obtain ⟨newCap, hge, hrun⟩ := rgrow old' hn0 hlt (hfits hf) (hsmall hf) hor2
        have hall := hor.append hn
        have hsz : (old' ++ new').length ≤ (old' ++ new' ++ restOf z (newCap - (sLen + n))).length := by simp
        refine ⟨σ.add s1.next ⟨w.drew.heap.size, 0, newCap - (sLen + n)⟩, _, _, ext_add (Nat.le_of_eq hs1.symm), Nat.le_succ_of_le (Nat.le_of_eq hs1.symm),
          hI1.drew.push (t := el) (C := (old' ++ new' ++ restOf z (newCap - (sLen + n))).toArray) (fun j v hv => ?_) ?_, ?_, hrun⟩
        · obtain ⟨v', h1, h2⟩ := hall.get j v hv
          refine ⟨v', ?_, h2⟩
          have hj := (List.getElem?_eq_some_iff.1 h1).1
          simp only [List.getElem?_toArray]
          rw [List.getElem?_append_left hj]
          exact h1
        · have := hall.length
          have hzl : z.cells.toList.length = i.size := by simpa using hzs
          simp only [tot, cond_true, List.size_toArray, restOf, List.length_append, repL_length, hzl] at this ⊢
          omega
        · have hv := VRel.sliceO (σ := σ.add s1.next ⟨w.drew.heap.size, 0, newCap - (sLen + n)⟩) (b := s1.next) (o := 0) (n := sLen + n) (c := sLen + n) (l := ⟨w.drew.heap.size, 0, newCap - (sLen + n)⟩) Inj.add_same
          have e : sLen + n + (newCap - (sLen + n)) = newCap := by omega
          simp only [e] at hv
          exact hv
      cases hblt : Nat.blt sCap OPEN with
      | true =>
        have hlt := blt_true hblt
        rw [hblt] at h
        simp only [cond_true] at h
        cases h
        have hcap : cap' < sLen + n := by
          rw [capOf_lt hlt] at hgt
          rw [cap_lt hy hlt]
          exact hgt
        exact ⟨_, _, rfl, grown s hI rfl hcap⟩
      | false =>
        have hge := blt_false hblt
        rw [hblt] at h
        simp only [cond_false] at h
        obtain ⟨b, o, rfl, h⟩ := onAddr_some h
        obtain ⟨cs, es, sp, hg, h⟩ := objCells_some h
        obtain ⟨hc, hfin⟩ := cond_some h
        obtain ⟨hsp, hc⟩ := and_true hc
        obtain ⟨hes, hend⟩ := and_true hc
        have hes := Nat.eq_of_beq_eq_true hes
        have hend := Nat.eq_of_beq_eq_true hend
        clear h
        subst hsp
        subst hes
        cases hfin
        refine ⟨_, _, rfl, ?_⟩
        have hX : ∃ X, (cond (Nat.beq (sCap - OPEN) 0) (AObj.cells cs i.size false) AObj.dead) = X ∧ (X = .dead ∨ (X = .cells cs i.size false ∧ o = cs.length)) := by
          cases hb : Nat.beq (sCap - OPEN) 0 with
          | true =>
            have := Nat.eq_of_beq_eq_true hb
            rw [this] at hend
            exact ⟨_, rfl, .inr ⟨rfl, by omega⟩⟩
          | false => exact ⟨_, rfl, .inl rfl⟩
        obtain ⟨X, hXe, hX⟩ := hX
        rw [hXe]
        have hI1 : Inv B0 w0 σ (s.put b X) w := by
          rcases hX with rfl | ⟨rfl, _⟩
          · exact hI.forget b
          · exact hI.spent hg
        by_cases hcap : cap' < sLen + n
        · exact grown (s.put b X) hI1 rfl hcap
        · -- in place
          have key : ∀ (c : Nat) (l : Loc), sCap = OPEN + c → σ b = some l → base' = some ⟨l.blk, l.off + o, none⟩ → cap' = c + l.x → ValOk B0 w0 σ s ((Builtin.append_ ts ty args').run P w) (.slice (some ⟨(s.put b X).next, 0, none⟩) (sLen + n) (OPEN + (sLen + n))) ((s.put b X).push (.cells (old ++ new) i.size true)) := by
            rintro c l rfl hb rfl rfl
            have hc : OPEN + c - OPEN = c := Nat.add_sub_cancel_left _ _
            rw [hc] at hend
            have hgtc : c < sLen + n := by
              rw [capOf_open] at hgt
              exact hgt
            have hold : old = (cs.drop o).take (sLen * i.size) ∧ sLen ≤ c := by
              unfold aCells at ho
              cases hz0 : Nat.beq sLen 0 with
              | true =>
                have hz0' := Nat.eq_of_beq_eq_true hz0
                rw [hz0] at ho
                cases ho
                exact ⟨by rw [hz0']; simp, by omega⟩
              | false =>
                rw [hz0] at ho
                have ho : s.read b o (sLen * i.size) = some old := ho
                unfold St.read at ho
                rw [hg] at ho
                obtain ⟨h1, h2⟩ := takeN_spec (show takeN (sLen * i.size) (cs.drop o) = some old from ho)
                refine ⟨h1, ?_⟩
                simp only [List.length_drop] at h2
                have h3 : sLen * i.size ≤ c * i.size := by omega
                exact Nat.le_of_mul_le_mul_right h3 (by omega)
            obtain ⟨holdlen, hslen⟩ := hold
            have hmul : sLen * i.size ≤ c * i.size := Nat.mul_le_mul_right _ hslen
            have hI2 := hI.regrow (x' := c + l.x - (sLen + n)) (d := sLen * i.size) (o := o) hb hg hX hn (by omega) (by
              have e : (c + l.x) = (sLen + n) + (c + l.x - (sLen + n)) := by omega
              have e2 : (c + l.x) * i.size = (sLen + n) * i.size + (c + l.x - (sLen + n)) * i.size := by rw [← Nat.add_mul, ← e]
              rw [Nat.add_mul, Nat.add_mul] at e2
              omega)
            refine ⟨_, _, _, ext_add (Nat.le_refl _), by show s.next ≤ s.next + 1; omega, by rw [holdlen]; exact hI2, ?_, rfit _ (by omega) (fun a ha => ?_) (fun hc => by cases hc)⟩
            · have hv := VRel.sliceO (σ := σ.add s.next ⟨l.blk, l.off + o, c + l.x - (sLen + n)⟩) (b := s.next) (o := 0) (n := sLen + n) (c := sLen + n) (l := ⟨l.blk, l.off + o, c + l.x - (sLen + n)⟩) Inj.add_same
              have e : sLen + n + (c + l.x - (sLen + n)) = c + l.x := by omega
              simp only [e] at hv
              exact hv
            · cases ha
              rw [addr_add]
              have hroom : ∀ j, j < new'.length → (w.cell? ⟨l.blk, l.off + o + sLen * i.size + j, none⟩).isSome = true ∧ w.frozen? ⟨l.blk, l.off + o + sLen * i.size + j, none⟩ = false := fun j hj => by
                have := hI.room b l cs i.size true hb hg (o + sLen * i.size + j) (by
                  have e : (c + l.x) = (sLen + n) + (c + l.x - (sLen + n)) := by omega
                  have e2 : (c + l.x) * i.size = (sLen + n) * i.size + (c + l.x - (sLen + n)) * i.size := by rw [← Nat.add_mul, ← e]
                  rw [Nat.add_mul, Nat.add_mul] at e2
                  have := hn.length
                  simp only [tot, cond_true]
                  omega)
                rwa [show l.off + (o + sLen * i.size + j) = l.off + o + sLen * i.size + j by omega] at this
              have := run_storeCells_cells (P := P) l.blk (l.off + o + sLen * i.size) new' 0 w (fun j hj => by simpa using (hroom j hj).1) (fun j hj => by simpa using (hroom j hj).2) (ones_rel hn hone)
              simpa using this
          cases hy with
          | slice _ hc => exact absurd hge (Nat.not_le.2 hc)
          | sliceO hb => exact key _ _ rfl hb rfl rfl
          | sliceE => omega
          | slice0 => exact absurd hge (Nat.not_le.2 OPEN_pos)
end
end Go.Proofs.YtpgjilakcepilaaGreat.Ab
namespace Go.Proofs.YtpgjilakcepilaaGreat.Ab
open Go.RowKit
set_option linter.unusedSectionVars false
variable [Tok]
section
variable {T : Tab} {P : Program} (hT : T.Ok P) {B0 : Nat} {w0 : World} {σ : Inj} {s : St} {w : World}
theorem elemOfS_some {d : TypeDesc} {el : Nat} (h : elemOfS d = some el) : d = .slice el := by
  unfold elemOfS at h
  split at h
  · cases h; rfl
  · cases h
theorem lrel_two {l l' : List Value} {a b : Value} {r : List Value} (h : LRel σ l l') (e : l = a :: b :: r) : ∃ a' b' r', l' = a' :: b' :: r' ∧ VRel σ a a' ∧ VRel σ b b' := by
  subst e
  cases h with
  | cons h1 t => cases t with
    | cons h2 t => exact ⟨_, _, _, rfl, h1, h2⟩
theorem lrel_one {l l' : List Value} {a : Value} {r : List Value} (h : LRel σ l l') (e : l = a :: r) : ∃ a' r', l' = a' :: r' ∧ VRel σ a a' := by
  subst e
  cases h with
  | cons h1 t => exact ⟨_, _, rfl, h1⟩
theorem arr_get {α : Type} {a : Array α} {x : α} {r : List α} (h : a.toList = x :: r) : a[0]? = some x := by
  rw [← Array.getElem?_toList, h]; rfl
theorem arr_get1 {α : Type} {a : Array α} {x y : α} {r : List α} (h : a.toList = x :: y :: r) : a[1]? = some y := by
  rw [← Array.getElem?_toList, h]; rfl
include hT
theorem aAppend_sound (hI : Inv B0 w0 σ s w) {ts : Array TypeId} {ty : TypeId} {args : List Value} {args' : Array Value} {r : AR} (hr : LRel σ args args'.toList) (h : aAppend T ts.toList args s = some r) :
    ∃ v s', r = .val v s' ∧ ValOk B0 w0 σ s ((Builtin.append_ ts ty args').run P w) v s' := by
  obtain ⟨t, u, tr, hts, h⟩ := on2_some h
  obtain ⟨y, x, ar, hargs, h⟩ := on2_some h
  obtain ⟨y', x', ar', hargs', hy, hx⟩ := lrel_two hr hargs
  obtain ⟨base, sLen, sCap, rfl, hk⟩ := onSlice_some h
  clear h
  obtain ⟨d, hd, hk⟩ := obnd_some hk
  obtain ⟨el, hel, hk⟩ := obnd_some hk
  have hde := elemOfS_some hel
  obtain ⟨ud, hud, hk⟩ := obnd_some hk
  obtain ⟨i, hi, hk⟩ := obnd_some hk
  obtain ⟨z, hz, hk⟩ := obnd_some hk
  obtain ⟨nz, hnz, hk⟩ := obnd_some hk
  obtain ⟨hc, hk⟩ := cond_some hk
  obtain ⟨hzl, hc⟩ := and_true hc
  obtain ⟨hs1, hc⟩ := and_true hc
  obtain ⟨hby, hb1⟩ := and_true hc
  have hs1 := ble_true hs1
  have hby := ble_true hby
  have hb1 := ble_true hb1
  obtain ⟨new, hnew, hk⟩ := obnd_some hk
  obtain ⟨hpi, hiz, hzs, hzr⟩ := zero_cells (σ := σ) hT hz hi hzl
  have hsh : ∃ base' cap', y' = .slice base' sLen cap' := by cases hy <;> exact ⟨_, _, rfl⟩
  obtain ⟨base', cap', rfl⟩ := hsh
  have ht := hT.ty _ _ hd
  rw [hde] at ht
  have hu := hT.ty _ _ hud
  have h0 := arr_get hts
  have h1 := arr_get1 hts
  have a0 := arr_get hargs'
  have a1 := arr_get1 hargs'
  obtain ⟨n, zeros⟩ := nz
  have hsmall : Nat.ble ((4 * (sLen + n) + 1000) * i.bytes) 140737488355328 = true → sLen + n < 4611686018427387904 := fun hf => by
    have h2 := ble_true hf
    have h3 := Nat.mul_le_mul_left (4 * (sLen + n) + 1000) hby
    omega
  have hfits : Nat.ble ((4 * (sLen + n) + 1000) * i.bytes) 140737488355328 = true → (4 * (sLen + n) + 1000) * i.bytes ≤ 140737488355328 := ble_true
  by_cases hint : ∃ k, ud = .int k
  · obtain ⟨k, rfl⟩ := hint
    obtain ⟨k', m, rfl, hnz2⟩ := onNat_some (show (onNat x fun n => cond (Nat.ble n 1048576) (some (n, true)) none) = some (n, zeros) from hnz)
    obtain ⟨hm, hnz2⟩ := cond_some hnz2
    have hm := ble_true hm
    cases hnz2
    cases hx
    cases hnew
    refine appendL_sound (ts := ts) (ty := ty) (args' := args') (z := z) (el := el) hI hzs hs1 hy (fun hf => hfits hf) (fun hf => hsmall hf) (repL_rel hzr n) (fun w' hle hst hw => ?_) (fun old' hn0 hlt hb hsm hold => ?_) (fun h0 => by rw [h0]; rfl) hk
    · refine append_fit0 h0 h1 a0 a1 ht hu hpi hiz hzs hs1 hm ?_ hle hst hw
      have : n * i.bytes ≤ (sLen + n) * i.bytes := Nat.mul_le_mul_right _ (by omega)
      simp only at hb1
      omega
    · exact append_grow0 h0 h1 a0 a1 ht hu hpi hiz hzs hs1 hm hn0 hlt hb hold hsm
  · have hnz2 : (obnd (aLen x) fun n => some (n, false)) = some (n, zeros) := by
      cases ud <;> first | exact hnz | exact absurd ⟨_, rfl⟩ hint
    obtain ⟨m, hm, hnz2⟩ := obnd_some hnz2
    cases hnz2
    have hne : ∀ k, ud ≠ .int k := fun k e => hint ⟨k, e⟩
    obtain ⟨new', hnr, hn1, hn2⟩ := aCells_sound (P := P) hI hnew hx hm (Nat.le_refl _)
    refine appendL_sound (ts := ts) (ty := ty) (args' := args') (z := z) (el := el) hI hzs hs1 hy (fun hf => hfits hf) (fun hf => hsmall hf) hnr (fun w' hle hst hw => ?_) (fun old' hn0 hlt hb hsm hold => ?_) (fun h0 => ?_) hk
    · exact append_fit h0 h1 a0 a1 ht hu hpi hne (aLen_sound hm hx w) hle hn1 hst hw
    · exact append_grow h0 h1 a0 a1 ht hu hpi hiz hzs hs1 hne (fun w => aLen_sound hm hx w) hlt hb hold hn2 (.inr hsm)
    · have h0' : n = 0 := h0
      rw [h0'] at hnew
      have : new = [] := by
        simp only [newCells, aCells, cond_false] at hnew
        cases hnew; rfl
      rw [this] at hnr
      cases hnr
      rfl
end
end Go.Proofs.YtpgjilakcepilaaGreat.Ab
namespace Go.Proofs.YtpgjilakcepilaaGreat.Ab
open Go.RowKit
set_option linter.unusedSectionVars false
variable [Tok]
section
variable {T : Tab} {P : Program} (hT : T.Ok P) {B0 : Nat} {w0 : World} {σ : Inj} {s : St} {w : World}

theorem retV_some {s : St} {v : Value} {r : AR} (h : retV s v = some r) : r = .val v s := by cases h; rfl
theorem pure_sound {x : Sem Value} {r : AR} (h : pureV s x = some r) (w : World) : ∃ v, r = .val v s ∧ plain1 v = true ∧ ∀ P : Program, x.run P w = .ok v w := by
  obtain ⟨v, hv, h⟩ := obnd_some h
  obtain ⟨hp, h⟩ := cond_some h
  cases h
  cases x <;> cases hv
  exact ⟨_, rfl, hp, fun _ => rfl⟩

include hT
theorem aCopy_sound (hI : Inv B0 w0 σ s w) {ts : Array TypeId} {ty : TypeId} {args : List Value} {args' : Array Value} {r : AR} (hr : LRel σ args args'.toList) (h : aCopy T ts.toList args s = some r) :
    ∃ v s', r = .val v s' ∧ ValOk B0 w0 σ s ((Builtin.copy_ ts ty args').run P w) v s' := by
  obtain ⟨t, tr, hts, h⟩ := on1_some h
  obtain ⟨y, x, ar, hargs, h⟩ := on2_some h
  obtain ⟨y', x', ar', hargs', hy, hx⟩ := lrel_two hr hargs
  obtain ⟨base, dLen, dCap, rfl, hk⟩ := onSlice_some h
  obtain ⟨m, hm, hk⟩ := obnd_some hk
  obtain ⟨d, hd, hk⟩ := obnd_some hk
  obtain ⟨el, hel, hk⟩ := obnd_some hk
  have hde := elemOfS_some hel
  obtain ⟨size, hsz, hk⟩ := obnd_some hk
  obtain ⟨cs, hcs, hk⟩ := obnd_some hk
  have ht := hT.ty _ _ hd
  rw [hde] at ht
  obtain ⟨cs', hrel, hf, _⟩ := aCells_sound (P := P) hI hcs hx hm (Nat.min_le_left _ _)
  have hsh : ∃ base' cap', y' = .slice base' dLen cap' := by cases hy <;> exact ⟨_, _, rfl⟩
  obtain ⟨base', cap', rfl⟩ := hsh
  have a0 := arr_get hargs'
  have a1 := arr_get1 hargs'
  have h0 := arr_get hts
  have hlen := aLen_sound (P := P) hm hx w
  have run : ∀ w', (∀ a, base' = some a → (storeCells a cs').run P w = .ok () w') → (base' = none → w' = w) → (Builtin.copy_ ts ty args').run P w = .ok (goInt (Nat.min m dLen)) w' := by
    intro w' hst hn
    cases base' with
    | none =>
      rw [hn rfl]
      simp [Builtin.copy_, h0, a0, a1, run_underlying ht, hlen, size_run hT hsz, hf]
    | some a =>
      have := hst a rfl
      simp [Builtin.copy_, h0, a0, a1, run_underlying ht, hlen, size_run hT hsz, hf, this]
  unfold aCopy2 at hk
  cases hb : Nat.beq (Nat.min m dLen) 0 with
  | true =>
    have hb' := Nat.eq_of_beq_eq_true hb
    rw [hb] at hk
    cases hk
    refine ⟨_, _, rfl, valOk_same hI (.int _ _) ?_⟩
    have hcs0 : cs' = [] := by
      unfold aCells at hcs
      rw [hb] at hcs
      cases hcs
      cases hrel
      rfl
    rw [run w (fun a ha => by rw [hcs0]; rfl) (fun _ => rfl), hb']
    rfl
  | false =>
    have hb' := beq_false hb
    rw [hb] at hk
    simp only [cond_false] at hk
    obtain ⟨b, o, rfl, hk⟩ := onAddr_some hk
    obtain ⟨s', hw, hk⟩ := obnd_some hk
    cases hk
    refine ⟨_, _, rfl, ?_⟩
    have main : ∀ l, σ b = some l → base' = some ⟨l.blk, l.off + o, none⟩ → ValOk B0 w0 σ s ((Builtin.copy_ ts ty args').run P w) (.int .i64 (.ofNat (Nat.min m dLen))) s' := by
      rintro l hb rfl
      obtain ⟨i1, i2, i3⟩ := hI.write hb hw hrel
      exact ⟨σ, _, _, Ext.refl, Nat.le_of_eq i2.symm, i1, .int _ _, run _ (fun a ha => by cases ha; exact i3 P) (fun hc => by cases hc)⟩
    cases hy with
    | slice hb _ => exact main _ hb rfl
    | sliceO hb => exact main _ hb rfl
    | sliceE => exact absurd (Nat.min_zero _) hb'
    | slice0 => exact absurd (Nat.min_zero _) hb'

theorem aClear_sound (hI : Inv B0 w0 σ s w) {ts : Array TypeId} {ty : TypeId} {args : List Value} {args' : Array Value} {r : AR} (hr : LRel σ args args'.toList) (h : aClear T ts.toList args s = some r) :
    ∃ v s', r = .val v s' ∧ ValOk B0 w0 σ s ((Builtin.clear_ ts ty args').run P w) v s' := by
  obtain ⟨t, tr, hts, h⟩ := on1_some h
  obtain ⟨x, ar, hargs, h⟩ := on1_some h
  obtain ⟨x', ar', hargs', hx⟩ := lrel_one hr hargs
  obtain ⟨d, hd, h⟩ := obnd_some h
  obtain ⟨el, hel, h⟩ := obnd_some h
  have hde := elemOfS_some hel
  obtain ⟨base, n, c, rfl, hk⟩ := onSlice_some h
  have ht := hT.ty _ _ hd
  rw [hde] at ht
  have a0 := arr_get hargs'
  have h0 := arr_get hts
  unfold aClear1 at hk
  cases hb : (Nat.beq n 0 || !isS base) with
  | true =>
    rw [hb] at hk
    cases hk
    refine ⟨_, _, rfl, valOk_same hI (VRel.tuple rfl (by simp)) ?_⟩
    have hcase : n = 0 ∨ base = none := by
      cases hn : Nat.beq n 0 with
      | true => exact .inl (Nat.eq_of_beq_eq_true hn)
      | false =>
        rw [hn] at hb
        cases base with
        | none => exact .inr rfl
        | some a => cases hb
    have hsh : ∃ base' cap', x' = .slice base' n cap' ∧ (base' = none ∨ n = 0) := by
      cases hx with
      | nilSlice => exact ⟨_, _, rfl, .inl rfl⟩
      | slice => rcases hcase with h | h <;> first | exact ⟨_, _, rfl, .inr h⟩ | cases h
      | sliceO => rcases hcase with h | h <;> first | exact ⟨_, _, rfl, .inr h⟩ | cases h
      | sliceE => exact ⟨_, _, rfl, .inr rfl⟩
      | slice0 => exact ⟨_, _, rfl, .inr rfl⟩
    obtain ⟨base', cap', rfl, hc⟩ := hsh
    rcases hc with rfl | rfl
    · simp [Builtin.clear_, h0, a0, run_underlying ht]
    · cases base' <;> simp [Builtin.clear_, h0, a0, run_underlying ht]
  | false =>
    rw [hb] at hk
    simp only [cond_false] at hk
    obtain ⟨z, hz, hk⟩ := obnd_some hk
    obtain ⟨b, o, rfl, hk⟩ := onAddr_some hk
    obtain ⟨s', hw, hk⟩ := obnd_some hk
    cases hk
    have hn0 : n ≠ 0 := fun e => by subst e; simp at hb
    refine ⟨_, _, rfl, ?_⟩
    obtain ⟨hzrun, hzp⟩ := zero_run hT hz w
    have hzr : LRel σ (cellsL z) z.cells.toList := by rw [cellsL_eq]; exact cellsL_rel (VRel.plain hzp) (known_plain hzp)
    have main : ∀ l c', σ b = some l → x' = .slice (some ⟨l.blk, l.off + o, none⟩) n c' → ValOk B0 w0 σ s ((Builtin.clear_ ts ty args').run P w) (.tuple #[]) s' := by
      rintro l c' hb rfl
      obtain ⟨i1, i2, i3⟩ := hI.write hb hw (repL_rel hzr n)
      refine ⟨σ, _, _, Ext.refl, Nat.le_of_eq i2.symm, i1, VRel.tuple (xs := #[]) (xs' := #[]) rfl (by simp), ?_⟩
      obtain ⟨n, rfl⟩ : ∃ k, n = k + 1 := ⟨n - 1, by omega⟩
      have := i3 P
      have hzc : Builtin.zeroCells z.cells (n + 1) = (repL z.cells.toList (n + 1)).toArray := by
        by_cases hzs : z.cells.size = 0
        · have e1 : z.cells = #[] := Array.eq_empty_of_size_eq_zero hzs
          have e2 : ∀ k, repL [] k = [] := fun k => by
            induction k with
            | zero => rfl
            | succ k ih => simp [repL, ih]
          rw [e1]
          simp [Builtin.zeroCells, e2]
        · exact zeroCells_eq z.cells (n + 1) (by omega)
      simp [Builtin.clear_, h0, a0, run_underlying ht, hzrun, hzc, this]
    cases hx with
    | slice hb _ => exact main _ _ hb rfl
    | sliceO hb => exact main _ _ hb rfl
    | sliceE => exact absurd rfl hn0
    | slice0 => exact absurd rfl hn0

theorem aLenOp_sound (hI : Inv B0 w0 σ s w) {ts : Array TypeId} {ty : TypeId} {args : List Value} {args' : Array Value} {r : AR} (hr : LRel σ args args'.toList) (h : aLenOp T ts.toList args s = some r) :
    ∃ v v', r = .val v s ∧ VRel σ v v' ∧ (Builtin.len_ ts ty args').run P w = .ok v' w := by
  obtain ⟨t, tr, hts, h⟩ := on1_some h
  obtain ⟨x, ar, hargs, h⟩ := on1_some h
  obtain ⟨x', ar', hargs', hx⟩ := lrel_one hr hargs
  obtain ⟨d, hd, h⟩ := obnd_some h
  have ht := hT.ty _ _ hd
  have a0 := arr_get hargs'
  have h0 := arr_get hts
  cases d with
  | string =>
    obtain ⟨y, rfl, hk⟩ := onStr_some h
    cases hk
    cases hx
    exact ⟨_, _, rfl, .int _ _, by simp [Builtin.len_, h0, a0, run_underlying ht, goInt]⟩
  | array n el =>
    cases h
    exact ⟨_, _, rfl, .int _ _, by simp [Builtin.len_, h0, a0, run_underlying ht, goInt]⟩
  | slice el =>
    have h : lenSl s x = some r := h
    unfold lenSl at h
    split at h
    · cases h
      refine ⟨_, _, rfl, .int _ _, ?_⟩
      cases hx <;> simp [Builtin.len_, h0, a0, run_underlying ht, goInt]
    · cases h
      cases hx
      obtain ⟨p, n, c, e0, e1, _⟩ := Tok.short
      refine ⟨_, _, rfl, .ext 1, ?_⟩
      rw [e0] at a0
      rw [e1]
      simp [Builtin.len_, h0, a0, run_underlying ht, goInt]
    · cases h
      cases hx
      obtain ⟨p, n, c, e0, e1, _⟩ := Tok.long
      refine ⟨_, _, rfl, .ext 3, ?_⟩
      rw [e0] at a0
      rw [e1]
      simp [Builtin.len_, h0, a0, run_underlying ht, goInt]
    · cases h
  | map k e =>
    have h : lenMap s x = some r := h
    unfold lenMap at h
    split at h
    · cases h
      cases hx
      exact ⟨_, _, rfl, .int _ _, by simp [Builtin.len_, h0, a0, run_underlying ht, goInt]⟩
    · split at h
      · rename_i es ck hg
        cases h
        cases hx with
        | map hb =>
        obtain ⟨_, O, he, hO⟩ := hI.maps _ _ _ hb hg trivial
        cases hO with
        | @map _ es' _ hm =>
        refine ⟨_, _, rfl, .int _ _, ?_⟩
        have hlen : es'.size = es.length := by
          have : ∀ {a b : List MapEntry}, MRel σ a b → b.length = a.length := by
            intro a b hm
            induction hm with
            | nil => rfl
            | cons _ _ ih => simp [ih]
          simpa using this hm
        simp [Builtin.len_, h0, a0, run_underlying ht, goInt, getObj, Sem.run, he, hlen]
      · cases h
    · cases h
  | _ => cases h
theorem aCapOp_sound {ts : Array TypeId} {ty : TypeId} {args : List Value} {args' : Array Value} {r : AR} (hr : LRel σ args args'.toList) (h : aCapOp T ts.toList args s = some r) (w : World) :
    ∃ v, r = .val v s ∧ plain1 v = true ∧ (Builtin.cap_ ts ty args').run P w = .ok v w := by
  obtain ⟨t, tr, hts, h⟩ := on1_some h
  obtain ⟨x, ar, hargs, h⟩ := on1_some h
  obtain ⟨x', ar', hargs', hx⟩ := lrel_one hr hargs
  obtain ⟨d, hd, h⟩ := obnd_some h
  have ht := hT.ty _ _ hd
  have a0 := arr_get hargs'
  have h0 := arr_get hts
  cases d with
  | slice el =>
    obtain ⟨b, n, c, rfl, hk⟩ := onSlice_some h
    obtain ⟨hc, hk⟩ := cond_some hk
    have hc := blt_true hc
    cases hk
    have hsh : ∃ b' , x' = .slice b' n c := by
      cases hx with
      | sliceO => exact absurd hc (Nat.not_lt.2 (Nat.le_add_right _ _))
      | sliceE => exact absurd hc (Nat.lt_irrefl _)
      | _ => exact ⟨_, rfl⟩
    obtain ⟨b', rfl⟩ := hsh
    exact ⟨_, rfl, rfl, by simp [Builtin.cap_, h0, a0, run_underlying ht, goInt]⟩
  | _ => cases h
end
end Go.Proofs.YtpgjilakcepilaaGreat.Ab
namespace Go.Proofs.YtpgjilakcepilaaGreat.Ab
open Go.RowKit
set_option linter.unusedSectionVars false
variable [Tok]
section
variable {T : Tab} {P : Program} (hT : T.Ok P) {σ : Inj}

theorem eqInt2_sound {x y x' y' : Value} {b : Bool} (hx : VRel σ x x') (hy : VRel σ y y') (h : eqInt2 x y = some b) {t : Nat} {k : IntKind} (hd : P.underlying t = some (.int k)) (n : Nat) (w : World) :
    (Op.equalIn (n + 1) t x' y').run P w = .ok b w := by
  unfold eqInt2 at h
  split at h
  · rename_i k1 a k2 c
    obtain ⟨hk, h⟩ := cond_some h
    cases h
    cases hx
    cases hy
    obtain rfl := keq_eq hk
    rw [run_equalIn_int w n t k1 k a c hd, ieq_eq]
  · cases h
theorem eqCx_sound {x y x' y' : Value} {b : Bool} (hx : VRel σ x x') (hy : VRel σ y y') (h : eqCx x y = some b) {t : Nat} {k : FloatKind} (hd : P.underlying t = some (.complex k)) (n : Nat) (w : World) :
    (Op.equalIn (n + 1) t x' y').run P w = .ok b w := by
  unfold eqCx at h
  split at h
  · cases h
    cases hx
    cases hy
    simp [Op.equalIn, run_underlying hd]
  · cases h
theorem eqBool2_sound {x y x' y' : Value} {b : Bool} (hx : VRel σ x x') (hy : VRel σ y y') (h : eqBool x y = some b) {t : Nat} (hd : P.underlying t = some .bool) (n : Nat) (w : World) :
    (Op.equalIn (n + 1) t x' y').run P w = .ok b w := by
  unfold eqBool at h
  split at h
  · cases h
    cases hx
    cases hy
    simp only [Op.equalIn, Sem.run_bind, run_underlying hd, Result.andThen_ok]; rfl
  · cases h
theorem onAggs_some {x y : Value} {f : List Value → List Value → Option Bool} {b : Bool} (h : onAggs x y f = some b) : ∃ xs ys, x = .agg xs ∧ y = .agg ys ∧ f xs.toList ys.toList = some b := by
  unfold onAggs at h
  split at h
  · exact ⟨_, _, rfl, rfl, h⟩
  · cases h

/-- what an equality of parts must answer for the model's -/
def EqSound (P : Program) (σ : Inj) (n : Nat) (eq : EqF) : Prop :=
  ∀ (t : Nat) (x y x' y' : Value) (b : Bool), VRel σ x x' → VRel σ y y' → eq t x y = some b → ∀ w, (Op.equalIn n t x' y').run P w = .ok b w
include hT
theorem eqFields_sound {n : Nat} {eq : EqF} (hE : EqSound P σ n eq) {xs ys : List Value} {xs' ys' : Array Value} (hx : LRel σ xs xs'.toList) (hy : LRel σ ys ys'.toList) (w : World) :
    ∀ (fs : List Field) (b : Bool), (∀ f ∈ fs, f.name ≠ "_") → eqFields T eq xs ys fs = some b → (Op.eqFields n xs' ys' fs).run P w = .ok b w
  | [], b, _, h => by cases h; rfl
  | f :: fs, b, hn, h => by
    obtain ⟨u, hu, h⟩ := obnd_some (show obnd _ _ = some b from h)
    obtain ⟨v, hv, h⟩ := obnd_some h
    obtain ⟨q, hq, h⟩ := obnd_some h
    obtain ⟨u', h1, h2⟩ := part_sound hT hx hu w
    obtain ⟨v', h3, h4⟩ := part_sound hT hy hv w
    have h5 := hE _ _ _ _ _ _ h1 h3 hq w
    have hname : f.name ≠ "_" := hn f List.mem_cons_self
    simp only [Op.eqFields, hname, ne_eq, not_false_eq_true, if_true, Sem.run_bind, h2, h4, h5, Result.andThen_ok]
    cases q with
    | true =>
      simp only [Bool.not_true, Bool.false_eq_true, if_false]
      exact eqFields_sound hE hx hy w fs b (fun g hg => hn g (List.mem_cons_of_mem _ hg)) h
    | false =>
      cases h
      simp
theorem eqElems_sound {n m : Nat} {eq : EqF} (hE : EqSound P σ n eq) {el : Nat} {xs ys : List Value} {xs' ys' : Array Value} (hx : LRel σ xs xs'.toList) (hy : LRel σ ys ys'.toList) (w : World) :
    ∀ (k i : Nat) (b : Bool), eqElems T eq el m xs ys k i = some b →
      (forIn (m := Sem) (List.range' i k) ((none : Option Bool), PUnit.unit) fun i _ => do
        let a ← part el xs' (i * m)
        let c ← part el ys' (i * m)
        let r ← Op.equalIn n el a c
        if (!r) = true then Pure.pure (ForInStep.done (some false, PUnit.unit)) else Pure.pure (ForInStep.yield (none, PUnit.unit))).run P w = .ok (cond b none (some false), PUnit.unit) w
  | 0, i, b, h => by cases h; rfl
  | k + 1, i, b, h => by
    obtain ⟨u, hu, h⟩ := obnd_some (show obnd _ _ = some b from h)
    obtain ⟨v, hv, h⟩ := obnd_some h
    obtain ⟨q, hq, h⟩ := obnd_some h
    obtain ⟨u', h1, h2⟩ := part_sound hT hx hu w
    obtain ⟨v', h3, h4⟩ := part_sound hT hy hv w
    have h5 := hE _ _ _ _ _ _ h1 h3 hq w
    rw [List.range'_succ]
    simp only [List.forIn_cons, Sem.run_bind, h2, h4, h5, Result.andThen_ok]
    cases q with
    | true =>
      simp only [Bool.not_true, Bool.false_eq_true, if_false, Sem.run_pure, Result.andThen_ok]
      exact eqElems_sound hE hx hy w k (i + 1) b h
    | false =>
      cases h
      simp
theorem eqDeep_sound : ∀ (d n : Nat), EqSound P σ (d + n) (eqDeep T d)
  | 0, n => fun t x y x' y' b hx hy h w => by cases h
  | d + 1, n => fun t x y x' y' b hx hy h w => by
    obtain ⟨td, htd, h⟩ := obnd_some (show obnd (T.ty t) _ = some b from h)
    have hu := hT.ty _ _ htd
    have hE := eqDeep_sound d n
    rw [show d + 1 + n = d + n + 1 by omega]
    unfold eqDeepAs at h
    split at h
    · exact eqInt2_sound hx hy h hu _ w
    · exact eqBool2_sound hx hy h hu _ w
    · exact eqCx_sound hx hy h hu _ w
    · rename_i fs
      obtain ⟨hf, h⟩ := cond_some h
      obtain ⟨xs, ys, rfl, rfl, h⟩ := onAggs_some h
      obtain ⟨xs', rfl, hx'⟩ := hx.agg_inv
      obtain ⟨ys', rfl, hy'⟩ := hy.agg_inv
      obtain ⟨f1, _, f2⟩ := hT.fair t hf
      have hfo : P.fieldsOf t = fs := by simp [Program.fieldsOf, hu]
      rw [run_equalIn_struct w (d + n) t xs' ys' (by rw [hfo]; exact hu) f1, hfo]
      exact eqFields_sound hT hE hx' hy' w _ b (f2 fs hu) h
    · rename_i len el
      obtain ⟨xs, ys, rfl, rfl, h⟩ := onAggs_some h
      obtain ⟨m, hm, h⟩ := obnd_some h
      obtain ⟨xs', rfl, hx'⟩ := hx.agg_inv
      obtain ⟨ys', rfl, hy'⟩ := hy.agg_inv
      have := eqElems_sound hT hE hx' hy' w len 0 b h
      simp only [Op.equalIn, Sem.run_bind, run_underlying hu, Result.andThen_ok, size_run hT hm]
      rw [Std.Legacy.Range.forIn_eq_forIn_range']
      simp only [Std.Legacy.Range.size, Nat.sub_zero, Nat.add_sub_cancel, Nat.div_one]
      rw [this]
      cases b <;> rfl
    · cases h
end
end Go.Proofs.YtpgjilakcepilaaGreat.Ab
namespace Go.Proofs.YtpgjilakcepilaaGreat.Ab
open Go.RowKit
set_option linter.unusedSectionVars false
variable [Tok]
section
variable {T : Tab} {P : Program} (hT : T.Ok P) {B0 : Nat} {w0 : World} {σ : Inj} {s : St} {w : World}

theorem rng_spec {k : Nat} (h : isRng k = true) : ∃ n : Nat, Tok.ext k = .int .i64 (.ofNat n) ∧ loT (Nat.sub k 10) ≤ n ∧ n ≤ hiT (Nat.sub k 10) := by
  unfold isRng at h
  rw [Bool.and_eq_true] at h
  have h1 := Nat.le_of_ble_eq_true h.1
  have h2 := Nat.le_of_ble_eq_true h.2
  have h3 := Tok.rng (Nat.sub k 10) (by show k - 10 < 3; omega)
  have e : 10 + Nat.sub k 10 = k := by show 10 + (k - 10) = k; omega
  rw [e] at h3
  exact h3
theorem maxArgs_sound {ts : List Nat} {ts' : Array TypeId} {ty : TypeId} {args : List Value} {args' : Array Value} {r : AR} (hr : LRel σ args args'.toList) (h : maxArgs T ts args s = some r) (w : World)
    (hp : ∀ {r : AR}, pureArgs (Builtin.max_ #[] 0) T ts args s = some r → ∃ v v', r = .val v s ∧ VRel σ v v' ∧ (Builtin.max_ ts' ty args').run P w = .ok v' w) :
    ∃ v v', r = .val v s ∧ VRel σ v v' ∧ (Builtin.max_ ts' ty args').run P w = .ok v' w := by
  unfold maxArgs orElseR at h
  split at h
  · rename_i r' h'
    cases h
    unfold rngMax at h'
    split at h'
    · rename_i c k
      obtain ⟨h1, h2⟩ := cond_some h'
      cases h2
      rw [Bool.and_eq_true] at h1
      obtain ⟨n, e1, hl, _⟩ := rng_spec h1.1
      have h2 := Nat.le_of_ble_eq_true h1.2
      refine ⟨_, _, rfl, .ext k, ?_⟩
      obtain ⟨l⟩ := args'
      cases hr with
      | cons ha hr =>
      cases hr with
      | cons hb hr =>
      cases hr
      cases ha
      cases hb
      rw [e1]
      have hif : (if (Int.ofNat c) < (Int.ofNat n) then (Int.ofNat n) else (Int.ofNat c)) = Int.ofNat n := by
        split
        · rfl
        · rename_i hx
          have : c = n := by simp at hx; omega
          rw [this]
      have hrun : ∀ x y : Int, (Builtin.max_ ts' ty ⟨[.int .i64 x, .int .i64 y]⟩).run P w = .ok (.int .i64 (if y > x then y else x)) w := by
        intro x y
        simp [Builtin.max_, Builtin.max2]
      rw [hrun]
      exact congrArg (fun z => Result.ok (Value.int .i64 z) w) hif
    · cases h'
  · exact hp h
theorem minArgs_sound {ts : List Nat} {ts' : Array TypeId} {ty : TypeId} {args : List Value} {args' : Array Value} {r : AR} (hr : LRel σ args args'.toList) (h : minArgs T ts args s = some r) (w : World)
    (hp : ∀ {r : AR}, pureArgs (Builtin.min_ #[] 0) T ts args s = some r → ∃ v v', r = .val v s ∧ VRel σ v v' ∧ (Builtin.min_ ts' ty args').run P w = .ok v' w) :
    ∃ v v', r = .val v s ∧ VRel σ v v' ∧ (Builtin.min_ ts' ty args').run P w = .ok v' w := by
  unfold minArgs orElseR at h
  split at h
  · rename_i r' h'
    cases h
    unfold rngMin at h'
    split at h'
    · rename_i k c
      obtain ⟨h1, h2⟩ := cond_some h'
      cases h2
      rw [Bool.and_eq_true] at h1
      obtain ⟨n, e1, _, hl⟩ := rng_spec h1.1
      have h2 := Nat.le_of_ble_eq_true h1.2
      refine ⟨_, _, rfl, .ext k, ?_⟩
      obtain ⟨l⟩ := args'
      cases hr with
      | cons ha hr =>
      cases hr with
      | cons hb hr =>
      cases hr
      cases ha
      cases hb
      rw [e1]
      have hif : (if (Int.ofNat c) < (Int.ofNat n) then (Int.ofNat c) else (Int.ofNat n)) = Int.ofNat n := by
        split
        · rename_i hx
          simp at hx
          omega
        · rfl
      have hrun : ∀ x y : Int, (Builtin.min_ ts' ty ⟨[.int .i64 x, .int .i64 y]⟩).run P w = .ok (.int .i64 (if y < x then y else x)) w := by
        intro x y
        simp [Builtin.min_, Builtin.min2]
      rw [hrun]
      exact congrArg (fun z => Result.ok (Value.int .i64 z) w) hif
    · cases h'
  · exact hp h
theorem pureArgs_sound {f : Array Value → Sem Value} {ts : List Nat} {args : List Value} {args' : Array Value} {r : AR} (hr : LRel σ args args'.toList) (h : pureArgs f T ts args s = some r) (w : World) :
    ∃ v, r = .val v s ∧ plain1 v = true ∧ (f args').run P w = .ok v w := by
  obtain ⟨hp, h⟩ := cond_some h
  obtain ⟨v, h1, h2, h3⟩ := pure_sound h w
  have he := hr.eq_of_plain1 hp
  refine ⟨v, h1, h2, ?_⟩
  have : args' = args.toArray := by rw [← he]
  rw [this]
  exact h3 P

def notIface : Value → Bool
  | .nilIface | .agg _ => false
  | _ => true
theorem eqGuard_run {op : BinOp} {t : TypeId} {x y : Operand} {a b : Value} (ha : notIface a = true) (P : Program) (w : World) : (eqGuard op t x y a b).run P w = .ok () w := by
  unfold eqGuard
  cases op <;> first | rfl | (cases a <;> first | (simp [notIface] at ha; done) | (cases b <;> rfl))
def GuardOk (P : Program) (op : BinOp) (t : TypeId) (a b : Value) : Prop := ∀ (x y : Operand) (w : World), (eqGuard op t x y a b).run P w = .ok () w
theorem guard_of {P : Program} {op : BinOp} {t : TypeId} {a b : Value} (ha : notIface a = true) : GuardOk P op t a b := fun _ _ w => eqGuard_run ha P w
include hT
theorem eqAs_sound {n t : Nat} {d : TypeDesc} {x y x' y' : Value} {b : Bool} (hd : T.ty t = some d) (hx : VRel σ x x') (hy : VRel σ y y') (h : eqAs d x y = some b) (w : World) :
    (Op.equalIn (n + 1) t x' y').run P w = .ok b w ∧ notIface x' = true := by
  have hu := hT.ty _ _ hd
  unfold eqAs at h
  cases d <;> simp only at h
  case bool =>
    unfold eqBool at h
    split at h
    · cases h; cases hx; cases hy
      refine ⟨?_, rfl⟩
      simp only [Op.equalIn, Sem.run_bind, run_underlying hu, Result.andThen_ok]; rfl
    · cases h
  case pointer e =>
    unfold eqPtr at h
    split at h
    · cases h
      cases hx
      cases hy <;> exact ⟨by simp only [Op.equalIn, Sem.run_bind, run_underlying hu, Result.andThen_ok]; rfl, rfl⟩
    · cases h
      cases hx
      cases hy
      exact ⟨by simp only [Op.equalIn, Sem.run_bind, run_underlying hu, Result.andThen_ok]; rfl, rfl⟩
    · cases h
  case slice e =>
    unfold eqSl at h
    split at h
    · cases h
      cases hx
      cases hy <;> exact ⟨by simp only [Op.equalIn, Sem.run_bind, run_underlying hu, Result.andThen_ok]; rfl, rfl⟩
    · cases h
      cases hy
      cases hx <;> exact ⟨by simp only [Op.equalIn, Sem.run_bind, run_underlying hu, Result.andThen_ok]; rfl, rfl⟩
    · cases h
  case map k e =>
    unfold eqMap at h
    split at h
    · cases h
      cases hx
      cases hy <;> exact ⟨by simp only [Op.equalIn, Sem.run_bind, run_underlying hu, Result.andThen_ok]; rfl, rfl⟩
    · cases h
      cases hy
      cases hx
      exact ⟨by simp only [Op.equalIn, Sem.run_bind, run_underlying hu, Result.andThen_ok]; rfl, rfl⟩
    · cases h
  case func a b c =>
    unfold eqFn at h
    split at h
    · cases h
      cases hx
      cases hy
      exact ⟨by simp only [Op.equalIn, Sem.run_bind, run_underlying hu, Result.andThen_ok]; rfl, rfl⟩
    · cases h
      cases hx
      cases hy <;> exact ⟨by simp only [Op.equalIn, Sem.run_bind, run_underlying hu, Result.andThen_ok]; rfl, rfl⟩
    · cases h
      cases hy
      cases hx <;> exact ⟨by simp only [Op.equalIn, Sem.run_bind, run_underlying hu, Result.andThen_ok]; rfl, rfl⟩
    · cases h
  all_goals cases h
theorem eqOther {op : BinOp} {t : Nat} {x y x' y' : Value} {b : Bool} (hx : VRel σ x x') (hy : VRel σ y y') (h : aEq T t x y = some b) (w : World) : (Op.equal t x' y').run P w = .ok b w ∧ GuardOk P op t x' y' := by
  obtain ⟨d, hd, h⟩ := obnd_some h
  have e : Op.maxDepth = 9999 + 1 := rfl
  unfold Op.equal
  rw [e]
  cases hdd : deepD d with
  | false =>
    rw [hdd] at h
    obtain ⟨h1, h2⟩ := eqAs_sound hT (n := 9999) hd hx hy h w
    exact ⟨h1, guard_of h2⟩
  | true =>
    rw [hdd] at h
    obtain ⟨hf, h⟩ := cond_some h
    refine ⟨eqDeep_sound hT 8 9992 t x y x' y' b hx hy h w, fun ox oy w => ?_⟩
    obtain ⟨td, htd, h⟩ := obnd_some (show obnd (T.ty t) _ = some b from h)
    rw [hd] at htd
    cases htd
    have hag : ∃ xs ys, x' = .agg xs ∧ y' = .agg ys := by
      unfold eqDeepAs at h
      split at h <;> try (cases hdd; done)
      · obtain ⟨_, h⟩ := cond_some h
        obtain ⟨xs, ys, rfl, rfl, _⟩ := onAggs_some h
        obtain ⟨xs', rfl, _⟩ := hx.agg_inv
        obtain ⟨ys', rfl, _⟩ := hy.agg_inv
        exact ⟨_, _, rfl, rfl⟩
      · obtain ⟨xs, ys, rfl, rfl, _⟩ := onAggs_some h
        obtain ⟨xs', rfl, _⟩ := hx.agg_inv
        obtain ⟨ys', rfl, _⟩ := hy.agg_inv
        exact ⟨_, _, rfl, rfl⟩
      · cases h
    obtain ⟨xs, ys, rfl, rfl⟩ := hag
    exact run_eqGuard_agg w op t ox oy xs ys (hT.fair t hf).2.1
def scalar : Value → Bool
  | .int .. | .float .. | .complex .. | .string _ => true
  | _ => false
omit hT in
theorem binOp_other {op : BinOp} {t : TypeId} {x y : Value} (hx : ∀ k n, x ≠ .int k n) (h1 : ∀ k n, x ≠ .float k n) (h2 : ∀ k a b, x ≠ .complex k a b) (h3 : ∀ y, x ≠ .string y) (hop : op = .eql ∨ op = .neq) :
    binOp op t x y = (match op with | .eql => do pure (.bool (← Op.equal t x y)) | _ => do pure (.bool (!(← Op.equal t x y)))) := by
  rcases hop with rfl | rfl
  · cases x <;> first | rfl | exact absurd rfl (hx _ _) | exact absurd rfl (h1 _ _) | exact absurd rfl (h2 _ _ _) | exact absurd rfl (h3 _)
  · cases x <;> first | rfl | exact absurd rfl (hx _ _) | exact absurd rfl (h1 _ _) | exact absurd rfl (h2 _ _ _) | exact absurd rfl (h3 _)
omit hT in
theorem tokTok_int {op : BinOp} {a b : Nat} {v : Value} (ha : a < Tok.cnt) (hb : b < Tok.cnt) (h : tokTok op a b = some v) : isShift op = false ∧ aInt op .i64 (.ofNat (Tok.num a)) (.ofNat (Tok.num b)) = some v := by
  have key : Nat.beq a b = Nat.beq (Tok.num a) (Tok.num b) := by
    cases h1 : Nat.beq a b with
    | true => have := Nat.eq_of_beq_eq_true h1; subst this; simp
    | false =>
      cases h2 : Nat.beq (Tok.num a) (Tok.num b) with
      | false => rfl
      | true => exact absurd (Tok.inj a b ha hb (Nat.eq_of_beq_eq_true h2)) (beq_false h1)
  unfold tokTok at h
  split at h
  · rw [key] at h; exact ⟨rfl, h⟩
  · rw [key] at h; exact ⟨rfl, h⟩
  · cases h
omit hT in
theorem tokInt_int {op : BinOp} {a c : Nat} {v : Value} (ha : a < Tok.cnt) (h : tokInt op c = some v) : isShift op = false ∧ aInt op .i64 (.ofNat (Tok.num a)) (.ofNat c) = some v := by
  have hl := Tok.lt a ha
  unfold tokInt at h
  split at h
  · obtain ⟨h1, h⟩ := cond_some h
    cases Nat.eq_of_beq_eq_true h1
    cases h
    exact ⟨rfl, rfl⟩
  · obtain ⟨h1, h⟩ := cond_some h
    cases h
    have := ble_true h1
    refine ⟨rfl, ?_⟩
    show retB (Nat.ble (c + 1) (Tok.num a)) = retB false
    have h2 : Nat.ble (c + 1) (Tok.num a) = false := by
      cases h3 : Nat.ble (c + 1) (Tok.num a) with
      | false => rfl
      | true => have := ble_true h3; omega
    rw [h2]
  · obtain ⟨h1, h⟩ := cond_some h
    cases h
    have := ble_true h1
    refine ⟨rfl, ?_⟩
    show retB (!Nat.ble (Tok.num a + 1) c) = retB false
    have h2 : Nat.ble (Tok.num a + 1) c = true := Nat.ble_eq_true_of_le (by omega)
    rw [h2]
    rfl
  · cases h
theorem aBin_sound {op : BinOp} {t : Nat} {x y x' y' : Value} {r : AR} (hx : VRel σ x x') (hy : VRel σ y y') (h : aBin T op t x s y = some r) (w : World) :
    ∃ v, r = .val v s ∧ plain1 v = true ∧ (binOp op t x' y').run P w = .ok v w ∧ GuardOk P op t x' y' := by
  unfold aBin at h
  split at h
  · rename_i k a
    cases hx
    unfold binInt at h
    split at h
    · rename_i k' b
      cases hy
      obtain ⟨hc, h⟩ := cond_some h
      obtain ⟨v, hv, h⟩ := obnd_some h
      cases h
      cases hs : isShift op with
      | true =>
        obtain ⟨h1, h2⟩ := aShift_sound (P := P) (k' := k') hs hv t w
        exact ⟨v, rfl, h2, h1, guard_of rfl⟩
      | false =>
        rw [hs, Bool.or_false] at hc
        obtain rfl := keq_eq hc
        obtain ⟨h1, h2⟩ := aInt_sound (P := P) hs hv t w
        exact ⟨v, rfl, h2, h1, guard_of rfl⟩
    · cases h
  · rename_i k a
    cases hx with
    | float n =>
      obtain ⟨hp, h⟩ := cond_some (show cond _ _ none = some r from h)
      obtain ⟨v, h1, h2, h3⟩ := pure_sound h w
      rw [VRel.eq_of_plain1 hp hy]
      exact ⟨v, h1, h2, h3 P, guard_of rfl⟩
    | tok hj =>
      replace h : binTok op a s y = some r := h
      unfold binTok at h
      split at h
      · rename_i b
        cases hy with
        | tok hb =>
        obtain ⟨v, hv, h⟩ := obnd_some h
        cases h
        obtain ⟨h1, h2⟩ := tokTok_int hj hb hv
        obtain ⟨h3, h4⟩ := aInt_sound (P := P) h1 h2 t w
        exact ⟨v, rfl, h4, h3, guard_of rfl⟩
      · rename_i c
        cases hy
        obtain ⟨v, hv, h⟩ := obnd_some h
        cases h
        obtain ⟨h1, h2⟩ := tokInt_int hj hv
        obtain ⟨h3, h4⟩ := aInt_sound (P := P) h1 h2 t w
        exact ⟨v, rfl, h4, h3, guard_of rfl⟩
      · cases h
  · rename_i k
    unfold binExt at h
    split at h
    · cases h
    · split at h
      · rename_i k _ c
        cases hx
        cases hy
        obtain ⟨v, hv, h⟩ := obnd_some h
        cases h
        unfold ext100 at hv
        split at hv
        · obtain ⟨h1, hv⟩ := cond_some hv
          cases Nat.eq_of_beq_eq_true h1
          cases h2 : Nat.beq k 1 with
          | true =>
            rw [h2] at hv
            cases hv
            cases Nat.eq_of_beq_eq_true h2
            obtain ⟨p, n, _, _, e1, hn⟩ := Tok.short
            have h3 : aInt .gtr .i64 (.ofNat n) (.ofNat 100) = some (.bool false) := by
              show retB (Nat.ble (100 + 1) n) = retB false
              have h2 : Nat.ble (100 + 1) n = false := by
                cases h3 : Nat.ble (100 + 1) n with
                | false => rfl
                | true => have := ble_true h3; omega
              rw [h2]
            obtain ⟨h4, h5⟩ := aInt_sound (P := P) (op := .gtr) rfl h3 t w
            rw [e1]
            exact ⟨_, rfl, h5, h4, guard_of rfl⟩
          | false =>
            rw [h2] at hv
            have hv2 : cond (Nat.beq k 3) (retB true) none = some v := hv
            clear hv
            obtain ⟨h6, hv3⟩ := cond_some hv2
            clear hv2
            have hv3 : some (Value.bool true) = some v := hv3
            cases hv3
            cases Nat.eq_of_beq_eq_true h6
            obtain ⟨p, n, _, _, e1, hn⟩ := Tok.long
            have h3 : aInt .gtr .i64 (.ofNat n) (.ofNat 100) = some (.bool true) := by
              show retB (Nat.ble (100 + 1) n) = retB true
              rw [Nat.ble_eq_true_of_le hn]
            obtain ⟨h4, h5⟩ := aInt_sound (P := P) (op := .gtr) rfl h3 t w
            rw [e1]
            exact ⟨_, rfl, h5, h4, guard_of rfl⟩
        · obtain ⟨h1, hv⟩ := cond_some hv
          have hv : some (Value.bool true) = some v := hv
          cases hv
          rw [Bool.and_eq_true] at h1
          obtain ⟨n, e1, hl, _⟩ := rng_spec h1.1
          have h2 := ble_true h1.2
          have h3 : aInt .geq .i64 (.ofNat n) (.ofNat c) = some (.bool true) := by
            show retB (!Nat.ble (n + 1) c) = retB true
            have h2 : Nat.ble (n + 1) c = false := by
              cases h3 : Nat.ble (n + 1) c with
              | false => rfl
              | true => have := ble_true h3; omega
            rw [h2]
            rfl
          obtain ⟨h4, h5⟩ := aInt_sound (P := P) (op := .geq) rfl h3 t w
          rw [e1]
          exact ⟨_, rfl, h5, h4, guard_of rfl⟩
        · obtain ⟨h1, hv⟩ := cond_some hv
          have hv : some (Value.bool true) = some v := hv
          cases hv
          rw [Bool.and_eq_true] at h1
          obtain ⟨n, e1, _, hl⟩ := rng_spec h1.1
          have h2 := ble_true h1.2
          have h3 : aInt .leq .i64 (.ofNat n) (.ofNat c) = some (.bool true) := by
            show retB (!Nat.ble (c + 1) n) = retB true
            have h2 : Nat.ble (c + 1) n = false := by
              cases h3 : Nat.ble (c + 1) n with
              | false => rfl
              | true => have := ble_true h3; omega
            rw [h2]
            rfl
          obtain ⟨h4, h5⟩ := aInt_sound (P := P) (op := .leq) rfl h3 t w
          rw [e1]
          exact ⟨_, rfl, h5, h4, guard_of rfl⟩
        · cases hv
      · cases h
  · cases hx
    obtain ⟨hp, h⟩ := cond_some h
    obtain ⟨v, h1, h2, h3⟩ := pure_sound h w
    rw [VRel.eq_of_plain1 hp hy]
    exact ⟨v, h1, h2, h3 P, guard_of rfl⟩
  · cases hx
    obtain ⟨hp, h⟩ := cond_some h
    obtain ⟨v, h1, h2, h3⟩ := pure_sound h w
    rw [VRel.eq_of_plain1 hp hy]
    exact ⟨v, h1, h2, h3 P, guard_of rfl⟩
  · rename_i n1 n2 n5 n3 n4
    obtain ⟨b, hb, h⟩ := obnd_some h
    cases h
    have m1 : ∀ k n, x' ≠ .int k n := fun k n e => by cases hx <;> first | (cases e; done) | exact n1 _ _ rfl | exact n2 _ _ rfl | exact n5 _ rfl
    have m2 : ∀ k n, x' ≠ .float k n := fun k n e => by cases hx <;> first | (cases e; done) | exact n1 _ _ rfl | exact n2 _ _ rfl | exact n5 _ rfl
    have m3 : ∀ k a b, x' ≠ .complex k a b := fun k a b e => by cases hx <;> first | (cases e; done) | exact n3 _ _ _ rfl | exact n5 _ rfl
    have m4 : ∀ y, x' ≠ .string y := fun y e => by cases hx <;> first | (cases e; done) | exact n4 _ rfl | exact n5 _ rfl
    unfold binOther at hb
    split at hb
    · obtain ⟨h1, h2⟩ := eqOther hT hx hy hb w
      refine ⟨_, rfl, rfl, ?_, h2⟩
      rw [binOp_other m1 m2 m3 m4 (.inl rfl)]
      simp [h1]
    · obtain ⟨b', hb', hb⟩ := obnd_some hb
      cases hb
      obtain ⟨h1, h2⟩ := eqOther hT hx hy hb' w
      refine ⟨_, rfl, rfl, ?_, h2⟩
      rw [binOp_other m1 m2 m3 m4 (.inr rfl)]
      simp [h1]
    · cases hb
omit hT in
theorem byteL_spec : ∀ {l : List Value} {bs : List UInt8}, byteL l = some bs → ∃ ns : List Int, l = ns.map (Value.int .u8) ∧
    ∀ r : ByteArray, ns.foldl (fun r n => r.push (UInt8.ofNat n.toNat)) r = ⟨r.data ++ bs.toArray⟩
  | [], bs, h => by cases h; exact ⟨[], rfl, fun r => by simp⟩
  | v :: l, bs, h => by
    unfold byteL at h
    split at h
    · rename_i n
      obtain ⟨r, hr, h⟩ := obnd_some h
      cases h
      obtain ⟨ns, h1, h2⟩ := byteL_spec hr
      refine ⟨(n : Int) :: ns, by rw [h1]; rfl, fun q => ?_⟩
      simp only [List.foldl_cons]
      rw [h2]
      have e : (q.push (UInt8.ofNat ((n : Int).toNat))).data = q.data.push (UInt8.ofNat n) := rfl
      rw [e]
      simp
    · cases h
theorem aConvert_sound (hI : Inv B0 w0 σ s w) {src dst : Nat} {x x' : Value} {r : AR} (hx : VRel σ x x') (h : aConvert T src dst s x = some r) :
    ∃ v, r = .val v s ∧ plain1 v = true ∧ (convert src dst x').run P w = .ok v w := by
  obtain ⟨sd, hs, h⟩ := obnd_some h
  obtain ⟨dd, hd, h⟩ := obnd_some h
  have hsu := hT.ty _ _ hs
  have hdu := hT.ty _ _ hd
  cases dd with
  | int k =>
    have h : convInt k s x = some r := h
    unfold convInt at h
    split at h
    · cases h
      cases hx
      refine ⟨_, rfl, rfl, ?_⟩
      simp only [convert, Sem.run_bind, run_underlying hsu, run_underlying hdu, Result.andThen_ok, Conv.intToInt, Sem.run_pure, fwrap_eq]
    · cases h
  | float k =>
    have h : convFloat k s x = some r := h
    unfold convFloat at h
    split at h
    · obtain ⟨v, h1, h2, h3⟩ := pure_sound h w
      cases hx
      refine ⟨v, h1, h2, ?_⟩
      have := h3 P
      simp only [convert, Sem.run_bind, run_underlying hsu, run_underlying hdu, Result.andThen_ok]
      cases sd <;> exact this
    · cases h
  | string =>
    cases sd with
    | slice el =>
      obtain ⟨ed, he, h⟩ := obnd_some (show obnd (T.ty el) _ = some r from h)
      obtain ⟨hb, h⟩ := cond_some h
      have hbe : ed = .int .u8 := by
        unfold isByte at hb
        split at hb
        · rfl
        · cases hb
      obtain ⟨a, n, c, rfl, h⟩ := onSlice_some h
      obtain ⟨l, hl, h⟩ := obnd_some h
      obtain ⟨bs, hbs, h⟩ := obnd_some h
      cases h
      have heu := hT.ty _ _ he
      rw [hbe] at heu
      obtain ⟨ns, hns, hfold⟩ := byteL_spec hbs
      obtain ⟨cs', hrel, hf, _⟩ := aCells_sound (P := P) hI hl hx rfl (Nat.le_refl _)
      have hcs : cs' = l := hrel.eq_of_plain1 (by rw [hns]; simp [plain1])
      refine ⟨_, rfl, rfl, ?_⟩
      have hsh : ∃ a' c', x' = .slice a' n c' := by cases hx <;> exact ⟨_, _, rfl⟩
      obtain ⟨a', c', rfl⟩ := hsh
      have hstep : (convert src dst (.slice a' n c')).run P w = (Conv.bytesToString (.slice a' n c')).run P w := by
        simp only [convert, Sem.run_bind, run_underlying hsu, run_underlying hdu, Result.andThen_ok, run_underlying heu]
      rw [hstep]
      cases a' with
      | none =>
        have : l = [] := by
          simp only [Builtin.firstCells, Sem.run_pure] at hf
          have e : (#[] : Array Value) = cs'.toArray := by injection hf
          rw [← hcs]
          have := congrArg Array.toList e
          simpa using this.symm
        rw [this] at hbs
        cases hbs
        rfl
      | some a =>
        have hload : (loadCells a n).run P w = .ok (ns.map (Value.int .u8)).toArray w := by
          have := hf
          simp only [Builtin.firstCells, Nat.mul_one] at this
          rw [this, hcs, hns]
        rw [run_bytesToString w a n c' ns hload, hfold]
        simp
    | string =>
      obtain ⟨y, rfl, h⟩ := onStr_some (show onStr x _ = some r from h)
      cases h
      cases hx
      refine ⟨_, rfl, rfl, ?_⟩
      simp only [convert, Sem.run_bind, run_underlying hsu, run_underlying hdu, Result.andThen_ok]
      rfl
    | _ => cases h
  | _ => cases h
end
end Go.Proofs.YtpgjilakcepilaaGreat.Ab
namespace Go.Proofs.YtpgjilakcepilaaGreat.Ab
set_option linter.unusedSectionVars false
variable [Tok]
theorem negM_eq (a : Int) {m : Nat} (h : 0 < m) : negM a m = fmod (0 - a) m := by
  have h1 := fmod_eq (0 - a) h
  have h2 : ((negM a m : Nat) : Int) = (0 - a) % (m : Int) := by
    cases a with
    | ofNat a =>
      simp only [negM]
      have hlt : a % m < m := Nat.mod_lt _ h
      rw [Int.natCast_emod, Int.ofNat_sub (Nat.le_of_lt hlt), Int.natCast_emod]
      simp only [Int.zero_sub, Int.ofNat_eq_natCast]
      rw [Int.sub_emod, Int.emod_self, Int.emod_emod, ← Int.zero_emod (m : Int), ← Int.sub_emod, Int.zero_sub]
    | negSucc a => simp [negM, Int.neg_negSucc]
  rw [← h1] at h2
  exact Int.ofNat.inj h2
theorem aUn_sound {P : Program} {op : UnOp} {s : St} {u : Value} {r : AR} (h : aUn op s u = some r) (w : World) :
    ∃ v, r = .val v s ∧ plain1 v = true ∧ plain1 u = true ∧ (Op.unary op u).run P w = .ok v w := by
  have other : ∀ {x : Sem Value} {r : AR}, pureV s x = some r → ∃ v, r = .val v s ∧ plain1 v = true ∧ x.run P w = .ok v w := fun h => by
    obtain ⟨v, h1, h2, h3⟩ := pure_sound h w
    exact ⟨v, h1, h2, h3 P⟩
  unfold aUn at h
  split at h
  · rename_i k a
    unfold unInt at h
    split at h
    · cases h
      refine ⟨_, rfl, rfl, rfl, ?_⟩
      rw [negM_eq a (modulus_pos k)]
      have : fwrapR (signedK k) (modulus k) (fmod (0 - a) (modulus k)) = k.wrap (0 - a) := fwrap_eq k (0 - a)
      rw [this]
      simp [Op.unary, Op.intArith]
    · obtain ⟨v, h1, h2, h3⟩ := other h
      exact ⟨v, h1, h2, rfl, h3⟩
  · obtain ⟨hp, h⟩ := cond_some h
    obtain ⟨v, h1, h2, h3⟩ := other h
    exact ⟨v, h1, h2, hp, h3⟩
end Go.Proofs.YtpgjilakcepilaaGreat.Ab
namespace Go.Proofs.YtpgjilakcepilaaGreat.Ab
open Go.RowKit
set_option linter.unusedSectionVars false
variable [Tok]

/-- what an operation comes to -/
def OpOk (P : Program) (B0 : Nat) (w0 : World) (σ : Inj) (s : St) (w : World) (run : Result Next) : AR → Prop
  | .val v s' => ∃ σ' w' v', Ext s.next σ σ' ∧ s.next ≤ s'.next ∧ Inv B0 w0 σ' s' w' ∧ VRel σ' v v' ∧ run = .ok (.value v') w'
  | .skip s' => ∃ w', s'.next = s.next ∧ Inv B0 w0 σ s' w' ∧ run = .ok .skip w'
  | .call f args s' => s' = s ∧ ∃ args', LRel σ args args'.toList ∧ ((f < 1099511627776 ∧ run = (callFunc f args').run P w) ∨ ∃ b l, f = 1099511627776 + b ∧ σ b = some l ∧ run = (Instr.yield l.blk args').run P w)

section
variable {T : Tab} {P : Program} (hT : T.Ok P) {B0 : Nat} {w0 : World} {σ : Inj} {s : St} {w : World} {n : Nat} {e : Tree Value} {a : Act}

theorem opOk_same (hI : Inv B0 w0 σ s w) {v v' : Value} {run : Result Next} (hv : VRel σ v v') (h : run = .ok (.value v') w) : OpOk P B0 w0 σ s w run (.val v s) :=
  ⟨σ, w, v', Ext.refl, Nat.le_refl _, hI, hv, h⟩
theorem opOk_valOk {v : Value} {s' : St} {x : Sem Value} {run : Result Next} (h : ValOk B0 w0 σ s (x.run P w) v s') (hr : run = (x >>= fun v => (Pure.pure (Next.value v) : Sem Next)).run P w) : OpOk P B0 w0 σ s w run (.val v s') := by
  obtain ⟨σ', w', v', h1, h2, h3, h4, h5⟩ := h
  refine ⟨σ', w', v', h1, h2, h3, h4, ?_⟩
  rw [hr]
  simp [h5]

theorem map_snd {ps : List (Nat × Operand)} {f : Operand → Value} : (ps.map fun (i, x) => (i, f x)).map (·.2) = ps.map fun p => f p.2 := by simp [Function.comp_def]
theorem partsOne_spec : ∀ {ps : List (Nat × Value)}, partsOne ps = true → ∀ p ∈ ps, (cellsL p.2).all one = true
  | [], _, p, hp => by cases hp
  | (i, v) :: ps, h, p, hp => by
    obtain ⟨h1, h2⟩ := and_true h
    cases hp with
    | head => exact h1
    | tail _ hp => exact partsOne_spec h2 p hp

include hT
theorem opAlloc_sound (hI : Inv B0 w0 σ s w) {el : Nat} {r : AR} (h : opAlloc el T e s = some r) (o : Oper) (ho : o.op = .alloc el) : OpOk P B0 w0 σ s w ((execOp a.eval o).run P w) r := by
  obtain ⟨z, hz, h⟩ := obnd_some h
  cases h
  obtain ⟨hzr, hzp⟩ := zero_run hT hz w
  have hrel : LRel σ (cellsL z) (cellsL z) := cellsL_rel (VRel.plain hzp) (known_plain hzp)
  obtain ⟨h1, h2, h3⟩ := new_slice (el := el) (len := 0) (cap := 0) (es := 1) hI hrel OPEN_pos
  refine ⟨_, _, _, ext_add (Nat.le_refl _), Nat.le_succ _, h1, h3, ?_⟩
  have e : (cellsL z).toArray = z.cells := by rw [← cellsL_eq]
  simp [execOp, ho, Instr.alloc, hzr, newVar, newRow, e]
omit hT in
theorem opBox_sound (hI : Inv B0 w0 σ s w) (he : EnvRel σ n e a.tmps) {el : Nat} {x : Operand} {r : AR} (h : opBox x T e s = some r) (o : Oper) (ho : o.op = .box el x) : OpOk P B0 w0 σ s w ((execOp a.eval o).run P w) r := by
  obtain ⟨v, hv, h⟩ := obnd_some h
  obtain ⟨hk, h⟩ := cond_some h
  cases h
  have hrel := cellsL_rel (aOpd_sound he hv) (known_ones hk)
  obtain ⟨h1, h2, h3⟩ := new_slice (el := el) (len := 0) (cap := 0) (es := 1) hI hrel OPEN_pos
  refine ⟨_, _, _, ext_add (Nat.le_refl _), Nat.le_succ _, h1, h3, ?_⟩
  have e : (cellsL (a.eval x)).toArray = (a.eval x).cells := by rw [← cellsL_eq]
  simp [execOp, ho, Instr.box, newVar, newRow, e]
theorem opBuildSlice_sound (hI : Inv B0 w0 σ s w) (he : EnvRel σ n e a.tmps) {t len : Nat} {ps : Array (Nat × Operand)} {r : AR} (h : opBuildSlice t len ps T e s = some r) (o : Oper) (ho : o.op = .buildSlice t len ps) : OpOk P B0 w0 σ s w ((execOp a.eval o).run P w) r := by
  obtain ⟨l, hl, h⟩ := obnd_some h
  obtain ⟨_, h⟩ := cond_some h
  obtain ⟨d, hd, h⟩ := obnd_some h
  obtain ⟨el, hel, h⟩ := obnd_some h
  have hde := elemOfS_some hel
  obtain ⟨z, hz, h⟩ := obnd_some h
  obtain ⟨k, hk, h⟩ := obnd_some h
  obtain ⟨hc, h⟩ := cond_some h
  obtain ⟨c1, hc⟩ := and_true hc
  obtain ⟨c2, hc⟩ := and_true hc
  obtain ⟨c3, c4⟩ := and_true hc
  have c1 := ble_true c1
  have c2 := Nat.eq_of_beq_eq_true c2
  have c3 := ble_true c3
  have c4 := ble_true c4
  obtain ⟨q, hq, h⟩ := obnd_some h
  cases h
  have ht := hT.ty _ _ hd
  rw [hde] at ht
  obtain ⟨hzr, hzp⟩ := zero_run hT hz w
  have hzs : z.cells.size = k := by
    have := c2
    rw [← cellsL_eq] at this
    simpa using this
  obtain ⟨p1, p2⟩ := aParts_sound he hl
  have hzrel : LRel σ (repL (cellsL z) len) (repL z.cells.toList len) := repL_rel (by rw [cellsL_eq]; exact cellsL_rel (VRel.plain hzp) (known_plain hzp)) len
  have hps : LRel σ (l.map (·.2)) (((ps.map fun (i, x) => (i, a.eval x)).toList).map (·.2)) := by
    rw [Array.toList_map, map_snd]
    exact p1
  have hps2 : l.map (·.1) = ((ps.map fun (i, x) => (i, a.eval x)).toList).map (·.1) := by
    rw [Array.toList_map]
    simpa [Function.comp_def] using p2
  obtain ⟨q', hq', hqr⟩ := aFill_sound (cs' := (repL z.cells.toList len).toArray) hps hps2 (by simpa using hzrel) hq
  have hcap : len < OPEN := by unfold OPEN; omega
  obtain ⟨h1, h2, h3⟩ := new_slice (el := el) (len := len) (cap := len) (es := k) hI hqr hcap
  refine ⟨_, _, _, ext_add (Nat.le_refl _), Nat.le_succ _, h1, h2, ?_⟩
  have hrz : (Array.range (len * k)).map (fun i => z.cells[i % z.cells.size]!) = (repL z.cells.toList len).toArray := by
    rw [← hzs]; exact rangeZero_eq z.cells len (by omega)
  have hbig : ¬ (len * k > 2 ^ 24) := by omega
  by_cases hl0 : len * k = 0
  · have : len = 0 := by
      rcases Nat.mul_eq_zero.1 hl0 with h | h
      · exact h
      · omega
    have hr0 : ∀ f : Nat → Value, (Array.range (len * k)).map f = (repL z.cells.toList len).toArray := fun f => by
      rw [hl0, this]; simp [repL]
    simp only [execOp, ho, Instr.buildSlice, Sem.run_bind, run_underlying ht, Result.andThen_ok, size_run hT hk, hbig, if_false, if_pos hl0, Sem.run_pure, hr0, hq', newRow, run_newObj]
    simp
  · simp only [execOp, ho, Instr.buildSlice, Sem.run_bind, run_underlying ht, Result.andThen_ok, size_run hT hk, hbig, if_false, hl0, hzr, Sem.run_pure, hrz, hq', newRow, run_newObj]
    simp
theorem opMakeSlice_sound (hI : Inv B0 w0 σ s w) (he : EnvRel σ n e a.tmps) {t : Nat} {l c : Operand} {r : AR} (h : opMakeSlice t l c T e s = some r) (o : Oper) (ho : o.op = .makeSlice t l c) : OpOk P B0 w0 σ s w ((execOp a.eval o).run P w) r := by
  obtain ⟨vl, hvl, h⟩ := obnd_some h
  obtain ⟨vc, hvc, h⟩ := obnd_some h
  obtain ⟨k1, nl, e1, hk1⟩ := onNat_some (show onNat vl _ = some r from h)
  obtain ⟨k2, nc, e2, hk2⟩ := onNat_some hk1
  rw [e1] at hvl
  rw [e2] at hvc
  clear h e1 e2 hk1
  obtain ⟨d, hd, h⟩ := obnd_some hk2
  obtain ⟨el, hel, h⟩ := obnd_some h
  have hde := elemOfS_some hel
  obtain ⟨z, hz, h⟩ := obnd_some h
  obtain ⟨i, hi, h⟩ := obnd_some h
  obtain ⟨hc, h⟩ := cond_some h
  obtain ⟨c1, hc⟩ := and_true hc
  obtain ⟨c2, hc⟩ := and_true hc
  obtain ⟨c3, hc⟩ := and_true hc
  obtain ⟨c4, c5⟩ := and_true hc
  have c1 := ble_true c1
  have c2 := ble_true c2
  have c3 := ble_true c3
  have c5 := ble_true c5
  cases h
  have ht := hT.ty _ _ hd
  rw [hde] at ht
  obtain ⟨hpi, hiz, hzs, hzr⟩ := zero_cells (σ := σ) hT hz hi c4
  have e1 := aOpd_sound he hvl
  have e2 := aOpd_sound he hvc
  have hcap : nc < OPEN := by unfold OPEN; omega
  obtain ⟨h1, h2, h3⟩ := new_slice (el := el) (len := nl) (cap := nc) (es := i.size) hI (repL_rel hzr nc) hcap
  refine ⟨_, _, _, ext_add (Nat.le_refl _), Nat.le_succ _, h1, h2, ?_⟩
  have e1' : a.eval l = .int k1 (nl : Int) := VRel.eq_of_plain1 rfl e1
  have e2' : a.eval c = .int k2 (nc : Int) := VRel.eq_of_plain1 rfl e2
  have hw : ∀ m : Nat, m ≤ 1048576 → IntKind.i64.wrap (m : Int) = m := fun m hm => by
    rw [← fwrap_eq]; unfold fwrap; rw [fwrapR_eq _ _ _ (fmod_lt _ (modulus_pos _))]; simp [signedK, fmod, modulus]; omega
  have hw1' : IntKind.i64.wrap (nl : Int) = nl := hw nl (by omega)
  have hw2' : IntKind.i64.wrap (nc : Int) = nc := hw nc c3
  have hz0 : (zeroValue el).run P w = .ok z w := (zero_run hT hz w).1
  have hb : ¬ (2 ^ 48 < (i.bytes : Int) * (nc : Int)) := by
    have h9 : ((nc * i.bytes : Nat) : Int) ≤ 140737488355328 := by omega
    rw [Int.natCast_mul, Int.mul_comm] at h9
    omega
  have hcond : (decide ((nc : Int) < 0) || decide ((i.bytes : Int) * (nc : Int) > 2 ^ 48) || decide ((nl : Int) < 0) || decide ((nl : Int) > (nc : Int))) = false := by
    simp; omega
  have hrz : (Array.range (nc * i.size)).map (fun j => z.cells[j % z.cells.size]!) = (repL z.cells.toList nc).toArray := by
    rw [← hzs]; exact rangeZero_eq z.cells nc (by omega)
  by_cases hn0 : nc * i.size = 0
  · have : nc = 0 := by
      rcases Nat.mul_eq_zero.1 hn0 with h | h
      · exact h
      · omega
    have hr0 : ∀ f : Nat → Value, (Array.range (nc * i.size)).map f = (repL z.cells.toList nc).toArray := fun f => by
      rw [hn0, this]; simp [repL]
    simp only [execOp, ho, Instr.makeSlice, Sem.run_bind, run_underlying ht, Result.andThen_ok, asInt, asIntOf, typeInfo, run_program, hpi, sizeOf, Sem.run_pure, e1', e2', hw1', hw2', hcond, if_neg, Bool.false_eq_true, not_false_eq_true, run_askRoom, Int.toNat_natCast, if_pos hn0, hr0, newRow, run_newObj]
    simp
  · simp only [execOp, ho, Instr.makeSlice, Sem.run_bind, run_underlying ht, Result.andThen_ok, asInt, asIntOf, typeInfo, run_program, hpi, sizeOf, Sem.run_pure, e1', e2', hw1', hw2', hcond, if_neg, Bool.false_eq_true, not_false_eq_true, run_askRoom, Int.toNat_natCast, hn0, hz0, hrz, newRow, run_newObj]
    simp
end
end Go.Proofs.YtpgjilakcepilaaGreat.Ab
namespace Go.Proofs.YtpgjilakcepilaaGreat.Ab
open Go.RowKit
set_option linter.unusedSectionVars false
variable [Tok]
section
variable {T : Tab} {P : Program} (hT : T.Ok P) {B0 : Nat} {w0 : World} {σ : Inj} {s : St} {w : World}

/-! ### entries -/
theorem getMap_run {P : Program} {w : World} {r : Nat} {es : Array MapEntry} {ck : Nat} (h : w.heap[r]? = some (.map es ck)) : (getObj r).run P w = .ok (.map es ck) w := by simp [getObj, Sem.run, h]
theorem setMap_run {P : Program} {w : World} {r : Nat} {es : Array MapEntry} {ck : Nat} (o : Obj) (h : w.heap[r]? = some (.map es ck)) : (setObj r o).run P w = .ok () (w.putObj r o) := by simp [setObj, Sem.run, h, World.putObj]
theorem getIter_run {P : Program} {w : World} {r : Nat} {m : Option Nat} {a b : Nat} {seen : Array Nat} (h : w.heap[r]? = some (.mapIter m a seen b)) : (getObj r).run P w = .ok (.mapIter m a seen b) w := by simp [getObj, Sem.run, h]
theorem setIter_run {P : Program} {w : World} {r : Nat} {m : Option Nat} {a b : Nat} {seen : Array Nat} (o : Obj) (h : w.heap[r]? = some (.mapIter m a seen b)) : (setObj r o).run P w = .ok () (w.putObj r o) := by simp [setObj, Sem.run, h, World.putObj]
theorem MRel.length {l l' : List MapEntry} (r : MRel σ l l') : l'.length = l.length := by
  induction r with
  | nil => rfl
  | cons _ _ ih => simp [ih]
theorem MRel.snoc {l l' : List MapEntry} {e e' : MapEntry} (r : MRel σ l l') (h : ERel σ e e') : MRel σ (l ++ [e]) (l' ++ [e']) := by
  induction r with
  | nil => exact .cons h .nil
  | cons he _ ih => exact .cons he ih
inductive FRel (σ : Inj) : Option (Nat × Value) → Option (Nat × Value) → Prop
  | none : FRel σ none none
  | some (i : Nat) {v v' : Value} (h : VRel σ v v') : FRel σ (some (i, v)) (some (i, v'))

theorem eqInt2_inv {x y : Value} {q : Bool} (h : eqInt2 x y = some q) : ∃ k a c, x = .int k a ∧ y = .int k c ∧ q = (a == c) := by
  unfold eqInt2 at h
  split at h
  · obtain ⟨hk, h1⟩ := cond_some h
    obtain rfl := keq_eq hk
    cases h1
    exact ⟨_, _, _, rfl, rfl, ieq_eq _ _⟩
  · cases h
theorem findNow_sound {kd : IntKind} {k k' : Value} (hk : VRel σ k k') : ∀ {es es' : List MapEntry} (i : Nat) {r : Option (Nat × Value)}, MRel σ es es' → findE (eqInt2 k) es i = some r → ∃ r', FRel σ r r' ∧ Instr.findNow (.int kd) k' es' i = some r'
  | [], _, i, r, .nil, h => by cases h; exact ⟨none, .none, rfl⟩
  | e :: es, _, i, r, .cons (e' := e') (l' := l') he ht, h => by
    obtain ⟨q, hq, h⟩ := obnd_some (show obnd (eqInt2 k e.key) _ = some r from h)
    obtain ⟨k1, a, c, rfl, hek, hqb⟩ := eqInt2_inv hq
    have hkey := he.key
    rw [hek] at hkey
    have hk1 : e'.key = .int k1 c := VRel.eq_of_plain1 rfl hkey
    cases hk
    have hs : Instr.sameNow (.int kd) (.int k1 a) e'.key = some (a == c) := by rw [hk1]; simp [Instr.sameNow]
    unfold Instr.findNow
    rw [hs, ← hqb]
    cases q with
    | true =>
      cases h
      exact ⟨_, .some i he.val, rfl⟩
    | false => exact findNow_sound (.int k1 a) (i + 1) ht h
theorem findAsking_sound {kt : Nat} {eq : Value → Option Bool} {k' : Value} (hE : ∀ y y' b, VRel σ y y' → eq y = some b → ∀ w, (Op.equal kt k' y').run P w = .ok b w) (w : World) :
    ∀ {es es' : List MapEntry} (i : Nat) {r : Option (Nat × Value)}, MRel σ es es' → findE eq es i = some r → ∃ r', FRel σ r r' ∧ (Instr.findAsking kt k' es' i).run P w = .ok r' w
  | [], _, i, r, .nil, h => by cases h; exact ⟨none, .none, rfl⟩
  | e :: es, _, i, r, .cons (e' := e') (l' := l') he ht, h => by
    obtain ⟨q, hq, h⟩ := obnd_some (show obnd (eq e.key) _ = some r from h)
    have h1 := hE _ _ _ he.key hq w
    unfold Instr.findAsking
    cases q with
    | true =>
      cases h
      exact ⟨_, .some i he.val, by simp [h1]⟩
    | false =>
      obtain ⟨r', h2, h3⟩ := findAsking_sound hE w (i + 1) ht h
      exact ⟨r', h2, by simp [h1, h3]⟩

/-! ### keys -/
theorem checkKey_int (emp : Bool) (n : Nat) {kt : Nat} {kd k : IntKind} {a : Int} (hu : P.underlying kt = some (.int kd)) (w : World) : (Instr.checkKey emp (n + 1) kt (.int k a)).run P w = .ok () w := by
  simp only [Instr.checkKey, Sem.run_bind, run_underlying hu, Result.andThen_ok]; rfl
theorem eqFields_self_some {eq : EqF} {xs : List Value} : ∀ {fs : List Field}, eqFields T eq xs xs fs = some true → ∀ f ∈ fs, ∃ v, aPart T f.type xs f.offset = some v ∧ eq f.type v v = some true
  | [], _, f, hf => by cases hf
  | g :: fs, h, f, hf => by
    obtain ⟨u, hu, h⟩ := obnd_some (show obnd _ _ = some true from h)
    obtain ⟨v, hv, h⟩ := obnd_some h
    obtain ⟨q, hq, h⟩ := obnd_some h
    rw [hu] at hv
    cases hv
    cases q with
    | false => cases h
    | true =>
      cases hf with
      | head => exact ⟨u, hu, hq⟩
      | tail _ hf => exact eqFields_self_some h f hf
include hT
theorem checkKey_sound (emp : Bool) : ∀ (d n t : Nat) (x x' : Value), VRel σ x x' → eqDeep T d t x x = some true → ∀ w, (Instr.checkKey emp (d + n) t x').run P w = .ok () w
  | 0, n, t, x, x', hx, h, w => by cases h
  | d + 1, n, t, x, x', hx, h, w => by
    obtain ⟨td, htd, h⟩ := obnd_some (show obnd (T.ty t) _ = some true from h)
    have hu := hT.ty _ _ htd
    rw [show d + 1 + n = d + n + 1 by omega]
    unfold eqDeepAs at h
    split at h
    · simp only [Instr.checkKey, Sem.run_bind, run_underlying hu, Result.andThen_ok]; rfl
    · simp only [Instr.checkKey, Sem.run_bind, run_underlying hu, Result.andThen_ok]; rfl
    · simp only [Instr.checkKey, Sem.run_bind, run_underlying hu, Result.andThen_ok]; rfl
    · rename_i fs
      obtain ⟨hf, h⟩ := cond_some h
      obtain ⟨xs, ys, rfl, e1, h⟩ := onAggs_some h
      cases e1
      obtain ⟨xs', rfl, hx'⟩ := hx.agg_inv
      have hall := eqFields_self_some h
      simp only [Instr.checkKey, Sem.run_bind, run_underlying hu, Result.andThen_ok]
      rw [← Array.forIn_toList]
      generalize fs.toList = l at hall
      clear h hu htd
      induction l with
      | nil => simp
      | cons f l ih =>
        obtain ⟨v, hv, hq⟩ := hall f List.mem_cons_self
        obtain ⟨v', h3, h4⟩ := part_sound hT hx' hv w
        have h5 := checkKey_sound emp d n _ _ _ h3 hq w
        have ih := ih (fun g hg => hall g (List.mem_cons_of_mem _ hg))
        simp only [List.forIn_cons, Sem.run_bind, Sem.run_ite]
        split
        · simp only [h4, Result.andThen_ok, h5, Sem.run_pure]
          exact ih
        · simp only [Sem.run_pure, Result.andThen_ok]
          exact ih
    · rename_i len el
      obtain ⟨xs, ys, rfl, e1, h⟩ := onAggs_some h
      cases e1
      obtain ⟨m, hm, h⟩ := obnd_some h
      obtain ⟨xs', rfl, hx'⟩ := hx.agg_inv
      simp only [Instr.checkKey, Sem.run_bind, run_underlying hu, Result.andThen_ok]
      rw [Std.Legacy.Range.forIn_eq_forIn_range']
      simp only [Std.Legacy.Range.size, Nat.sub_zero, Nat.add_sub_cancel, Nat.div_one]
      have key : ∀ (k i : Nat), eqElems T (eqDeep T d) el m xs.toList xs.toList k i = some true →
          (forIn (m := Sem) (List.range' i k) PUnit.unit fun i _ => do
            let a ← sizeOf el
            let b ← part el xs' (i * a)
            Instr.checkKey emp (d + n) el b
            Pure.pure (ForInStep.yield PUnit.unit)).run P w = .ok PUnit.unit w := by
        intro k
        induction k with
        | zero => intro i _; rfl
        | succ k ih =>
          intro i h
          obtain ⟨u, hu1, h⟩ := obnd_some (show obnd _ _ = some true from h)
          obtain ⟨v, hv, h⟩ := obnd_some h
          obtain ⟨q, hq, h⟩ := obnd_some h
          rw [hu1] at hv
          cases hv
          cases q with
          | false => cases h
          | true =>
            obtain ⟨v', h3, h4⟩ := part_sound hT hx' hu1 w
            have h5 := checkKey_sound emp d n _ _ _ h3 hq w
            rw [List.range'_succ]
            simp only [List.forIn_cons, Sem.run_bind, size_run hT hm, h4, h5, Result.andThen_ok, Sem.run_pure]
            exact ih (i + 1) h
      rw [show (forIn (m := Sem) (List.range' 0 len) PUnit.unit fun i _ => do
            let a ← sizeOf el
            let b ← part el xs' (i * a)
            Instr.checkKey emp (d + n) el b
            Pure.pure (ForInStep.yield PUnit.unit)).run P w = .ok PUnit.unit w from key len 0 h]
      rfl
    · cases h

/-- a look for a key -/
theorem findK_sound {kt : Nat} {k k' : Value} (hk : VRel σ k k') {es es' : List MapEntry} (hm : MRel σ es es') {r : Option (Nat × Value)} (h : findK T kt k es = some r) (w : World) :
    ∃ r', FRel σ r r' ∧ (∀ emp, (Instr.checkKey emp 10000 kt k').run P w = .ok () w) ∧ (Instr.findKey kt k' es').run P w = .ok r' w := by
  obtain ⟨d, hd, h⟩ := obnd_some h
  have hu := hT.ty _ _ hd
  obtain ⟨q, hq, h⟩ := obnd_some h
  obtain ⟨rfl, h⟩ := cond_some h
  cases d with
  | int kd =>
    have hq : eqInt2 k k = some true := hq
    obtain ⟨r', h1, h2⟩ := findNow_sound (kd := kd) hk 0 hm h
    refine ⟨r', h1, fun emp => ?_, ?_⟩
    · obtain ⟨k1, a, c, rfl, _, _⟩ := eqInt2_inv hq
      cases hk
      exact checkKey_int emp 9999 hu w
    · simp only [Instr.findKey, Sem.run_bind, run_underlying hu, Result.andThen_ok, h2, Sem.run_pure]
  | struct fs =>
    have hq : eqDeep T 3 kt k k = some true := hq
    have hE : ∀ y y' b, VRel σ y y' → eqDeep T 3 kt k y = some b → ∀ w, (Op.equal kt k' y').run P w = .ok b w := fun y y' b hy hb w => eqDeep_sound hT 3 9997 kt k y k' y' b hk hy hb w
    obtain ⟨r', h1, h2⟩ := findAsking_sound hE w 0 hm h
    refine ⟨r', h1, fun emp => checkKey_sound hT emp 3 9997 kt k k' hk hq w, ?_⟩
    simp only [Instr.findKey, Sem.run_bind, run_underlying hu, Result.andThen_ok]
    cases hm with
    | nil =>
      cases h
      cases h1
      rfl
    | cons he ht =>
      have : ∀ (e' : MapEntry) l', Instr.findNow (.struct fs) k' (e' :: l') 0 = none := by
        intro e' l'
        simp [Instr.findNow, Instr.sameNow]
      rw [this]
      exact h2
  | _ => cases hq
omit hT

theorem onMapTy_some {α : Type} {d : TypeDesc} {f : Nat → Nat → Option α} {r : α} (h : onMapTy d f = some r) : ∃ k e, d = .map k e ∧ f k e = some r := by
  unfold onMapTy at h
  split at h
  · exact ⟨_, _, rfl, h⟩
  · cases h
theorem onMap_some {α : Type} {x : Value} {f : Nat → List MapEntry → Nat → Option α} {r : α} (h : onMap s x f = some r) : ∃ b es ck, x = .map (some b) ∧ s.heap.get b = some (.map es ck) ∧ f b es ck = some r := by
  unfold onMap at h
  split at h
  · split at h
    · exact ⟨_, _, _, rfl, ‹_›, h⟩
    · cases h
  · cases h
theorem Inv.mapAt (hI : Inv B0 w0 σ s w) {b : Nat} {l : Loc} {es : List MapEntry} {ck : Nat} (hb : σ b = some l) (hg : s.heap.get b = some (.map es ck)) :
    ∃ es' : Array MapEntry, w.heap[l.blk]? = some (.map es' ck) ∧ MRel σ es es'.toList := by
  obtain ⟨_, O, h1, h2⟩ := hI.maps b l _ hb hg trivial
  cases h2 with
  | map hm => exact ⟨_, h1, hm⟩
theorem Inv.iterAt (hI : Inv B0 w0 σ s w) {b : Nat} {l : Loc} {m : Option Nat} {a c : Nat} {seen : List Nat} (hb : σ b = some l) (hg : s.heap.get b = some (.iter m a seen c)) :
    (m = none ∧ w.heap[l.blk]? = some (.mapIter none a seen.toArray c)) ∨ ∃ m0 lm, m = some m0 ∧ σ m0 = some lm ∧ w.heap[l.blk]? = some (.mapIter (some lm.blk) a seen.toArray c) := by
  obtain ⟨_, O, h1, h2⟩ := hI.maps b l _ hb hg trivial
  cases h2 with
  | iter0 => exact .inl ⟨rfl, h1⟩
  | iter hm => exact .inr ⟨_, _, rfl, hm, h1⟩
include hT
theorem aLookup_sound (hI : Inv B0 w0 σ s w) {t : Nat} {ok : Bool} {x x' k k' : Value} {r : AR} (hx : VRel σ x x') (hk : VRel σ k k') (h : aLookup T t ok s x k = some r) :
    ∃ v v', r = .val v s ∧ VRel σ v v' ∧ (Instr.lookup t x' k' ok).run P w = .ok v' w := by
  obtain ⟨d, hd, h⟩ := obnd_some h
  obtain ⟨kt, el, rfl, h⟩ := onMapTy_some h
  obtain ⟨es, hes, h⟩ := obnd_some h
  obtain ⟨z, hz, h⟩ := obnd_some h
  obtain ⟨p, hp, h⟩ := obnd_some h
  have hu := hT.ty _ _ hd
  have main : ∀ es' : Array MapEntry, MRel σ es es'.toList → ((x' = .map none ∧ es' = #[]) ∨ ∃ b ck, x' = .map (some b) ∧ w.heap[b]? = some (.map es' ck)) →
      ∃ v v', r = .val v s ∧ VRel σ v v' ∧ (Instr.lookup t x' k' ok).run P w = .ok v' w := by
    intro es' hm hsh
    obtain ⟨p', h1, h2, h3⟩ := findK_sound hT hk hm hp w
    cases h1 with
    | none =>
      cases h
      have hpz := (zero_run hT hz w).2
      have hzr := (zero_run hT hz w).1
      refine ⟨_, cond ok (.tuple #[z, .bool false]) z, rfl, ?_, ?_⟩
      · cases ok with
        | false => exact VRel.plain hpz
        | true => exact VRel.tuple' (.cons (VRel.plain hpz) (.cons (.bool false) .nil))
      · rcases hsh with ⟨rfl, rfl⟩ | ⟨b, ck, rfl, hb⟩
        · simp only [Instr.lookup, Sem.run_bind, run_underlying hu, Result.andThen_ok, Sem.run_pure, h2, h3, hzr]
          cases ok <;> rfl
        · simp only [Instr.lookup, Sem.run_bind, run_underlying hu, Result.andThen_ok, Sem.run_pure, getMap_run hb, h2, h3, hzr]
          cases ok <;> rfl
    | @some i v0 v1 hv =>
      cases h
      refine ⟨_, cond ok (.tuple #[v1, .bool true]) v1, rfl, ?_, ?_⟩
      · cases ok with
        | false => exact hv
        | true => exact VRel.tuple' (.cons hv (.cons (.bool true) .nil))
      · rcases hsh with ⟨rfl, rfl⟩ | ⟨b, ck, rfl, hb⟩
        · simp only [Instr.lookup, Sem.run_bind, run_underlying hu, Result.andThen_ok, Sem.run_pure, h2, h3]
          cases ok <;> rfl
        · simp only [Instr.lookup, Sem.run_bind, run_underlying hu, Result.andThen_ok, Sem.run_pure, getMap_run hb, h2, h3]
          cases ok <;> rfl
  unfold mapEs at hes
  split at hes
  · cases hes
    cases hx
    exact main #[] .nil (.inl ⟨rfl, rfl⟩)
  · obtain ⟨b, es1, ck, rfl, hg, hes⟩ := onMap_some hes
    cases hes
    cases hx with
    | map hb =>
      obtain ⟨es', h1, h2⟩ := hI.mapAt hb hg
      exact main es' h2 (.inr ⟨_, _, rfl, h1⟩)
omit hT

/-! ### keys that are the same -/
theorem kSame1_spec {a b : Value} (h : kSame1 a b = true) : a = b ∧ plain1 a = true ∧ ∀ n, Instr.sameBits n a a = true := by
  unfold kSame1 at h
  split at h
  · exact ⟨by simpa using h, rfl, fun n => by cases n <;> simp [Instr.sameBits]⟩
  · obtain ⟨h1, h2⟩ := and_true h
    obtain rfl := keq_eq h1
    rw [ieq_eq] at h2
    exact ⟨by simpa using h2, rfl, fun n => by cases n <;> simp [Instr.sameBits]⟩
  · cases h
theorem kSameL_spec : ∀ {a b : List Value}, kSameL a b = true → a = b ∧ a.all plain1 = true ∧ ∀ v ∈ a, ∀ n, Instr.sameBits n v v = true
  | [], [], _ => ⟨rfl, rfl, fun v hv => by cases hv⟩
  | [], _ :: _, h => by cases h
  | _ :: _, [], h => by cases h
  | a :: l, b :: m, h => by
    obtain ⟨h1, h2⟩ := and_true (show (kSame1 a b && kSameL l m) = true from h)
    obtain ⟨rfl, h3, h4⟩ := kSame1_spec h1
    obtain ⟨rfl, h5, h6⟩ := kSameL_spec h2
    refine ⟨rfl, by simp [h3, h5], fun v hv => ?_⟩
    cases hv with
    | head => exact h4
    | tail _ hv => exact h6 v hv
theorem zip_self_all {f : Value → Value → Bool} : ∀ {l : List Value}, (∀ v ∈ l, f v v = true) → ((l.zip l).all fun (x, y) => f x y) = true
  | [], _ => rfl
  | v :: l, h => by
    simp only [List.zip_cons_cons, List.all_cons, Bool.and_eq_true]
    exact ⟨h v List.mem_cons_self, zip_self_all fun u hu => h u (List.mem_cons_of_mem _ hu)⟩
theorem kSame_spec {a b a' b' : Value} (h : kSame a b = true) (ha : VRel σ a a') (hb : VRel σ b b') : b' = a' ∧ Instr.sameBits 10000 a' b' = true := by
  unfold kSame at h
  split at h
  · rename_i xs ys
    obtain ⟨h1, h2, h3⟩ := kSameL_spec h
    obtain ⟨xs', rfl, hx⟩ := ha.agg_inv
    obtain ⟨ys', rfl, hy⟩ := hb.agg_inv
    have e1 := hx.eq_of_plain1 h2
    have e2 := hy.eq_of_plain1 (by rw [← h1]; exact h2)
    have e3 : ys' = xs' := by
      apply Array.toList_inj.1
      rw [e1, e2, h1]
    subst e3
    refine ⟨rfl, ?_⟩
    show (ys'.size == ys'.size && (ys'.toList.zip ys'.toList).all fun (x, y) => Instr.sameBits 9999 x y) = true
    rw [zip_self_all (f := Instr.sameBits 9999) (fun v hv => h3 v (by rw [← e1]; exact hv) 9999)]
    simp
  · obtain ⟨rfl, h2, h3⟩ := kSame1_spec h
    rw [ha.eq_of_plain1 h2, hb.eq_of_plain1 h2]
    exact ⟨rfl, h3 10000⟩
theorem modE_sound {k v k' v' : Value} (hk : VRel σ k k') (hv : VRel σ v v') : ∀ {i : Nat} {es r es' : List MapEntry}, modE k v i es = some r → MRel σ es es' →
    ∃ e', es'[i]? = some e' ∧ Instr.sameBits 10000 e'.key k' = true ∧ MRel σ r (es'.modify i fun e => { e with key := k', val := v' })
  | _, [], _, _, h, _ => by simp [modE] at h
  | 0, e :: l, r, _, h, .cons (e' := e') (l' := l') he ht => by
    obtain ⟨h1, h⟩ := cond_some h
    cases h
    exact ⟨e', rfl, (kSame_spec h1 he.key hk).2, .cons ⟨hk, hv, he.born⟩ ht⟩
  | i + 1, e :: l, r, _, h, .cons (e' := e') (l' := l') he ht => by
    obtain ⟨r1, h1, h⟩ := obnd_some h
    cases h
    obtain ⟨e2, h2, h3, h4⟩ := modE_sound hk hv h1 ht
    exact ⟨e2, by simpa using h2, h3, .cons he h4⟩
theorem delE_sound : ∀ {i : Nat} {es es' : List MapEntry}, MRel σ es es' → MRel σ (delE i es) (es'.eraseIdx i)
  | _, [], _, .nil => by simpa [delE] using .nil
  | 0, e :: l, _, .cons he ht => ht
  | i + 1, e :: l, _, .cons he ht => .cons he (delE_sound ht)
theorem map_whole {es : List MapEntry} {ck : Nat} : (AObj.map es ck).whole := trivial
include hT
theorem aMapUpdate_sound (hI : Inv B0 w0 σ s w) {t : Nat} {x x' k k' v v' : Value} {r : AR} (hx : VRel σ x x') (hk : VRel σ k k') (hv : VRel σ v v') (h : aMapUpdate T t s x k v = some r) :
    ∃ s' w', r = .skip s' ∧ s'.next = s.next ∧ Inv B0 w0 σ s' w' ∧ (Instr.mapUpdate t x' k' v').run P w = .ok () w' := by
  obtain ⟨d, hd, h⟩ := obnd_some h
  obtain ⟨kt, el, rfl, h⟩ := onMapTy_some h
  obtain ⟨b, es, ck, rfl, hg, h⟩ := onMap_some h
  obtain ⟨p, hp, h⟩ := obnd_some h
  have hu := hT.ty _ _ hd
  cases hx with
  | @map _ l hb =>
  obtain ⟨es', h1, h2⟩ := hI.mapAt hb hg
  obtain ⟨p', h3, h4, h5⟩ := findK_sound hT hk h2 hp w
  cases h3 with
  | none =>
    cases h
    refine ⟨_, w.putObj l.blk (.map (es'.push { key := k', val := v', born := ck }) (ck + 1)), rfl, rfl, hI.setObj hb hg map_whole map_whole (.map (by rw [Array.toList_push]; exact h2.snoc ⟨hk, hv, rfl⟩)), ?_⟩
    simp only [Instr.mapUpdate, Sem.run_bind, run_underlying hu, Result.andThen_ok, getMap_run h1, h4, h5]
    rw [setMap_run _ h1]
  | some i hv0 =>
    obtain ⟨es2, h6, h⟩ := obnd_some h
    cases h
    obtain ⟨e', h7, h8, h9⟩ := modE_sound hk hv h6 h2
    refine ⟨_, w.putObj l.blk (.map (es'.modify i fun e => { e with key := k', val := v' }) ck), rfl, rfl, hI.setObj hb hg map_whole map_whole (.map (by rw [Array.toList_modify]; exact h9)), ?_⟩
    have h7' : es'[i]? = some e' := by simpa using h7
    simp only [Instr.mapUpdate, Sem.run_bind, run_underlying hu, Result.andThen_ok, getMap_run h1, h4, h5, h7', Option.map_some, Option.getD_some, Instr.keyThatStays, h8, if_true, Sem.run_pure]
    rw [setMap_run _ h1]
theorem aDelete_sound (hI : Inv B0 w0 σ s w) {ts : Array TypeId} {ty : TypeId} {args : List Value} {args' : Array Value} {r : AR} (hr : LRel σ args args'.toList) (h : aDelete T ts.toList args s = some r) :
    ∃ v s', r = .val v s' ∧ ValOk B0 w0 σ s ((Builtin.delete_ ts ty args').run P w) v s' := by
  obtain ⟨t, l0, htl, h⟩ := on1_some h
  obtain ⟨x, k, r0, rfl, h⟩ := on2_some h
  obtain ⟨d, hd, h⟩ := obnd_some h
  obtain ⟨kt, el, rfl, h⟩ := onMapTy_some h
  obtain ⟨b, es, ck, rfl, hg, h⟩ := onMap_some h
  obtain ⟨p, hp, h⟩ := obnd_some h
  have hu := hT.ty _ _ hd
  obtain ⟨x', k', r', hrl, hx, hk⟩ := lrel_two hr rfl
  have ht0 := arr_get htl
  have ha0 : args'[0]? = some x' := arr_get hrl
  have ha1 : args'[1]? = some k' := arr_get1 hrl
  cases hx with
  | @map _ l hb =>
  obtain ⟨es', h1, h2⟩ := hI.mapAt hb hg
  obtain ⟨p', h3, h4, h5⟩ := findK_sound hT hk h2 hp w
  cases h3 with
  | none =>
    cases h
    refine ⟨_, _, rfl, σ, w.putObj l.blk (.map es' ck), .tuple #[], Ext.refl, Nat.le_refl _, hI.setObj hb hg map_whole map_whole (.map h2), VRel.plain rfl, ?_⟩
    simp only [Builtin.delete_, ht0, ha0, ha1, Sem.run_bind, run_underlying hu, Result.andThen_ok, getMap_run h1, h4, h5]
    rw [setMap_run _ h1]
    rfl
  | some i hv0 =>
    cases h
    refine ⟨_, _, rfl, σ, w.putObj l.blk (.map (es'.eraseIdxIfInBounds i) ck), .tuple #[], Ext.refl, Nat.le_refl _, hI.setObj hb hg map_whole map_whole (.map (by rw [Array.toList_eraseIdxIfInBounds]; exact delE_sound h2)), VRel.plain rfl, ?_⟩
    simp only [Builtin.delete_, ht0, ha0, ha1, Sem.run_bind, run_underlying hu, Result.andThen_ok, getMap_run h1, h4, h5]
    rw [setMap_run _ h1]
    rfl
end
end Go.Proofs.YtpgjilakcepilaaGreat.Ab
namespace Go.Proofs.YtpgjilakcepilaaGreat.Ab
open Go.RowKit
set_option linter.unusedSectionVars false
variable [Tok]
section
variable {T : Tab} {P : Program} (hT : T.Ok P) {B0 : Nat} {w0 : World} {σ : Inj} {s : St} {w : World}

theorem iter_whole {m : Option Nat} {a b : Nat} {seen : List Nat} : (AObj.iter m a seen b).whole := trivial
include hT
theorem aRange_sound (hI : Inv B0 w0 σ s w) {t : Nat} {x x' : Value} {r : AR} (hx : VRel σ x x') (h : aRange T t s x = some r) :
    ∃ v s', r = .val v s' ∧ ValOk B0 w0 σ s ((Instr.range t x').run P w) v s' := by
  obtain ⟨d, hd, h⟩ := obnd_some h
  obtain ⟨hm, h⟩ := cond_some h
  obtain ⟨o, ho, h⟩ := obnd_some h
  cases h
  have hu := hT.ty _ _ hd
  have hmap : ∃ k e, d = .map k e := by
    unfold isMapTy at hm
    split at hm
    · exact ⟨_, _, rfl⟩
    · cases hm
  obtain ⟨kt, el, rfl⟩ := hmap
  unfold aRangeIt at ho
  split at ho
  · cases ho
    cases hx
    refine ⟨_, _, rfl, _, _, _, ext_add (Nat.le_refl _), Nat.le_succ _, hI.pushObj (O := .mapIter none 0 #[] 0) trivial .iter0, .ptr (o := 0) Inj.add_same, ?_⟩
    simp [Instr.range, Sem.run_bind, run_underlying hu, Result.andThen_ok]
  · obtain ⟨b, es, ck, rfl, hg, ho⟩ := onMap_some ho
    cases ho
    cases hx with
    | @map _ l hb =>
    obtain ⟨es', h1, h2⟩ := hI.mapAt hb hg
    refine ⟨_, _, rfl, _, _, _, ext_add (Nat.le_refl _), Nat.le_succ _, hI.pushObj (O := .mapIter (some l.blk) ck #[] ck) trivial (.iter (Inj.add_le hI.fresh _ _ hb)), .ptr (o := 0) Inj.add_same, ?_⟩
    simp [Instr.range, Sem.run_bind, run_underlying hu, Result.andThen_ok, getMap_run h1]
omit hT

/-! ### what is left -/
theorem isIn_eq (n : Nat) : ∀ l : List Nat, isIn n l = l.contains n
  | [] => rfl
  | m :: l => by
    simp only [isIn, List.contains_cons, isIn_eq n l]
    congr 1
    cases h : Nat.beq n m with
    | true => have := Nat.eq_of_beq_eq_true h; subst this; simp
    | false => have := beq_false h; simp [this]
theorem leftE_rel {seen : List Nat} : ∀ {es es' : List MapEntry}, MRel σ es es' → MRel σ (leftE seen es) (es'.filter fun e => !seen.contains e.born)
  | [], _, .nil => .nil
  | e :: l, _, .cons (e' := e') he ht => by
    unfold leftE
    rw [isIn_eq, he.born]
    simp only [List.filter_cons]
    cases seen.contains e'.born with
    | true => exact leftE_rel ht
    | false => exact .cons he (leftE_rel ht)
theorem allNew_eq (last : Nat) : ∀ {es es' : List MapEntry}, MRel σ es es' → allNew last es = es'.all fun e => decide (e.born ≥ last)
  | [], _, .nil => rfl
  | e :: l, _, .cons (e' := e') he ht => by
    simp only [allNew, List.all_cons, allNew_eq last ht, he.born]
    congr 1
    cases h : Nat.ble last e'.born with
    | true => have := ble_true h; simp [this]
    | false => have := ble_false h; simp; omega
theorem isNil_eq {α : Type} (l : List α) : isNil l = l.isEmpty := by cases l <;> rfl
theorem MRel.isEmpty {l l' : List MapEntry} (r : MRel σ l l') : l.isEmpty = l'.isEmpty := by cases r <;> rfl
theorem aNext_sound (hI : Inv B0 w0 σ s w) {x x' : Value} {r : AR} {t : Nat} (hx : VRel σ x x') (h : aNext s x = some r) :
    ∃ v s', r = .val v s' ∧ ValOk B0 w0 σ s ((Instr.next x' false t).run P w) v s' := by
  obtain ⟨b, o, rfl, h⟩ := onPtr_some h
  obtain ⟨ho, h⟩ := cond_some h
  cases Nat.eq_of_beq_eq_true ho
  cases hx with
  | @ptr _ _ l hb =>
  have hoff : ∀ {m a seen c}, s.heap.get b = some (.iter m a seen c) → l.off = 0 := by
    intro m a seen c hg
    exact (hI.maps b l _ hb hg trivial).1
  replace h : nextI s b (s.heap.get b) = some r := h
  unfold nextI at h
  split at h
  · rename_i a seen c hg
    cases h
    rcases hI.iterAt hb hg with ⟨_, h1⟩ | ⟨m0, lm, h0, _⟩
    · refine ⟨_, _, rfl, valOk_same hI (VRel.plain rfl) ?_⟩
      simp [Instr.next, hoff hg, getIter_run h1]
    · cases h0
  · rename_i m since seen last hg
    rcases hI.iterAt hb hg with ⟨h0, _⟩ | ⟨m0, lm, h0, hm0, h1⟩
    · cases h0
    cases h0
    unfold nextM at h
    split at h
    · rename_i es ck hgm
      obtain ⟨es', h2, h3⟩ := hI.mapAt hm0 hgm
      cases hc : (!isNil seen && (!isNil es && allNew last es)) with
      | true => rw [hc] at h; cases h
      | false =>
        rw [hc] at h
        replace h : nextR s b m since ck seen (leftE seen es) = some r := h
        have hl := leftE_rel (seen := seen) h3
        have hcond : (!seen.toArray.isEmpty && !es'.isEmpty && es'.all fun e => decide (e.born ≥ last)) = false := by
          rw [isNil_eq, isNil_eq, allNew_eq last h3, h3.isEmpty] at hc
          rw [← hc]
          simp [Bool.and_assoc]
        have hfl : (es'.filter fun e => !seen.toArray.contains e.born).toList = es'.toList.filter fun e => !seen.contains e.born := by
          simp
        unfold nextR at h
        split at h
        · rename_i hle
          cases h
          rw [hle] at hl
          cases hq : (es'.toList.filter fun e => !seen.contains e.born) with
          | cons _ _ => rw [hq] at hl; cases hl
          | nil =>
          rw [hq] at hfl
          have hfl' : (es'.filter fun e => !seen.toArray.contains e.born) = #[] := by
            apply Array.toList_inj.1; rw [hfl]
          refine ⟨_, _, rfl, valOk_same hI (VRel.plain rfl) ?_⟩
          simp only [Instr.next, hoff hg, Nat.add_zero, Sem.run_bind, getIter_run h1, Result.andThen_ok, getMap_run h2, hcond, Bool.false_eq_true, if_false, hfl']
          simp [choose, Sem.run, Question.forced]
        · rename_i e hle
          obtain ⟨hb1, h⟩ := cond_some h
          cases h
          have hold := blt_true hb1
          rw [hle] at hl
          cases hq : (es'.toList.filter fun e => !seen.contains e.born) with
          | nil => rw [hq] at hl; cases hl
          | cons e' l' =>
          rw [hq] at hl
          cases hl with
          | cons he ht =>
          cases ht
          rw [hq] at hfl
          have hfl' : (es'.filter fun e => !seen.toArray.contains e.born) = #[e'] := by
            apply Array.toList_inj.1; rw [hfl]
          have ho1 : (#[e'].filter fun e => decide (e.born < since)) = #[e'] := by
            have : e'.born < since := by rw [← he.born]; exact hold
            simp [this]
          have ho2 : (#[e'].filter fun e => decide (e.born ≥ since)) = #[] := by
            have : ¬ since ≤ e'.born := by rw [← he.born]; omega
            simp [this]
          refine ⟨_, _, rfl, σ, w.putObj l.blk (.mapIter (some lm.blk) since (seen ++ [e.born]).toArray ck), .tuple #[.bool true, e'.key, e'.val], Ext.refl, Nat.le_refl _, hI.setObj hb hg iter_whole iter_whole (.iter hm0), VRel.tuple' (l := [_, _, _]) (l' := [_, _, _]) (.cons (.bool true) (.cons he.key (.cons he.val .nil))), ?_⟩
          have hpush : (seen ++ [e.born]).toArray = seen.toArray.push e'.born := by rw [he.born]; simp
          rw [hpush]
          simp only [Instr.next, hoff hg, Nat.add_zero, Sem.run_bind, getIter_run h1, Result.andThen_ok, getMap_run h2, hcond, Bool.false_eq_true, if_false, hfl', ho1, ho2]
          simp [choose, Sem.run, Question.forced, setObj, h1, World.putObj]
        · cases h
    · cases h
  · cases h
theorem lastN_eq : ∀ {l : List Nat} {n : Nat}, lastN l = some n → l.toArray.back? = some n
  | [a], n, h => by cases h; rfl
  | a :: b :: l, n, h => by
    have := lastN_eq (l := b :: l) h
    simpa using this
theorem findB_sound {n : Nat} : ∀ {es es' : List MapEntry} {e : MapEntry}, MRel σ es es' → findB n es = some e → ∃ e', ERel σ e e' ∧ es'.find? (fun x => x.born == n) = some e'
  | [], _, e, .nil, h => by cases h
  | d :: l, _, e, .cons (e' := e') he ht, h => by
    unfold findB at h
    cases hb : Nat.beq d.born n with
    | true =>
      rw [hb] at h
      cases h
      refine ⟨e', he, ?_⟩
      have : e'.born = n := by rw [← he.born]; exact Nat.eq_of_beq_eq_true hb
      simp [this]
    | false =>
      rw [hb] at h
      obtain ⟨e2, h1, h2⟩ := findB_sound ht h
      refine ⟨e2, h1, ?_⟩
      have : ¬ e'.born = n := by rw [← he.born]; exact beq_false hb
      simp [this, h2]
theorem aEntry_sound (hI : Inv B0 w0 σ s w) {x x' : Value} {r : AR} (hx : VRel σ x x') (h : aEntry s x = some r) :
    ∃ v v', r = .val v s ∧ VRel σ v v' ∧ (Instr.entry x').run P w = .ok v' w := by
  obtain ⟨b, o, rfl, h⟩ := onPtr_some h
  obtain ⟨ho, h⟩ := cond_some h
  cases Nat.eq_of_beq_eq_true ho
  cases hx with
  | @ptr _ _ l hb =>
  replace h : entryI s (s.heap.get b) = some r := h
  unfold entryI at h
  split at h
  · rename_i m since seen last hg
    have hoff : l.off = 0 := (hI.maps b l _ hb hg trivial).1
    rcases hI.iterAt hb hg with ⟨h0, _⟩ | ⟨m0, lm, h0, hm0, h1⟩
    · cases h0
    cases h0
    unfold entryM at h
    split at h
    · rename_i es ck hgm
      obtain ⟨es', h2, h3⟩ := hI.mapAt hm0 hgm
      obtain ⟨hc, h9⟩ := cond_some h
      clear h
      obtain ⟨k, hk, h8⟩ := obnd_some h9
      obtain ⟨e, he, h7⟩ := obnd_some h8
      clear h9 h8
      cases h7
      have hck := Nat.eq_of_beq_eq_true hc
      subst hck
      obtain ⟨e', h4, h5⟩ := findB_sound h3 he
      have h6 := lastN_eq hk
      have h7 : es'.find? (fun x => x.born == k) = some e' := by rw [← Array.find?_toList]; exact h5
      refine ⟨_, .tuple #[e'.key, e'.val], rfl, VRel.tuple' (l := [_, _]) (l' := [_, _]) (.cons h4.key (.cons h4.val .nil)), ?_⟩
      simp only [Instr.entry, hoff, Nat.add_zero, Sem.run_bind, getIter_run h1, Result.andThen_ok, getMap_run h2, h6]
      simp [h7]
    · cases h
  · cases h
end
end Go.Proofs.YtpgjilakcepilaaGreat.Ab
namespace Go.Proofs.YtpgjilakcepilaaGreat.Ab
open Go.RowKit
set_option linter.unusedSectionVars false
variable [Tok]
section
variable {T : Tab} {P : Program} (hT : T.Ok P) {B0 : Nat} {w0 : World} {σ : Inj} {s : St} {w : World} {n : Nat} {e : Tree Value} {a : Act}

theorem ret_same (hI : Inv B0 w0 σ s w) {v v' : Value} {r : AR} {run : Result Next} (h : retV s v = some r) (hv : VRel σ v v') (hr : run = .ok (.value v') w) : OpOk P B0 w0 σ s w run r := by
  cases h
  exact opOk_same hI hv hr

theorem opNext_some {x : Operand} {b : Bool} {r : AR} (h : opNext x b T e s = some r) : b = false ∧ obnd (aOpd e x) (aNext s) = some r := by
  cases b with
  | true => cases h
  | false => exact ⟨rfl, h⟩
theorem lrel_map {f : Operand → Value} {l : List Operand} : (l.map f) = l.map f := rfl
include hT
theorem aBuiltin_sound (hI : Inv B0 w0 σ s w) {b : Builtin} {ts : Array TypeId} {ty : TypeId} {consts : Array Bool} {args : List Value} {args' : Array Value} {r : AR} (hr : LRel σ args args'.toList)
    (h : aBuiltin b T ts.toList args s = some r) : OpOk P B0 w0 σ s w ((builtin b ts ty consts args').run P w) r := by
  have val : ∀ {x : Sem Value} {v : Value} {s' : St}, ValOk B0 w0 σ s (x.run P w) v s' → OpOk P B0 w0 σ s w ((do pure (Next.value (← x)) : Sem Next).run P w) (.val v s') := fun h => opOk_valOk h rfl
  cases b <;> try (cases h; done)
  case append =>
    obtain ⟨v, s', rfl, hv⟩ := aAppend_sound hT (ty := ty) hI hr h
    exact val hv
  case copy =>
    obtain ⟨v, s', rfl, hv⟩ := aCopy_sound hT (ty := ty) hI hr h
    exact val hv
  case clear =>
    obtain ⟨v, s', rfl, hv⟩ := aClear_sound hT (ty := ty) hI hr h
    exact val hv
  case delete =>
    obtain ⟨v, s', rfl, hv⟩ := aDelete_sound hT (ty := ty) hI hr h
    exact val hv
  case len =>
    obtain ⟨v, v', rfl, hp, hv⟩ := aLenOp_sound hT (ty := ty) hI hr h
    exact val (valOk_same hI hp hv)
  case cap =>
    obtain ⟨v, rfl, hp, hv⟩ := aCapOp_sound hT (ty := ty) hr h w
    exact val (valOk_same hI (VRel.plain1 hp) hv)
  case max =>
    obtain ⟨v, v', rfl, hp, hv⟩ := maxArgs_sound (P := P) (T := T) (ts := ts.toList) (ts' := ts) (ty := ty) hr h w (fun h => by
      obtain ⟨v, rfl, hp, hv⟩ := pureArgs_sound (P := P) (T := T) (ts := ts.toList) hr h w
      exact ⟨v, v, rfl, VRel.plain1 hp, hv⟩)
    exact val (x := Builtin.max_ ts ty args') (valOk_same hI hp hv)
  case min =>
    obtain ⟨v, v', rfl, hp, hv⟩ := minArgs_sound (P := P) (T := T) (ts := ts.toList) (ts' := ts) (ty := ty) hr h w (fun h => by
      obtain ⟨v, rfl, hp, hv⟩ := pureArgs_sound (P := P) (T := T) (ts := ts.toList) hr h w
      exact ⟨v, v, rfl, VRel.plain1 hp, hv⟩)
    exact val (x := Builtin.min_ ts ty args') (valOk_same hI hp hv)
  case complex =>
    obtain ⟨v, rfl, hp, hv⟩ := pureArgs_sound (P := P) (T := T) (ts := ts.toList) hr h w
    exact val (x := Builtin.complex_ ts ty args') (valOk_same hI (VRel.plain1 hp) hv)
  case real =>
    obtain ⟨v, rfl, hp, hv⟩ := pureArgs_sound (P := P) (T := T) (ts := ts.toList) hr h w
    exact val (x := Builtin.real_ ts ty args') (valOk_same hI (VRel.plain1 hp) hv)
  case imag =>
    obtain ⟨v, rfl, hp, hv⟩ := pureArgs_sound (P := P) (T := T) (ts := ts.toList) hr h w
    exact val (x := Builtin.imag_ ts ty args') (valOk_same hI (VRel.plain1 hp) hv)

theorem aCallV_sound (hI : Inv B0 w0 σ s w) {f f' : Value} {args : List Value} {args' : Array Value} {r : AR} (hf : VRel σ f f') (hr : LRel σ args args'.toList) (h : aCallV T s args f = some r) :
    OpOk P B0 w0 σ s w ((Deferred.ofValue f' args' >>= fun d => invoke d.target d.args).run P w) r := by
  unfold aCallV at h
  split at h
  · rename_i g first captured
    obtain ⟨hg, h⟩ := cond_some h
    have hg := blt_true hg
    cases hf with
    | @func _ _ first' _ captured' h1 h2 h3 h4 =>
    have hl : LRel σ (first.toList ++ (args ++ captured.toList)) (first' ++ args' ++ captured').toList := by
      simp only [Array.toList_append, List.append_assoc]
      exact (ofArr h1 h3).append (hr.append (ofArr h2 h4))
    have hrun : ∀ w, (Deferred.ofValue (.func (.func g) first' captured') args' >>= fun d => invoke d.target d.args).run P w = (callFunc g (first' ++ args' ++ captured')).run P w := by
      intro w
      simp [Deferred.ofValue, invoke]
    rw [hrun]
    unfold callExt at h
    split at h
    · rename_i x hx
      obtain ⟨v, hv, h⟩ := obnd_some h
      cases h
      obtain ⟨v', h5, h6⟩ := hT.ext g x hx σ _ _ v hv hl
      exact opOk_same hI h5 (h6 w)
    · cases h
      exact ⟨rfl, _, hl, .inl ⟨hg, rfl⟩⟩
  · rename_i b xs ys
    cases h
    cases hf with
    | @yield _ l hb =>
    refine ⟨rfl, _, hr, .inr ⟨b, l, rfl, hb, ?_⟩⟩
    simp [Deferred.ofValue, invoke]
  · cases h

theorem aOp_sound (hI : Inv B0 w0 σ s w) (he : EnvRel σ n e a.tmps) {o : Oper} {r : AR} (h : aOp o.op T e s = some r) : OpOk P B0 w0 σ s w ((execOp a.eval o).run P w) r := by
  cases ho : o.op <;> rw [ho] at h <;> simp only [aOp] at h <;> try (cases h; done)
  case move x =>
    obtain ⟨v, hv, h⟩ := obnd_some h
    exact ret_same hI h (aOpd_sound he hv) (by simp [execOp, ho])
  case assign x =>
    obtain ⟨v, hv, h⟩ := obnd_some h
    exact ret_same hI h (aOpd_sound he hv) (by simp [execOp, ho])
  case pick c x y =>
    obtain ⟨k, hk, h⟩ := obnd_some h
    obtain ⟨v1, h1, h⟩ := obnd_some h
    obtain ⟨v2, h2, h⟩ := obnd_some h
    obtain ⟨b, rfl, hb⟩ := onBool_some h
    have e1 : a.eval c = .bool b := VRel.eq_of_plain1 rfl (aOpd_sound he hk)
    have r1 := aOpd_sound he h1
    have r2 := aOpd_sound he h2
    cases b with
    | true => exact ret_same hI hb r1 (by simp [execOp, ho, e1, asBool])
    | false => exact ret_same hI hb r2 (by simp [execOp, ho, e1, asBool])
  case alloc el => exact opAlloc_sound hT hI h o ho
  case box el x => exact opBox_sound hI he h o ho
  case build t ps =>
    obtain ⟨l, hl, h⟩ := obnd_some h
    obtain ⟨v, hv, h⟩ := obnd_some h
    obtain ⟨p1, p2⟩ := aParts_sound he hl
    obtain ⟨v', h1, h2⟩ := aBuild_sound hT (ps' := ps.map fun (i, x) => (i, a.eval x)) (by rw [Array.toList_map, map_snd]; exact p1) (by rw [Array.toList_map]; simpa [Function.comp_def] using p2) hv
    exact ret_same hI h h1 (by simp [execOp, ho, h2 w])
  case buildSlice t len ps => exact opBuildSlice_sound hT hI he h o ho
  case load t x =>
    obtain ⟨p, hp, h⟩ := obnd_some h
    obtain ⟨v, hv, h⟩ := obnd_some h
    obtain ⟨v', h1, h2⟩ := aLoad_sound hT hI (aOpd_sound he hp) hv
    exact ret_same hI h h1 (by simp [execOp, ho, h2])
  case store t x y =>
    obtain ⟨p, hp, h⟩ := obnd_some h
    obtain ⟨v, hv, h⟩ := obnd_some h
    obtain ⟨s', hs, h⟩ := obnd_some h
    cases h
    obtain ⟨w', h1, h2, h3⟩ := aStore_sound hT hI (aOpd_sound he hp) (aOpd_sound he hv) hs
    exact ⟨w', h2, h1, by simp [execOp, ho, h3]⟩
  case nilCheck x =>
    obtain ⟨v, hv, h⟩ := obnd_some h
    have hr := aOpd_sound he hv
    unfold checked at h
    split at h
    · generalize hx : a.eval x = u at hr
      cases hr with
      | ptr hb => exact ret_same hI h (.ptr hb) (by simp [execOp, ho, hx])
    · generalize hx : a.eval x = u at hr
      cases hr with
      | func h1 h2 h3 h4 => exact ret_same hI h (.func h1 h2 h3 h4) (by simp [execOp, ho, hx])
    · cases h
  case binOp op t x y yt =>
    obtain ⟨u, hu, h⟩ := obnd_some h
    obtain ⟨v, hv, h⟩ := obnd_some h
    obtain ⟨z, rfl, hp, h1, h2⟩ := aBin_sound hT (aOpd_sound he hu) (aOpd_sound he hv) h w
    have hg := h2 x y w
    exact opOk_same hI (VRel.plain1 hp) (by simp [execOp, ho, hg, h1])
  case unOp op t x =>
    obtain ⟨u, hu, h⟩ := obnd_some h
    obtain ⟨v, rfl, hpv, hp, h1⟩ := aUn_sound (P := P) h w
    have e1 := VRel.eq_of_plain1 hp (aOpd_sound he hu)
    exact opOk_same hI (VRel.plain1 hpv) (by simp [execOp, ho, e1, h1])
  case convert t1 t2 x =>
    obtain ⟨u, hu, h⟩ := obnd_some h
    obtain ⟨v, rfl, hpv, h1⟩ := aConvert_sound hT hI (aOpd_sound he hu) h
    exact opOk_same hI (VRel.plain1 hpv) (by simp [execOp, ho, h1])
  case makeFunc fn first captured =>
    unfold opMakeFunc at h
    split at h
    · obtain ⟨l1, h1, h⟩ := obnd_some h
      obtain ⟨l2, h2, h⟩ := obnd_some h
      have r1 := toArr (xs := l1.toArray) (xs' := (first.map a.eval)) (by simpa using aOpds_sound he h1)
      have r2 := toArr (xs := l2.toArray) (xs' := (captured.map a.eval)) (by simpa using aOpds_sound he h2)
      exact ret_same hI h (.func r1.1 r2.1 r1.2 r2.2) (by simp [execOp, ho, Instr.makeFunc])
    · cases h
  case makeMap t r =>
    unfold opMakeMap at h
    split at h
    · cases h
      refine ⟨_, _, _, ext_add (Nat.le_refl _), Nat.le_succ _, hI.pushObj trivial (.map .nil), .map Inj.add_same, ?_⟩
      simp [execOp, ho, Instr.makeMap]
    · cases h
  case lookup t x k ok =>
    obtain ⟨u, hu, h⟩ := obnd_some h
    obtain ⟨k1, hk, h⟩ := obnd_some h
    obtain ⟨v, v', rfl, h1, h2⟩ := aLookup_sound hT hI (aOpd_sound he hu) (aOpd_sound he hk) h
    exact opOk_same hI h1 (by simp [execOp, ho, h2])
  case mapUpdate t m k x =>
    obtain ⟨u, hu, h⟩ := obnd_some h
    obtain ⟨k1, hk, h⟩ := obnd_some h
    obtain ⟨v, hv, h⟩ := obnd_some h
    obtain ⟨s', w', rfl, h1, h2, h3⟩ := aMapUpdate_sound hT hI (aOpd_sound he hu) (aOpd_sound he hk) (aOpd_sound he hv) h
    exact ⟨w', h1, h2, by simp [execOp, ho, h3]⟩
  case range t x =>
    obtain ⟨u, hu, h⟩ := obnd_some h
    obtain ⟨v, s', rfl, h1⟩ := aRange_sound hT hI (aOpd_sound he hu) h
    exact opOk_valOk h1 (by simp [execOp, ho])
  case next x b =>
    obtain ⟨hb, h⟩ := opNext_some h
    obtain ⟨u, hu, h⟩ := obnd_some h
    obtain ⟨v, s', rfl, h1⟩ := aNext_sound (P := P) (t := o.type) hI (aOpd_sound he hu) h
    exact opOk_valOk h1 (by simp [execOp, ho, hb])
  case entry x =>
    obtain ⟨u, hu, h⟩ := obnd_some h
    obtain ⟨v, v', rfl, h1, h2⟩ := aEntry_sound (P := P) hI (aOpd_sound he hu) h
    exact opOk_same hI h1 (by simp [execOp, ho, h2])
  case makeSlice t l c => exact opMakeSlice_sound hT hI he h o ho
  case slice t x lo hi mx =>
    obtain ⟨u, hu, h⟩ := obnd_some h
    obtain ⟨l1, h1, h⟩ := obnd_some h
    obtain ⟨l2, h2, h⟩ := obnd_some h
    obtain ⟨l3, h3, h⟩ := obnd_some h
    obtain ⟨v, hv, h⟩ := obnd_some h
    obtain ⟨v', h4, h5⟩ := aSlice_sound hT (aOpd_sound he hu) (optNat_sound he h1) (optNat_sound he h2) (optNat_sound he h3) hv w
    exact ret_same hI h h4 (by simp [execOp, ho, h5])
  case fieldAddr t x f =>
    obtain ⟨u, hu, h⟩ := obnd_some h
    obtain ⟨v, hv, h⟩ := obnd_some h
    obtain ⟨v', h4, h5⟩ := aFieldAddr_sound hT (aOpd_sound he hu) hv w
    exact ret_same hI h h4 (by simp [execOp, ho, h5])
  case field t x f =>
    obtain ⟨u, hu, h⟩ := obnd_some h
    obtain ⟨v, hv, h⟩ := obnd_some h
    obtain ⟨v', h4, h5⟩ := aField_sound hT (aOpd_sound he hu) hv w
    exact ret_same hI h h4 (by simp [execOp, ho, h5])
  case indexAddr t x i =>
    obtain ⟨u, hu, h⟩ := obnd_some h
    obtain ⟨j, hj, h⟩ := obnd_some h
    obtain ⟨v, hv, h⟩ := obnd_some h
    obtain ⟨v', h4, h5⟩ := aIndexAddr_sound hT (aOpd_sound he hu) (aOpd_sound he hj) hv w
    exact ret_same hI h h4 (by simp [execOp, ho, h5])
  case index t x i =>
    obtain ⟨u, hu, h⟩ := obnd_some h
    obtain ⟨j, hj, h⟩ := obnd_some h
    obtain ⟨v, hv, h⟩ := obnd_some h
    obtain ⟨v', h4, h5⟩ := aIndex_sound hT (aOpd_sound he hu) (aOpd_sound he hj) hv w
    exact ret_same hI h h4 (by simp [execOp, ho, h5])
  case extract x i =>
    obtain ⟨u, hu, h⟩ := obnd_some h
    obtain ⟨l, hl, h⟩ := obnd_some h
    obtain ⟨v, hv, hfin⟩ := obnd_some h
    have hr := aOpd_sound he hu
    clear h
    unfold tupleL at hl
    split at hl
    · cases hl
      obtain ⟨vs', hx, hrel⟩ := hr.tuple_inv
      obtain ⟨v', h1, h2⟩ := nth_rel hv hrel
      have h1' : vs'[i]? = some v' := by simpa using h1
      exact ret_same hI hfin h2 (by simp [execOp, ho, hx, Instr.extract, h1'])
    · cases hl
  case call c =>
    unfold opCall at h
    cases hc : c.callee with
    | value f =>
      rw [hc] at h
      obtain ⟨l, hl, h⟩ := obnd_some (show obnd (aOpds e c.args.toList) _ = some r from h)
      obtain ⟨u, hu, h⟩ := obnd_some h
      have hlr : LRel σ l (c.args.map a.eval).toList := by simpa using aOpds_sound he hl
      have := aCallV_sound hT hI (aOpd_sound he hu) hlr h
      have e1 : (execOp a.eval o).run P w = (Deferred.ofValue (a.eval f) (c.args.map a.eval) >>= fun d => invoke d.target d.args).run P w := by
        simp [execOp, ho, resolve, hc]
      rw [e1]
      exact this
    | builtin b =>
      rw [hc] at h
      obtain ⟨l, hl, h⟩ := obnd_some (show obnd (aOpds e c.args.toList) _ = some r from h)
      have hlr : LRel σ l (c.args.map a.eval).toList := by simpa using aOpds_sound he hl
      have := aBuiltin_sound hT hI (ty := o.type) (consts := c.args.map fun | .const _ => true | _ => false) hlr h
      have e1 : (execOp a.eval o).run P w = (builtin b c.argTypes o.type (c.args.map fun | .const _ => true | _ => false) (c.args.map a.eval)).run P w := by
        simp [execOp, ho, resolve, hc, invoke]
        rfl
      rw [e1]
      exact this
    | invoke _ _ =>
      rw [hc] at h
      cases h
end
end Go.Proofs.YtpgjilakcepilaaGreat.Ab
