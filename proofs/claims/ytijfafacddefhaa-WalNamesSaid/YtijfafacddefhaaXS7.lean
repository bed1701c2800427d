/- The short run is sound over the model: a part of the proof. -/
import Derived.Test.YtijfafacddefhaaXS6
namespace Go.Proofs.Ytijfafacddefhaa.Ab
open Go.RowKit

def ValOk (B0 : Nat) (w0 : World) (σ : Inj) (s : St) (run : Result Value) (v : Value) (s' : St) : Prop :=
  ∃ σ' w' v', Ext s.next σ σ' ∧ s.next ≤ s'.next ∧ Inv B0 w0 σ' s' w' ∧ VRel σ' v v' ∧ run = .ok v' w'

theorem growBy_le (newLen : Nat) : ∀ (r c : Nat), Builtin.growBy newLen r c ≤ max c (newLen + (newLen + 768) / 4)
  | 0, c => by simp [Builtin.growBy]; omega
  | r + 1, c => by
    simp only [Builtin.growBy]
    split
    · omega
    · have := growBy_le newLen r (c + (c + 768) / 4)
      omega
theorem nextcap_le {need cap : Nat} (h : cap < need) : Builtin.nextslicecap need cap ≤ 4 * need + 1000 := by
  unfold Builtin.nextslicecap
  split
  · omega
  · split
    · omega
    · have := growBy_le need 4 cap
      omega

theorem repL_length (z : List Value) : ∀ n, (repL z n).length = n * z.length
  | 0 => by simp [repL]
  | n + 1 => by simp [repL, repL_length z n, Nat.succ_mul]; omega
theorem repL_get (z : List Value) (hz : 0 < z.length) : ∀ (n i : Nat), i < n * z.length → (repL z n)[i]? = z[i % z.length]?
  | 0, i, h => by omega
  | n + 1, i, h => by
    simp only [repL]
    rw [List.getElem?_append]
    split
    · rw [Nat.mod_eq_of_lt (by assumption)]
    · rename_i hge
      rw [repL_get z hz n (i - z.length) (by rw [Nat.succ_mul] at h; omega)]
      congr 1
      exact (Nat.mod_eq_sub_mod (by omega)).symm
theorem zeroCells_eq (z : Array Value) (n : Nat) (hz : 0 < z.size) : Builtin.zeroCells z n = (repL z.toList n).toArray := by
  apply Array.ext_getElem?
  intro i
  simp only [Builtin.zeroCells, List.getElem?_toArray]
  by_cases hi : i < n * z.size
  · rw [repL_get z.toList (by simpa using hz) n i (by simpa using hi)]
    have hm : i % z.size < z.size := Nat.mod_lt _ hz
    simp [hi, hm]
  · rw [Array.getElem?_eq_none (by simp; omega), List.getElem?_eq_none (by rw [repL_length]; simp; omega)]
theorem rangeZero_eq (z : Array Value) (n : Nat) (hz : 0 < z.size) : (Array.range (n * z.size)).map (fun i => z[i % z.size]!) = (repL z.toList n).toArray := zeroCells_eq z n hz
theorem repL_rel {σ : Inj} {z z' : List Value} (h : LRel σ z z') : ∀ n, LRel σ (repL z n) (repL z' n)
  | 0 => .nil
  | n + 1 => h.append (repL_rel h n)

section
variable {P : Program}
theorem append_fit {w w' : World} {ts : Array TypeId} {ty t u el : TypeId} {i : TypeInfo} {ud : TypeDesc} {args : Array Value} {base' : Option Addr} {sLen cap' n : Nat} {x' : Value} {new' : List Value}
    (h0 : ts[0]? = some t) (h1 : ts[1]? = some u) (a0 : args[0]? = some (.slice base' sLen cap')) (a1 : args[1]? = some x') (ht : P.underlying t = some (.slice el)) (hu : P.underlying u = some ud) (hi : P.info? el = some i)
    (hne : ∀ k, ud ≠ .int k) (hn : (Builtin.lenOf x').run P w = .ok n w) (hfit : sLen + n ≤ cap') (hnew : (Builtin.firstCells i.size n x').run P w = .ok new'.toArray w)
    (hst : ∀ a, base' = some a → (storeCells (a.add (sLen * i.size)) new').run P w = .ok () w') (hw : base' = none → w' = w) :
    (Builtin.append_ ts ty args).run P w = .ok (.slice base' (sLen + n) cap') w' := by
  cases base' with
  | none =>
    rw [hw rfl]
    simp [Builtin.append_, h0, h1, a0, a1, run_underlying ht, run_underlying hu, sizeOf, typeInfo, hi, hn, hfit, hnew]
  | some a =>
    have := hst a rfl
    simp [Builtin.append_, h0, h1, a0, a1, run_underlying ht, run_underlying hu, sizeOf, typeInfo, hi, hn, hfit, hnew, this]
theorem append_fit0 {w w' : World} {ts : Array TypeId} {ty t u el : TypeId} {i : TypeInfo} {k : IntKind} {z : Value} {args : Array Value} {base' : Option Addr} {sLen cap' n : Nat} {k' : IntKind}
    (h0 : ts[0]? = some t) (h1 : ts[1]? = some u) (a0 : args[0]? = some (.slice base' sLen cap')) (a1 : args[1]? = some (.int k' (n : Int))) (ht : P.underlying t = some (.slice el)) (hu : P.underlying u = some (.int k)) (hi : P.info? el = some i)
    (hz : i.zero = some z) (hzs : z.cells.size = i.size) (hs : 1 ≤ i.size) (hn : n ≤ 1048576) (hb : n * i.bytes ≤ 140737488355328) (hfit : sLen + n ≤ cap')
    (hst : ∀ a, base' = some a → (storeCells (a.add (sLen * i.size)) (repL z.cells.toList n)).run P w = .ok () w') (hw : base' = none → w' = w) :
    (Builtin.append_ ts ty args).run P w = .ok (.slice base' (sLen + n) cap') w' := by
  have hwrap : IntKind.i64.wrap (n : Int) = n := by rw [← fwrap_eq]; unfold fwrap; rw [fwrapR_eq _ _ _ (fmod_lt _ (modulus_pos _))]; simp [signedK, fmod, modulus]; omega
  have h2 : ¬ ((n : Int) * (i.bytes : Int) > 2 ^ 48) := by
    have : ((n * i.bytes : Nat) : Int) ≤ 140737488355328 := by omega
    rw [Int.natCast_mul] at this
    omega
  have h3 : ¬ ((n : Int) < 0) := by omega
  have h2' : ¬ (281474976710656 < (n : Int) * (i.bytes : Int)) := by omega
  have hzv : ∀ w : World, (zeroValue el).run P w = .ok z w := fun w => by simp [zeroValue, typeInfo, hi, hz]
  have hzc := zeroCells_eq z.cells n (by omega)
  cases base' with
  | none =>
    rw [hw rfl]
    simp [Builtin.append_, h0, h1, a0, a1, run_underlying ht, run_underlying hu, sizeOf, typeInfo, hi, hfit, asInt, asIntOf, hwrap, h3, h2', hzv]
  | some a =>
    have hs1 := hst a rfl
    by_cases hn0 : n = 0
    · have hs2 : (storeCells (a.add (sLen * i.size)) []).run P w = .ok () w' := by
        have e : repL z.cells.toList n = [] := by rw [hn0]; rfl
        rw [← e]; exact hs1
      simp [Builtin.append_, h0, h1, a0, a1, run_underlying ht, run_underlying hu, sizeOf, typeInfo, hi, hfit, asInt, asIntOf, hwrap, h3, h2', hs2]
      intro h; exact absurd (by rw [hn0]; simp) h
    · have hns : ¬ (n * i.size = 0) := by have : 0 < n * i.size := Nat.mul_pos (by omega) (by omega); omega
      simp [Builtin.append_, h0, h1, a0, a1, run_underlying ht, run_underlying hu, sizeOf, typeInfo, hi, hfit, asInt, asIntOf, hwrap, h3, h2', hzv, hzc, hs1]
      intro h; exact absurd h hns
theorem forced_cap {need old : Nat} {e : TypeId} : (Question.appendCap need old e).forced = false := rfl
/-- what a grown array is filled up with -/
def restOf (z : Value) (n : Nat) : List Value := repL z.cells.toList n
theorem append_grow {w : World} {ts : Array TypeId} {ty t u el : TypeId} {i : TypeInfo} {ud : TypeDesc} {z : Value} {args : Array Value} {base' : Option Addr} {sLen cap' n : Nat} {x' : Value} {old' new' : List Value}
    (h0 : ts[0]? = some t) (h1 : ts[1]? = some u) (a0 : args[0]? = some (.slice base' sLen cap')) (a1 : args[1]? = some x') (ht : P.underlying t = some (.slice el)) (hu : P.underlying u = some ud) (hi : P.info? el = some i)
    (hz : i.zero = some z) (hzs : z.cells.size = i.size) (hs : 1 ≤ i.size)
    (hne : ∀ k, ud ≠ .int k) (hn : ∀ w, (Builtin.lenOf x').run P w = .ok n w) (hfit : cap' < sLen + n) (hb : (4 * (sLen + n) + 1000) * i.bytes ≤ 140737488355328)
    (hold : (Builtin.firstCells i.size sLen (.slice base' sLen cap')).run P w.drew = .ok old'.toArray w.drew) (hnew : (Builtin.firstCells i.size n x').run P w.drew = .ok new'.toArray w.drew) (hby : i.bytes ≠ 0 ∨ sLen + n < 4611686018427387904) :
    ∃ newCap, sLen + n ≤ newCap ∧ (Builtin.append_ ts ty args).run P w = .ok (.slice (some ⟨w.heap.size, 0, none⟩) (sLen + n) newCap) (w.drew.alloc (.cells (old' ++ new' ++ restOf z (newCap - (sLen + n))).toArray el)) := by
  have hcap := nextcap_le hfit
  have hcapb : ¬ (Builtin.nextslicecap (sLen + n) cap' * i.bytes > 2 ^ 48) := by
    have := Nat.mul_le_mul_right i.bytes hcap
    omega
  have hzv : ∀ w : World, (zeroValue el).run P w = .ok z w := fun w => by simp [zeroValue, typeInfo, hi, hz]
  have hge := grownCap_ge w (sLen + n) cap' el
  refine ⟨grownCap w (sLen + n) cap' el, hge, ?_⟩
  have hm : ¬ (9223372036854775807 < (sLen : Int) + (n : Int) ∧ i.bytes = 0) := by omega
  have hcapb' : ¬ (281474976710656 < Builtin.nextslicecap (sLen + n) cap' * i.bytes) := by omega
  have hzc := zeroCells_eq z.cells (grownCap w (sLen + n) cap' el - (sLen + n)) (by omega)
  simp [Builtin.append_, h0, h1, a0, a1, run_underlying ht, run_underlying hu, sizeOf, typeInfo, hi, hn, Nat.not_le.2 hfit]
  rw [if_neg hm, if_neg hcapb']
  have hcut : (Question.appendCap (sLen + n) cap' el).cut (w.tape w.drawn (Question.appendCap (sLen + n) cap' el)) = grownCap w (sLen + n) cap' el := rfl
  simp [forced_cap, hold, hnew, hzv, hcut, hzc, newRow, restOf]
theorem append_grow0 {w : World} {ts : Array TypeId} {ty t u el : TypeId} {i : TypeInfo} {k k' : IntKind} {z : Value} {args : Array Value} {base' : Option Addr} {sLen cap' n : Nat} {old' : List Value}
    (h0 : ts[0]? = some t) (h1 : ts[1]? = some u) (a0 : args[0]? = some (.slice base' sLen cap')) (a1 : args[1]? = some (.int k' (n : Int))) (ht : P.underlying t = some (.slice el)) (hu : P.underlying u = some (.int k)) (hi : P.info? el = some i)
    (hz : i.zero = some z) (hzs : z.cells.size = i.size) (hs : 1 ≤ i.size) (hn : n ≤ 1048576) (hn0 : n ≠ 0)
    (hfit : cap' < sLen + n) (hb : (4 * (sLen + n) + 1000) * i.bytes ≤ 140737488355328)
    (hold : (Builtin.firstCells i.size sLen (.slice base' sLen cap')).run P w.drew = .ok old'.toArray w.drew) (hby : sLen + n < 4611686018427387904) :
    ∃ newCap, sLen + n ≤ newCap ∧ (Builtin.append_ ts ty args).run P w = .ok (.slice (some ⟨w.heap.size, 0, none⟩) (sLen + n) newCap) (w.drew.alloc (.cells (old' ++ repL z.cells.toList n ++ restOf z (newCap - (sLen + n))).toArray el)) := by
  have hwrap : IntKind.i64.wrap (n : Int) = n := by rw [← fwrap_eq]; unfold fwrap; rw [fwrapR_eq _ _ _ (fmod_lt _ (modulus_pos _))]; simp [signedK, fmod, modulus]; omega
  have hnb : n * i.bytes ≤ 140737488355328 := by
    have : n * i.bytes ≤ (4 * (sLen + n) + 1000) * i.bytes := Nat.mul_le_mul_right _ (by omega)
    omega
  have h2' : ¬ (281474976710656 < (n : Int) * (i.bytes : Int)) := by
    have : ((n * i.bytes : Nat) : Int) ≤ 140737488355328 := by omega
    rw [Int.natCast_mul] at this
    omega
  have h3 : ¬ ((n : Int) < 0) := by omega
  have hcap := nextcap_le hfit
  have hcapb' : ¬ (281474976710656 < Builtin.nextslicecap (sLen + n) cap' * i.bytes) := by
    have := Nat.mul_le_mul_right i.bytes hcap
    omega
  have hzv : ∀ w : World, (zeroValue el).run P w = .ok z w := fun w => by simp [zeroValue, typeInfo, hi, hz]
  have hge := grownCap_ge w (sLen + n) cap' el
  refine ⟨grownCap w (sLen + n) cap' el, hge, ?_⟩
  have hm : ¬ (9223372036854775807 < (sLen : Int) + (n : Int)) := by omega
  have hzc := zeroCells_eq z.cells (grownCap w (sLen + n) cap' el - (sLen + n)) (by omega)
  have hzc1 := zeroCells_eq z.cells n (by omega)
  have hcut : (Question.appendCap (sLen + n) cap' el).cut (w.tape w.drawn (Question.appendCap (sLen + n) cap' el)) = grownCap w (sLen + n) cap' el := rfl
  have hns : ¬ (n * i.size = 0) := by have : 0 < n * i.size := Nat.mul_pos (by omega) (by omega); omega
  simp [Builtin.append_, h0, h1, a0, a1, run_underlying ht, run_underlying hu, sizeOf, typeInfo, hi, Nat.not_le.2 hfit, asInt, asIntOf, hwrap, h3, h2']
  rw [if_neg hm, if_neg hcapb']
  simp [forced_cap, hold, hzv, hcut, hzc, hzc1, newRow, restOf]
  intro h; exact absurd h hns
end
end Go.Proofs.Ytijfafacddefhaa.Ab
