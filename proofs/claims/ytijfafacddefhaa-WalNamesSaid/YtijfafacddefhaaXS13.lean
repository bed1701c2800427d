/- The short run is sound over the model: a part of the proof. -/
import Derived.Test.YtijfafacddefhaaXS12b
namespace Go.Proofs.Ytijfafacddefhaa.Ab
open Go.RowKit

/-- what an operation comes to -/
def OpOk (P : Program) (B0 : Nat) (w0 : World) (σ : Inj) (s : St) (w : World) (run : Result Next) : AR → Prop
  | .val v s' => ∃ σ' w' v', Ext s.next σ σ' ∧ s.next ≤ s'.next ∧ Inv B0 w0 σ' s' w' ∧ VRel σ' v v' ∧ run = .ok (.value v') w'
  | .skip s' => ∃ w', s'.next = s.next ∧ Inv B0 w0 σ s' w' ∧ run = .ok .skip w'
  | .call f args s' => s' = s ∧ ∃ args', LRel σ args args'.toList ∧ run = (callFunc f args').run P w

section
variable {T : Tab} {P : Program} (hT : T.Ok P) {B0 : Nat} {w0 : World} {σ : Inj} {s : St} {w : World} {n : Nat} {e : Tree Value} {a : Act}

theorem opOk_same (hI : Inv B0 w0 σ s w) {v v' : Value} {run : Result Next} (hv : VRel σ v v') (h : run = .ok (.value v') w) : OpOk P B0 w0 σ s w run (.val v s) :=
  ⟨σ, w, v', Ext.refl, Nat.le_refl _, hI, hv, h⟩
theorem opOk_valOk {v : Value} {s' : St} {x : Sem Value} {run : Result Next} (h : ValOk B0 w0 σ s (x.run P w) v s') (hr : run = (x >>= fun v => (Pure.pure (Next.value v) : Sem Next)).run P w) : OpOk P B0 w0 σ s w run (.val v s') := by
  obtain ⟨σ', w', v', h1, h2, h3, h4, h5⟩ := h
  refine ⟨σ', w', v', h1, h2, h3, h4, ?_⟩
  rw [hr]
  simp [h5]

theorem map_snd {ps : List (Nat × Operand)} {f : Operand → Value} : (ps.map fun (i, x) => (i, f x)).map (·.2) = ps.map fun p => f p.2 := by simp [Function.comp_def]
theorem partsOne_spec : ∀ {ps : List (Nat × Value)}, partsOne ps = true → ∀ p ∈ ps, (cellsL p.2).all one = true
  | [], _, p, hp => by cases hp
  | (i, v) :: ps, h, p, hp => by
    obtain ⟨h1, h2⟩ := and_true h
    cases hp with
    | head => exact h1
    | tail _ hp => exact partsOne_spec h2 p hp

include hT
theorem opAlloc_sound (hI : Inv B0 w0 σ s w) {el : Nat} {r : AR} (h : opAlloc el T e s = some r) (o : Oper) (ho : o.op = .alloc el) : OpOk P B0 w0 σ s w ((execOp a.eval o).run P w) r := by
  obtain ⟨z, hz, h⟩ := obnd_some h
  cases h
  obtain ⟨hzr, hzp⟩ := zero_run hT hz w
  have hrel : LRel σ (cellsL z) (cellsL z) := cellsL_rel (VRel.plain hzp)
  obtain ⟨h1, h2, h3⟩ := new_slice (el := el) (len := 0) (cap := 0) (es := 1) hI hrel OPEN_pos
  refine ⟨_, _, _, ext_add (Nat.le_refl _), Nat.le_succ _, h1, h3, ?_⟩
  have e : (cellsL z).toArray = z.cells := by rw [← cellsL_eq]
  simp [execOp, ho, Instr.alloc, hzr, newVar, newRow, e]
omit hT in
theorem opBox_sound (hI : Inv B0 w0 σ s w) (he : EnvRel σ n e a.tmps) {el : Nat} {x : Operand} {r : AR} (h : opBox x T e s = some r) (o : Oper) (ho : o.op = .box el x) : OpOk P B0 w0 σ s w ((execOp a.eval o).run P w) r := by
  obtain ⟨v, hv, h⟩ := obnd_some h
  obtain ⟨_, h⟩ := cond_some h
  cases h
  have hrel := cellsL_rel (aOpd_sound he hv)
  obtain ⟨h1, h2, h3⟩ := new_slice (el := el) (len := 0) (cap := 0) (es := 1) hI hrel OPEN_pos
  refine ⟨_, _, _, ext_add (Nat.le_refl _), Nat.le_succ _, h1, h3, ?_⟩
  have e : (cellsL (a.eval x)).toArray = (a.eval x).cells := by rw [← cellsL_eq]
  simp [execOp, ho, Instr.box, newVar, newRow, e]
theorem opBuildSlice_sound (hI : Inv B0 w0 σ s w) (he : EnvRel σ n e a.tmps) {t len : Nat} {ps : Array (Nat × Operand)} {r : AR} (h : opBuildSlice t len ps T e s = some r) (o : Oper) (ho : o.op = .buildSlice t len ps) : OpOk P B0 w0 σ s w ((execOp a.eval o).run P w) r := by
  obtain ⟨l, hl, h⟩ := obnd_some h
  obtain ⟨_, h⟩ := cond_some h
  obtain ⟨d, hd, h⟩ := obnd_some h
  obtain ⟨el, hel, h⟩ := obnd_some h
  have hde := elemOfS_some hel
  obtain ⟨z, hz, h⟩ := obnd_some h
  obtain ⟨k, hk, h⟩ := obnd_some h
  obtain ⟨hc, h⟩ := cond_some h
  obtain ⟨c1, hc⟩ := and_true hc
  obtain ⟨c2, hc⟩ := and_true hc
  obtain ⟨c3, c4⟩ := and_true hc
  have c1 := ble_true c1
  have c2 := Nat.eq_of_beq_eq_true c2
  have c3 := ble_true c3
  have c4 := ble_true c4
  obtain ⟨q, hq, h⟩ := obnd_some h
  cases h
  have ht := hT.ty _ _ hd
  rw [hde] at ht
  obtain ⟨hzr, hzp⟩ := zero_run hT hz w
  have hzs : z.cells.size = k := by
    have := c2
    rw [← cellsL_eq] at this
    simpa using this
  obtain ⟨p1, p2⟩ := aParts_sound he hl
  have hzrel : LRel σ (repL (cellsL z) len) (repL z.cells.toList len) := repL_rel (by rw [cellsL_eq]; exact cellsL_rel (VRel.plain hzp)) len
  have hps : LRel σ (l.map (·.2)) (((ps.map fun (i, x) => (i, a.eval x)).toList).map (·.2)) := by
    rw [Array.toList_map, map_snd]
    exact p1
  have hps2 : l.map (·.1) = ((ps.map fun (i, x) => (i, a.eval x)).toList).map (·.1) := by
    rw [Array.toList_map]
    simpa [Function.comp_def] using p2
  obtain ⟨q', hq', hqr⟩ := aFill_sound (cs' := (repL z.cells.toList len).toArray) hps hps2 (by simpa using hzrel) hq
  have hcap : len < OPEN := by unfold OPEN; omega
  obtain ⟨h1, h2, h3⟩ := new_slice (el := el) (len := len) (cap := len) (es := k) hI hqr hcap
  refine ⟨_, _, _, ext_add (Nat.le_refl _), Nat.le_succ _, h1, h2, ?_⟩
  have hrz : (Array.range (len * k)).map (fun i => z.cells[i % z.cells.size]!) = (repL z.cells.toList len).toArray := by
    rw [← hzs]; exact rangeZero_eq z.cells len (by omega)
  have hbig : ¬ (len * k > 2 ^ 24) := by omega
  by_cases hl0 : len * k = 0
  · have : len = 0 := by
      rcases Nat.mul_eq_zero.1 hl0 with h | h
      · exact h
      · omega
    have hr0 : ∀ f : Nat → Value, (Array.range (len * k)).map f = (repL z.cells.toList len).toArray := fun f => by
      rw [hl0, this]; simp [repL]
    simp only [execOp, ho, Instr.buildSlice, Sem.run_bind, run_underlying ht, Result.andThen_ok, size_run hT hk, hbig, if_false, if_pos hl0, Sem.run_pure, hr0, hq', newRow, run_newObj]
    simp
  · simp only [execOp, ho, Instr.buildSlice, Sem.run_bind, run_underlying ht, Result.andThen_ok, size_run hT hk, hbig, if_false, hl0, hzr, Sem.run_pure, hrz, hq', newRow, run_newObj]
    simp
theorem opMakeSlice_sound (hI : Inv B0 w0 σ s w) (he : EnvRel σ n e a.tmps) {t : Nat} {l c : Operand} {r : AR} (h : opMakeSlice t l c T e s = some r) (o : Oper) (ho : o.op = .makeSlice t l c) : OpOk P B0 w0 σ s w ((execOp a.eval o).run P w) r := by
  obtain ⟨vl, hvl, h⟩ := obnd_some h
  obtain ⟨vc, hvc, h⟩ := obnd_some h
  obtain ⟨k1, nl, e1, hk1⟩ := onNat_some (show onNat vl _ = some r from h)
  obtain ⟨k2, nc, e2, hk2⟩ := onNat_some hk1
  rw [e1] at hvl
  rw [e2] at hvc
  clear h e1 e2 hk1
  obtain ⟨d, hd, h⟩ := obnd_some hk2
  obtain ⟨el, hel, h⟩ := obnd_some h
  have hde := elemOfS_some hel
  obtain ⟨z, hz, h⟩ := obnd_some h
  obtain ⟨i, hi, h⟩ := obnd_some h
  obtain ⟨hc, h⟩ := cond_some h
  obtain ⟨c1, hc⟩ := and_true hc
  obtain ⟨c2, hc⟩ := and_true hc
  obtain ⟨c3, hc⟩ := and_true hc
  obtain ⟨c4, c5⟩ := and_true hc
  have c1 := ble_true c1
  have c2 := ble_true c2
  have c3 := ble_true c3
  have c5 := ble_true c5
  cases h
  have ht := hT.ty _ _ hd
  rw [hde] at ht
  obtain ⟨hpi, hiz, hzs, hzr⟩ := zero_cells (σ := σ) hT hz hi c4
  have e1 := aOpd_sound he hvl
  have e2 := aOpd_sound he hvc
  have hcap : nc < OPEN := by unfold OPEN; omega
  obtain ⟨h1, h2, h3⟩ := new_slice (el := el) (len := nl) (cap := nc) (es := i.size) hI (repL_rel hzr nc) hcap
  refine ⟨_, _, _, ext_add (Nat.le_refl _), Nat.le_succ _, h1, h2, ?_⟩
  have e1' : a.eval l = .int k1 (nl : Int) := VRel.eq_of_plain1 rfl e1
  have e2' : a.eval c = .int k2 (nc : Int) := VRel.eq_of_plain1 rfl e2
  have hw : ∀ m : Nat, m ≤ 1048576 → IntKind.i64.wrap (m : Int) = m := fun m hm => by
    rw [← fwrap_eq]; unfold fwrap; rw [fwrapR_eq _ _ _ (fmod_lt _ (modulus_pos _))]; simp [signedK, fmod, modulus]; omega
  have hw1' : IntKind.i64.wrap (nl : Int) = nl := hw nl (by omega)
  have hw2' : IntKind.i64.wrap (nc : Int) = nc := hw nc c3
  have hz0 : (zeroValue el).run P w = .ok z w := (zero_run hT hz w).1
  have hb : ¬ (2 ^ 48 < (i.bytes : Int) * (nc : Int)) := by
    have h9 : ((nc * i.bytes : Nat) : Int) ≤ 140737488355328 := by omega
    rw [Int.natCast_mul, Int.mul_comm] at h9
    omega
  have hcond : (decide ((nc : Int) < 0) || decide ((i.bytes : Int) * (nc : Int) > 2 ^ 48) || decide ((nl : Int) < 0) || decide ((nl : Int) > (nc : Int))) = false := by
    simp; omega
  have hrz : (Array.range (nc * i.size)).map (fun j => z.cells[j % z.cells.size]!) = (repL z.cells.toList nc).toArray := by
    rw [← hzs]; exact rangeZero_eq z.cells nc (by omega)
  by_cases hn0 : nc * i.size = 0
  · have : nc = 0 := by
      rcases Nat.mul_eq_zero.1 hn0 with h | h
      · exact h
      · omega
    have hr0 : ∀ f : Nat → Value, (Array.range (nc * i.size)).map f = (repL z.cells.toList nc).toArray := fun f => by
      rw [hn0, this]; simp [repL]
    simp only [execOp, ho, Instr.makeSlice, Sem.run_bind, run_underlying ht, Result.andThen_ok, asInt, asIntOf, typeInfo, run_program, hpi, sizeOf, Sem.run_pure, e1', e2', hw1', hw2', hcond, if_neg, Bool.false_eq_true, not_false_eq_true, run_askRoom, Int.toNat_natCast, if_pos hn0, hr0, newRow, run_newObj]
    simp
  · simp only [execOp, ho, Instr.makeSlice, Sem.run_bind, run_underlying ht, Result.andThen_ok, asInt, asIntOf, typeInfo, run_program, hpi, sizeOf, Sem.run_pure, e1', e2', hw1', hw2', hcond, if_neg, Bool.false_eq_true, not_false_eq_true, run_askRoom, Int.toNat_natCast, hn0, hz0, hrz, newRow, run_newObj]
    simp
end
end Go.Proofs.Ytijfafacddefhaa.Ab
