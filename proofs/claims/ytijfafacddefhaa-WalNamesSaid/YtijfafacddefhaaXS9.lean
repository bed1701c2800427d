/- The short run is sound over the model: a part of the proof. -/
import Derived.Test.YtijfafacddefhaaXS8
namespace Go.Proofs.Ytijfafacddefhaa.Ab
open Go.RowKit

theorem bytesOfL_eq (l : List UInt8) : bytesOfL l = l.map fun b => Value.int .u8 (b.toNat : Int) := by
  induction l with
  | nil => rfl
  | cons b l ih => simp only [bytesOfL, ih, List.map_cons]; rfl
theorem bytes_plain (l : List Value) (h : ∀ v ∈ l, plain1 v = true) : l.all plain1 = true := by simpa using h
theorem extract_bytes (y : ByteArray) (n : Nat) : ((y.extract 0 n).data.map fun b => Value.int .u8 (b.toNat : Int)).toList = (bytesOfL y.data.toList).take n := by
  rw [bytesOfL_eq]
  simp [ByteArray.data_extract, List.extract_eq_take_drop]

theorem capOf_lt {c : Nat} (h : c < OPEN) : capOf c = c := by
  unfold capOf
  have : Nat.blt c OPEN = true := by rw [Nat.blt_eq]; exact h
  rw [this]; rfl
theorem capOf_ge {c : Nat} (h : OPEN ≤ c) : capOf c = c - OPEN := by
  unfold capOf
  cases hb : Nat.blt c OPEN with
  | true => have := blt_true hb; exact absurd h (Nat.not_le.2 this)
  | false => rw [cond_false]
theorem capOf_open (k : Nat) : capOf (OPEN + k) = k := by
  rw [capOf_ge (Nat.le_add_right _ _), Nat.add_sub_cancel_left]
theorem capOf_le (c : Nat) : capOf c ≤ c := by
  unfold capOf
  cases Nat.blt c OPEN with
  | true => rw [cond_true]; exact Nat.le_refl _
  | false => rw [cond_false]; exact Nat.sub_le _ _
theorem slice_cap {σ : Inj} {b b' : Option Addr} {n c n' c' : Nat} (h : VRel σ (.slice b n c) (.slice b' n' c')) : n' = n ∧ (c' = c ∨ ∃ k x, c = OPEN + k ∧ c' = k + x) := by
  cases h with
  | nilSlice => exact ⟨rfl, .inl rfl⟩
  | slice => exact ⟨rfl, .inl rfl⟩
  | @sliceO _ _ _ k l => exact ⟨rfl, .inr ⟨k, l.x, rfl, rfl⟩⟩
  | sliceE => exact ⟨rfl, .inr ⟨0, 0, (Nat.add_zero _).symm, rfl⟩⟩
  | slice0 => exact ⟨rfl, .inl rfl⟩
theorem cap_le {σ : Inj} {b b' : Option Addr} {n c n' c' : Nat} (h : VRel σ (.slice b n c) (.slice b' n' c')) : capOf c ≤ c' := by
  rcases (slice_cap h).2 with rfl | ⟨k, x, rfl, rfl⟩
  · exact capOf_le _
  · rw [capOf_open]; exact Nat.le_add_right _ _
theorem cap_lt {σ : Inj} {b b' : Option Addr} {n c n' c' : Nat} (h : VRel σ (.slice b n c) (.slice b' n' c')) (hc : c < OPEN) : c' = c := by
  rcases (slice_cap h).2 with rfl | ⟨k, x, rfl, rfl⟩
  · rfl
  · exact absurd hc (Nat.not_lt.2 (Nat.le_add_right _ _))
section
variable {T : Tab} {P : Program} (hT : T.Ok P) {B0 : Nat} {w0 : World} {σ : Inj} {s : St} {w : World}

theorem aLen_sound {x x' : Value} {n : Nat} (h : aLen x = some n) (hx : VRel σ x x') (w : World) : (Builtin.lenOf x').run P w = .ok n w := by
  unfold aLen at h
  split at h
  · cases h; cases hx <;> rfl
  · cases h; cases hx; rfl
  · cases h
theorem aCells_sound (hI : Inv B0 w0 σ s w) {size n m : Nat} {x x' : Value} {cs : List Value} (h : aCells size n s x = some cs) (hx : VRel σ x x') (hm : aLen x = some m) (hnm : n ≤ m) :
    ∃ cs', LRel σ cs cs' ∧ (Builtin.firstCells size n x').run P w = .ok cs'.toArray w ∧ (Builtin.firstCells size n x').run P w.drew = .ok cs'.toArray w.drew := by
  unfold aCells at h
  cases hn : Nat.beq n 0 with
  | true =>
    rw [hn] at h
    have hn := Nat.eq_of_beq_eq_true hn
    subst hn
    cases h
    refine ⟨[], .nil, ?_⟩
    have hl : ∀ (a : Addr) (w : World), (loadCells a 0).run P w = .ok #[] w := fun a w => rfl
    unfold aLen at hm
    split at hm
    · cases hx <;> simp [Builtin.firstCells, hl]
    · cases hx; simp [Builtin.firstCells]
    · cases hm
  | false =>
    rw [hn] at h
    have hn := beq_false hn
    simp only [cond_false] at h
    split at h
    · rename_i a len cap
      obtain ⟨b, o, rfl, h⟩ := onAddr_some h
      have main : ∀ (l : Loc), σ b = some l → ∀ len' cap', ∃ cs', LRel σ cs cs' ∧ (Builtin.firstCells size n (.slice (some ⟨l.blk, l.off + o, none⟩) len' cap')).run P w = .ok cs'.toArray w ∧ (Builtin.firstCells size n (.slice (some ⟨l.blk, l.off + o, none⟩) len' cap')).run P w.drew = .ok cs'.toArray w.drew := by
        intro l hb len' cap'
        obtain ⟨vs', hl, hrel, hc⟩ := hI.read hb h
        have hc' : ∀ j v, vs'[j]? = some v → w.cell? ((⟨l.blk, l.off + o, none⟩ : Addr).add j) = some v := fun j v hj => by rw [addr_add]; exact hc j v hj
        have r1 := run_loadCells_list (P := P) w ⟨l.blk, l.off + o, none⟩ vs' hc'
        have r2 := run_loadCells_list (P := P) w.drew ⟨l.blk, l.off + o, none⟩ vs' (fun j v hj => hc' j v hj)
        rw [hl] at r1 r2
        exact ⟨vs', hrel, r1, r2⟩
      cases hm
      cases hx with
      | slice hb _ => exact main _ hb _ _
      | sliceO hb => exact main _ hb _ _
      | sliceE => omega
      | slice0 => omega
    · rename_i y
      cases hx
      obtain ⟨rfl, hle⟩ := takeN_spec h
      refine ⟨_, LRel.plain1 (bytes_plain _ ?_), ?_⟩
      · intro v hv
        rw [bytesOfL_eq] at hv
        have := List.mem_of_mem_take hv
        simp at this
        obtain ⟨b, _, rfl⟩ := this
        rfl
      · have e : ((y.extract 0 n).data.map fun b => Value.int .u8 (b.toNat : Int)) = ((bytesOfL y.data.toList).take n).toArray := by
          apply Array.ext'
          rw [extract_bytes]
        simp only [Builtin.firstCells, Sem.run_pure, e, and_self]
    · cases h

theorem valOk_same (hI : Inv B0 w0 σ s w) {v v' : Value} {run : Result Value} (hv : VRel σ v v') (h : run = .ok v' w) : ValOk B0 w0 σ s run v s :=
  ⟨σ, w, v', Ext.refl, Nat.le_refl _, hI, hv, h⟩

include hT
theorem zero_cells {el : Nat} {z : Value} {i : TypeInfo} (hz : T.zero el = some z) (hi : T.info el = some i) (hl : Nat.beq (cellsL z).length i.size = true) :
    P.info? el = some i ∧ i.zero = some z ∧ z.cells.size = i.size ∧ LRel σ (cellsL z) z.cells.toList := by
  obtain ⟨it, hit, hzz, hp⟩ := zero_info hT hz
  have h1 := hT.info _ _ hi
  rw [h1] at hit
  cases hit
  refine ⟨h1, hzz, ?_, by rw [cellsL_eq]; exact cellsL_rel (VRel.plain hp)⟩
  have := Nat.eq_of_beq_eq_true hl
  rw [← cellsL_eq] at this
  simpa using this

omit hT in
theorem new_slice (hI : Inv B0 w0 σ s w) {cs cs' : List Value} (hc : LRel σ cs cs') {es : Nat} {el : TypeId} {len cap : Nat} (hcap : cap < OPEN) :
    Inv B0 w0 (σ.add s.next ⟨w.heap.size, 0, 0⟩) (s.push (.cells cs es false)) (w.alloc (.cells cs'.toArray el)) ∧
      VRel (σ.add s.next ⟨w.heap.size, 0, 0⟩) (.slice (some ⟨s.next, 0, none⟩) len cap) (.slice (some ⟨w.heap.size, 0, none⟩) len cap) ∧
      VRel (σ.add s.next ⟨w.heap.size, 0, 0⟩) (.pointer (some ⟨s.next, 0, none⟩)) (.pointer (some ⟨w.heap.size, 0, none⟩)) := by
  refine ⟨hI.push (fun i v hv => ?_) ?_, ?_, ?_⟩
  · obtain ⟨v', h1, h2⟩ := hc.get i v hv
    exact ⟨v', by simpa using h1, h2⟩
  · simp [tot, hc.length]
  · exact .slice (l := ⟨w.heap.size, 0, 0⟩) Inj.add_same hcap
  · exact .ptr (l := ⟨w.heap.size, 0, 0⟩) Inj.add_same

omit hT in
/-- appending n elements: what is made of it, given how their number and the new cells came -/
theorem appendL_sound (hI : Inv B0 w0 σ s w) {ts : Array TypeId} {ty el : TypeId} {i : TypeInfo} {z : Value} {args' : Array Value} {base base' : Option Addr} {sLen sCap cap' n : Nat} {new new' : List Value} {fits : Bool} {r : AR}
    (hzs : z.cells.size = i.size) (hs : 1 ≤ i.size)
    (hy : VRel σ (.slice base sLen sCap) (.slice base' sLen cap'))
    (hfits : fits = true → (4 * (sLen + n) + 1000) * i.bytes ≤ 140737488355328) (hsmall : fits = true → sLen + n < 4611686018427387904)
    (hn : LRel σ new new')
    (rfit : ∀ w', sLen + n ≤ cap' → (∀ a, base' = some a → (storeCells (a.add (sLen * i.size)) new').run P w = .ok () w') → (base' = none → w' = w) → (Builtin.append_ ts ty args').run P w = .ok (.slice base' (sLen + n) cap') w')
    (rgrow : ∀ old', n ≠ 0 → cap' < sLen + n → (4 * (sLen + n) + 1000) * i.bytes ≤ 140737488355328 → sLen + n < 4611686018427387904 → (Builtin.firstCells i.size sLen (.slice base' sLen cap')).run P w.drew = .ok old'.toArray w.drew →
      ∃ newCap, sLen + n ≤ newCap ∧ (Builtin.append_ ts ty args').run P w = .ok (.slice (some ⟨w.heap.size, 0, none⟩) (sLen + n) newCap) (w.drew.alloc (.cells (old' ++ new' ++ restOf z (newCap - (sLen + n))).toArray el)))
    (hnew0 : n = 0 → new' = [])
    (h : aAppendL base i.size sLen sCap n fits s new = some r) :
    ∃ v s', r = .val v s' ∧ ValOk B0 w0 σ s ((Builtin.append_ ts ty args').run P w) v s' := by
  have hcaple : capOf sCap ≤ cap' := cap_le hy
  unfold aAppendL at h
  cases hb0 : Nat.beq n 0 with
  | true =>
    have hn0 := Nat.eq_of_beq_eq_true hb0
    rw [hb0] at h
    obtain ⟨hle, h⟩ := cond_some h
    cases h
    have hle := ble_true hle
    refine ⟨_, _, rfl, valOk_same hI (v' := .slice base' sLen cap') hy ?_⟩
    have := rfit w (by omega) (fun a ha => by rw [hnew0 hn0]; rfl) (fun _ => rfl)
    rw [this, hn0]
    rfl
  | false =>
    have hn0 := beq_false hb0
    rw [hb0] at h
    simp only [cond_false] at h
    cases hble : Nat.ble (sLen + n) (capOf sCap) with
    | true =>
      have hle := ble_true hble
      rw [hble] at h
      simp only [cond_true] at h
      obtain ⟨b, o, rfl, h⟩ := onAddr_some h
      obtain ⟨s', hw, h⟩ := obnd_some h
      cases h
      refine ⟨_, _, rfl, ?_⟩
      have main : ∀ l, σ b = some l → base' = some ⟨l.blk, l.off + o, none⟩ → (∀ m, VRel σ (.slice (some ⟨b, o, none⟩) m sCap) (.slice base' m cap')) → ValOk B0 w0 σ s ((Builtin.append_ ts ty args').run P w) (.slice (some ⟨b, o, none⟩) (sLen + n) sCap) s' := by
        rintro l hb rfl hrel
        obtain ⟨i1, i2, i3⟩ := hI.write hb hw hn
        refine ⟨σ, _, _, Ext.refl, by omega, i1, hrel _, rfit _ (by omega) (fun a ha => ?_) (fun hc => by cases hc)⟩
        cases ha
        rw [addr_add, Nat.add_assoc]
        exact i3 P
      cases hy with
      | slice hb hc => exact main _ hb rfl (fun m => .slice hb hc)
      | sliceO hb => exact main _ hb rfl (fun m => .sliceO hb)
      | sliceE => omega
      | slice0 => omega
    | false =>
      have hgt := ble_false hble
      rw [hble] at h
      simp only [cond_false] at h
      obtain ⟨hc, h⟩ := cond_some h
      obtain ⟨hf, hc⟩ := and_true hc
      obtain ⟨hlen, hone⟩ := and_true hc
      have hlen := Nat.eq_of_beq_eq_true hlen
      obtain ⟨old, ho, h⟩ := obnd_some h
      obtain ⟨hoone, h⟩ := cond_some h
      obtain ⟨old', hor, hor1, hor2⟩ := aCells_sound (P := P) hI ho hy (m := sLen) rfl (Nat.le_refl _)
      -- a new array
      have grown : ∀ (s1 : St), Inv B0 w0 σ s1 w → s1.next = s.next → cap' < sLen + n → ValOk B0 w0 σ s ((Builtin.append_ ts ty args').run P w) (.slice (some ⟨s1.next, 0, none⟩) (sLen + n) (OPEN + (sLen + n))) (s1.push (.cells (old ++ new) i.size true)) := by
        intro s1 hI1 hs1 hlt
        obtain ⟨newCap, hge, hrun⟩ := rgrow old' hn0 hlt (hfits hf) (hsmall hf) hor2
        have hall := hor.append hn
        have hsz : (old' ++ new').length ≤ (old' ++ new' ++ restOf z (newCap - (sLen + n))).length := by simp
        refine ⟨σ.add s1.next ⟨w.drew.heap.size, 0, newCap - (sLen + n)⟩, _, _, ext_add (Nat.le_of_eq hs1.symm), Nat.le_succ_of_le (Nat.le_of_eq hs1.symm),
          hI1.drew.push (t := el) (C := (old' ++ new' ++ restOf z (newCap - (sLen + n))).toArray) (fun j v hv => ?_) ?_, ?_, hrun⟩
        · obtain ⟨v', h1, h2⟩ := hall.get j v hv
          refine ⟨v', ?_, h2⟩
          have hj := (List.getElem?_eq_some_iff.1 h1).1
          simp only [List.getElem?_toArray]
          rw [List.getElem?_append_left hj]
          exact h1
        · have := hall.length
          have hzl : z.cells.toList.length = i.size := by simpa using hzs
          simp only [tot, cond_true, List.size_toArray, restOf, List.length_append, repL_length, hzl] at this ⊢
          omega
        · have hv := VRel.sliceO (σ := σ.add s1.next ⟨w.drew.heap.size, 0, newCap - (sLen + n)⟩) (b := s1.next) (o := 0) (n := sLen + n) (c := sLen + n) (l := ⟨w.drew.heap.size, 0, newCap - (sLen + n)⟩) Inj.add_same
          have e : sLen + n + (newCap - (sLen + n)) = newCap := by omega
          simp only [e] at hv
          exact hv
      cases hblt : Nat.blt sCap OPEN with
      | true =>
        have hlt := blt_true hblt
        rw [hblt] at h
        simp only [cond_true] at h
        cases h
        have hcap : cap' < sLen + n := by
          rw [capOf_lt hlt] at hgt
          rw [cap_lt hy hlt]
          exact hgt
        exact ⟨_, _, rfl, grown s hI rfl hcap⟩
      | false =>
        have hge := blt_false hblt
        rw [hblt] at h
        simp only [cond_false] at h
        obtain ⟨b, o, rfl, h⟩ := onAddr_some h
        obtain ⟨cs, es, sp, hg, h⟩ := objCells_some h
        obtain ⟨hc, hfin⟩ := cond_some h
        obtain ⟨hsp, hc⟩ := and_true hc
        obtain ⟨hes, hend⟩ := and_true hc
        have hes := Nat.eq_of_beq_eq_true hes
        have hend := Nat.eq_of_beq_eq_true hend
        clear h
        subst hsp
        subst hes
        cases hfin
        refine ⟨_, _, rfl, ?_⟩
        have hX : ∃ X, (cond (Nat.beq (sCap - OPEN) 0) (AObj.cells cs i.size false) AObj.dead) = X ∧ (X = .dead ∨ (X = .cells cs i.size false ∧ o = cs.length)) := by
          cases hb : Nat.beq (sCap - OPEN) 0 with
          | true =>
            have := Nat.eq_of_beq_eq_true hb
            rw [this] at hend
            exact ⟨_, rfl, .inr ⟨rfl, by omega⟩⟩
          | false => exact ⟨_, rfl, .inl rfl⟩
        obtain ⟨X, hXe, hX⟩ := hX
        rw [hXe]
        have hI1 : Inv B0 w0 σ (s.put b X) w := by
          rcases hX with rfl | ⟨rfl, _⟩
          · exact hI.forget b
          · exact hI.spent hg
        by_cases hcap : cap' < sLen + n
        · exact grown (s.put b X) hI1 rfl hcap
        · -- in place
          have key : ∀ (c : Nat) (l : Loc), sCap = OPEN + c → σ b = some l → base' = some ⟨l.blk, l.off + o, none⟩ → cap' = c + l.x → ValOk B0 w0 σ s ((Builtin.append_ ts ty args').run P w) (.slice (some ⟨(s.put b X).next, 0, none⟩) (sLen + n) (OPEN + (sLen + n))) ((s.put b X).push (.cells (old ++ new) i.size true)) := by
            rintro c l rfl hb rfl rfl
            have hc : OPEN + c - OPEN = c := Nat.add_sub_cancel_left _ _
            rw [hc] at hend
            have hgtc : c < sLen + n := by
              rw [capOf_open] at hgt
              exact hgt
            have hold : old = (cs.drop o).take (sLen * i.size) ∧ sLen ≤ c := by
              unfold aCells at ho
              cases hz0 : Nat.beq sLen 0 with
              | true =>
                have hz0' := Nat.eq_of_beq_eq_true hz0
                rw [hz0] at ho
                cases ho
                exact ⟨by rw [hz0']; simp, by omega⟩
              | false =>
                rw [hz0] at ho
                have ho : s.read b o (sLen * i.size) = some old := ho
                unfold St.read at ho
                rw [hg] at ho
                obtain ⟨h1, h2⟩ := takeN_spec (show takeN (sLen * i.size) (cs.drop o) = some old from ho)
                refine ⟨h1, ?_⟩
                simp only [List.length_drop] at h2
                have h3 : sLen * i.size ≤ c * i.size := by omega
                exact Nat.le_of_mul_le_mul_right h3 (by omega)
            obtain ⟨holdlen, hslen⟩ := hold
            have hmul : sLen * i.size ≤ c * i.size := Nat.mul_le_mul_right _ hslen
            have hI2 := hI.regrow (x' := c + l.x - (sLen + n)) (d := sLen * i.size) (o := o) hb hg hX hn (by omega) (by
              have e : (c + l.x) = (sLen + n) + (c + l.x - (sLen + n)) := by omega
              have e2 : (c + l.x) * i.size = (sLen + n) * i.size + (c + l.x - (sLen + n)) * i.size := by rw [← Nat.add_mul, ← e]
              rw [Nat.add_mul, Nat.add_mul] at e2
              omega)
            refine ⟨_, _, _, ext_add (Nat.le_refl _), by show s.next ≤ s.next + 1; omega, by rw [holdlen]; exact hI2, ?_, rfit _ (by omega) (fun a ha => ?_) (fun hc => by cases hc)⟩
            · have hv := VRel.sliceO (σ := σ.add s.next ⟨l.blk, l.off + o, c + l.x - (sLen + n)⟩) (b := s.next) (o := 0) (n := sLen + n) (c := sLen + n) (l := ⟨l.blk, l.off + o, c + l.x - (sLen + n)⟩) Inj.add_same
              have e : sLen + n + (c + l.x - (sLen + n)) = c + l.x := by omega
              simp only [e] at hv
              exact hv
            · cases ha
              rw [addr_add]
              have hroom : ∀ j, j < new'.length → (w.cell? ⟨l.blk, l.off + o + sLen * i.size + j, none⟩).isSome = true ∧ w.frozen? ⟨l.blk, l.off + o + sLen * i.size + j, none⟩ = false := fun j hj => by
                have := hI.room b l cs i.size true hb hg (o + sLen * i.size + j) (by
                  have e : (c + l.x) = (sLen + n) + (c + l.x - (sLen + n)) := by omega
                  have e2 : (c + l.x) * i.size = (sLen + n) * i.size + (c + l.x - (sLen + n)) * i.size := by rw [← Nat.add_mul, ← e]
                  rw [Nat.add_mul, Nat.add_mul] at e2
                  have := hn.length
                  simp only [tot, cond_true]
                  omega)
                rwa [show l.off + (o + sLen * i.size + j) = l.off + o + sLen * i.size + j by omega] at this
              have := run_storeCells_cells (P := P) l.blk (l.off + o + sLen * i.size) new' 0 w (fun j hj => by simpa using (hroom j hj).1) (fun j hj => by simpa using (hroom j hj).2) (ones_rel hn hone)
              simpa using this
          cases hy with
          | slice _ hc => exact absurd hge (Nat.not_le.2 hc)
          | sliceO hb => exact key _ _ rfl hb rfl rfl
          | sliceE => omega
          | slice0 => exact absurd hge (Nat.not_le.2 OPEN_pos)
end
end Go.Proofs.Ytijfafacddefhaa.Ab
