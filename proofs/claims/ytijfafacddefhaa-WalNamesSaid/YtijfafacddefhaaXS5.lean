/- The short run is sound over the model: a part of the proof. -/
import Derived.Test.YtijfafacddefhaaXS4
import Derived.Laws.Tables
namespace Go.Proofs.Ytijfafacddefhaa.Ab
open Go.RowKit

/-! ### building -/
theorem foldl_set : ∀ (vs : List Value) (off j : Nat) (cells : Array Value) (i : Nat), off + j + vs.length ≤ cells.size →
    ((vs.zipIdx j).foldl (fun cs (c, j) => cs.setIfInBounds (off + j) c) cells)[i]? = if off + j ≤ i ∧ i < off + j + vs.length then vs[i - (off + j)]? else cells[i]?
  | [], off, j, cells, i, h => by simp; intro h1 h2; omega
  | v :: vs, off, j, cells, i, h => by
    simp only [List.zipIdx_cons, List.foldl_cons]
    rw [foldl_set vs off (j + 1) _ i (by simp at h ⊢; omega)]
    simp only [List.length_cons] at h ⊢
    by_cases h1 : off + (j + 1) ≤ i ∧ i < off + (j + 1) + vs.length
    · rw [if_pos h1, if_pos (by omega)]
      rw [show i - (off + j) = (i - (off + (j + 1))) + 1 by omega]
      simp
    · rw [if_neg h1]
      by_cases h2 : i = off + j
      · subst h2
        rw [if_pos (by omega)]
        simp only [Nat.sub_self, List.getElem?_cons_zero]
        rw [Array.getElem?_setIfInBounds_self_of_lt (by omega)]
      · rw [if_neg (by omega), Array.getElem?_setIfInBounds_ne (by omega)]
theorem fill_one (v : Value) (off : Nat) (cells : Array Value) (h : off + v.cells.size ≤ cells.size) (r : List Value) (hr : writeL off cells.toList (cellsL v) = some r) :
    (v.cells.zipIdx.foldl (fun cs (c, j) => cs.setIfInBounds (off + j) c) cells) = r.toArray := by
  apply Array.ext_getElem?
  intro i
  rw [← Array.foldl_toList, Array.toList_zipIdx]
  have := foldl_set v.cells.toList off 0 cells i (by simpa using h)
  rw [this]
  simp only [List.getElem?_toArray]
  rw [writeL_get hr, ← cellsL_eq]
  simp
theorem fill_size (vs : List (Value × Nat)) (off : Nat) : ∀ (cells : Array Value), (vs.foldl (fun cs (c, j) => cs.setIfInBounds (off + j) c) cells).size = cells.size := by
  induction vs with
  | nil => intro c; rfl
  | cons x vs ih => intro c; simp only [List.foldl_cons]; rw [ih]; simp

theorem writeL_rel {σ : Inj} {off : Nat} {cs vs r cs' vs' : List Value} (h : writeL off cs vs = some r) (hc : LRel σ cs cs') (hv : LRel σ vs vs') :
    ∃ r', writeL off cs' vs' = some r' ∧ LRel σ r r' := by
  have hH : ∀ {vs vs' : List Value}, LRel σ vs vs' → ∀ {cs cs' r : List Value}, LRel σ cs cs' → writeH vs cs = some r → ∃ r', writeH vs' cs' = some r' ∧ LRel σ r r' := by
    intro vs vs' hv
    induction hv with
    | nil => intro cs cs' r hc h; simp [writeH] at h; subst h; exact ⟨cs', by simp [writeH], hc⟩
    | cons hv1 _ ih =>
      intro cs cs' r hc h
      cases hc with
      | nil => simp [writeH] at h
      | cons hc1 hct =>
        obtain ⟨r1, h1, rfl⟩ := consO_some h
        obtain ⟨r', e, hr'⟩ := ih hct h1
        exact ⟨_ :: r', by simp [writeH, e, consO], .cons hv1 hr'⟩
  induction off generalizing cs cs' r with
  | zero => exact hH hv hc h
  | succ off ih =>
    cases hc with
    | nil => simp [writeL] at h
    | cons hc1 hct =>
      obtain ⟨r1, h1, rfl⟩ := consO_some h
      obtain ⟨r', e, hr'⟩ := ih h1 hct
      exact ⟨_ :: r', by simp [writeL, e, consO], .cons hc1 hr'⟩

theorem aFill_sound {σ : Inj} {place : Nat → Option (Nat × Nat)} : ∀ {ps ps' : List (Nat × Value)} {cs r : List Value} {cs' : Array Value},
    LRel σ (ps.map (·.2)) (ps'.map (·.2)) → ps.map (·.1) = ps'.map (·.1) → LRel σ cs cs'.toList → aFill place ps cs = some r →
    ∃ r', Instr.fill place cs' ps' = some r' ∧ LRel σ r r'.toList
  | [], [], cs, r, cs', _, _, hc, h => by simp [aFill] at h; subst h; exact ⟨cs', rfl, hc⟩
  | [], _ :: _, _, _, _, h, _, _, _ => by cases h
  | _ :: _, [], _, _, _, h, _, _, _ => by cases h
  | (i, v) :: ps, (i', v') :: ps', cs, r, cs', hv, hi, hc, h => by
    simp only [List.map_cons] at hv hi
    cases hv with
    | cons hv1 hvt =>
    simp only [List.cons.injEq] at hi
    obtain ⟨rfl, hi⟩ := hi
    obtain ⟨p, hp, h⟩ := obnd_some h
    obtain ⟨r1, h1, h⟩ := obnd_some h
    obtain ⟨hlen, hw⟩ := cond_some h1
    have hlen := Nat.eq_of_beq_eq_true hlen
    have hcv := cellsL_rel hv1
    obtain ⟨r1', hw', hr1⟩ := writeL_rel hw hc hcv
    obtain ⟨hle, _⟩ := writeL_spec hw'
    have hsz : v'.cells.size = p.2 := by
      have := hcv.length
      rw [← cellsL_eq] at this
      simp at this
      omega
    have hle' : p.1 + v'.cells.size ≤ cs'.size := by
      rw [← cellsL_eq] at hle
      simpa using hle
    obtain ⟨r', hr', hrel⟩ := aFill_sound (cs' := r1'.toArray) hvt hi (by simpa using hr1) h
    refine ⟨r', ?_, hrel⟩
    unfold Instr.fill
    simp only [hp]
    rw [if_neg (by simp; omega), fill_one v' p.1 cs' hle' r1' hw']
    exact hr'

section
variable {T : Tab} {P : Program} (hT : T.Ok P)
include hT
theorem placesOf_sound : ∀ {fs : List Field} {pl : List (Nat × Nat)}, placesOf T fs = some pl → fs.mapM (fun f => (P.info? f.type).map fun i => (f.offset, i.size)) = some pl
  | [], pl, h => by simp [placesOf] at h; subst h; rfl
  | f :: fs, pl, h => by
    obtain ⟨n, hn, h⟩ := obnd_some h
    obtain ⟨r, hr, h⟩ := obnd_some h
    cases h
    obtain ⟨i, hi, hn⟩ := obnd_some hn
    cases hn
    simp [List.mapM_cons, hT.info _ _ hi, placesOf_sound hr]
theorem zero_info {t : Nat} {z : Value} (h : T.zero t = some z) : ∃ i, P.info? t = some i ∧ i.zero = some z ∧ plain z = true := by
  obtain ⟨i, hi, h⟩ := obnd_some h
  obtain ⟨z', hz, h⟩ := obnd_some h
  obtain ⟨rfl, hp⟩ := ifPlain_some h
  exact ⟨i, hT.info _ _ hi, hz, hp⟩
theorem size_info {t n : Nat} (h : T.size t = some n) : ∃ i, P.info? t = some i ∧ i.size = n := by
  obtain ⟨i, hi, h⟩ := obnd_some h
  cases h
  exact ⟨i, hT.info _ _ hi, rfl⟩
theorem aBuild_sound {σ : Inj} {t : Nat} {ps : List (Nat × Value)} {ps' : Array (Nat × Value)} {v : Value} (hv : LRel σ (ps.map (·.2)) (ps'.toList.map (·.2))) (hi : ps.map (·.1) = ps'.toList.map (·.1))
    (h : aBuild T t ps = some v) : ∃ v', VRel σ v v' ∧ ∀ w, (Instr.build t ps').run P w = .ok v' w := by
  obtain ⟨d, hd, h⟩ := obnd_some h
  obtain ⟨z, hz, h⟩ := obnd_some h
  obtain ⟨it, hit, hzz, hp⟩ := zero_info hT hz
  have hu := hT.ty _ _ hd
  have hc : LRel σ (cellsL z) z.cells.toList := by
    rw [cellsL_eq]; exact cellsL_rel (VRel.plain hp)
  cases d with
  | struct fs =>
    obtain ⟨pl, hpl, h⟩ := obnd_some h
    obtain ⟨r, hr, h⟩ := obnd_some h
    cases h
    obtain ⟨r', hf, hrel⟩ := aFill_sound hv hi hc hr
    refine ⟨.agg r', by simpa using VRel.agg' hrel, fun w => run_build w t ps' r' ?_⟩
    have hm := placesOf_sound hT hpl
    unfold Program.built
    simp only [hit, hu, hzz, hm]
    have : (fun x => pl.toArray[x]?) = (fun i : Nat => pl[i]?) := by funext x; simp
    rw [this]
    exact hf
  | array m el =>
    obtain ⟨n, hn, h⟩ := obnd_some h
    obtain ⟨r, hr, h⟩ := obnd_some h
    cases h
    obtain ⟨r', hf, hrel⟩ := aFill_sound hv hi hc hr
    obtain ⟨ie, hie, rfl⟩ := size_info hT hn
    refine ⟨.agg r', by simpa using VRel.agg' hrel, fun w => run_build w t ps' r' ?_⟩
    unfold Program.built
    simp only [hit, hu, hzz, hie]
    exact hf
  | _ => cases h

/-! ### parts of values -/
omit hT in
theorem takeN_rel {σ : Inj} {n : Nat} {l r l' : List Value} (h : takeN n l = some r) (hl : LRel σ l l') : ∃ r', takeN n l' = some r' ∧ LRel σ r r' ∧ r' = l'.take n ∧ n ≤ l'.length := by
  obtain ⟨rfl, hle⟩ := takeN_spec h
  have hlen := hl.length
  have : ∀ (n : Nat) (l : List Value), n ≤ l.length → takeN n l = some (l.take n) := by
    intro n
    induction n with
    | zero => intro l _; simp [takeN]
    | succ n ih =>
      intro l hl
      cases l with
      | nil => simp at hl
      | cons x l => simp [takeN, ih l (by simpa using hl), consO]
  exact ⟨l'.take n, this n l' (by omega), hl.take n, rfl, by omega⟩
omit hT in
theorem nth_rel {σ : Inj} {l l' : List Value} {i : Nat} {v : Value} (h : nth l i = some v) (hl : LRel σ l l') : ∃ v', l'[i]? = some v' ∧ VRel σ v v' := by
  obtain ⟨r, hr, h⟩ := obnd_some h
  obtain rfl := head1_some h
  obtain ⟨r', h1, h2, h3, h4⟩ := takeN_rel hr (hl.drop i)
  cases h2 with
  | cons hv ht =>
    cases ht
    refine ⟨_, ?_, hv⟩
    have : l'[i]? = ((l'.drop i).take 1)[0]? := by simp [List.getElem?_drop]
    rw [this, ← h3]
    rfl
theorem part_sound {σ : Inj} {t : Nat} {cs : List Value} {cs' : Array Value} {off : Nat} {v : Value} (hc : LRel σ cs cs'.toList) (h : aPart T t cs off = some v) (w : World) :
    ∃ v', VRel σ v v' ∧ (part t cs' off).run P w = .ok v' w := by
  obtain ⟨g, hg, h⟩ := obnd_some h
  cases g with
  | true =>
    obtain ⟨n, hn, h⟩ := obnd_some h
    obtain ⟨r, hr, h⟩ := obnd_some h
    cases h
    obtain ⟨r', h1, h2, h3, h4⟩ := takeN_rel hr (hc.drop off)
    refine ⟨.agg (cs'.extract off (off + n)), ?_, by simp [part, isAgg_run hT hg, size_run hT hn]⟩
    have e : cs'.extract off (off + n) = r'.toArray := by
      rw [h3]
      apply Array.ext'
      simp [Array.toList_extract, List.extract_eq_take_drop]
    rw [e]
    exact VRel.agg' h2
  | false =>
    obtain ⟨v', h1, h2⟩ := nth_rel h hc
    refine ⟨v', h2, ?_⟩
    have h1' : cs'[off]? = some v' := by simpa using h1
    simp [part, isAgg_run hT hg, h1']
theorem aField_sound {σ : Inj} {t f : Nat} {x x' v : Value} (hx : VRel σ x x') (h : aField T t f x = some v) (w : World) :
    ∃ v', VRel σ v v' ∧ (Instr.field t x' f).run P w = .ok v' w := by
  obtain ⟨d, hd, h⟩ := obnd_some h
  obtain ⟨fs, hfs, h⟩ := obnd_some h
  obtain ⟨fd, hfd, h⟩ := obnd_some h
  obtain ⟨cs, rfl, hk⟩ := onAgg_some h
  obtain ⟨cs', rfl, hc⟩ := hx.agg_inv
  cases d <;> simp [fieldsOf] at hfs
  subst hfs
  obtain ⟨v', h1, h2⟩ := part_sound hT hc hk w
  refine ⟨v', h1, ?_⟩
  have hfd' : ∀ (fs : Array Field), fs.toList[f]? = some fd → fs[f]? = some fd := fun fs h => by simpa using h
  simp [Instr.field, under_run hT hd, hfd' _ hfd, asAgg, h2]
theorem aFieldAddr_sound {σ : Inj} {t f : Nat} {x x' v : Value} (hx : VRel σ x x') (h : aFieldAddr T t f x = some v) (w : World) :
    ∃ v', VRel σ v v' ∧ (Instr.fieldAt t x' f).run P w = .ok v' w := by
  obtain ⟨d, hd, h⟩ := obnd_some h
  obtain ⟨fs, hfs, h⟩ := obnd_some h
  obtain ⟨fd, hfd, h⟩ := obnd_some h
  obtain ⟨n, hn, h⟩ := obnd_some h
  have hn0 : n ≠ 0 ∧ onPtr x (fun b o => some (.pointer (some ⟨b, o + fd.offset, none⟩))) = some v := by
    cases hb : Nat.beq n 0 with
    | true => rw [hb] at h; cases h
    | false => rw [hb] at h; exact ⟨fun e => by subst e; simp at hb, h⟩
  obtain ⟨b, o, rfl, hk⟩ := onPtr_some hn0.2
  cases hk
  cases d <;> simp [fieldsOf] at hfs
  subst hfs
  cases hx with
  | @ptr _ _ l hb =>
  have hfd' : ∀ (fs : Array Field), fs.toList[f]? = some fd → fs[f]? = some fd := fun fs h => by simpa using h
  refine ⟨_, .ptr hb, ?_⟩
  simp [Instr.fieldAt, under_run hT hd, hfd' _ hfd, Instr.sureAddr, fieldPlace, size_run hT hn, hn0.1, addr_add, Nat.add_assoc]
theorem aIndexAddr_sound {σ : Inj} {t : Nat} {x x' i i' v : Value} (hx : VRel σ x x') (hi : VRel σ i i') (h : aIndexAddr T t x i = some v) (w : World) :
    ∃ v', VRel σ v v' ∧ (Instr.indexAt t x' i').run P w = .ok v' w := by
  obtain ⟨k, j, rfl, h⟩ := onNat_some h
  cases hi
  obtain ⟨d, hd, h⟩ := obnd_some h
  cases d with
  | array m el =>
    obtain ⟨hlt, h⟩ := cond_some h
    have hlt := blt_true hlt
    obtain ⟨n, hn, h⟩ := obnd_some h
    obtain ⟨b, o, rfl, h⟩ := onPtr_some h
    cases h
    cases hx with
    | @ptr _ _ l hb =>
    refine ⟨_, .ptr hb, ?_⟩
    simp [Instr.indexAt, asIntOf, under_run hT hd, Instr.sureAddr, hlt, size_run hT hn, addr_add, Nat.add_assoc]
  | slice el =>
    obtain ⟨n, hn, h⟩ := obnd_some h
    obtain ⟨p, len, c, rfl, h⟩ := onSlice_some h
    obtain ⟨hlt, h⟩ := cond_some h
    have hlt := blt_true hlt
    obtain ⟨b, o, rfl, h⟩ := onAddr_some h
    cases h
    cases hx with
    | @slice _ _ _ _ l hb hc =>
      refine ⟨_, .ptr hb, ?_⟩
      simp [Instr.indexAt, asIntOf, under_run hT hd, hlt, size_run hT hn, addr_add, Nat.add_assoc]
    | @sliceO _ _ _ _ l hb =>
      refine ⟨_, .ptr hb, ?_⟩
      simp [Instr.indexAt, asIntOf, under_run hT hd, hlt, size_run hT hn, addr_add, Nat.add_assoc]
    | sliceE => omega
    | slice0 => omega
  | _ => cases h
theorem aIndex_sound {σ : Inj} {t : Nat} {x x' i i' v : Value} (hx : VRel σ x x') (hi : VRel σ i i') (h : aIndex T t x i = some v) (w : World) :
    ∃ v', VRel σ v v' ∧ (Instr.index t x' i').run P w = .ok v' w := by
  obtain ⟨k, j, rfl, h⟩ := onNat_some h
  cases hi
  obtain ⟨d, hd, h⟩ := obnd_some h
  cases d with
  | array m el =>
    obtain ⟨hlt, h⟩ := cond_some h
    have hlt := blt_true hlt
    obtain ⟨n, hn, h⟩ := obnd_some h
    obtain ⟨cs, rfl, h⟩ := onAgg_some h
    obtain ⟨cs', rfl, hc⟩ := hx.agg_inv
    obtain ⟨v', h1, h2⟩ := part_sound hT hc h w
    refine ⟨v', h1, ?_⟩
    simp [Instr.index, asIntOf, under_run hT hd, hlt, size_run hT hn, h2]
  | string =>
    obtain ⟨y, rfl, h⟩ := onStr_some h
    obtain ⟨b, hb, h⟩ := obnd_some h
    cases h
    cases hx
    refine ⟨_, .int _ _, ?_⟩
    have hb' : y[j]? = some b := by
      rw [List.getElem?_eq_some_iff] at hb
      obtain ⟨hlt, rfl⟩ := hb
      have : j < y.size := hlt
      rw [getElem?_pos y j this]
      rfl
    simp [Instr.index, asIntOf, under_run hT hd, hb']
  | _ => cases h
end
end Go.Proofs.Ytijfafacddefhaa.Ab
