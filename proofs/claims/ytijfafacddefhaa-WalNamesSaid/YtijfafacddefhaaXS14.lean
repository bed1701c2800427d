/- The short run is sound over the model: a part of the proof. -/
import Derived.Test.YtijfafacddefhaaXS13
namespace Go.Proofs.Ytijfafacddefhaa.Ab
open Go.RowKit
section
variable {T : Tab} {P : Program} (hT : T.Ok P) {B0 : Nat} {w0 : World} {σ : Inj} {s : St} {w : World} {n : Nat} {e : Tree Value} {a : Act}

theorem ret_same (hI : Inv B0 w0 σ s w) {v v' : Value} {r : AR} {run : Result Next} (h : retV s v = some r) (hv : VRel σ v v') (hr : run = .ok (.value v') w) : OpOk P B0 w0 σ s w run r := by
  cases h
  exact opOk_same hI hv hr

theorem lrel_map {f : Operand → Value} {l : List Operand} : (l.map f) = l.map f := rfl
omit hT in
theorem Inv.pushMap (hI : Inv B0 w0 σ s w) : Inv B0 w0 (σ.add s.next ⟨w.heap.size, 0, 0⟩) (s.push (.map [] 0)) (w.alloc (.map #[] 0)) := by
  have hle := Inj.add_le (l := ⟨w.heap.size, 0, 0⟩) hI.fresh
  have cases' : ∀ b l, σ.add s.next ⟨w.heap.size, 0, 0⟩ b = some l → (b = s.next ∧ l = ⟨w.heap.size, 0, 0⟩) ∨ (b ≠ s.next ∧ σ b = some l) := by
    intro b l hb
    by_cases h : b = s.next
    · subst h; rw [Inj.add_same] at hb; cases hb; exact .inl ⟨rfl, rfl⟩
    · rw [Inj.add_other h] at hb; exact .inr ⟨h, hb⟩
  have getn : (s.push (.map [] 0)).heap.get s.next = some (.map [] 0) := by rw [get_push]; exact if_pos rfl
  have geto : ∀ b, b ≠ s.next → (s.push (.map [] 0)).heap.get b = s.heap.get b := fun b hb => by rw [get_push, if_neg hb]
  refine ⟨hI.below.alloc hI.base _, by simp; exact Nat.le_succ_of_le hI.base, fun b l hb => ?_, fun b l cs1 es1 sp1 hb hg1 i v hv => ?_, fun b l cs1 es1 sp1 hb hg1 i hi => ?_, fun b b' l l' cs1 es1 sp1 cs' es' sp' hne hb hb' hg1 hg' i i' hi hi' hblk => ?_, fun b l es1 ck hb hg1 => ?_, fun b b' l l' es1 ck es' ck' hne hb hb' hg1 hg' => ?_⟩
  · rcases cases' b l hb with ⟨rfl, rfl⟩ | ⟨_, hb⟩
    · exact ⟨Nat.lt_succ_self _, hI.base, by simp⟩
    · have := hI.dom b l hb; exact ⟨Nat.lt_succ_of_lt this.1, this.2.1, by simp; omega⟩
  · rcases cases' b l hb with ⟨rfl, rfl⟩ | ⟨hne, hb⟩
    · rw [getn] at hg1; cases hg1
    · rw [geto b hne] at hg1
      obtain ⟨v', hc, hr'⟩ := hI.cells b l cs1 es1 sp1 hb hg1 i v hv
      exact ⟨v', cell_alloc_old hc, hr'.mono hle⟩
  · rcases cases' b l hb with ⟨rfl, rfl⟩ | ⟨hne, hb⟩
    · rw [getn] at hg1; cases hg1
    · rw [geto b hne] at hg1
      obtain ⟨h1, h2⟩ := hI.room b l cs1 es1 sp1 hb hg1 i hi
      obtain ⟨v, hv⟩ := Option.isSome_iff_exists.1 h1
      refine ⟨by rw [cell_alloc_old hv]; rfl, ?_⟩
      rw [World.frozen?_alloc_old]
      · exact h2
      · have := (hI.dom b l hb).2.2; simp; omega
  · rcases cases' b l hb with ⟨rfl, rfl⟩ | ⟨hne1, hb1⟩
    · rw [getn] at hg1; cases hg1
    · rcases cases' b' l' hb' with ⟨rfl, rfl⟩ | ⟨hne2, hb2⟩
      · rw [getn] at hg'; cases hg'
      · rw [geto b hne1] at hg1; rw [geto b' hne2] at hg'
        exact hI.apart b b' l l' cs1 es1 sp1 cs' es' sp' hne hb1 hb2 hg1 hg' i i' hi hi' hblk
  · rcases cases' b l hb with ⟨rfl, rfl⟩ | ⟨hne, hb⟩
    · rw [getn] at hg1; cases hg1
      refine ⟨#[], ?_, .nil⟩
      show (w.heap.push _)[w.heap.size]? = _
      simp
    · rw [geto b hne] at hg1
      obtain ⟨es', he, hm⟩ := hI.maps b l es1 ck hb hg1
      refine ⟨es', ?_, hm.mono hle⟩
      rw [Below.heap_alloc _ _ _ (hI.dom b l hb).2.2]
      exact he
  · rcases cases' b l hb with ⟨rfl, rfl⟩ | ⟨hne1, hb1⟩
    · rcases cases' b' l' hb' with ⟨rfl, rfl⟩ | ⟨hne2, hb2⟩
      · exact absurd rfl hne
      · have := (hI.dom b' l' hb2).2.2; simp; omega
    · rcases cases' b' l' hb' with ⟨rfl, rfl⟩ | ⟨hne2, hb2⟩
      · have := (hI.dom b l hb1).2.2; simp; omega
      · rw [geto b hne1] at hg1; rw [geto b' hne2] at hg'
        exact hI.mapart b b' l l' es1 ck es' ck' hne hb1 hb2 hg1 hg'
include hT
theorem aBuiltin_sound (hI : Inv B0 w0 σ s w) {b : Builtin} {ts : Array TypeId} {ty : TypeId} {consts : Array Bool} {args : List Value} {args' : Array Value} {r : AR} (hr : LRel σ args args'.toList)
    (h : aBuiltin b T ts.toList args s = some r) : OpOk P B0 w0 σ s w ((builtin b ts ty consts args').run P w) r := by
  have val : ∀ {x : Sem Value} {v : Value} {s' : St}, ValOk B0 w0 σ s (x.run P w) v s' → OpOk P B0 w0 σ s w ((do pure (Next.value (← x)) : Sem Next).run P w) (.val v s') := fun h => opOk_valOk h rfl
  cases b <;> try (cases h; done)
  case append =>
    obtain ⟨v, s', rfl, hv⟩ := aAppend_sound hT (ty := ty) hI hr h
    exact val hv
  case copy =>
    obtain ⟨v, s', rfl, hv⟩ := aCopy_sound hT (ty := ty) hI hr h
    exact val hv
  case clear =>
    obtain ⟨v, s', rfl, hv⟩ := aClear_sound hT (ty := ty) hI hr h
    exact val hv
  case len =>
    obtain ⟨v, rfl, hp, hv⟩ := aLenOp_sound hT (ty := ty) hI hr h
    exact val (valOk_same hI (VRel.plain1 hp) hv)
  case cap =>
    obtain ⟨v, rfl, hp, hv⟩ := aCapOp_sound hT (ty := ty) hr h w
    exact val (valOk_same hI (VRel.plain1 hp) hv)
  case max =>
    obtain ⟨v, rfl, hp, hv⟩ := pureArgs_sound (P := P) (T := T) (ts := ts.toList) hr h w
    exact val (x := Builtin.max_ ts ty args') (valOk_same hI (VRel.plain1 hp) hv)
  case min =>
    obtain ⟨v, rfl, hp, hv⟩ := pureArgs_sound (P := P) (T := T) (ts := ts.toList) hr h w
    exact val (x := Builtin.min_ ts ty args') (valOk_same hI (VRel.plain1 hp) hv)
  case complex =>
    obtain ⟨v, rfl, hp, hv⟩ := pureArgs_sound (P := P) (T := T) (ts := ts.toList) hr h w
    exact val (x := Builtin.complex_ ts ty args') (valOk_same hI (VRel.plain1 hp) hv)
  case real =>
    obtain ⟨v, rfl, hp, hv⟩ := pureArgs_sound (P := P) (T := T) (ts := ts.toList) hr h w
    exact val (x := Builtin.real_ ts ty args') (valOk_same hI (VRel.plain1 hp) hv)
  case imag =>
    obtain ⟨v, rfl, hp, hv⟩ := pureArgs_sound (P := P) (T := T) (ts := ts.toList) hr h w
    exact val (x := Builtin.imag_ ts ty args') (valOk_same hI (VRel.plain1 hp) hv)

theorem aCallV_sound (hI : Inv B0 w0 σ s w) {f f' : Value} {args : List Value} {args' : Array Value} {r : AR} (hf : VRel σ f f') (hr : LRel σ args args'.toList) (h : aCallV T s args f = some r) :
    OpOk P B0 w0 σ s w ((Deferred.ofValue f' args' >>= fun d => invoke d.target d.args).run P w) r := by
  unfold aCallV at h
  split at h
  · rename_i g first captured
    cases hf with
    | @func _ _ first' _ captured' h1 h2 h3 h4 =>
    have hl : LRel σ (first.toList ++ (args ++ captured.toList)) (first' ++ args' ++ captured').toList := by
      simp only [Array.toList_append, List.append_assoc]
      exact (ofArr h1 h3).append (hr.append (ofArr h2 h4))
    have hrun : ∀ w, (Deferred.ofValue (.func (.func g) first' captured') args' >>= fun d => invoke d.target d.args).run P w = (callFunc g (first' ++ args' ++ captured')).run P w := by
      intro w
      simp [Deferred.ofValue, invoke]
    rw [hrun]
    unfold callExt at h
    split at h
    · rename_i x hx
      obtain ⟨v, hv, h⟩ := obnd_some h
      cases h
      obtain ⟨v', h5, h6⟩ := hT.ext g x hx σ _ _ v hv hl
      exact opOk_same hI h5 (h6 w)
    · cases h
      exact ⟨rfl, _, hl, rfl⟩
  · cases h

theorem aOp_sound (hI : Inv B0 w0 σ s w) (he : EnvRel σ n e a.tmps) {o : Oper} {r : AR} (h : aOp o.op T e s = some r) : OpOk P B0 w0 σ s w ((execOp a.eval o).run P w) r := by
  cases ho : o.op <;> rw [ho] at h <;> simp only [aOp] at h <;> try (cases h; done)
  case move x =>
    obtain ⟨v, hv, h⟩ := obnd_some h
    exact ret_same hI h (aOpd_sound he hv) (by simp [execOp, ho])
  case assign x =>
    obtain ⟨v, hv, h⟩ := obnd_some h
    exact ret_same hI h (aOpd_sound he hv) (by simp [execOp, ho])
  case pick c x y =>
    obtain ⟨k, hk, h⟩ := obnd_some h
    obtain ⟨v1, h1, h⟩ := obnd_some h
    obtain ⟨v2, h2, h⟩ := obnd_some h
    obtain ⟨b, rfl, hb⟩ := onBool_some h
    have e1 : a.eval c = .bool b := VRel.eq_of_plain1 rfl (aOpd_sound he hk)
    have r1 := aOpd_sound he h1
    have r2 := aOpd_sound he h2
    cases b with
    | true => exact ret_same hI hb r1 (by simp [execOp, ho, e1, asBool])
    | false => exact ret_same hI hb r2 (by simp [execOp, ho, e1, asBool])
  case alloc el => exact opAlloc_sound hT hI h o ho
  case box el x => exact opBox_sound hI he h o ho
  case build t ps =>
    obtain ⟨l, hl, h⟩ := obnd_some h
    obtain ⟨v, hv, h⟩ := obnd_some h
    obtain ⟨p1, p2⟩ := aParts_sound he hl
    obtain ⟨v', h1, h2⟩ := aBuild_sound hT (ps' := ps.map fun (i, x) => (i, a.eval x)) (by rw [Array.toList_map, map_snd]; exact p1) (by rw [Array.toList_map]; simpa [Function.comp_def] using p2) hv
    exact ret_same hI h h1 (by simp [execOp, ho, h2 w])
  case buildSlice t len ps => exact opBuildSlice_sound hT hI he h o ho
  case load t x =>
    obtain ⟨p, hp, h⟩ := obnd_some h
    obtain ⟨v, hv, h⟩ := obnd_some h
    obtain ⟨v', h1, h2⟩ := aLoad_sound hT hI (aOpd_sound he hp) hv
    exact ret_same hI h h1 (by simp [execOp, ho, h2])
  case store t x y =>
    obtain ⟨p, hp, h⟩ := obnd_some h
    obtain ⟨v, hv, h⟩ := obnd_some h
    obtain ⟨s', hs, h⟩ := obnd_some h
    cases h
    obtain ⟨w', h1, h2, h3⟩ := aStore_sound hT hI (aOpd_sound he hp) (aOpd_sound he hv) hs
    exact ⟨w', h2, h1, by simp [execOp, ho, h3]⟩
  case nilCheck x =>
    obtain ⟨v, hv, h⟩ := obnd_some h
    have hr := aOpd_sound he hv
    unfold checked at h
    split at h
    · generalize hx : a.eval x = u at hr
      cases hr with
      | ptr hb => exact ret_same hI h (.ptr hb) (by simp [execOp, ho, hx])
    · generalize hx : a.eval x = u at hr
      cases hr with
      | func h1 h2 h3 h4 => exact ret_same hI h (.func h1 h2 h3 h4) (by simp [execOp, ho, hx])
    · cases h
  case binOp op t x y yt =>
    obtain ⟨u, hu, h⟩ := obnd_some h
    obtain ⟨v, hv, h⟩ := obnd_some h
    obtain ⟨z, rfl, hp, h1, h2⟩ := aBin_sound hT (aOpd_sound he hu) (aOpd_sound he hv) h w
    have hg := eqGuard_run (op := op) (t := t) (x := x) (y := y) (b := a.eval y) h2 P w
    exact opOk_same hI (VRel.plain1 hp) (by simp [execOp, ho, hg, h1])
  case unOp op t x =>
    obtain ⟨u, hu, h⟩ := obnd_some h
    obtain ⟨v, rfl, hpv, hp, h1⟩ := aUn_sound (P := P) h w
    have e1 := VRel.eq_of_plain1 hp (aOpd_sound he hu)
    exact opOk_same hI (VRel.plain1 hpv) (by simp [execOp, ho, e1, h1])
  case convert t1 t2 x =>
    obtain ⟨u, hu, h⟩ := obnd_some h
    obtain ⟨v, rfl, hpv, h1⟩ := aConvert_sound hT hI (aOpd_sound he hu) h
    exact opOk_same hI (VRel.plain1 hpv) (by simp [execOp, ho, h1])
  case makeFunc fn first captured =>
    unfold opMakeFunc at h
    split at h
    · obtain ⟨l1, h1, h⟩ := obnd_some h
      obtain ⟨l2, h2, h⟩ := obnd_some h
      have r1 := toArr (xs := l1.toArray) (xs' := (first.map a.eval)) (by simpa using aOpds_sound he h1)
      have r2 := toArr (xs := l2.toArray) (xs' := (captured.map a.eval)) (by simpa using aOpds_sound he h2)
      exact ret_same hI h (.func r1.1 r2.1 r1.2 r2.2) (by simp [execOp, ho, Instr.makeFunc])
    · cases h
  case makeMap t r =>
    unfold opMakeMap at h
    split at h
    · cases h
      refine ⟨_, _, _, ext_add (Nat.le_refl _), Nat.le_succ _, hI.pushMap, .map Inj.add_same, ?_⟩
      simp [execOp, ho, Instr.makeMap]
    · cases h
  case makeSlice t l c => exact opMakeSlice_sound hT hI he h o ho
  case slice t x lo hi mx =>
    obtain ⟨u, hu, h⟩ := obnd_some h
    obtain ⟨l1, h1, h⟩ := obnd_some h
    obtain ⟨l2, h2, h⟩ := obnd_some h
    obtain ⟨l3, h3, h⟩ := obnd_some h
    obtain ⟨v, hv, h⟩ := obnd_some h
    obtain ⟨v', h4, h5⟩ := aSlice_sound hT (aOpd_sound he hu) (optNat_sound he h1) (optNat_sound he h2) (optNat_sound he h3) hv w
    exact ret_same hI h h4 (by simp [execOp, ho, h5])
  case fieldAddr t x f =>
    obtain ⟨u, hu, h⟩ := obnd_some h
    obtain ⟨v, hv, h⟩ := obnd_some h
    obtain ⟨v', h4, h5⟩ := aFieldAddr_sound hT (aOpd_sound he hu) hv w
    exact ret_same hI h h4 (by simp [execOp, ho, h5])
  case field t x f =>
    obtain ⟨u, hu, h⟩ := obnd_some h
    obtain ⟨v, hv, h⟩ := obnd_some h
    obtain ⟨v', h4, h5⟩ := aField_sound hT (aOpd_sound he hu) hv w
    exact ret_same hI h h4 (by simp [execOp, ho, h5])
  case indexAddr t x i =>
    obtain ⟨u, hu, h⟩ := obnd_some h
    obtain ⟨j, hj, h⟩ := obnd_some h
    obtain ⟨v, hv, h⟩ := obnd_some h
    obtain ⟨v', h4, h5⟩ := aIndexAddr_sound hT (aOpd_sound he hu) (aOpd_sound he hj) hv w
    exact ret_same hI h h4 (by simp [execOp, ho, h5])
  case index t x i =>
    obtain ⟨u, hu, h⟩ := obnd_some h
    obtain ⟨j, hj, h⟩ := obnd_some h
    obtain ⟨v, hv, h⟩ := obnd_some h
    obtain ⟨v', h4, h5⟩ := aIndex_sound hT (aOpd_sound he hu) (aOpd_sound he hj) hv w
    exact ret_same hI h h4 (by simp [execOp, ho, h5])
  case extract x i =>
    obtain ⟨u, hu, h⟩ := obnd_some h
    obtain ⟨l, hl, h⟩ := obnd_some h
    obtain ⟨v, hv, hfin⟩ := obnd_some h
    have hr := aOpd_sound he hu
    clear h
    unfold tupleL at hl
    split at hl
    · cases hl
      obtain ⟨vs', hx, hrel⟩ := hr.tuple_inv
      obtain ⟨v', h1, h2⟩ := nth_rel hv hrel
      have h1' : vs'[i]? = some v' := by simpa using h1
      exact ret_same hI hfin h2 (by simp [execOp, ho, hx, Instr.extract, h1'])
    · cases hl
  case call c =>
    unfold opCall at h
    cases hc : c.callee with
    | value f =>
      rw [hc] at h
      obtain ⟨l, hl, h⟩ := obnd_some (show obnd (aOpds e c.args.toList) _ = some r from h)
      obtain ⟨u, hu, h⟩ := obnd_some h
      have hlr : LRel σ l (c.args.map a.eval).toList := by simpa using aOpds_sound he hl
      have := aCallV_sound hT hI (aOpd_sound he hu) hlr h
      have e1 : (execOp a.eval o).run P w = (Deferred.ofValue (a.eval f) (c.args.map a.eval) >>= fun d => invoke d.target d.args).run P w := by
        simp [execOp, ho, resolve, hc]
      rw [e1]
      exact this
    | builtin b =>
      rw [hc] at h
      obtain ⟨l, hl, h⟩ := obnd_some (show obnd (aOpds e c.args.toList) _ = some r from h)
      have hlr : LRel σ l (c.args.map a.eval).toList := by simpa using aOpds_sound he hl
      have := aBuiltin_sound hT hI (ty := o.type) (consts := c.args.map fun | .const _ => true | _ => false) hlr h
      have e1 : (execOp a.eval o).run P w = (builtin b c.argTypes o.type (c.args.map fun | .const _ => true | _ => false) (c.args.map a.eval)).run P w := by
        simp [execOp, ho, resolve, hc, invoke]
        rfl
      rw [e1]
      exact this
    | invoke _ _ =>
      rw [hc] at h
      cases h
end
end Go.Proofs.Ytijfafacddefhaa.Ab
