/- The short run is sound over the model: a part of the proof. -/
import Derived.Test.YtijfafacddefhaaXS16c
import Derived.OrdersIn
namespace Go.Proofs.Ytijfafacddefhaa.Ab
open Go.RowKit

theorem recAt_other {T : Tab} {call : CallF} {r : Rec} {s : St} {o : Op} (h : isAllocO o = false) : recAt T call r s o = optB (aStep T call r.e r.o s) fun x => veq x.1 r.v := by
  cases o <;> first | rfl | cases h
theorem optB_some {α : Type} {x : Option α} {f : α → Bool} (h : optB x f = true) : ∃ a, x = some a ∧ f a = true := by
  cases x with
  | none => cases h
  | some a => exact ⟨a, rfl, h⟩
theorem sameBlock_spec {z : Value} {x : Option AObj} (h : sameBlock z x = true) : x = some (.cells (cellsL z) 1 false) := by
  unfold sameBlock at h
  split at h
  · rename_i cs es sp
    rw [Bool.and_eq_true, Bool.and_eq_true] at h
    obtain ⟨h1, h2, h3⟩ := h
    rw [veqL_eq h1, Nat.eq_of_beq_eq_true h2]
    cases sp with
    | false => rfl
    | true => cases h3
  · cases h

structure Now (B0 : Nat) (w0 : World) (n : Nat) (L : List Oper) (tr : Nat → DSt) (V : Nat → Value) (N0 N1 : Nat) (σ0 : Inj) (D : Nat → Bool) (σ : Inj) (a : Act) (w : World) (cur : St) : Prop where
  pos : (tr L.length).ss.reverse[countB D (effsFrom L 0)]? = some cur
  inv : Inv B0 w0 σ cur w
  env : EnvRel σ n (envT n (tr 0).e V L D L.length) a.tmps
  ext : Ext N0 σ0 σ
  le : N1 ≤ cur.next
  free : ∀ (i : Nat) (o : Oper), L[i]? = some o → isAllocO o.op = true → D i = false → σ (tr i).a = none

section
variable {T : Tab} {P : Program} (hT : T.Ok P) {B0 : Nat} {w0 : World} {call : CallF} (hC : CallOk P B0 w0 call) {n : Nat} {ops : Array Oper}
variable {tr : Nat → DSt} {V : Nat → Value} {N0 N1 : Nat} {σ0 : Inj}
variable (hTr : Traced T call n ops.toList tr V) (h0 : (tr 0).j = 0 ∧ (tr 0).ss = [(tr 0).s])
variable (hplan : planOk ops.toList (masks ops.toList []) (effsFrom ops.toList 0) = true)
variable (hrec : recsOk T call (masks ops.toList []) (effsFrom ops.toList 0) (tr ops.toList.length).ss.reverse (tr ops.toList.length).rs = true)
variable (hN0 : (tr 0).a = N0) (hN1 : N1 = N0 + allocs ops.toList)
include hT hC hTr h0 hplan hrec hN0 hN1

theorem now_step {F : Fence} (hF : Free F) {m : Nat} {Q : Exit → Act → World → Prop} {D : Nat → Bool} (hS : Shut ops.toList D) {i : Nat} (hr : Rdy ops.toList D i) {σ : Inj} {a : Act} {w : World} {cur : St}
    (hnow : Now B0 w0 n ops.toList tr V N0 N1 σ0 D σ a w cur) {K : Act → World → Prop}
    (hK : ∀ σ' a' w' cur', Now B0 w0 n ops.toList tr V N0 N1 σ0 (addD D i) σ' a' w' cur' → a'.defers = a.defers → K a' w') : wpOpIn F m P ops Q i K a w := by
  obtain ⟨o, ho, _⟩ := hr.2
  have ho' : ops[i]? = some o := by simpa using ho
  have hi : i < ops.toList.length := (List.getElem?_eq_some_iff.1 ho).1
  have hs := hTr i o ho
  rw [planOk, Bool.and_eq_true] at hplan
  obtain ⟨hchain, hops⟩ := hplan
  have hop := opsOk_spec hops i o ho
  rw [Nat.zero_add] at hop
  have writer : ∀ {k t}, dstAt ops.toList k = some t → ∃ o', ops.toList[k]? = some o' ∧ o'.dst = some t := by
    intro k t h
    unfold dstAt at h
    cases hk : ops.toList[k]? with
    | none => rw [hk] at h; cases h
    | some o' => rw [hk] at h; exact ⟨o', rfl, h⟩
  have hlook : ∀ ts, TmpsOk ops.toList i ts → Same ts (envT n (tr 0).e V ops.toList D ops.toList.length) (tr i).e := by
    intro ts h t ht
    have := tr_env hTr i ops.toList.length (Nat.le_refl _)
    rw [Nat.min_eq_right (Nat.le_of_lt hi)] at this
    rw [← this]
    refine envT_agree fun k hk hd => ?_
    obtain ⟨o', h1, h2⟩ := writer hd
    exact h.agree hS hr ht h1 h2
  have hdi : dstAt ops.toList i = o.dst := by simp only [dstAt, ho, Option.bind_some]
  have henv : ∀ t, (putE n (envT n (tr 0).e V ops.toList D ops.toList.length) o.dst (V i)).get t = (envT n (tr 0).e V ops.toList (addD D i) ops.toList.length).get t := by
    intro t
    by_cases hd : o.dst = some t
    · have h1 : (envT n (tr 0).e V ops.toList (addD D i) ops.toList.length).get t = (tr (i + 1)).e.get t := by
        have := tr_env hTr (i + 1) ops.toList.length (Nat.le_refl _)
        rw [Nat.min_eq_right hi] at this
        rw [← this]
        refine envT_agree fun k hk hdk => ?_
        by_cases hki : k = i
        · subst hki; rw [addD_same, blt_of (Nat.lt_succ_self _)]
        · obtain ⟨o', h1, h2⟩ := writer hdk
          rw [addD_other hki, hop.dst.agree hS hr (t := t) (by rw [hd]; simp) h1 h2]
          by_cases hlt : k < i
          · rw [blt_of hlt, blt_of (by omega)]
          · rw [blt_not hlt, blt_not (by omega)]
      rw [h1, hs.e, putE_get, putE_get, hlook _ hop.dst t (by rw [hd]; simp)]
    · rw [putE_get, if_neg (fun h => hd h.1)]
      refine (envT_agree fun k hk hdk => ?_).symm
      have : k ≠ i := fun h => by subst h; rw [hdi] at hdk; exact hd hdk
      rw [addD_other this]
  -- counting
  have hcur : isEff o = true → cur = (tr i).s ∧ countB (addD D i) (effsFrom ops.toList 0) = (tr (i + 1)).j := by
    intro he
    have hmem : i ∈ effsFrom ops.toList 0 := by have := mem_effs (i := 0) ho he; rwa [Nat.zero_add] at this
    have hag := eff_agree hS hr hchain hmem
    constructor
    · have h1 := countB_congr hag
      have h2 := tr_j hTr i (Nat.le_of_lt hi)
      rw [h0.1, Nat.zero_add] at h2
      have h3 := hnow.pos
      rw [h1, ← h2, tr_at hTr h0 (Nat.le_of_lt hi)] at h3
      exact (Option.some.inj h3).symm
    · have h2 := tr_j hTr (i + 1) hi
      rw [h0.1, Nat.zero_add] at h2
      rw [h2]
      refine countB_congr fun k hk => ?_
      by_cases hki : k = i
      · subst hki; rw [addD_same, blt_of (Nat.lt_succ_self _)]
      · rw [addD_other hki, hag k hk]
        by_cases hlt : k < i
        · rw [blt_of hlt, blt_of (by omega)]
        · rw [blt_not hlt, blt_not (by omega)]
  have hcnt : isEff o = false → countB (addD D i) (effsFrom ops.toList 0) = countB D (effsFrom ops.toList 0) := by
    intro he
    refine countB_congr fun k hk => addD_other fun hki => ?_
    obtain ⟨_, o', h1, h2⟩ := effs_mem hk
    rw [Nat.sub_zero, hki, ho] at h1
    cases h1
    rw [he] at h2
    cases h2
  have hpos : isEff o = false → (tr ops.toList.length).ss.reverse[countB (addD D i) (effsFrom ops.toList 0)]? = some cur := fun he => by rw [hcnt he]; exact hnow.pos
  have hposE : isEff o = true → (tr ops.toList.length).ss.reverse[countB (addD D i) (effsFrom ops.toList 0)]? = some (tr (i + 1)).s := fun he => by rw [(hcur he).2]; exact tr_at hTr h0 hi
  have hlow : countB (fun k => bef (masks ops.toList []) k i) (effsFrom ops.toList 0) ≤ countB D (effsFrom ops.toList 0) := countB_le fun k _ hk => hr.pred hS hk
  have hhigh : countB D (effsFrom ops.toList 0) ≤ countB (fun k => !bef (masks ops.toList []) i k) (effsFrom ops.toList 0) := countB_le fun k _ hk => by
    cases hb : bef (masks ops.toList []) i k with
    | false => rfl
    | true => have := hS.closed i k hb hk; rw [hr.1] at this; cases this
  have hrecd : ∀ r : Rec, r ∈ (tr (i + 1)).rs → r.i = i → (isAllocO r.o.op = true ∨ countB D (effsFrom ops.toList 0) ≠ r.j) → recAt T call r cur r.o.op = true := by
    intro r hr1 hri h3
    have h1 := tr_rs hTr (ops.toList.length - (i + 1)) (i + 1) (by omega) r hr1
    rw [show i + 1 + (ops.toList.length - (i + 1)) = ops.toList.length by omega] at h1
    have h2 := recsOk_spec hrec r h1
    rw [hri] at h2
    exact recOk_spec h2 _ cur hnow.pos (by rw [Nat.zero_add]; exact hlow) (by rw [Nat.zero_add]; exact hhigh) (by rw [Nat.zero_add]; exact h3)
  -- the reserved blocks
  have hA : ∀ (k : Nat) (o' : Oper), ops.toList[k]? = some o' → isAllocO o'.op = true → (tr k).a < N1 := by
    intro k o' h1 h2
    have hk : k < ops.toList.length := (List.getElem?_eq_some_iff.1 h1).1
    have h3 := tr_a hTr k (Nat.le_of_lt hk)
    have h4 := allocs_lt h1 h2 hk
    rw [List.take_length] at h4
    omega
  have hAne : ∀ (k k' : Nat) (o1 o2 : Oper), ops.toList[k]? = some o1 → isAllocO o1.op = true → ops.toList[k']? = some o2 → isAllocO o2.op = true → k < k' → (tr k).a < (tr k').a := by
    intro k k' o1 o2 h1 h2 h3 h4 hlt
    have hk : k < ops.toList.length := (List.getElem?_eq_some_iff.1 h1).1
    have hk' : k' < ops.toList.length := (List.getElem?_eq_some_iff.1 h3).1
    have h5 := tr_a hTr k (Nat.le_of_lt hk)
    have h6 := tr_a hTr k' (Nat.le_of_lt hk')
    have h7 := allocs_lt h1 h2 hlt
    omega
  have hfree1 : ∀ k, addD D i k = false → D k = false := by
    intro k h
    unfold addD at h
    rw [Bool.or_eq_false_iff] at h
    exact h.1
  have hput : ∀ v', (a.put o.dst v').defers = a.defers := fun v' => by cases o.dst <;> rfl
  have hw1 : wantedA ops.toList (tr i).e o = Region.wanted o (yielded ops a.tmps) := by
    rw [← wantedA_eq (ops := ops) hnow.env o]
    exact (wantedA_congr (hlook _ hop.guard)).symm
  have hstep : ∀ s1, aStep T call (envT n (tr 0).e V ops.toList D ops.toList.length) o s1 = aStep T call (tr i).e o s1 := fun s1 => aStep_congr (hlook _ hop.names)
  -- an operation that runs
  have run : ∀ cur', aStep T call (tr i).e o cur = some (V i, cur') → (tr ops.toList.length).ss.reverse[countB (addD D i) (effsFrom ops.toList 0)]? = some cur' → isAllocO o.op = false → o.wpIn F m P a w K Q := by
    intro cur' h1 h2 hna
    rw [← hstep] at h1
    have hle := (aStep_sound hT hC hnow.inv hnow.env h1 hF (m := 0) (next := fun _ _ => True) (Q := fun _ _ _ => True) fun _ _ _ _ _ _ => trivial).1
    refine (aStep_sound hT hC hnow.inv hnow.env h1 hF fun σ' v' w' x1 x2 x3 => hK σ' _ w' cur' ?_ (hput v')).2
    have hle' : N1 ≤ cur'.next := Nat.le_trans hnow.le hle
    exact ⟨h2, x2, ((hnow.env.mono (x1.le hnow.inv)).put o.dst x3).congr henv, hnow.ext.trans x1 (Nat.le_trans (by omega) hnow.le), hle', fun k o' y1 y2 y3 => by
      rw [x1 _ (Nat.lt_of_lt_of_le (hA k o' y1 y2) hnow.le)]
      exact hnow.free k o' y1 y2 (hfree1 k y3)⟩
  unfold wpOpIn
  simp only [ho']
  rw [← hw1]
  cases hw : wantedA ops.toList (tr i).e o with
  | false =>
    rw [hw] at hs
    simp only [Bool.false_eq_true, if_false]
    refine ⟨fun f _ => hF.1 f, ?_⟩
    have hv := hs.unw rfl
    refine hK σ _ w cur ⟨?_, hnow.inv, (hnow.env.put o.dst (v := V i) (by rw [hv]; exact undef_rel)).congr henv, hnow.ext, hnow.le, fun k o' y1 y2 y3 => hnow.free k o' y1 y2 (hfree1 k y3)⟩ (hput _)
    cases he : isEff o with
    | false => exact hpos he
    | true => rw [hposE he, (hs.eff he).2.2 rfl, ← (hcur he).1]
  | true =>
    rw [hw] at hs
    simp only [if_true]
    cases hc : clsOf o.op with
    | eff =>
      have he : isEff o = true := (isEff_cls _).2 hc
      have h1 := (hs.eff he).2.1 rfl
      rw [← (hcur he).1] at h1
      exact run _ h1 (hposE he) (isAlloc_false (by rw [hc]; intro h; cases h))
    | reader =>
      have he : isEff o = false := isEff_false (by rw [hc]; intro h; cases h)
      have hna : isAllocO o.op = false := isAlloc_false (by rw [hc]; intro h; cases h)
      obtain ⟨⟨s1, h1⟩, h2⟩ := hs.reader hc rfl
      refine run cur ?_ (hpos he) hna
      by_cases hj : countB D (effsFrom ops.toList 0) = (tr i).j
      · have h3 := hnow.pos
        rw [hj, tr_at hTr h0 (Nat.le_of_lt hi)] at h3
        have h4 := Option.some.inj h3
        rw [h4] at h1
        rw [h1, aStep_reader hc h1]
      · have h3 := hrecd _ h2 rfl (.inr hj)
        simp only at h3
        rw [recAt_other hna] at h3
        obtain ⟨⟨x, s2⟩, h4, h5⟩ := optB_some h3
        simp only at h4 h5
        rw [h4, aStep_reader hc h4, veq_eq h5]
    | pure =>
      have he : isEff o = false := isEff_false (by rw [hc]; intro h; cases h)
      have hna : isAllocO o.op = false := isAlloc_false (by rw [hc]; intro h; cases h)
      obtain ⟨s1, h1⟩ := hs.pure hc rfl
      exact run cur (aStep_pure hc h1 cur) (hpos he) hna
    | alloc =>
      have he : isEff o = false := isEff_false (by rw [hc]; intro h; cases h)
      have ha : isAllocO o.op = true := (alloc_cls _).2 hc
      obtain ⟨h1, h2⟩ := hs.alloc hc rfl
      have h3 := hrecd _ h2 rfl (.inl ha)
      simp only at h3
      obtain ⟨el, hel⟩ : ∃ el, o.op = .alloc el := by
        cases hoo : o.op <;> rw [hoo] at ha <;> first | exact ⟨_, rfl⟩ | cases ha
      rw [hel] at h3
      obtain ⟨z, hz, h4⟩ := optB_some (show optB (T.zero el) _ = true from h3)
      simp only [h1, freshPtr, ptrB] at h4
      have h5 := sameBlock_spec h4
      obtain ⟨hzr, hzp⟩ := zero_run hT hz w
      have hrel : LRel σ (cellsL z) (cellsL z) := cellsL_rel (VRel.plain hzp)
      have hnone := hnow.free i o ho ha hr.1
      have e1 : (cellsL z).toArray = z.cells := by rw [← cellsL_eq]
      have hmk := hnow.inv.make (C := (cellsL z).toArray) (t := el) (x := 0) hnone (Nat.lt_of_lt_of_le (hA i o ho ha) hnow.le) h5
        (fun j v hj => by obtain ⟨v', q1, q2⟩ := hrel.get j v hj; exact ⟨v', by simpa using q1, q2⟩) (by simp [tot])
      have hnd : ∀ c, o.op ≠ .defer c := fun c hcd => by rw [hel] at hcd; cases hcd
      unfold Oper.wpIn
      rw [Oper.semAt_eq _ _ _ hnd]
      have hrun : (execOp a.eval o).run P w = .ok (.value (.pointer (some ⟨w.heap.size, 0, none⟩))) (w.alloc (.cells (cellsL z).toArray el)) := by
        simp [execOp, hel, Instr.alloc, hzr, newVar, newRow, e1]
      rw [hrun]
      refine ⟨fun f _ => hF.1 f, ?_⟩
      have hlt := Inj.add_le (l := ⟨w.heap.size, 0, 0⟩) hnone
      refine hK _ _ _ cur ⟨hpos he, hmk, ((hnow.env.mono hlt).put o.dst (v := V i) (v' := .pointer (some ⟨w.heap.size, 0, none⟩)) ?_).congr henv, ?_, hnow.le, fun k o' y1 y2 y3 => ?_⟩ (hput _)
      · rw [h1]
        have := VRel.ptr (o := 0) (Inj.add_same (σ := σ) (b := (tr i).a) (l := ⟨w.heap.size, 0, 0⟩))
        simpa [freshPtr] using this
      · intro b hb
        rw [Inj.add_other]
        · exact hnow.ext b hb
        · have := tr_a hTr i (Nat.le_of_lt hi)
          omega
      · rw [Inj.add_other]
        · exact hnow.free k o' y1 y2 (hfree1 k y3)
        · have hki : k ≠ i := fun h => by subst h; rw [addD_same] at y3; cases y3
          rcases Nat.lt_or_gt_of_ne hki with hlt2 | hlt2
          · have := hAne k i o' o y1 y2 ho ha hlt2; omega
          · have := hAne i k o o' ho ha y1 y2 hlt2; omega

theorem now_loop {F : Fence} (hF : Free F) {m : Nat} {Q : Exit → Act → World → Prop} {a0 : Act}
    (hQ : ∀ σ' a' w', Ext N0 σ0 σ' → N0 ≤ (tr ops.toList.length).s.next → Inv B0 w0 σ' (tr ops.toList.length).s w' → EnvRel σ' n (tr ops.toList.length).e a'.tmps → a'.defers = a0.defers → Q .normal a' w') :
    ∀ (fuel : Nat) (listed : Array Bool) (σ : Inj) (a : Act) (w : World) (cur : St), listed.size = ops.size → listed.toList.count false ≤ fuel → Shut ops.toList (fun k => listed.getD k false) →
      Now B0 w0 n ops.toList tr V N0 N1 σ0 (fun k => listed.getD k false) σ a w cur → a.defers = a0.defers → wpAnyIn F m P .any ops Q fuel listed a w := by
  have hplan' := hplan
  rw [planOk, Bool.and_eq_true] at hplan'
  have done : ∀ (listed : Array Bool) (σ : Inj) (a : Act) (w : World) (cur : St), (∀ k, k < ops.size → listed.getD k false = true) →
      Now B0 w0 n ops.toList tr V N0 N1 σ0 (fun k => listed.getD k false) σ a w cur → a.defers = a0.defers → Q .normal a w := by
    intro listed σ a w cur hall hnow hd
    have hcnt : countB (fun k => listed.getD k false) (effsFrom ops.toList 0) = (tr ops.toList.length).j := by
      have h2 := tr_j hTr ops.toList.length (Nat.le_refl _)
      rw [h0.1, Nat.zero_add] at h2
      rw [h2]
      refine countB_congr fun k hk => ?_
      obtain ⟨_, o', h1, _⟩ := effs_mem hk
      have hlt : k < ops.toList.length := by have := (List.getElem?_eq_some_iff.1 h1).1; omega
      rw [blt_of hlt]
      exact hall k (by simpa using hlt)
    have hcur : cur = (tr ops.toList.length).s := by
      have h3 := hnow.pos
      rw [hcnt, tr_at hTr h0 (Nat.le_refl _)] at h3
      exact (Option.some.inj h3).symm
    subst hcur
    refine hQ σ a w hnow.ext (Nat.le_trans (by omega) hnow.le) hnow.inv (hnow.env.congr fun t => ?_) hd
    have := tr_env hTr ops.toList.length ops.toList.length (Nat.le_refl _)
    rw [Nat.min_self] at this
    rw [← this]
    refine envT_agree fun k hk _ => ?_
    rw [blt_of hk]
    exact hall k (by simpa using hk)
  have none_left : ∀ (listed : Array Bool), listed.size = ops.size → Region.ready .any ops listed = [] → ∀ k, k < ops.size → listed.getD k false = true := by
    intro listed hsz hnil k
    induction k using Nat.strongRecOn with
    | ind k ih =>
      intro hk
      cases hl : listed.getD k false with
      | true => rfl
      | false =>
        have hmem : k ∈ Region.ready .any ops listed := by
          refine mem_ready.2 ⟨?_, ops[k], by simp [hk], fun e he hb => ?_⟩
          · simp [hsz, hk] at hl ⊢; exact hl
          · have h1 := (opsOk_spec hplan'.2 k ops[k] (by simp [hk])).early e (by simpa using he) (by rw [← binds_any]; exact hb)
            rw [Nat.zero_add] at h1
            exact ih e.on h1 (by omega)
        rw [hnil] at hmem
        cases hmem
  intro fuel
  induction fuel with
  | zero =>
    intro listed σ a w cur hsz hcount hS hnow hd
    have hall : ∀ k, k < ops.size → listed.getD k false = true := by
      intro k hk
      have h1 : false ∉ listed.toList := List.count_eq_zero.1 (Nat.le_zero.1 hcount)
      cases hl : listed.getD k false with
      | true => rfl
      | false =>
        refine absurd ?_ h1
        simp [hsz, hk] at hl
        rw [← hl]
        simp
    refine ⟨?_, done listed σ a w cur hall hnow hd⟩
    cases hr : Region.ready .any ops listed with
    | nil => rfl
    | cons x xs =>
      have hx : x ∈ Region.ready .any ops listed := by rw [hr]; exact List.mem_cons_self
      obtain ⟨h1, o, ho, _⟩ := mem_ready.1 hx
      have hlt : x < ops.size := (Array.getElem?_eq_some_iff.1 ho).1
      have h2 := hall x hlt
      simp [hsz, hlt] at h1 h2
      rw [h1] at h2
      cases h2
  | succ fuel ih =>
    intro listed σ a w cur hsz hcount hS hnow hd
    refine ⟨fun hnil => done listed σ a w cur (none_left listed hsz hnil) hnow hd, fun i hi => ?_⟩
    obtain ⟨h1, o, ho, hall⟩ := mem_ready.1 hi
    have hlt : i < ops.size := (Array.getElem?_eq_some_iff.1 ho).1
    have hrdy : Rdy ops.toList (fun k => listed.getD k false) i := ⟨by simp [hsz, hlt] at h1 ⊢; exact h1, o, by simpa using ho, fun e he hb => hall e (by simpa using he) (by rw [binds_any]; exact hb)⟩
    have hD : (fun k => (listed.setIfInBounds i true).getD k false) = addD (fun k => listed.getD k false) i := by
      funext k
      by_cases hki : k = i
      · subst hki
        rw [addD_same]
        simp [hsz, hlt]
      · rw [addD_other hki, getD_set_ne false (Ne.symm hki)]
    refine now_step hT hC hTr h0 hplan hrec hN0 hN1 hF hS hrdy hnow fun σ' a' w' cur' hnow' hd' => ?_
    refine ih (listed.setIfInBounds i true) σ' a' w' cur' (by simp [hsz]) ?_ (by rw [hD]; exact hrdy.shut hS) (by rw [hD]; exact hnow') (hd'.trans hd)
    have hlt' : i < listed.toList.length := by simp [hsz, hlt]
    have hfalse : listed.toList[i] = false := by simp [hsz, hlt] at h1 ⊢; exact h1
    rw [Array.toList_setIfInBounds, List.count_set hlt', hfalse]
    have : 0 < listed.toList.count false := List.count_pos_iff.2 (by rw [← hfalse]; exact List.getElem_mem hlt')
    simp
    simp at this hcount
    omega
end

section
variable {T : Tab} {P : Program} (hT : T.Ok P) {B0 : Nat} {w0 : World} {call : CallF} (hC : CallOk P B0 w0 call) {n : Nat} {ops : Array Oper}
include hT hC
theorem aDraw_sound {F : Fence} (hF : Free F) {m : Nat} {Q : Exit → Act → World → Prop} {σ : Inj} {e e' : Tree Value} {s s' : St} {a : Act} {w : World}
    (h : aDraw T call n ops.toList e s = some (e', s')) (hI : Inv B0 w0 σ s w) (he : EnvRel σ n e a.tmps)
    (hQ : ∀ σ' a' w', Ext s.next σ σ' → s.next ≤ s'.next → Inv B0 w0 σ' s' w' → EnvRel σ' n e' a'.tmps → a'.defers = a.defers → Q .normal a' w') :
    wpAnyIn F m P .any ops Q ops.size (Array.replicate ops.size false) a { w with drawn := w.drawn + 1 } := by
  obtain ⟨hplan, h1⟩ := cond_some (show cond _ _ none = some (e', s') from h)
  obtain ⟨s0, hpre, h2⟩ := obnd_some h1
  obtain ⟨d, hrun, h3⟩ := obnd_some h2
  obtain ⟨hrec, h4⟩ := cond_some (show cond _ _ none = some (e', s') from h3)
  obtain ⟨tr, V, t1, t2, t3⟩ := aRun_trace ops.toList 0 _ d hrun
  rw [Nat.zero_add] at t2
  have hTr : Traced T call n ops.toList tr V := fun k o ho => by have := t3 k o ho; rwa [Nat.zero_add] at this
  obtain ⟨hI0, hnext⟩ := preAlloc_sound hpre hI
  have hres := Option.some.inj h4
  rw [Prod.mk.injEq] at hres
  obtain ⟨he', hs'⟩ := hres
  have hlen : (fun k => (Array.replicate ops.size false).getD k false) = fun _ => false := by
    funext k
    simp [Array.getD_eq_getD_getElem?, Array.getElem?_replicate]
    split <;> rfl
  have hzero : ∀ es : List Nat, countB (fun _ => false) es = 0 := by
    intro es
    induction es with
    | nil => rfl
    | cons x es ih => exact ih
  have h0 : (tr 0).j = 0 ∧ (tr 0).ss = [(tr 0).s] := by rw [t1]; exact ⟨rfl, rfl⟩
  refine now_loop hT hC hTr h0 hplan (by rw [t2]; exact hrec) (N0 := s.next) (N1 := s0.next) (σ0 := σ) (by rw [t1]) hnext hF (a0 := a) ?_ ops.size _ σ a _ s0 (by simp) (by simp) ?_ ?_ rfl
  · intro σ' a' w' x1 x2 x3 x4 x5
    rw [t2] at x2 x3 x4
    rw [he'] at x4
    rw [hs'] at x2 x3
    exact hQ σ' a' w' x1 x2 x3 x4 x5
  · rw [hlen]
    intro i o hi
    cases hi
  · rw [hlen]
    refine ⟨?_, hI0.drew, ?_, Ext.refl, Nat.le_refl _, fun i o h1 h2 _ => ?_⟩
    · have := tr_at hTr h0 (k := 0) (Nat.zero_le _)
      rw [hzero]
      rw [h0.1] at this
      rw [this, t1]
    · rw [envT_none _ _ (fun _ _ => rfl), t1]
      exact he
    · have hi : i < ops.toList.length := (List.getElem?_eq_some_iff.1 h1).1
      have h5 := tr_a hTr i (Nat.le_of_lt hi)
      rw [t1] at h5
      cases hc : σ (tr i).a with
      | none => rfl
      | some l =>
        have := (hI.dom _ _ hc).1
        simp only at h5
        omega
end
end Go.Proofs.Ytijfafacddefhaa.Ab
