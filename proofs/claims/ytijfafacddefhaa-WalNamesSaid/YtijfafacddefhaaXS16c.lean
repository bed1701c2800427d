/- The short run is sound over the model: a part of the proof. -/
import Derived.Test.YtijfafacddefhaaXS16b
namespace Go.Proofs.Ytijfafacddefhaa.Ab
noncomputable section
open Go.RowKit

theorem blt_of {a b : Nat} (h : a < b) : Nat.blt a b = true := by rw [Nat.blt_eq]; exact h
theorem blt_not {a b : Nat} (h : ¬ a < b) : Nat.blt a b = false := by
  cases hb : Nat.blt a b with
  | false => rfl
  | true => exact absurd (blt_true hb) h
theorem alloc_cls (o : Op) : isAllocO o = true ↔ clsOf o = .alloc := by
  cases o <;> simp [isAllocO, clsOf]
  rename_i c
  cases c.callee <;> simp [clsC]
  rename_i b
  cases b <;> simp [clsB]
theorem isEff_cls (o : Oper) : isEff o = true ↔ clsOf o.op = .eff := by
  unfold isEff isEffC
  cases clsOf o.op <;> simp
theorem isAlloc_false {o : Op} (h : clsOf o ≠ .alloc) : isAllocO o = false := by
  cases hb : isAllocO o with
  | false => rfl
  | true => exact absurd ((alloc_cls o).1 hb) h
theorem isEff_false {o : Oper} (h : clsOf o.op ≠ .eff) : isEff o = false := by
  cases hb : isEff o with
  | false => rfl
  | true => exact absurd ((isEff_cls o).1 hb) h

/-- what one operation did -/
structure StepF (T : Tab) (call : CallF) (n i : Nat) (o : Oper) (w : Bool) (d d' : DSt) (v : Value) : Prop where
  e : d'.e = putE n d.e o.dst v
  unw : w = false → v = undef
  a : d'.a = d.a + cond (isAllocO o.op) 1 0
  j : d'.j = d.j + cond (isEff o) 1 0
  eff : isEff o = true → d'.ss = d'.s :: d.ss ∧ (w = true → aStep T call d.e o d.s = some (v, d'.s)) ∧ (w = false → d'.s = d.s)
  still : isEff o = false → d'.s = d.s ∧ d'.ss = d.ss
  alloc : clsOf o.op = .alloc → w = true → v = freshPtr d.a ∧ (⟨i, o, d.e, d.j, v⟩ : Rec) ∈ d'.rs
  reader : clsOf o.op = .reader → w = true → (∃ s', aStep T call d.e o d.s = some (v, s')) ∧ (⟨i, o, d.e, d.j, v⟩ : Rec) ∈ d'.rs
  pure : clsOf o.op = .pure → w = true → ∃ s', aStep T call d.e o d.s = some (v, s')
  rs : ∀ r ∈ d.rs, r ∈ d'.rs

theorem dStep_spec {T : Tab} {call : CallF} {n i : Nat} {o : Oper} {w : Bool} {d d' : DSt} (h : dStep T call n i o d w (clsOf o.op) = some d') : ∃ v, StepF T call n i o w d d' v := by
  cases hc : clsOf o.op with
  | alloc =>
    have ha : isAllocO o.op = true := (alloc_cls _).2 hc
    have he : isEff o = false := isEff_false (by rw [hc]; intro h; cases h)
    rw [hc] at h
    cases w with
    | true =>
      cases h
      exact ⟨freshPtr d.a, rfl, (fun h => by cases h), by rw [ha]; rfl, by rw [he]; rfl, (fun h => by rw [he] at h; cases h), fun _ => ⟨rfl, rfl⟩,
        fun _ _ => ⟨rfl, List.mem_cons_self⟩, (fun h => by rw [hc] at h; cases h), (fun h => by rw [hc] at h; cases h), fun r hr => List.mem_cons_of_mem _ hr⟩
    | false =>
      cases h
      exact ⟨undef, rfl, fun _ => rfl, by rw [ha]; rfl, by rw [he]; rfl, (fun h => by rw [he] at h; cases h), fun _ => ⟨rfl, rfl⟩,
        (fun _ h => by cases h), (fun h => by rw [hc] at h; cases h), (fun h => by rw [hc] at h; cases h), fun r hr => hr⟩
  | eff =>
    have ha : isAllocO o.op = false := isAlloc_false (by rw [hc]; intro h; cases h)
    have he : isEff o = true := (isEff_cls _).2 hc
    rw [hc] at h
    cases w with
    | true =>
      obtain ⟨⟨v, s'⟩, hst, h⟩ := obnd_some (show obnd _ _ = some d' from h)
      cases h
      exact ⟨v, rfl, (fun h => by cases h), by rw [ha]; rfl, by rw [he]; rfl, fun _ => ⟨rfl, fun _ => hst, (fun h => by cases h)⟩, (fun h => by rw [he] at h; cases h),
        (fun h => by rw [hc] at h; cases h), (fun h => by rw [hc] at h; cases h), (fun h => by rw [hc] at h; cases h), fun r hr => hr⟩
    | false =>
      cases h
      exact ⟨undef, rfl, fun _ => rfl, by rw [ha]; rfl, by rw [he]; rfl, fun _ => ⟨rfl, (fun h => by cases h), fun _ => rfl⟩, (fun h => by rw [he] at h; cases h),
        (fun h => by rw [hc] at h; cases h), (fun h => by rw [hc] at h; cases h), (fun h => by rw [hc] at h; cases h), fun r hr => hr⟩
  | reader =>
    have ha : isAllocO o.op = false := isAlloc_false (by rw [hc]; intro h; cases h)
    have he : isEff o = false := isEff_false (by rw [hc]; intro h; cases h)
    rw [hc] at h
    cases w with
    | true =>
      obtain ⟨⟨v, s'⟩, hst, h⟩ := obnd_some (show obnd _ _ = some d' from h)
      cases h
      exact ⟨v, rfl, (fun h => by cases h), by rw [ha]; rfl, by rw [he]; rfl, (fun h => by rw [he] at h; cases h), fun _ => ⟨rfl, rfl⟩,
        (fun h => by rw [hc] at h; cases h), fun _ _ => ⟨⟨s', hst⟩, List.mem_cons_self⟩, (fun h => by rw [hc] at h; cases h), fun r hr => List.mem_cons_of_mem _ hr⟩
    | false =>
      cases h
      exact ⟨undef, rfl, fun _ => rfl, by rw [ha]; rfl, by rw [he]; rfl, (fun h => by rw [he] at h; cases h), fun _ => ⟨rfl, rfl⟩,
        (fun h => by rw [hc] at h; cases h), (fun _ h => by cases h), (fun h => by rw [hc] at h; cases h), fun r hr => hr⟩
  | pure =>
    have ha : isAllocO o.op = false := isAlloc_false (by rw [hc]; intro h; cases h)
    have he : isEff o = false := isEff_false (by rw [hc]; intro h; cases h)
    rw [hc] at h
    cases w with
    | true =>
      obtain ⟨⟨v, s'⟩, hst, h⟩ := obnd_some (show obnd _ _ = some d' from h)
      cases h
      exact ⟨v, rfl, (fun h => by cases h), by rw [ha]; rfl, by rw [he]; rfl, (fun h => by rw [he] at h; cases h), fun _ => ⟨rfl, rfl⟩,
        (fun h => by rw [hc] at h; cases h), (fun h => by rw [hc] at h; cases h), fun _ _ => ⟨s', hst⟩, fun r hr => hr⟩
    | false =>
      cases h
      exact ⟨undef, rfl, fun _ => rfl, by rw [ha]; rfl, by rw [he]; rfl, (fun h => by rw [he] at h; cases h), fun _ => ⟨rfl, rfl⟩,
        (fun h => by rw [hc] at h; cases h), (fun h => by rw [hc] at h; cases h), (fun _ h => by cases h), fun r hr => hr⟩

def Traced (T : Tab) (call : CallF) (n : Nat) (ops : List Oper) (tr : Nat → DSt) (V : Nat → Value) : Prop :=
  ∀ k o, ops[k]? = some o → StepF T call n k o (wantedA ops (tr k).e o) (tr k) (tr (k + 1)) (V k)

theorem aRun_trace {T : Tab} {call : CallF} {n : Nat} {ops : List Oper} : ∀ (rest : List Oper) (i : Nat) (d d' : DSt), aRun T call n ops rest i d = some d' →
    ∃ (tr : Nat → DSt) (V : Nat → Value), tr i = d ∧ tr (i + rest.length) = d' ∧ ∀ m o, rest[m]? = some o → StepF T call n (i + m) o (wantedA ops (tr (i + m)).e o) (tr (i + m)) (tr (i + m + 1)) (V (i + m))
  | [], i, d, d', h => by
    cases h
    exact ⟨fun _ => d, fun _ => undef, rfl, rfl, fun m o h => by simp at h⟩
  | o :: rest, i, d, d', h => by
    obtain ⟨d1, h1, h2⟩ := obnd_some (show obnd _ _ = some d' from h)
    obtain ⟨tr, V, t1, t2, t3⟩ := aRun_trace rest (i + 1) d1 d' h2
    obtain ⟨v, hv⟩ := dStep_spec h1
    refine ⟨fun k => if k = i then d else tr k, fun k => if k = i then v else V k, by simp, ?_, fun m o' ho => ?_⟩
    · dsimp only
      rw [List.length_cons, if_neg (by omega), ← t2]
      congr 1
      omega
    · cases m with
      | zero =>
        simp at ho
        subst ho
        simp only [Nat.add_zero, if_true]
        rw [if_neg (by omega), t1]
        exact hv
      | succ m =>
        have := t3 m o' (by simpa using ho)
        rw [show i + 1 + m = i + (m + 1) by omega] at this
        dsimp only
        rw [if_neg (by omega), if_neg (by omega), if_neg (by omega)]
        exact this

/-! ### the frame when some have been listed -/
def dstAt (ops : List Oper) (k : Nat) : Option Tmp := (ops[k]?).bind (·.dst)
def envT (n : Nat) (e : Tree Value) (V : Nat → Value) (ops : List Oper) (D : Nat → Bool) : Nat → Tree Value
  | 0 => e
  | k + 1 => cond (D k) (putE n (envT n e V ops D k) (dstAt ops k) (V k)) (envT n e V ops D k)
theorem putE_get {n : Nat} {e : Tree Value} {dst : Option Tmp} {v : Value} {t : Tmp} : (putE n e dst v).get t = if dst = some t ∧ t < n then some v else e.get t := by
  cases dst with
  | none => simp [putE]
  | some d =>
    unfold putE
    simp only
    cases hb : Nat.blt d n with
    | true =>
      rw [cond_true, Tree.get_set]
      have hd := blt_true hb
      by_cases ht : t = d
      · subst ht; simp [hd]
      · rw [if_neg ht, if_neg (fun h => ht (by cases h.1; rfl))]
    | false =>
      have hd := blt_false hb
      rw [cond_false, if_neg]
      rintro ⟨h1, h2⟩
      cases h1
      exact absurd h2 (Nat.not_lt.2 hd)
section
variable {n : Nat} {e : Tree Value} {V : Nat → Value} {ops : List Oper}
theorem envT_succ (D : Nat → Bool) (m : Nat) : envT n e V ops D (m + 1) = cond (D m) (putE n (envT n e V ops D m) (dstAt ops m) (V m)) (envT n e V ops D m) := rfl
theorem envT_agree {D D' : Nat → Bool} {t : Tmp} : ∀ {m : Nat}, (∀ k, k < m → dstAt ops k = some t → D k = D' k) → (envT n e V ops D m).get t = (envT n e V ops D' m).get t
  | 0, _ => rfl
  | m + 1, h => by
    have ih := envT_agree (m := m) fun k hk => h k (Nat.lt_succ_of_lt hk)
    by_cases hd : dstAt ops m = some t
    · have := h m (Nat.lt_succ_self m) hd
      rw [envT_succ, envT_succ, this]
      cases D' m with
      | false => exact ih
      | true => rw [cond_true, cond_true, putE_get, putE_get, ih]
    · have one : ∀ D : Nat → Bool, (envT n e V ops D (m + 1)).get t = (envT n e V ops D m).get t := by
        intro D
        rw [envT_succ]
        cases D m with
        | false => rfl
        | true => rw [cond_true, putE_get, if_neg (fun h => hd h.1)]
      rw [one, one]
      exact ih
theorem envT_none : ∀ (m : Nat) (D : Nat → Bool), (∀ k, k < m → D k = false) → envT n e V ops D m = e
  | 0, _, _ => rfl
  | m + 1, D, h => by
    rw [envT_succ, h m (Nat.lt_succ_self m), cond_false]
    exact envT_none m D fun k hk => h k (Nat.lt_succ_of_lt hk)
end

section
variable {T : Tab} {call : CallF} {n : Nat} {ops : List Oper} {tr : Nat → DSt} {V : Nat → Value} (hT : Traced T call n ops tr V)
include hT
omit hT in
theorem opAt {k : Nat} (h : k < ops.length) : ∃ o, ops[k]? = some o := ⟨ops[k], by simp [h]⟩
theorem tr_e {k : Nat} (h : k < ops.length) : (tr (k + 1)).e = putE n (tr k).e (dstAt ops k) (V k) := by
  obtain ⟨o, ho⟩ := opAt (ops := ops) h
  rw [(hT k o ho).e]
  simp [dstAt, ho]
theorem tr_env (i : Nat) : ∀ (m : Nat), m ≤ ops.length → envT n (tr 0).e V ops (fun k => Nat.blt k i) m = (tr (min m i)).e
  | 0, _ => by simp [envT]
  | m + 1, hm => by
    have ih := tr_env i m (by omega)
    rw [envT_succ, ih]
    by_cases hlt : m < i
    · rw [blt_of hlt, cond_true, Nat.min_eq_left (by omega), Nat.min_eq_left (by omega), tr_e hT (by omega)]
    · rw [blt_not hlt, cond_false, Nat.min_eq_right (by omega), Nat.min_eq_right (by omega)]
theorem tr_j : ∀ (k : Nat), k ≤ ops.length → (tr k).j = (tr 0).j + countB (fun x => Nat.blt x k) (effsFrom ops 0) := by
  have step : ∀ (l : List Oper) (i k : Nat) (o : Oper), l[k]? = some o → countB (fun x => Nat.blt x (i + k + 1)) (effsFrom l i) = countB (fun x => Nat.blt x (i + k)) (effsFrom l i) + cond (isEff o) 1 0 := by
    intro l
    induction l with
    | nil => intro i k o h; simp at h
    | cons x l ih =>
      intro i k o ho
      have zero : ∀ b, b ≤ i + 1 → countB (fun x => Nat.blt x b) (effsFrom l (i + 1)) = 0 := by
        intro b hb
        have : ∀ es : List Nat, (∀ k ∈ es, i + 1 ≤ k) → countB (fun x => Nat.blt x b) es = 0 := by
          intro es
          induction es with
          | nil => intro _; rfl
          | cons a es ihe =>
            intro h
            unfold countB
            rw [blt_not (by have := h a List.mem_cons_self; omega), cond_false]
            exact ihe fun k hk => h k (List.mem_cons_of_mem _ hk)
        exact this _ fun k hk => (effs_mem hk).1
      cases k with
      | zero =>
        simp at ho
        subst ho
        simp only [Nat.add_zero]
        unfold effsFrom
        cases hx : isEff x with
        | false => rw [cond_false, zero _ (Nat.le_refl _), zero _ (by omega)]; rfl
        | true =>
          rw [cond_true]
          unfold countB
          rw [blt_of (by omega), blt_not (by omega), cond_true, cond_false, zero _ (Nat.le_refl _), zero _ (by omega)]
          rfl
      | succ k =>
        have := ih (i + 1) k o (by simpa using ho)
        rw [show i + 1 + k = i + (k + 1) by omega] at this
        unfold effsFrom
        cases hx : isEff x with
        | false => exact this
        | true =>
          rw [cond_true]
          unfold countB
          rw [blt_of (by omega), blt_of (by omega), cond_true, cond_true, this]
          omega
  intro k
  induction k with
  | zero =>
    intro _
    have : countB (fun x => Nat.blt x 0) (effsFrom ops 0) = 0 := by
      generalize effsFrom ops 0 = es
      induction es with
      | nil => rfl
      | cons a es ih => unfold countB; rw [blt_not (by omega), cond_false]; exact ih
    rw [this]
    rfl
  | succ k ih =>
    intro hk
    obtain ⟨o, ho⟩ := opAt (ops := ops) (k := k) (by omega)
    have := step ops 0 k o ho
    rw [Nat.zero_add] at this
    rw [(hT k o ho).j, ih (by omega), this]
    omega
theorem tr_ss (h0 : (tr 0).j = 0 ∧ (tr 0).ss = [(tr 0).s]) : ∀ (k : Nat), k ≤ ops.length → ∃ l, (tr k).ss = (tr k).s :: l ∧ l.length = (tr k).j
  | 0, _ => ⟨[], h0.2, h0.1.symm⟩
  | k + 1, hk => by
    obtain ⟨l, h1, h2⟩ := tr_ss h0 k (by omega)
    obtain ⟨o, ho⟩ := opAt (ops := ops) (k := k) (by omega)
    have hs := hT k o ho
    cases he : isEff o with
    | true => exact ⟨(tr k).ss, (hs.eff he).1, by rw [hs.j, he, h1]; simp [h2]⟩
    | false => exact ⟨l, by rw [(hs.still he).1, (hs.still he).2, h1], by rw [hs.j, he, h2]; rfl⟩
theorem tr_pre : ∀ (m k : Nat), k + m ≤ ops.length → ∃ l, (tr (k + m)).ss = l ++ (tr k).ss
  | 0, k, _ => ⟨[], rfl⟩
  | m + 1, k, hk => by
    obtain ⟨l, h1⟩ := tr_pre m k (by omega)
    obtain ⟨o, ho⟩ := opAt (ops := ops) (k := k + m) (by omega)
    have hs := hT (k + m) o ho
    cases he : isEff o with
    | true => exact ⟨(tr (k + m + 1)).s :: l, by rw [← Nat.add_assoc, (hs.eff he).1, h1]; rfl⟩
    | false => exact ⟨l, by rw [← Nat.add_assoc, (hs.still he).2, h1]⟩
/-- the state after so many effects -/
theorem tr_at (h0 : (tr 0).j = 0 ∧ (tr 0).ss = [(tr 0).s]) {k : Nat} (hk : k ≤ ops.length) : (tr ops.length).ss.reverse[(tr k).j]? = some (tr k).s := by
  obtain ⟨l, h1, h2⟩ := tr_ss hT h0 k hk
  obtain ⟨l', h3⟩ := tr_pre hT (ops.length - k) k (by omega)
  rw [show k + (ops.length - k) = ops.length by omega] at h3
  rw [h3, h1, ← h2]
  simp
theorem tr_rs : ∀ (m k : Nat), k + m ≤ ops.length → ∀ r ∈ (tr k).rs, r ∈ (tr (k + m)).rs
  | 0, _, _, r, hr => hr
  | m + 1, k, hk, r, hr => by
    obtain ⟨o, ho⟩ := opAt (ops := ops) (k := k + m) (by omega)
    exact (hT (k + m) o ho).rs r (tr_rs m k (by omega) r hr)
def allocs (l : List Oper) : Nat := l.countP fun o => isAllocO o.op
theorem tr_a : ∀ (k : Nat), k ≤ ops.length → (tr k).a = (tr 0).a + allocs (ops.take k)
  | 0, _ => by simp [allocs]
  | k + 1, hk => by
    obtain ⟨o, ho⟩ := opAt (ops := ops) (k := k) (by omega)
    rw [(hT k o ho).a, tr_a k (by omega), List.take_add_one, ho]
    unfold allocs
    rw [List.countP_append]
    cases ha : isAllocO o.op <;> simp [ha, Nat.add_assoc]
end
theorem allocs_lt {l : List Oper} {i : Nat} {o : Oper} (h : l[i]? = some o) (ha : isAllocO o.op = true) {k : Nat} (hk : i < k) : allocs (l.take i) < allocs (l.take k) := by
  have h1 : allocs (l.take (i + 1)) = allocs (l.take i) + 1 := by
    unfold allocs
    rw [List.take_add_one, h, List.countP_append]
    simp [ha]
  have h2 : allocs (l.take (i + 1)) ≤ allocs (l.take k) := by
    unfold allocs
    exact List.Sublist.countP_le (List.take_sublist_take_left (by omega))
  omega

theorem recOk_spec {T : Tab} {call : CallF} {lo hi : Nat} {r : Rec} : ∀ {ss : List St} {j : Nat}, recOk T call lo hi r ss j = true → ∀ m s, ss[m]? = some s → lo ≤ j + m → j + m ≤ hi → (isAllocO r.o.op = true ∨ j + m ≠ r.j) → recAt T call r s r.o.op = true
  | [], _, _, m, s, h, _, _, _ => by simp at h
  | x :: ss, j, h, m, s, hs, h1, h2, h3 => by
    simp only [recOk, Bool.and_eq_true] at h
    cases m with
    | zero =>
      simp at hs
      subst hs
      have h := h.1
      have hc : (Nat.ble lo j && (Nat.ble j hi && (isAllocO r.o.op || !Nat.beq j r.j))) = true := by
        rw [Bool.and_eq_true, Bool.and_eq_true, Bool.or_eq_true]
        refine ⟨Nat.ble_eq_true_of_le (by omega), Nat.ble_eq_true_of_le (by omega), h3.imp_right fun h3 => ?_⟩
        rw [beq_ne (by omega)]
        rfl
      rw [hc, cond_true] at h
      exact h
    | succ m => exact recOk_spec h.2 m s (by simpa using hs) (by omega) (by omega) (by rw [show j + 1 + m = j + (m + 1) by omega]; exact h3)
theorem recsOk_spec {T : Tab} {call : CallF} {ms es : List Nat} {ss : List St} : ∀ {rs : List Rec}, recsOk T call ms es ss rs = true → ∀ r ∈ rs,
    recOk T call (countB (fun k => bef ms k r.i) es) (countB (fun k => !bef ms r.i k) es) r ss 0 = true
  | [], _, r, hr => by cases hr
  | x :: rs, h, r, hr => by
    simp only [recsOk, Bool.and_eq_true] at h
    rcases List.mem_cons.1 hr with rfl | hr
    · exact h.1
    · exact recsOk_spec h.2 r hr

theorem preAlloc_sound {T : Tab} {B0 : Nat} {w0 : World} {σ : Inj} {w : World} : ∀ {l : List Oper} {s s0 : St}, preAlloc T l s = some s0 → Inv B0 w0 σ s w → Inv B0 w0 σ s0 w ∧ s0.next = s.next + allocs l
  | [], s, s0, h, hI => by cases h; exact ⟨hI, rfl⟩
  | o :: l, s, s0, h, hI => by
    obtain ⟨s1, h1, h2⟩ := obnd_some (show obnd _ _ = some s0 from h)
    have key : Inv B0 w0 σ s1 w ∧ s1.next = s.next + cond (isAllocO o.op) 1 0 := by
      unfold preOne at h1
      split at h1
      · rename_i el heq
        obtain ⟨z, hz, h1⟩ := obnd_some h1
        cases h1
        exact ⟨hI.reserve _, by rw [heq]; rfl⟩
      · rename_i hne
        cases h1
        refine ⟨hI, ?_⟩
        have : isAllocO o.op = false := by
          unfold isAllocO
          split
          · rename_i el heq; exact absurd heq (hne el)
          · rfl
        rw [this]; rfl
    obtain ⟨h3, h4⟩ := preAlloc_sound h2 key.1
    refine ⟨h3, ?_⟩
    rw [h4, key.2]
    unfold allocs
    rw [List.countP_cons]
    cases isAllocO o.op <;> simp <;> omega
end
end Go.Proofs.Ytijfafacddefhaa.Ab
