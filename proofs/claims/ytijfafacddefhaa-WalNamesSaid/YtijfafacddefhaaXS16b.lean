/- The short run is sound over the model: a part of the proof. -/
import Derived.Test.YtijfafacddefhaaXS16a
namespace Go.Proofs.Ytijfafacddefhaa.Ab
open Go.RowKit

/-! ### the plan of a region that draws -/
theorem bef_eq (ms : List Nat) (k i : Nat) : bef ms k i = (ms.getD i 0).testBit k := by
  unfold bef
  have h : Nat.land (ms.getD i 0 / 2 ^ k) 1 = (ms.getD i 0 / 2 ^ k) % 2 := Nat.and_one_is_mod _
  rw [h, Nat.testBit_eq_decide_div_mod_eq]
  generalize (ms.getD i 0 / 2 ^ k) % 2 = x
  by_cases hx : x = 1
  · subst hx; rfl
  · rw [decide_eq_false hx]
    cases hb : Nat.beq x 1 with
    | false => rfl
    | true => exact absurd (Nat.eq_of_beq_eq_true hb) hx
theorem maskOf_bit (acc : List Nat) (k : Nat) : ∀ (es : List Edge), (maskOf acc es).testBit k = true → ∃ e ∈ es, bindsA e = true ∧ (k = e.on ∨ (acc.getD e.on 0).testBit k = true)
  | [], h => by simp [maskOf] at h
  | e :: r, h => by
    unfold maskOf at h
    cases hb : bindsA e with
    | false =>
      rw [hb, cond_false] at h
      obtain ⟨x, hx, hy⟩ := maskOf_bit acc k r h
      exact ⟨x, List.mem_cons_of_mem _ hx, hy⟩
    | true =>
      rw [hb, cond_true] at h
      have h' : (2 ^ e.on ||| ((acc.getD e.on 0) ||| maskOf acc r)).testBit k = true := h
      rw [Nat.testBit_or, Nat.testBit_or, Bool.or_eq_true, Bool.or_eq_true] at h'
      rcases h' with h' | h' | h'
      · rw [Nat.testBit_two_pow] at h'
        exact ⟨e, List.mem_cons_self, hb, .inl (of_decide_eq_true h').symm⟩
      · exact ⟨e, List.mem_cons_self, hb, .inr h'⟩
      · obtain ⟨x, hx, hy⟩ := maskOf_bit acc k r h'
        exact ⟨x, List.mem_cons_of_mem _ hx, hy⟩
theorem masks_pre : ∀ (l : List Oper) (acc : List Nat), ∃ r, masks l acc = acc ++ r
  | [], acc => ⟨[], by simp [masks]⟩
  | o :: l, acc => by
    obtain ⟨r, hr⟩ := masks_pre l (acc ++ [maskOf acc o.after.toList])
    exact ⟨maskOf acc o.after.toList :: r, by rw [masks, hr]; simp⟩
theorem masks_bit (k : Nat) : ∀ (l : List Oper) (acc : List Nat) (i : Nat), acc.length ≤ i → ((masks l acc).getD i 0).testBit k = true →
    ∃ o, l[i - acc.length]? = some o ∧ ∃ e ∈ o.after.toList, bindsA e = true ∧ (k = e.on ∨ (e.on < i ∧ ((masks l acc).getD e.on 0).testBit k = true))
  | [], acc, i, hi, h => by
    simp only [masks] at h
    rw [List.getD_eq_getElem?_getD, List.getElem?_eq_none hi] at h
    simp at h
  | o :: l, acc, i, hi, h => by
    rw [masks] at h ⊢
    by_cases hlt : i = acc.length
    · subst hlt
      refine ⟨o, by simp, ?_⟩
      obtain ⟨r, hr⟩ := masks_pre l (acc ++ [maskOf acc o.after.toList])
      rw [hr] at h ⊢
      have he : ((acc ++ [maskOf acc o.after.toList] ++ r).getD acc.length 0) = maskOf acc o.after.toList := by simp [List.getD_eq_getElem?_getD]
      rw [he] at h
      obtain ⟨e, h1, h2, h3⟩ := maskOf_bit acc k _ h
      refine ⟨e, h1, h2, h3.imp_right fun h3 => ?_⟩
      have hl : e.on < acc.length := by
        rcases Nat.lt_or_ge e.on acc.length with hl | hl
        · exact hl
        · rw [List.getD_eq_getElem?_getD, List.getElem?_eq_none hl] at h3; simp at h3
      refine ⟨hl, ?_⟩
      rw [List.getD_eq_getElem?_getD, List.getElem?_append_left (by simp; omega), List.getElem?_append_left hl, ← List.getD_eq_getElem?_getD]
      exact h3
    · obtain ⟨o', h1, h2⟩ := masks_bit k l (acc ++ [maskOf acc o.after.toList]) i (by simp; omega) h
      refine ⟨o', ?_, h2⟩
      rw [show i - acc.length = (i - (acc ++ [maskOf acc o.after.toList]).length) + 1 by simp; omega, List.getElem?_cons_succ]
      exact h1
theorem bef_spec {ops : List Oper} {k i : Nat} (h : bef (masks ops []) k i = true) :
    ∃ o, ops[i]? = some o ∧ ∃ e ∈ o.after.toList, bindsA e = true ∧ (k = e.on ∨ (e.on < i ∧ bef (masks ops []) k e.on = true)) := by
  rw [bef_eq] at h
  obtain ⟨o, h1, e, h2, h3, h4⟩ := masks_bit k ops [] i (Nat.zero_le _) h
  exact ⟨o, h1, e, h2, h3, h4.imp_right fun h => ⟨h.1, by rw [bef_eq]; exact h.2⟩⟩
theorem binds_any (e : Edge) : Region.binds .any e = bindsA e := by
  unfold Region.binds bindsA bindsG
  cases e.ground <;> rfl

def Shut (ops : List Oper) (D : Nat → Bool) : Prop := ∀ i o, D i = true → ops[i]? = some o → ∀ e ∈ o.after.toList, bindsA e = true → D e.on = true
def Closed (ms : List Nat) (D : Nat → Bool) : Prop := ∀ k i, bef ms k i = true → D i = true → D k = true
theorem Shut.closed {ops : List Oper} {D : Nat → Bool} (h : Shut ops D) : Closed (masks ops []) D := by
  intro k i
  induction i using Nat.strongRecOn with
  | ind i ih =>
    intro hb hd
    obtain ⟨o, ho, e, he, hbi, hk⟩ := bef_spec hb
    have hon := h i o hd ho e he hbi
    rcases hk with rfl | ⟨hlt, hk⟩
    · exact hon
    · exact ih e.on hlt hk hon
def Rdy (ops : List Oper) (D : Nat → Bool) (i : Nat) : Prop := D i = false ∧ ∃ o, ops[i]? = some o ∧ ∀ e ∈ o.after.toList, bindsA e = true → D e.on = true
theorem Rdy.pred {ops : List Oper} {D : Nat → Bool} (h : Shut ops D) {i : Nat} (r : Rdy ops D i) {k : Nat} (hb : bef (masks ops []) k i = true) : D k = true := by
  obtain ⟨o, ho, e, he, hbi, hk⟩ := bef_spec hb
  obtain ⟨_, o', ho', hall⟩ := r
  rw [ho] at ho'; cases ho'
  have hon := hall e he hbi
  rcases hk with rfl | ⟨hlt, hk⟩
  · exact hon
  · exact h.closed k e.on hk hon
def addD (D : Nat → Bool) (i : Nat) : Nat → Bool := fun k => D k || Nat.beq k i
theorem addD_same {D : Nat → Bool} {i : Nat} : addD D i i = true := by simp [addD]
theorem beq_ne {a b : Nat} (h : a ≠ b) : Nat.beq a b = false := by
  cases hb : Nat.beq a b with
  | false => rfl
  | true => exact absurd (Nat.eq_of_beq_eq_true hb) h
theorem addD_other {D : Nat → Bool} {i k : Nat} (h : k ≠ i) : addD D i k = D k := by simp [addD, beq_ne h]
theorem Rdy.shut {ops : List Oper} {D : Nat → Bool} (h : Shut ops D) {i : Nat} (r : Rdy ops D i) : Shut ops (addD D i) := by
  intro j o hj ho e he hb
  have : D e.on = true := by
    by_cases hji : j = i
    · subst hji
      obtain ⟨_, o', ho', hall⟩ := r
      rw [ho] at ho'; cases ho'
      exact hall e he hb
    · rw [addD_other hji] at hj
      exact h j o hj ho e he hb
  simp [addD, this]

/-! ### counting effects -/
theorem countB_congr {p q : Nat → Bool} : ∀ {l : List Nat}, (∀ k ∈ l, p k = q k) → countB p l = countB q l
  | [], _ => rfl
  | a :: l, h => by
    unfold countB
    rw [h a List.mem_cons_self, countB_congr fun k hk => h k (List.mem_cons_of_mem _ hk)]
theorem countB_le {p q : Nat → Bool} : ∀ {l : List Nat}, (∀ k ∈ l, p k = true → q k = true) → countB p l ≤ countB q l
  | [], _ => Nat.le_refl _
  | a :: l, h => by
    have ih := countB_le (l := l) fun k hk => h k (List.mem_cons_of_mem _ hk)
    unfold countB
    cases hp : p a with
    | true => rw [h a List.mem_cons_self hp]; exact Nat.succ_le_succ ih
    | false =>
      rw [cond_false]
      cases q a with
      | true => exact Nat.le_succ_of_le ih
      | false => exact ih
theorem effs_mem : ∀ {l : List Oper} {i k : Nat}, k ∈ effsFrom l i → i ≤ k ∧ ∃ o, l[k - i]? = some o ∧ isEff o = true
  | [], i, k, h => by cases h
  | o :: l, i, k, h => by
    unfold effsFrom at h
    have key : k ∈ effsFrom l (i + 1) → i ≤ k ∧ ∃ o', (o :: l)[k - i]? = some o' ∧ isEff o' = true := by
      intro h
      obtain ⟨h1, o', h2, h3⟩ := effs_mem h
      refine ⟨by omega, o', ?_, h3⟩
      rw [show k - i = (k - (i + 1)) + 1 by omega, List.getElem?_cons_succ]
      exact h2
    cases he : isEff o with
    | false => rw [he, cond_false] at h; exact key h
    | true =>
      rw [he, cond_true] at h
      rcases List.mem_cons.1 h with rfl | h
      · exact ⟨Nat.le_refl _, o, by simp, he⟩
      · exact key h
theorem mem_effs : ∀ {l : List Oper} {i j : Nat} {o : Oper}, l[j]? = some o → isEff o = true → i + j ∈ effsFrom l i
  | [], i, j, o, h, _ => by simp at h
  | o' :: l, i, j, o, h, he => by
    unfold effsFrom
    cases j with
    | zero =>
      simp at h
      subst h
      rw [he, cond_true]
      exact List.mem_cons_self
    | succ j =>
      have := mem_effs (i := i + 1) (show l[j]? = some o by simpa using h) he
      rw [show i + 1 + j = i + (j + 1) by omega] at this
      cases isEff o' with
      | true => exact List.mem_cons_of_mem _ this
      | false => exact this
theorem effs_sorted : ∀ (l : List Oper) (i : Nat), (effsFrom l i).Pairwise (· < ·)
  | [], _ => .nil
  | o :: l, i => by
    unfold effsFrom
    cases isEff o with
    | false => exact effs_sorted l (i + 1)
    | true => exact .cons (fun k hk => by have := (effs_mem hk).1; omega) (effs_sorted l (i + 1))
theorem chain_down {ms : List Nat} {D : Nat → Bool} (hD : Closed ms D) : ∀ {r : List Nat} {a : Nat}, chain ms (a :: r) = true → ∀ k ∈ r, D k = true → D a = true
  | [], _, _, k, hk, _ => by cases hk
  | b :: r, a, h, k, hk, hd => by
    have h : (bef ms a b && chain ms (b :: r)) = true := h
    rw [Bool.and_eq_true] at h
    have hb : D b = true := by
      rcases List.mem_cons.1 hk with rfl | hk
      · exact hd
      · exact chain_down hD h.2 k hk hd
    exact hD a b h.1 hb
theorem chain_tail {ms : List Nat} {a : Nat} {r : List Nat} (h : chain ms (a :: r) = true) : chain ms r = true := by
  cases r with
  | nil => rfl
  | cons b r =>
    have h : (bef ms a b && chain ms (b :: r)) = true := h
    rw [Bool.and_eq_true] at h
    exact h.2
/-- of two effects the later waits for the earlier -/
theorem chain_lt {ms : List Nat} {D : Nat → Bool} (hD : Closed ms D) : ∀ {es : List Nat}, chain ms es = true → es.Pairwise (· < ·) → ∀ a ∈ es, ∀ b ∈ es, a < b → D b = true → D a = true
  | [], _, _, a, ha, _, _, _, _ => by cases ha
  | x :: r, h, hs, a, ha, b, hb, hlt, hd => by
    rcases List.mem_cons.1 ha with rfl | ha2
    · rcases List.mem_cons.1 hb with rfl | hb2
      · exact absurd hlt (Nat.lt_irrefl _)
      · exact chain_down hD h b hb2 hd
    · rcases List.mem_cons.1 hb with rfl | hb2
      · have := (List.pairwise_cons.1 hs).1 a ha2; omega
      · exact chain_lt hD (chain_tail h) (List.pairwise_cons.1 hs).2 a ha2 b hb2 hlt hd
theorem eff_agree {ops : List Oper} {D : Nat → Bool} (hS : Shut ops D) {i : Nat} (r : Rdy ops D i) (hc : chain (masks ops []) (effsFrom ops 0) = true) (hi : i ∈ effsFrom ops 0) :
    ∀ k ∈ effsFrom ops 0, D k = Nat.blt k i := by
  intro k hk
  have hs := effs_sorted ops 0
  rcases Nat.lt_trichotomy k i with h | h | h
  · have := chain_lt (r.shut hS).closed hc hs k hk i hi h addD_same
    rw [addD_other (Nat.ne_of_lt h)] at this
    rw [this]
    exact (show Nat.blt k i = true by rw [Nat.blt_eq]; exact h).symm
  · subst h
    rw [r.1]
    cases hb : Nat.blt k k with
    | false => rfl
    | true => exact absurd (blt_true hb) (Nat.lt_irrefl _)
  · have : Nat.blt k i = false := by
      cases hb : Nat.blt k i with
      | false => rfl
      | true => exact absurd (blt_true hb) (by omega)
    rw [this]
    cases hd : D k with
    | false => rfl
    | true =>
      have := chain_lt hS.closed hc hs i hi k hk h hd
      rw [r.1] at this
      cases this

/-! ### what the plan promises -/
theorem mem_writers : ∀ {l : List Oper} {i j : Nat} {o : Oper} {d : Tmp}, l[j]? = some o → o.dst = some d → (d, i + j) ∈ writers l i
  | [], _, _, _, _, h, _ => by simp at h
  | o' :: l, i, j, o, d, h, hd => by
    unfold writers
    cases j with
    | zero =>
      simp at h; subst h
      rw [hd]
      exact List.mem_cons_self
    | succ j =>
      have := mem_writers (i := i + 1) (show l[j]? = some o by simpa using h) hd
      rw [show i + 1 + j = i + (j + 1) by omega] at this
      cases o'.dst with
      | none => exact this
      | some d' => exact List.mem_cons_of_mem _ this
theorem tmpOk1_spec {ms : List Nat} {j : Nat} {t : Tmp} : ∀ {W : List (Tmp × Nat)}, tmpOk1 ms j t W = true → ∀ i, (t, i) ∈ W → i = j ∨ bef ms (min i j) (max i j) = true
  | [], _, i, hi => by cases hi
  | (d, k) :: W, h, i, hi => by
    simp only [tmpOk1, Bool.and_eq_true] at h
    rcases List.mem_cons.1 hi with heq | hi
    · cases heq
      have h := h.1
      rw [Bool.or_eq_true, Bool.or_eq_true] at h
      rcases h with h | h | h
      · simp at h
      · exact .inl (Nat.eq_of_beq_eq_true h)
      · exact .inr h
    · exact tmpOk1_spec h.2 i hi
def TmpsOk (ops : List Oper) (j : Nat) (ts : List Tmp) : Prop :=
  ∀ t ∈ ts, ∀ k o, ops[k]? = some o → o.dst = some t → k = j ∨ bef (masks ops []) (min k j) (max k j) = true
theorem tmpsOk1_spec {ops : List Oper} {j : Nat} : ∀ {ts : List Tmp}, tmpsOk1 (masks ops []) j (writers ops 0) ts = true → TmpsOk ops j ts
  | [], _, t, ht => by cases ht
  | u :: ts, h, t, ht => by
    simp only [tmpsOk1, Bool.and_eq_true] at h
    intro k o ho hd
    rcases List.mem_cons.1 ht with rfl | ht
    · exact tmpOk1_spec h.1 k (by have := mem_writers (i := 0) ho hd; simpa using this)
    · exact tmpsOk1_spec h.2 t ht k o ho hd
theorem earlier_spec {i : Nat} : ∀ {es : List Edge}, earlier i es = true → ∀ e ∈ es, bindsA e = true → e.on < i
  | [], _, e, he, _ => by cases he
  | x :: es, h, e, he, hb => by
    simp only [earlier, Bool.and_eq_true] at h
    rcases List.mem_cons.1 he with rfl | he
    · have h := h.1
      rw [hb] at h
      exact blt_true (by simpa using h)
    · exact earlier_spec h.2 e he hb
structure OpOk2 (ops : List Oper) (j : Nat) (o : Oper) : Prop where
  guard : TmpsOk ops j (guardNames ops o.guard)
  early : ∀ e ∈ o.after.toList, bindsA e = true → e.on < j
  names : TmpsOk ops j (namesOf o)
  dst : TmpsOk ops j o.dst.toList
theorem opsOk_spec {ops : List Oper} : ∀ {rest : List Oper} {j : Nat}, opsOk ops (masks ops []) (writers ops 0) rest j = true → ∀ m o, rest[m]? = some o → OpOk2 ops (j + m) o
  | [], _, _, m, o, h => by simp at h
  | x :: rest, j, h, m, o, ho => by
    simp only [opsOk, Bool.and_eq_true] at h
    cases m with
    | zero =>
      simp at ho; subst ho
      obtain ⟨⟨h1, h2, h3, h4⟩, _⟩ := h
      exact ⟨tmpsOk1_spec h1, earlier_spec h2, tmpsOk1_spec h3, tmpsOk1_spec h4⟩
    | succ m =>
      have := opsOk_spec h.2 m o (by simpa using ho)
      rwa [show j + 1 + m = j + (m + 1) by omega] at this
/-- which writers have been, for a name that an operation looks at when it may come up -/
theorem TmpsOk.agree {ops : List Oper} {D : Nat → Bool} (hS : Shut ops D) {i : Nat} (r : Rdy ops D i) {ts : List Tmp} (h : TmpsOk ops i ts) {t : Tmp} (ht : t ∈ ts) {k : Nat} {o : Oper} (ho : ops[k]? = some o) (hd : o.dst = some t) :
    D k = Nat.blt k i := by
  rcases Nat.lt_trichotomy k i with hl | hl | hl
  · rcases h t ht k o ho hd with h | h
    · omega
    · rw [Nat.min_eq_left (Nat.le_of_lt hl), Nat.max_eq_right (Nat.le_of_lt hl)] at h
      rw [r.pred hS h]
      exact (show Nat.blt k i = true by rw [Nat.blt_eq]; exact hl).symm
  · subst hl
    rw [r.1]
    cases hb : Nat.blt k k with
    | false => rfl
    | true => exact absurd (blt_true hb) (Nat.lt_irrefl _)
  · rcases h t ht k o ho hd with h | h
    · omega
    · rw [Nat.min_eq_right (Nat.le_of_lt hl), Nat.max_eq_left (Nat.le_of_lt hl)] at h
      have : Nat.blt k i = false := by
        cases hb : Nat.blt k i with
        | false => rfl
        | true => exact absurd (blt_true hb) (by omega)
      rw [this]
      cases hdk : D k with
      | false => rfl
      | true =>
        have := hS.closed i k h hdk
        rw [r.1] at this
        cases this
end Go.Proofs.Ytijfafacddefhaa.Ab
