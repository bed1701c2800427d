/- The short run is sound over the model: a part of the proof. -/
import Derived.Test.YtijfafacddefhaaXS15
namespace Go.Proofs.Ytijfafacddefhaa.Ab
open Go.RowKit

/-! ### what an operation looks at -/
def Same (L : List Tmp) (e e' : Tree Value) : Prop := ∀ t ∈ L, e.get t = e'.get t
theorem mem_tmpOf {t : Tmp} {xs : List Operand} (h : Operand.tmp t ∈ xs) : t ∈ xs.filterMap tmpOf := List.mem_filterMap.2 ⟨_, h, rfl⟩

section
variable {e e' : Tree Value}
theorem aOpd_congr {x : Operand} (h : ∀ t, x = .tmp t → e.get t = e'.get t) : aOpd e x = aOpd e' x := by
  cases x with
  | tmp t => simp only [aOpd]; rw [h t rfl]
  | const v => rfl
  | func f => rfl
  | global g => rfl
theorem aOpds_congr : ∀ {xs : List Operand}, (∀ t, Operand.tmp t ∈ xs → e.get t = e'.get t) → aOpds e xs = aOpds e' xs
  | [], _ => rfl
  | x :: xs, h => by
    unfold aOpds
    rw [aOpd_congr (fun t ht => h t (by simp [ht])), aOpds_congr (xs := xs) (fun t ht => h t (by simp [ht]))]
theorem aParts_congr : ∀ {xs : List (Nat × Operand)}, (∀ t, Operand.tmp t ∈ xs.map (·.2) → e.get t = e'.get t) → aParts e xs = aParts e' xs
  | [], _ => rfl
  | (i, x) :: xs, h => by
    unfold aParts
    rw [aOpd_congr (fun t ht => h t (by simp [ht])), aParts_congr (xs := xs) (fun t ht => h t (by simp at ht ⊢; exact .inr ht))]
theorem optNat_congr {x : Option Operand} (h : ∀ t, x = some (.tmp t) → e.get t = e'.get t) : optNat e x = optNat e' x := by
  cases x with
  | none => rfl
  | some x => simp only [optNat]; rw [aOpd_congr fun t ht => h t (by rw [ht])]

theorem aOp_congr {T : Tab} {o : Op} {s : St} (h : ∀ t, Operand.tmp t ∈ o.operands.toList → e.get t = e'.get t) : aOp o T e s = aOp o T e' s := by
  cases o <;> try rfl
  case makeMap t r => cases r <;> rfl
  case move x => simp only [aOp, opMove]; rw [aOpd_congr fun t ht => h t (by simp [Op.operands, ht])]
  case assign x => simp only [aOp, opMove]; rw [aOpd_congr fun t ht => h t (by simp [Op.operands, ht])]
  case pick c a b =>
    simp only [aOp, opPick]
    rw [aOpd_congr (x := c) fun t ht => h t (by simp [Op.operands, ht]), aOpd_congr (x := a) fun t ht => h t (by simp [Op.operands, ht]), aOpd_congr (x := b) fun t ht => h t (by simp [Op.operands, ht])]
  case box _ x => simp only [aOp, opBox]; rw [aOpd_congr fun t ht => h t (by simp [Op.operands, ht])]
  case build t ps => simp only [aOp, opBuild]; rw [aParts_congr fun t ht => h t (by simpa [Op.operands] using ht)]
  case buildSlice t n ps => simp only [aOp, opBuildSlice]; rw [aParts_congr fun t ht => h t (by simpa [Op.operands] using ht)]
  case load t x => simp only [aOp, opLoad]; rw [aOpd_congr fun t ht => h t (by simp [Op.operands, ht])]
  case store t x y => simp only [aOp, opStore]; rw [aOpd_congr (x := x) fun t ht => h t (by simp [Op.operands, ht]), aOpd_congr (x := y) fun t ht => h t (by simp [Op.operands, ht])]
  case nilCheck x => simp only [aOp, opNilCheck]; rw [aOpd_congr fun t ht => h t (by simp [Op.operands, ht])]
  case binOp op t x y m => simp only [aOp, opBin]; rw [aOpd_congr (x := x) fun t ht => h t (by simp [Op.operands, ht]), aOpd_congr (x := y) fun t ht => h t (by simp [Op.operands, ht])]
  case unOp op t x => simp only [aOp, opUn]; rw [aOpd_congr fun t ht => h t (by simp [Op.operands, ht])]
  case convert a b x => simp only [aOp, opConvert]; rw [aOpd_congr fun t ht => h t (by simp [Op.operands, ht])]
  case makeFunc fn f c =>
    cases fn <;> try rfl
    simp only [aOp, opMakeFunc]
    rw [aOpds_congr (xs := f.toList) fun t ht => h t (by simp [Op.operands] at ht ⊢; exact .inl ht), aOpds_congr (xs := c.toList) fun t ht => h t (by simp [Op.operands] at ht ⊢; exact .inr ht)]
  case makeSlice t x y => simp only [aOp, opMakeSlice]; rw [aOpd_congr (x := x) fun t ht => h t (by simp [Op.operands, ht]), aOpd_congr (x := y) fun t ht => h t (by simp [Op.operands, ht])]
  case slice t x lo hi mx =>
    simp only [aOp, opSlice]
    rw [aOpd_congr (x := x) fun t ht => h t (by simp [Op.operands, ht]), optNat_congr (x := lo) fun t ht => h t (by simp [Op.operands, ht]), optNat_congr (x := hi) fun t ht => h t (by simp [Op.operands, ht]), optNat_congr (x := mx) fun t ht => h t (by simp [Op.operands, ht])]
  case fieldAddr t x f => simp only [aOp, opFieldAddr]; rw [aOpd_congr fun t ht => h t (by simp [Op.operands, ht])]
  case field t x f => simp only [aOp, opField]; rw [aOpd_congr fun t ht => h t (by simp [Op.operands, ht])]
  case indexAddr t x y => simp only [aOp, opIndexAddr]; rw [aOpd_congr (x := x) fun t ht => h t (by simp [Op.operands, ht]), aOpd_congr (x := y) fun t ht => h t (by simp [Op.operands, ht])]
  case index t x y => simp only [aOp, opIndex]; rw [aOpd_congr (x := x) fun t ht => h t (by simp [Op.operands, ht]), aOpd_congr (x := y) fun t ht => h t (by simp [Op.operands, ht])]
  case extract x i => simp only [aOp, opExtract]; rw [aOpd_congr fun t ht => h t (by simp [Op.operands, ht])]
  case call c =>
    simp only [aOp, opCall]
    cases hc : c.callee with
    | value f =>
      simp only [opCallee, opCallV]
      rw [aOpds_congr (xs := c.args.toList) fun t ht => h t (by simp [Op.operands, Call.operands, hc] at ht ⊢; exact .inr ht), aOpd_congr (x := f) fun t ht => h t (by simp [Op.operands, Call.operands, hc, ht])]
    | builtin b =>
      simp only [opCallee, opCallB]
      rw [aOpds_congr (xs := c.args.toList) fun t ht => h t (by simp [Op.operands, Call.operands, hc] at ht ⊢; exact ht)]
    | invoke r m => rfl
theorem aStep_congr {T : Tab} {call : CallF} {o : Oper} {s : St} (h : Same (namesOf o) e e') : aStep T call e o s = aStep T call e' o s := by
  unfold aStep
  rw [aOp_congr (e := e) (e' := e') fun t ht => h t (mem_tmpOf ht)]
theorem wantedA_congr {ops : List Oper} {o : Oper} (h : Same (guardNames ops o.guard) e e') : wantedA ops e o = wantedA ops e' o := by
  unfold wantedA guardB
  unfold guardNames at h
  cases hg : o.guard with
  | none => rfl
  | some p =>
    rw [hg] at h
    simp only at h ⊢
    cases hp : ops[p.1]? with
    | none => rfl
    | some oj =>
      rw [hp] at h
      simp only [dstOf] at h
      simp only [operB]
      cases hd : oj.dst with
      | none => rfl
      | some d =>
        rw [hd] at h
        simp only [dstB]
        rw [h d (by simp)]
end
theorem EnvRel.congr {σ : Inj} {n : Nat} {e e' : Tree Value} {tmps : Array Value} (h : EnvRel σ n e tmps) (k : ∀ t, e.get t = e'.get t) : EnvRel σ n e' tmps :=
  ⟨h.size, fun t ht => by rw [← k t]; exact h.rel t ht, fun t ht => by rw [← k t]; exact h.out t ht⟩

/-! ### operations that do not look at the state -/
def SFree (f : St → Option AR) : Prop := ∃ x : Option Value, ∀ s, f s = obnd x (retV s)
theorem sfree_none : SFree fun _ => none := ⟨none, fun _ => rfl⟩
theorem sfree_retV (v : Value) : SFree fun s => retV s v := ⟨some v, fun _ => rfl⟩
theorem sfree_obnd {α : Type} (x : Option α) {g : α → St → Option AR} (h : ∀ a, SFree (g a)) : SFree fun s => obnd x fun a => g a s := by
  cases x with
  | none => exact sfree_none
  | some a => exact h a
theorem sfree_obndV (x : Option Value) : SFree fun s => obnd x (retV s) := ⟨x, fun _ => rfl⟩
theorem sfree_cond {c : Bool} {f g : St → Option AR} (h : SFree f) (k : SFree g) : SFree fun s => cond c (f s) (g s) := by
  cases c with
  | true => exact h
  | false => exact k
theorem sfree_pureV (x : Sem Value) : SFree fun s => pureV s x := by
  unfold pureV
  exact sfree_obnd _ fun v => sfree_cond (sfree_retV v) sfree_none

def Keeps (f : St → Option AR) : Prop := ∀ s r, f s = some r → ∃ v, r = .val v s
theorem SFree.keeps {f : St → Option AR} (h : SFree f) : Keeps f := by
  obtain ⟨x, h⟩ := h
  intro s r hr
  rw [h s] at hr
  cases x with
  | none => cases hr
  | some v => cases hr; exact ⟨v, rfl⟩
theorem keeps_obnd {α : Type} (x : Option α) {g : α → St → Option AR} (h : ∀ a, Keeps (g a)) : Keeps fun s => obnd x fun a => g a s := by
  cases x with
  | none => intro s r hr; cases hr
  | some a => exact h a

theorem sfree_aBin {T : Tab} {op : BinOp} {t : Nat} {x y : Value} : SFree fun s => aBin T op t x s y := by
  cases x <;> simp only [aBin, binPure, binVal]
  case int k a =>
    unfold binInt
    cases y <;> first | exact sfree_none | exact sfree_cond (sfree_obndV _) sfree_none
  case float k a => exact sfree_cond (sfree_pureV _) sfree_none
  case complex k a b => exact sfree_cond (sfree_pureV _) sfree_none
  case string a => exact sfree_cond (sfree_pureV _) sfree_none
  all_goals exact sfree_obnd _ fun b => sfree_retV _
theorem sfree_aUn {op : UnOp} {v : Value} : SFree fun s => aUn op s v := by
  cases v <;> simp only [aUn]
  case int k a =>
    unfold unInt
    cases op <;> first | exact sfree_retV _ | exact sfree_pureV _
  all_goals exact sfree_cond (sfree_pureV _) sfree_none
theorem sfree_checked (v : Value) : SFree fun s => checked s v := by
  unfold checked
  split <;> first | exact sfree_retV _ | exact sfree_none
theorem sfree_onBool (v : Value) {g : Bool → St → Option AR} (h : ∀ b, SFree (g b)) : SFree fun s => onBool v fun b => g b s := by
  unfold onBool
  split
  · exact h _
  · exact sfree_none
theorem sfree_onSlice (v : Value) {g : Option Addr → Nat → Nat → St → Option AR} (h : ∀ a n c, SFree (g a n c)) : SFree fun s => onSlice v fun a n c => g a n c s := by
  unfold onSlice
  split
  · exact h _ _ _
  · exact sfree_none
theorem sfree_pureArgs {f : Array Value → Sem Value} {T : Tab} {ts : List Nat} {l : List Value} : SFree fun s => pureArgs f T ts l s := sfree_cond (sfree_pureV _) sfree_none
theorem sfree_cap {T : Tab} {ts : List Nat} {l : List Value} : SFree fun s => aCapOp T ts l s := by
  unfold aCapOp on1
  split
  · split
    · refine sfree_obnd _ fun d => ?_
      cases d <;> simp only [capAs] <;> first | exact sfree_none | skip
      exact sfree_onSlice _ fun _ _ c => sfree_cond (sfree_retV _) sfree_none
    · exact sfree_none
  · exact sfree_none
theorem keeps_len {T : Tab} {ts : List Nat} {l : List Value} : Keeps fun s => aLenOp T ts l s := by
  unfold aLenOp on1
  split
  · split
    · refine keeps_obnd _ fun d => ?_
      cases d <;> simp only [lenAs]
      case string => exact SFree.keeps (by unfold onStr; split <;> first | exact sfree_retV _ | exact sfree_none)
      case array => exact SFree.keeps (sfree_retV _)
      case slice => exact SFree.keeps (sfree_onSlice _ fun _ _ c => (sfree_retV _))
      case map =>
        intro s r hr
        simp only [lenMap] at hr
        split at hr
        · cases hr; exact ⟨_, rfl⟩
        · split at hr
          · cases hr; exact ⟨_, rfl⟩
          · cases hr
        · cases hr
      all_goals exact SFree.keeps sfree_none
    · exact SFree.keeps sfree_none
  · exact SFree.keeps sfree_none

def isPure (c : Cls) : Prop := match c with | .pure => True | _ => False
def isReader (c : Cls) : Prop := match c with | .reader => True | _ => False
theorem aOp_pure {T : Tab} {o : Op} {e : Tree Value} (h : clsOf o = .pure) : SFree fun s => aOp o T e s := by
  cases o <;> try (simp [clsOf] at h; done)
  case move x => exact sfree_obndV _
  case assign x => exact sfree_obndV _
  case pick c a b => exact sfree_obnd _ fun k => sfree_obnd _ fun x => sfree_obnd _ fun y => sfree_onBool _ fun b => sfree_retV _
  case build t ps => exact sfree_obnd _ fun l => sfree_obndV _
  case nilCheck x => exact sfree_obnd _ fun v => sfree_checked v
  case binOp op t x y m => exact sfree_obnd _ fun a => sfree_obnd _ fun b => sfree_aBin
  case unOp op t x => exact sfree_obnd _ fun v => sfree_aUn
  case makeFunc fn f c =>
    cases fn <;> try exact sfree_none
    exact sfree_obnd _ fun a => sfree_obnd _ fun b => sfree_retV _
  case slice t x lo hi mx => exact sfree_obnd _ fun v => sfree_obnd _ fun l => sfree_obnd _ fun h => sfree_obnd _ fun m => sfree_obndV _
  case fieldAddr t x f => exact sfree_obnd _ fun v => sfree_obndV _
  case field t x f => exact sfree_obnd _ fun v => sfree_obndV _
  case indexAddr t x y => exact sfree_obnd _ fun v => sfree_obnd _ fun j => sfree_obndV _
  case index t x y => exact sfree_obnd _ fun v => sfree_obnd _ fun j => sfree_obndV _
  case extract x i => exact sfree_obnd _ fun v => sfree_obnd _ fun j => sfree_obndV _
  case call c =>
    simp only [clsOf] at h
    simp only [aOp, opCall]
    cases hc : c.callee with
    | value f => rw [hc] at h; cases h
    | invoke r m => rw [hc] at h; cases h
    | builtin b =>
      rw [hc] at h
      simp only [opCallee, opCallB]
      refine sfree_obnd _ fun l => ?_
      cases b <;> try (simp [clsC, clsB] at h; done)
      case cap => exact sfree_cap
      all_goals exact sfree_pureArgs (T := T) (ts := [])
theorem aOp_reader {T : Tab} {o : Op} {e : Tree Value} (h : clsOf o = .reader) : Keeps fun s => aOp o T e s := by
  cases o <;> try (simp [clsOf] at h; done)
  case load t x =>
    intro s r hr
    obtain ⟨p, _, hr⟩ := obnd_some (show obnd _ _ = some r from hr)
    obtain ⟨v, _, hr⟩ := obnd_some hr
    cases hr
    exact ⟨v, rfl⟩
  case call c =>
    simp only [clsOf] at h
    simp only [aOp, opCall]
    cases hc : c.callee with
    | value f => rw [hc] at h; cases h
    | invoke r m => rw [hc] at h; cases h
    | builtin b =>
      rw [hc] at h
      simp only [opCallee, opCallB]
      refine keeps_obnd _ fun l => ?_
      cases b <;> try (simp [clsC, clsB] at h; done)
      exact keeps_len
theorem aStep_pure {T : Tab} {call : CallF} {o : Oper} {e : Tree Value} {s s' : St} {v : Value} (h : clsOf o.op = .pure) (hs : aStep T call e o s = some (v, s')) (s2 : St) :
    aStep T call e o s2 = some (v, s2) := by
  obtain ⟨x, hx⟩ := aOp_pure (T := T) (e := e) h
  simp only at hx
  unfold aStep at hs ⊢
  rw [hx] at hs ⊢
  cases x with
  | none => cases hs
  | some u => cases hs; rfl
theorem aStep_reader {T : Tab} {call : CallF} {o : Oper} {e : Tree Value} {s s' : St} {v : Value} (h : clsOf o.op = .reader) (hs : aStep T call e o s = some (v, s')) : s' = s := by
  obtain ⟨r, hr, hs⟩ := obnd_some hs
  obtain ⟨u, rfl⟩ := aOp_reader (T := T) (e := e) h s r hr
  cases hs
  rfl

/-! ### the same value -/
theorem veq1_eq {a b : Value} (h : veq1 a b = true) : a = b := by
  unfold veq1 at h
  split at h <;> (try simp only [Bool.and_eq_true, beq_iff_eq, Nat.beq_eq] at h)
  all_goals first | rfl | (rw [h]; done) | (obtain ⟨h1, h2⟩ := h; rw [h1, h2]; done) | (obtain ⟨⟨⟨h1, h2⟩, h3⟩, h4⟩ := h; rw [h1, h2, h3, h4]) | (obtain ⟨h1, h2⟩ := h; rw [ieq_eq, beq_iff_eq] at h2; rw [keq_eq h1, h2]) | cases h
theorem veqL_eq : ∀ {a b : List Value}, veqL a b = true → a = b
  | [], [], _ => rfl
  | x :: a, y :: b, h => by
    simp only [veqL, Bool.and_eq_true] at h
    rw [veq1_eq h.1, veqL_eq h.2]
  | [], _ :: _, h => by cases h
  | _ :: _, [], h => by cases h
theorem veq_eq {a b : Value} (h : veq a b = true) : a = b := by
  unfold veq at h
  split at h
  · have := veqL_eq h
    rename_i x y
    cases x; cases y; simp_all
  · exact veq1_eq h
end Go.Proofs.Ytijfafacddefhaa.Ab
