/- The short run is sound over the model: a part of the proof. -/
import Derived.Test.YtijfafacddefhaaXS1
namespace Go.Proofs.Ytijfafacddefhaa.Ab
open Go.RowKit

structure Tab.Ok (T : Tab) (P : Program) : Prop where
  fn : ∀ f fn, T.fn f = some fn → P.funcs[f]? = some fn ∧ ∀ args w, (callFunc f args).run P w = .ok (.enter f args) w
  ext : ∀ f h, T.ext f = some h → ∀ (σ : Inj) (args : List Value) (args' : Array Value) v, h args = some v → LRel σ args args'.toList →
    ∃ v', VRel σ v v' ∧ ∀ w, (callFunc f args').run P w = .ok (.value v') w
  ty : ∀ t d, T.ty t = some d → P.underlying t = some d
  info : ∀ t i, T.info t = some i → P.info? t = some i
  mixed : P.follows .mixedOrders = true

def tot (cs : List Value) (es : Nat) (sp : Bool) (x : Nat) : Nat := cs.length + cond sp (x * es) 0

structure ERel (σ : Inj) (e e' : MapEntry) : Prop where
  key : VRel σ e.key e'.key
  val : VRel σ e.val e'.val
  born : e.born = e'.born
inductive MRel (σ : Inj) : List MapEntry → List MapEntry → Prop
  | nil : MRel σ [] []
  | cons {e e' : MapEntry} {l l' : List MapEntry} (h : ERel σ e e') (t : MRel σ l l') : MRel σ (e :: l) (e' :: l')
theorem MRel.mono {σ τ : Inj} (h : σ.le τ) {l l' : List MapEntry} (r : MRel σ l l') : MRel τ l l' := by
  induction r with
  | nil => exact .nil
  | cons he _ ih => exact .cons ⟨he.key.mono h, he.val.mono h, he.born⟩ ih

structure Inv (B0 : Nat) (w0 : World) (σ : Inj) (s : St) (w : World) : Prop where
  below : Below B0 w0 w
  base : B0 ≤ w.heap.size
  dom : ∀ b l, σ b = some l → b < s.next ∧ B0 ≤ l.blk ∧ l.blk < w.heap.size
  cells : ∀ b l cs es sp, σ b = some l → s.heap.get b = some (.cells cs es sp) → ∀ i v, cs[i]? = some v →
    ∃ v', w.cell? ⟨l.blk, l.off + i, none⟩ = some v' ∧ VRel σ v v'
  room : ∀ b l cs es sp, σ b = some l → s.heap.get b = some (.cells cs es sp) → ∀ i, i < tot cs es sp l.x →
    (w.cell? ⟨l.blk, l.off + i, none⟩).isSome = true ∧ w.frozen? ⟨l.blk, l.off + i, none⟩ = false
  apart : ∀ b b' l l' cs es sp cs' es' sp', b ≠ b' → σ b = some l → σ b' = some l' → s.heap.get b = some (.cells cs es sp) → s.heap.get b' = some (.cells cs' es' sp') →
    ∀ i i', i < tot cs es sp l.x → i' < tot cs' es' sp' l'.x → l.blk = l'.blk → l.off + i ≠ l'.off + i'
  maps : ∀ b l es ck, σ b = some l → s.heap.get b = some (.map es ck) → ∃ es', w.heap[l.blk]? = some (.map es' ck) ∧ MRel σ es es'.toList
  mapart : ∀ b b' l l' es ck es' ck', b ≠ b' → σ b = some l → σ b' = some l' → s.heap.get b = some (.map es ck) → s.heap.get b' = some (.map es' ck') → l.blk ≠ l'.blk

def Inj.add (σ : Inj) (b : Nat) (l : Loc) : Inj := fun i => if i = b then some l else σ i
theorem Inj.add_le {σ : Inj} {b : Nat} {l : Loc} (h : σ b = none) : σ.le (σ.add b l) := by
  intro i m hm
  unfold Inj.add
  split
  · subst_vars; rw [h] at hm; cases hm
  · exact hm
theorem Inj.add_same {σ : Inj} {b : Nat} {l : Loc} : σ.add b l b = some l := by simp [Inj.add]
theorem Inj.add_other {σ : Inj} {b i : Nat} {l : Loc} (h : i ≠ b) : σ.add b l i = σ i := by simp [Inj.add, h]

/-- what was named keeps its place -/
def Ext (N : Nat) (σ τ : Inj) : Prop := ∀ b, b < N → τ b = σ b
theorem Ext.refl {N : Nat} {σ : Inj} : Ext N σ σ := fun _ _ => rfl
theorem Ext.trans {N M : Nat} {σ τ υ : Inj} (h : Ext N σ τ) (k : Ext M τ υ) (hle : N ≤ M) : Ext N σ υ :=
  fun b hb => (k b (Nat.lt_of_lt_of_le hb hle)).trans (h b hb)
theorem Ext.le {B0 : Nat} {w0 : World} {σ τ : Inj} {s : St} {w : World} (hI : Inv B0 w0 σ s w) (h : Ext s.next σ τ) : σ.le τ :=
  fun b l hb => (h b (hI.dom b l hb).1).trans hb

section
variable {B0 : Nat} {w0 : World} {σ : Inj} {s : St} {w : World}

theorem Inv.fresh (hI : Inv B0 w0 σ s w) : σ s.next = none := by
  cases h : σ s.next with
  | none => rfl
  | some l => exact absurd (hI.dom _ _ h).1 (Nat.lt_irrefl _)

theorem Inv.drew (hI : Inv B0 w0 σ s w) : Inv B0 w0 σ s w.drew :=
  ⟨hI.below.drew, hI.base, hI.dom, hI.cells, hI.room, hI.apart, hI.maps, hI.mapart⟩

theorem get_push {s : St} {o : AObj} {b : Nat} : (s.push o).heap.get b = if b = s.next then some o else s.heap.get b := by
  simp [St.push, Tree.get_set]
theorem get_put {s : St} {o : AObj} {c b : Nat} : (s.put c o).heap.get b = if b = c then some o else s.heap.get b := by
  simp [St.put, Tree.get_set]

/-- a block that is reserved, not yet made -/
theorem Inv.reserve (hI : Inv B0 w0 σ s w) (o : AObj) : Inv B0 w0 σ (s.push o) w := by
  have key : ∀ b l, σ b = some l → (s.push o).heap.get b = s.heap.get b := fun b l hb => by
    rw [get_push, if_neg (Nat.ne_of_lt (hI.dom b l hb).1)]
  refine ⟨hI.below, hI.base, fun b l hb => ?_, fun b l cs es sp hb hg => ?_, fun b l cs es sp hb hg => ?_, fun b b' l l' cs es sp cs' es' sp' hne hb hb' hg hg' => ?_, fun b l es ck hb hg => ?_, fun b b' l l' es ck es' ck' hne hb hb' hg hg' => ?_⟩
  · have := hI.dom b l hb; exact ⟨Nat.lt_succ_of_lt this.1, this.2⟩
  · rw [key b l hb] at hg; exact hI.cells b l cs es sp hb hg
  · rw [key b l hb] at hg; exact hI.room b l cs es sp hb hg
  · rw [key b l hb] at hg; rw [key b' l' hb'] at hg'; exact hI.apart b b' l l' cs es sp cs' es' sp' hne hb hb' hg hg'
  · rw [key b l hb] at hg; exact hI.maps b l es ck hb hg
  · rw [key b l hb] at hg; rw [key b' l' hb'] at hg'; exact hI.mapart b b' l l' es ck es' ck' hne hb hb' hg hg'

/-- what is known of a block is forgotten -/
theorem Inv.forget (hI : Inv B0 w0 σ s w) (c : Nat) : Inv B0 w0 σ (s.put c .dead) w := by
  refine ⟨hI.below, hI.base, fun b l hb => hI.dom b l hb, fun b l cs es sp hb hg => ?_, fun b l cs es sp hb hg => ?_, fun b b' l l' cs es sp cs' es' sp' hne hb hb' hg hg' => ?_, fun b l es ck hb hg => ?_, fun b b' l l' es ck es' ck' hne hb hb' hg hg' => ?_⟩
  · rw [get_put] at hg; split at hg
    · cases hg
    · exact hI.cells b l cs es sp hb hg
  · rw [get_put] at hg; split at hg
    · cases hg
    · exact hI.room b l cs es sp hb hg
  · rw [get_put] at hg hg'; split at hg
    · cases hg
    · split at hg'
      · cases hg'
      · exact hI.apart b b' l l' cs es sp cs' es' sp' hne hb hb' hg hg'
  · rw [get_put] at hg; split at hg
    · cases hg
    · exact hI.maps b l es ck hb hg
  · rw [get_put] at hg hg'; split at hg
    · cases hg
    · split at hg'
      · cases hg'
      · exact hI.mapart b b' l l' es ck es' ck' hne hb hb' hg hg'

/-- a block's spare room is given up -/
theorem Inv.spent (hI : Inv B0 w0 σ s w) {c : Nat} {cs : List Value} {es : Nat} {sp : Bool} (hc : s.heap.get c = some (.cells cs es sp)) : Inv B0 w0 σ (s.put c (.cells cs es false)) w := by
  have key : ∀ b cs1 es1 sp1, (s.put c (.cells cs es false)).heap.get b = some (.cells cs1 es1 sp1) → ∃ sp2, s.heap.get b = some (.cells cs1 es1 sp2) ∧ ∀ x, tot cs1 es1 sp1 x ≤ tot cs1 es1 sp2 x := by
    intro b cs1 es1 sp1 hg
    rw [get_put] at hg
    split at hg
    · subst_vars
      cases hg
      exact ⟨sp, hc, fun x => by simp [tot]⟩
    · exact ⟨sp1, hg, fun _ => Nat.le_refl _⟩
  have keym : ∀ b es1 ck, (s.put c (.cells cs es false)).heap.get b = some (.map es1 ck) → s.heap.get b = some (.map es1 ck) := by
    intro b es1 ck hg
    rw [get_put] at hg
    split at hg
    · cases hg
    · exact hg
  refine ⟨hI.below, hI.base, fun b l hb => hI.dom b l hb, fun b l cs1 es1 sp1 hb hg => ?_, fun b l cs1 es1 sp1 hb hg i hi => ?_, fun b b' l l' cs1 es1 sp1 cs' es' sp' hne hb hb' hg hg' i i' hi hi' => ?_, fun b l es ck hb hg => ?_, fun b b' l l' es ck es' ck' hne hb hb' hg hg' => ?_⟩
  · obtain ⟨sp2, hg2, _⟩ := key _ _ _ _ hg; exact hI.cells b l cs1 es1 sp2 hb hg2
  · obtain ⟨sp2, hg2, ht⟩ := key _ _ _ _ hg; exact hI.room b l cs1 es1 sp2 hb hg2 i (Nat.lt_of_lt_of_le hi (ht _))
  · obtain ⟨sp2, hg2, ht⟩ := key _ _ _ _ hg
    obtain ⟨sp3, hg3, ht3⟩ := key _ _ _ _ hg'
    exact hI.apart b b' l l' cs1 es1 sp2 cs' es' sp3 hne hb hb' hg2 hg3 i i' (Nat.lt_of_lt_of_le hi (ht _)) (Nat.lt_of_lt_of_le hi' (ht3 _))
  · exact hI.maps b l es ck hb (keym _ _ _ hg)
  · exact hI.mapart b b' l l' es ck es' ck' hne hb hb' (keym _ _ _ hg) (keym _ _ _ hg')

theorem cell_alloc_old {w : World} {o : Obj} {p : Addr} {v : Value} (h : w.cell? p = some v) : (w.alloc o).cell? p = some v := by
  exact (World.cell?_of_block (w := w) (w' := w.alloc o) (Below.heap_alloc w o _ (World.block_lt_of_cell? w p h))).trans h

/-- a block that was reserved is made: of cells -/
theorem Inv.make (hI : Inv B0 w0 σ s w) {r : Nat} (hr : σ r = none) (hn : r < s.next) {cs : List Value} {es : Nat} {sp : Bool} (hg : s.heap.get r = some (.cells cs es sp))
    {C : Array Value} {t : TypeId} {x : Nat} (hC : ∀ (i : Nat) (v : Value), cs[i]? = some v → ∃ v' : Value, C[(i : Nat)]? = some v' ∧ VRel σ v v') (hs : tot cs es sp x ≤ C.size) :
    Inv B0 w0 (σ.add r ⟨w.heap.size, 0, x⟩) s (w.alloc (.cells C t)) := by
  have hle := Inj.add_le (l := ⟨w.heap.size, 0, x⟩) hr
  have cases' : ∀ b l, σ.add r ⟨w.heap.size, 0, x⟩ b = some l → (b = r ∧ l = ⟨w.heap.size, 0, x⟩) ∨ (b ≠ r ∧ σ b = some l) := by
    intro b l hb
    by_cases h : b = r
    · subst h; rw [Inj.add_same] at hb; cases hb; exact .inl ⟨rfl, rfl⟩
    · rw [Inj.add_other h] at hb; exact .inr ⟨h, hb⟩
  refine ⟨hI.below.alloc hI.base _, by simp; exact Nat.le_succ_of_le hI.base, fun b l hb => ?_, fun b l cs1 es1 sp1 hb hg1 i v hv => ?_, fun b l cs1 es1 sp1 hb hg1 i hi => ?_, fun b b' l l' cs1 es1 sp1 cs' es' sp' hne hb hb' hg1 hg' i i' hi hi' hblk => ?_, fun b l es1 ck hb hg1 => ?_, fun b b' l l' es1 ck es' ck' hne hb hb' hg1 hg' => ?_⟩
  · rcases cases' b l hb with ⟨rfl, rfl⟩ | ⟨_, hb⟩
    · exact ⟨hn, hI.base, by simp⟩
    · have := hI.dom b l hb; exact ⟨this.1, this.2.1, by simp; omega⟩
  · rcases cases' b l hb with ⟨rfl, rfl⟩ | ⟨_, hb⟩
    · rw [hg] at hg1; cases hg1
      obtain ⟨v', hv', hr'⟩ := hC i v hv
      refine ⟨v', ?_, hr'.mono hle⟩
      simp only [Nat.zero_add]
      rw [World.cell?_alloc_new]
      exact hv'
    · obtain ⟨v', hc, hr'⟩ := hI.cells b l cs1 es1 sp1 hb hg1 i v hv
      exact ⟨v', cell_alloc_old hc, hr'.mono hle⟩
  · rcases cases' b l hb with ⟨rfl, rfl⟩ | ⟨_, hb⟩
    · rw [hg] at hg1; cases hg1
      simp only [Nat.zero_add]
      have hi' : i < C.size := Nat.lt_of_lt_of_le hi hs
      refine ⟨?_, World.frozen?_alloc_new w C t i⟩
      rw [World.cell?_alloc_new]
      simp [hi']
    · obtain ⟨h1, h2⟩ := hI.room b l cs1 es1 sp1 hb hg1 i hi
      obtain ⟨v, hv⟩ := Option.isSome_iff_exists.1 h1
      refine ⟨by rw [cell_alloc_old hv]; rfl, ?_⟩
      rw [World.frozen?_alloc_old]
      · exact h2
      · have := (hI.dom b l hb).2.2; simp; omega
  · rcases cases' b l hb with ⟨rfl, rfl⟩ | ⟨_, hb2⟩
    · rcases cases' b' l' hb' with ⟨rfl, rfl⟩ | ⟨_, hb2'⟩
      · exact absurd rfl hne
      · have := (hI.dom b' l' hb2').2.2; simp at hblk; omega
    · rcases cases' b' l' hb' with ⟨rfl, rfl⟩ | ⟨_, hb2'⟩
      · have := (hI.dom b l hb2).2.2; simp at hblk; omega
      · exact hI.apart b b' l l' cs1 es1 sp1 cs' es' sp' hne hb2 hb2' hg1 hg' i i' hi hi' hblk
  · rcases cases' b l hb with ⟨rfl, rfl⟩ | ⟨_, hb2⟩
    · rw [hg] at hg1; cases hg1
    · obtain ⟨es', he, hm⟩ := hI.maps b l es1 ck hb2 hg1
      refine ⟨es', ?_, hm.mono hle⟩
      rw [Below.heap_alloc _ _ _ (hI.dom b l hb2).2.2]
      exact he
  · rcases cases' b l hb with ⟨rfl, rfl⟩ | ⟨_, hb2⟩
    · rw [hg] at hg1; cases hg1
    · rcases cases' b' l' hb' with ⟨rfl, rfl⟩ | ⟨_, hb2'⟩
      · rw [hg] at hg'; cases hg'
      · exact hI.mapart b b' l l' es1 ck es' ck' hne hb2 hb2' hg1 hg'

theorem Inv.push (hI : Inv B0 w0 σ s w) {cs : List Value} {es : Nat} {sp : Bool} {C : Array Value} {t : TypeId} {x : Nat}
    (hC : ∀ (i : Nat) (v : Value), cs[i]? = some v → ∃ v' : Value, C[(i : Nat)]? = some v' ∧ VRel σ v v') (hs : tot cs es sp x ≤ C.size) :
    Inv B0 w0 (σ.add s.next ⟨w.heap.size, 0, x⟩) (s.push (.cells cs es sp)) (w.alloc (.cells C t)) :=
  (hI.reserve (.cells cs es sp)).make hI.fresh (Nat.lt_succ_self _) (by rw [get_push, if_pos rfl]) hC hs
theorem ext_add {N b : Nat} {l : Loc} (h : N ≤ b) : Ext N σ (σ.add b l) := fun i hi => Inj.add_other (by omega)

theorem read_spec {b off n : Nat} {vs : List Value} (h : s.read b off n = some vs) :
    ∃ cs es sp, s.heap.get b = some (.cells cs es sp) ∧ vs = (cs.drop off).take n ∧ off + n ≤ cs.length ∨ n = 0 ∧ vs = [] ∧ s.heap.get b = some (.cells cs es sp) := by
  obtain ⟨cs, es, sp, hg, hf⟩ := objCells_some h
  obtain ⟨rfl, hl⟩ := takeN_spec hf
  simp at hl
  by_cases h0 : n = 0
  · exact ⟨cs, es, sp, .inr ⟨h0, by simp [h0], hg⟩⟩
  · exact ⟨cs, es, sp, .inl ⟨hg, rfl, by omega⟩⟩

theorem Inv.read (hI : Inv B0 w0 σ s w) {b off n : Nat} {vs : List Value} {l : Loc} (hb : σ b = some l) (h : s.read b off n = some vs) :
    ∃ vs', vs'.length = n ∧ LRel σ vs vs' ∧ ∀ j v, vs'[j]? = some v → w.cell? ⟨l.blk, l.off + off + j, none⟩ = some v := by
  obtain ⟨cs, es, sp, hg, hf⟩ := objCells_some h
  obtain ⟨rfl, hl⟩ := takeN_spec hf
  simp at hl
  have hc := hI.cells b l cs es sp hb hg
  clear h hf
  induction n generalizing off with
  | zero => exact ⟨[], rfl, by simpa using .nil, by simp⟩
  | succ n ih =>
    obtain ⟨vs', h1, h2, h3⟩ := ih (off := off + 1) (by omega)
    have hlt : off < cs.length := by omega
    obtain ⟨v', hv', hr⟩ := hc off cs[off] (by simp [hlt])
    refine ⟨v' :: vs', by simp [h1], ?_, ?_⟩
    · rw [List.drop_eq_getElem_cons hlt]
      simp only [List.take_succ_cons]
      exact .cons hr h2
    · intro j v hj
      cases j with
      | zero => simp at hj; subst hj; simpa using hv'
      | succ j =>
        have := h3 j v (by simpa using hj)
        rwa [show l.off + off + (j + 1) = l.off + (off + 1) + j by omega]

theorem write_spec {s s' : St} {b off : Nat} {vs : List Value} (h : s.write b off vs = some s') :
    vs.all one = true ∧ ∃ cs es sp r, s.heap.get b = some (.cells cs es sp) ∧ writeL off cs vs = some r ∧ s' = s.put b (.cells r es sp) := by
  obtain ⟨h1, h⟩ := cond_some h
  obtain ⟨cs, es, sp, hg, h⟩ := objCells_some h
  obtain ⟨r, hr, h⟩ := obnd_some h
  cases h
  exact ⟨h1, cs, es, sp, r, hg, hr, rfl⟩

theorem cell_setCells_out {w : World} {b : Nat} : ∀ (vs : List Value) (o : Nat) {p : Addr}, (p.block = b → p.spot = none → ∀ i, i < vs.length → p.off ≠ o + i) → (w.setCells b o vs).cell? p = w.cell? p := by
  intro vs
  induction vs generalizing w with
  | nil => intros; rfl
  | cons v vs ih =>
    intro o p h
    rw [World.setCells, ih (o + 1)]
    · rw [World.cell?_setCell_other]
      intro e
      subst e
      exact h rfl rfl 0 (by simp) (by simp)
    · intro h1 h2 i hi
      have := h h1 h2 (i + 1) (by simpa using hi)
      omega
theorem heap_setCells {w : World} {b : Nat} : ∀ (vs : List Value) (o : Nat) {k : Nat}, k ≠ b → (w.setCells b o vs).heap[k]? = w.heap[k]? := by
  intro vs
  induction vs generalizing w with
  | nil => intros; rfl
  | cons v vs ih =>
    intro o k h
    rw [World.setCells, ih (o + 1) h, Below.heap_setCell _ _ _ _ h]
theorem size_setCells {w : World} {b : Nat} : ∀ (vs : List Value) (o : Nat), (w.setCells b o vs).heap.size = w.heap.size := by
  intro vs
  induction vs generalizing w with
  | nil => intros; rfl
  | cons v vs ih => intro o; rw [World.setCells, ih (o + 1), World.size_setCell]
theorem below_setCells {B0 : Nat} {w0 : World} {b : Nat} (hb : B0 ≤ b) : ∀ (vs : List Value) (o : Nat) {w : World}, Below B0 w0 w → Below B0 w0 (w.setCells b o vs) := by
  intro vs
  induction vs with
  | nil => intro o w h; exact h
  | cons v vs ih => intro o w h; rw [World.setCells]; exact ih (o + 1) (h.setCell hb v)

/-- cells are written that a named block has, or owns -/
theorem Inv.setCells (hI : Inv B0 w0 σ s w) {b : Nat} {l : Loc} (hb : σ b = some l) {cs : List Value} {es : Nat} {sp : Bool} (hg : s.heap.get b = some (.cells cs es sp))
    {off : Nat} {vs' : List Value} (hoff : off + vs'.length ≤ tot cs es sp l.x) {r : List Value} (hlen : r.length = cs.length)
    (hr : ∀ i v, r[i]? = some v → (off ≤ i ∧ i < off + vs'.length ∧ ∃ v', vs'[i - off]? = some v' ∧ VRel σ v v') ∨ (¬ (off ≤ i ∧ i < off + vs'.length) ∧ cs[i]? = some v)) :
    Inv B0 w0 σ (s.put b (.cells r es sp)) (w.setCells l.blk (l.off + off) vs') := by
  have htot : tot r es sp l.x = tot cs es sp l.x := by simp [tot, hlen]
  have hcin : ∀ i, i < vs'.length → (w.cell? ⟨l.blk, l.off + off + i, none⟩).isSome = true := fun i hi => by
    have := (hI.room b l cs es sp hb hg (off + i) (by omega)).1
    rwa [show l.off + off + i = l.off + (off + i) by omega]
  have other : ∀ b1 l1 cs1 es1 sp1, b1 ≠ b → σ b1 = some l1 → s.heap.get b1 = some (.cells cs1 es1 sp1) → ∀ i, i < tot cs1 es1 sp1 l1.x →
      (w.setCells l.blk (l.off + off) vs').cell? ⟨l1.blk, l1.off + i, none⟩ = w.cell? ⟨l1.blk, l1.off + i, none⟩ := by
    intro b1 l1 cs1 es1 sp1 hne hb1 hg1 i hi
    refine cell_setCells_out vs' _ fun hblk _ j hj => ?_
    have := hI.apart b1 b l1 l cs1 es1 sp1 cs es sp hne hb1 hb hg1 hg i (off + j) hi (by omega) hblk
    simp only
    omega
  refine ⟨below_setCells (hI.dom b l hb).2.1 _ _ hI.below, by rw [size_setCells]; exact hI.base, fun b1 l1 hb1 => by rw [size_setCells]; exact hI.dom b1 l1 hb1, fun b1 l1 cs1 es1 sp1 hb1 hg1 i v hv => ?_, fun b1 l1 cs1 es1 sp1 hb1 hg1 i hi => ?_, fun b1 b' l1 l' cs1 es1 sp1 cs' es' sp' hne hb1 hb' hg1 hg' i i' hi hi' hblk => ?_, fun b1 l1 es1 ck hb1 hg1 => ?_, fun b1 b' l1 l' es1 ck es' ck' hne hb1 hb' hg1 hg' => ?_⟩
  · rw [get_put] at hg1
    split at hg1
    · rename_i heq
      cases hg1
      rw [heq, hb] at hb1; cases hb1
      rcases hr i v hv with ⟨h1, h2, v', hv', hrel⟩ | ⟨h1, h2⟩
      · refine ⟨v', ?_, hrel⟩
        have := World.cell?_setCells_in l.blk vs' (l.off + off) w hcin (i - off) (by omega)
        obtain ⟨_, e⟩ := List.getElem?_eq_some_iff.1 hv'
        rw [show l.off + i = l.off + off + (i - off) by omega, this, e]
      · obtain ⟨v', hc, hrel⟩ := hI.cells b l cs es sp hb hg i v h2
        refine ⟨v', ?_, hrel⟩
        rw [cell_setCells_out]
        · exact hc
        · intro _ _ j hj; simp only; omega
    · rename_i hne
      obtain ⟨v', hc, hrel⟩ := hI.cells b1 l1 cs1 es1 sp1 hb1 hg1 i v hv
      have hi : i < cs1.length := (List.getElem?_eq_some_iff.1 hv).1
      exact ⟨v', by rw [other b1 l1 cs1 es1 sp1 hne hb1 hg1 i (by unfold tot; omega)]; exact hc, hrel⟩
  · rw [get_put] at hg1
    rw [World.frozen?_setCells]
    split at hg1
    · rename_i heq
      cases hg1
      rw [heq, hb] at hb1; cases hb1
      rw [htot] at hi
      obtain ⟨h1, h2⟩ := hI.room b l cs es sp hb hg i hi
      refine ⟨?_, h2⟩
      by_cases hin : off ≤ i ∧ i < off + vs'.length
      · have := World.cell?_setCells_in l.blk vs' (l.off + off) w hcin (i - off) (by omega)
        rw [show l.off + i = l.off + off + (i - off) by omega, this]
        rfl
      · rw [cell_setCells_out]
        · exact h1
        · intro _ _ j hj; simp only; omega
    · rename_i hne
      obtain ⟨h1, h2⟩ := hI.room b1 l1 cs1 es1 sp1 hb1 hg1 i hi
      exact ⟨by rw [other b1 l1 cs1 es1 sp1 hne hb1 hg1 i hi]; exact h1, h2⟩
  · have conv : ∀ b2 cs2 es2 sp2, (s.put b (.cells r es sp)).heap.get b2 = some (.cells cs2 es2 sp2) → ∃ cs3, s.heap.get b2 = some (.cells cs3 es2 sp2) ∧ cs3.length = cs2.length := by
      intro b2 cs2 es2 sp2 h2
      rw [get_put] at h2
      split at h2
      · subst_vars; cases h2; exact ⟨cs, hg, hlen.symm⟩
      · exact ⟨cs2, h2, rfl⟩
    obtain ⟨c3, hg3, e3⟩ := conv _ _ _ _ hg1
    obtain ⟨c4, hg4, e4⟩ := conv _ _ _ _ hg'
    exact hI.apart b1 b' l1 l' c3 es1 sp1 c4 es' sp' hne hb1 hb' hg3 hg4 i i' (by simpa [tot, e3] using hi) (by simpa [tot, e4] using hi') hblk
  · rw [get_put] at hg1
    split at hg1
    · cases hg1
    · obtain ⟨es', he, hm⟩ := hI.maps b1 l1 es1 ck hb1 hg1
      refine ⟨es', ?_, hm⟩
      by_cases hvs : vs' = []
      · subst hvs; exact he
      · have hpos : 0 < vs'.length := List.length_pos_iff.2 hvs
        rw [heap_setCells]
        · exact he
        · intro e
          have hcell := hcin 0 hpos
          simp only [World.cell?, ← e, he] at hcell
          cases hcell
  · rw [get_put] at hg1 hg'
    split at hg1
    · cases hg1
    · split at hg'
      · cases hg'
      · exact hI.mapart b1 b' l1 l' es1 ck es' ck' hne hb1 hb' hg1 hg'

theorem Inv.write (hI : Inv B0 w0 σ s w) {b : Nat} {l : Loc} (hb : σ b = some l) {s' : St} {off : Nat} {vs vs' : List Value} (h : s.write b off vs = some s') (hv : LRel σ vs vs') :
    Inv B0 w0 σ s' (w.setCells l.blk (l.off + off) vs') ∧ s'.next = s.next ∧
    (∀ P : Program, (storeCells ⟨l.blk, l.off + off, none⟩ vs').run P w = .ok () (w.setCells l.blk (l.off + off) vs')) := by
  obtain ⟨h1, cs, es, sp, r, hg, hr, rfl⟩ := write_spec h
  obtain ⟨hle, _⟩ := writeL_spec hr
  have hl := hv.length
  have hroom : ∀ j, j < vs'.length → (w.cell? ⟨l.blk, l.off + off + j, none⟩).isSome = true ∧ w.frozen? ⟨l.blk, l.off + off + j, none⟩ = false := fun j hj => by
    have := hI.room b l cs es sp hb hg (off + j) (by unfold tot; omega)
    rwa [show l.off + off + j = l.off + (off + j) by omega]
  refine ⟨hI.setCells hb hg (by unfold tot; omega) (writeL_length hr) fun i v hi => ?_, rfl, fun P => ?_⟩
  · rw [writeL_get hr] at hi
    split at hi
    · rename_i hin
      obtain ⟨v', hv', hrel⟩ := hv.get _ _ hi
      exact .inl ⟨hin.1, by omega, v', hv', hrel⟩
    · rename_i hin
      exact .inr ⟨by rw [hl]; exact hin, hi⟩
  · have := run_storeCells_cells (P := P) l.blk (l.off + off) vs' 0 w (fun j hj => by simpa using (hroom j hj).1) (fun j hj => by simpa using (hroom j hj).2) (ones_rel hv h1)
    simpa using this
end
end Go.Proofs.Ytijfafacddefhaa.Ab
