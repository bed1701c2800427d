/- The walk of 'cloakroom/cloakroomlaw16.CacheLast': from its parts, by the names of the pages, to its call; no condition beyond those typed. -/
import Derived.Test.YtijfafacddefhaaKH
namespace Go.Proofs.Ytijfafacddefhaa.cacheLast
open Ab
open Go.RowKit
set_option linter.unusedSectionVars false

/-! ### names for what is at hand -/
def clean (v : Value) : Value :=
  match v with
  | .agg _ => iv 0
  | .bool _ => iv 0
  | v => v
theorem clean_agg (v : Value) (xs : Array Value) : clean v ≠ .agg xs := by cases v <;> simp [clean, iv]
theorem clean_bool (v : Value) (b : Bool) : clean v ≠ .bool b := by cases v <;> simp [clean, iv]
theorem nodup_bound : ∀ (n : Nat) (l : List Nat), l.Nodup → (∀ x ∈ l, x < n) → l.length ≤ n
  | 0, [], _, _ => Nat.le_refl _
  | 0, x :: _, _, h => absurd (h x List.mem_cons_self) (by omega)
  | n + 1, l, hnd, h => by
    have h2 : ∀ x ∈ l.erase n, x < n := by
      intro x hx
      have h3 := (List.Nodup.mem_erase_iff hnd).1 hx
      have := h x h3.2
      omega
    have ih := nodup_bound n (l.erase n) (hnd.erase n) h2
    by_cases hm : n ∈ l
    · rw [List.length_erase_of_mem hm] at ih; omega
    · rw [List.erase_of_not_mem hm] at ih; omega
theorem getD_inj {ns : List Nat} (h : ns.Nodup) {i j : Nat} (hi : i < ns.length) (hj : j < ns.length) (e : ns.getD i 0 = ns.getD j 0) : i = j := by
  rw [List.getD_eq_getElem?_getD, List.getD_eq_getElem?_getD, List.getElem?_eq_getElem hi, List.getElem?_eq_getElem hj] at e
  have key : ∀ {i j : Nat} (hi : i < ns.length) (hj : j < ns.length), i < j → ns[i] ≠ ns[j] := fun hi hj hlt => List.pairwise_iff_getElem.1 h _ _ hi hj hlt
  have e : ns[i] = ns[j] := by simpa using e
  rcases Nat.lt_trichotomy i j with hlt | heq | hgt
  · exact absurd e (key hi hj hlt)
  · exact heq
  · exact absurd e.symm (key hj hi hgt)
@[reducible] def names (ns : List Nat) (hnd : ns.Nodup) (hlt : ∀ x ∈ ns, x < 6) (pa : Option Addr) (pc L i : Nat) (hL : L ≤ 100) (tm : Nat → Value) : Tok where
  cnt := ns.length
  num j := ns.getD j 0
  inj := fun _ _ hi hj e => getD_inj hnd hi hj e
  lt := fun j hj => by
    rw [List.getD_eq_getElem?_getD, List.getElem?_eq_getElem hj]
    exact hlt _ (List.getElem_mem hj)
  ext k := match k with
    | 0 => .slice pa L pc
    | 1 => iv L
    | 2 => iv i
    | 3 => iv 101
    | 4 => .slice none 101 101
    | k + 5 => clean (tm k)
  extOne := fun k xs => by
    match k with
    | 0 => simp
    | 1 => simp [iv]
    | 2 => simp [iv]
    | 3 => simp [iv]
    | 4 => simp
    | k + 5 => exact clean_agg _ _
  extBool := fun k b => by
    match k with
    | 0 => simp
    | 1 => simp [iv]
    | 2 => simp [iv]
    | 3 => simp [iv]
    | 4 => simp
    | k + 5 => exact clean_bool _ _
  short := ⟨pa, L, pc, rfl, rfl, hL⟩
  long := ⟨none, 101, 101, rfl, rfl, by omega⟩
@[reducible] def namesBig (pa : Option Addr) (pc L : Nat) (hL : 100 < L) : Tok where
  cnt := 0
  num _ := 0
  inj := fun _ _ hi _ _ => absurd hi (Nat.not_lt_zero _)
  lt := fun _ hj => absurd hj (Nat.not_lt_zero _)
  ext k := match k with
    | 0 => .slice none 0 0
    | 4 => .slice pa L pc
    | 3 => iv L
    | _ => iv 0
  extOne := fun k xs => by
    match k with
    | 0 => simp
    | 1 => simp [iv]
    | 2 => simp [iv]
    | 3 => simp [iv]
    | 4 => simp
    | k + 5 => simp [iv]
  extBool := fun k b => by
    match k with
    | 0 => simp
    | 1 => simp [iv]
    | 2 => simp [iv]
    | 3 => simp [iv]
    | 4 => simp
    | k + 5 => simp [iv]
  short := ⟨none, 0, 0, rfl, rfl, by omega⟩
  long := ⟨pa, L, pc, rfl, rfl, hL⟩

/-! ### the head under other names -/
section
variable [τ : Tok] {τ' : Unit → Tok} {σ : Inj}
theorem weak_slice (a : Option Addr) (n c : Nat) : Weak τ' σ σ (.slice a n c) (.slice a n c) := fun u h => by
  cases h with
  | nilSlice => exact @VRel.nilSlice (τ' ()) _ _ _
  | slice hb hc => exact @VRel.slice (τ' ()) _ _ _ _ _ _ hb hc
  | sliceO hb => exact @VRel.sliceO (τ' ()) _ _ _ _ _ _ hb
  | sliceE hb hx a => exact @VRel.sliceE (τ' ()) _ _ _ _ hb hx a
  | slice0 a a' => exact @VRel.slice0 (τ' ()) _ a a'
theorem weak_ptr (b o : Nat) : Weak τ' σ σ (.pointer (some ⟨b, o, none⟩)) (.pointer (some ⟨b, o, none⟩)) := fun u h => by
  cases h with
  | ptr hb => exact @VRel.ptr (τ' ()) _ _ _ _ hb
theorem weak_ord (k : Nat) : Weak τ' σ σ (ordV k) (ordV k) := by
  unfold ordV
  cases Nat.beq k 0 <;> exact weak_slice _ _ _
theorem upto_get : ∀ {n i j q : Nat}, (upto n i)[j]? = some q → q = i + j ∧ j < n
  | 0, i, j, q, h => by simp [upto] at h
  | n + 1, i, 0, q, h => by simp [upto] at h; omega
  | n + 1, i, j + 1, q, h => by
    have := upto_get (n := n) (i := i + 1) (j := j) (q := q) (by simpa [upto] using h)
    omega
theorem inv_names {B0 : Nat} {w0 w : World} {many k : Nat} (hI : Inv B0 w0 σ (canonS many k) w) (hc : k + 1 ≤ (τ' ()).cnt) (hn : ∀ j, j ≤ k → (τ' ()).num j = τ.num j) : @Ab.Inv (τ' ()) B0 w0 σ (canonS many k) w := by
  have hlen := upto_length k 1
  have hw2 : Weaks τ' σ σ (toks (upto k 1)) (toks (upto k 1)) := by
    have := weaks_toks (τ := τ) (τ' := τ') (σ := σ) (σ' := σ) (P := upto k 1) (i := 1) (by rw [hlen]; omega) fun j q hj => by
      obtain ⟨rfl, hjk⟩ := upto_get hj
      exact hn _ (by omega)
    rwa [hlen] at this
  have hw1 : Weaks τ' σ σ (entC (tk 0) 1 (ents (upto k 1))) (entC (tk 0) 1 (ents (upto k 1))) := by
    have := weaks_ents (τ := τ) (τ' := τ') (σ := σ) (σ' := σ) (P := upto k 1) (i := 1) (by rw [hlen]; omega) fun j q hj => by
      obtain ⟨rfl, hjk⟩ := upto_get hj
      exact hn _ (by omega)
    rw [hlen] at this
    exact weaks_ent (by omega) (hn 0 (by omega)) this
  refine @Ab.Inv.mk (τ' ()) _ _ _ _ _ hI.below hI.base hI.dom (fun b l cs es sp hb hgc i v hv => ?_) hI.room hI.apart (fun b l o hb hgc hw => ?_) hI.mapart
  · obtain ⟨u, hu, hr⟩ := hI.cells b l cs es sp hb hgc i v hv
    refine ⟨u, hu, ?_⟩
    rcases canon_get hgc with ⟨_, hh⟩ | ⟨_, hh⟩ | ⟨_, hh⟩
    · cases hh
      match i, hv with
      | 0, hv => cases hv; exact (weak_int (τ' := τ') (σ := σ) (σ' := σ) .i64 (.ofNat many)) u hr
      | 1, hv => cases hv; exact weak_slice (τ' := τ') _ _ _ u hr
      | i + 2, hv => simp at hv
    · cases hh
      obtain ⟨v0, hv0, hwk⟩ := hw1.get i v hv
      rw [hv] at hv0
      cases hv0
      exact hwk u hr
    · cases hh
      obtain ⟨v0, hv0, hwk⟩ := hw2.get i v hv
      rw [hv] at hv0
      cases hv0
      exact hwk u hr
  · rcases canon_get hgc with ⟨_, rfl⟩ | ⟨_, rfl⟩ | ⟨_, rfl⟩ <;> exact hw.elim
end

/-! ### the frame at the loop's head -/
structure Pages (B0 : Nat) (w0 : World) (many keep : Nat) (order : List Nat) (u7 u8 : Value) (w : World) (τ : Tok) (σ : Inj) : Prop where
  cnt : order.length + 1 ≤ τ.cnt
  zero : τ.num 0 = keep
  num : ∀ j x, order[j]? = some x → τ.num (j + 1) = x
  inv : @Ab.Inv τ B0 w0 σ (canonS many order.length) w
  ptr : @VRel τ σ (.pointer (some ⟨0, 0, none⟩)) u7
  ord : @VRel τ σ (ordV order.length) u8
structure Head (B0 : Nat) (w0 : World) (many keep : Nat) (order : List Nat) (pa : Option Addr) (pc L i : Nat) (a : Act) (w : World) : Prop where
  size : a.tmps.size = 118
  t0 : a.tmps.getD 0 undef = iv many
  t1 : a.tmps.getD 1 undef = .slice pa L pc
  t2 : a.tmps.getD 2 undef = iv keep
  t6 : a.tmps.getD 6 undef = .bool false
  t45 : a.tmps.getD 45 undef = .slice pa L pc
  t46 : a.tmps.getD 46 undef = iv L
  t47 : a.tmps.getD 47 undef = iv i
  nodup : (keep :: order).Nodup
  lt : ∀ x ∈ keep :: order, x < 6
  short : order.length < many
  defers : a.defers = []
  pages : ∃ τ σ, Pages B0 w0 many keep order (a.tmps.getD 7 undef) (a.tmps.getD 8 undef) w τ σ
theorem Pages.names {B0 : Nat} {w0 w : World} {many keep : Nat} {order : List Nat} {u7 u8 : Value} {τ : Tok} {σ : Inj} (h : Pages B0 w0 many keep order u7 u8 w τ σ) (τ' : Unit → Tok)
    (hc : order.length + 1 ≤ (τ' ()).cnt) (h0 : (τ' ()).num 0 = keep) (hn : ∀ j x, order[j]? = some x → (τ' ()).num (j + 1) = x) : Pages B0 w0 many keep order u7 u8 w (τ' ()) σ := by
  refine ⟨hc, h0, hn, @inv_names τ τ' σ _ _ _ _ _ h.inv hc fun j hj => ?_, @weak_ptr τ τ' σ _ _ _ h.ptr, @weak_ord τ τ' σ _ _ h.ord⟩
  cases j with
  | zero => rw [h0, h.zero]
  | succ j =>
    have hlt : j < order.length := by omega
    have e : order[j]? = some order[j] := List.getElem?_eq_getElem hlt
    rw [hn j _ e, h.num j _ e]

/-! ### a frame to the letter -/
def exJ (tmps : Array Value) (t : Nat) : Value :=
  match tmps.getD t undef with
  | .bool b => .bool b
  | .agg _ => .chan none
  | _ => xt (t + 5)
theorem exJ_rel [τ : Tok] {σ : Inj} {tmps : Array Value} (hx : ∀ t, τ.ext (t + 5) = clean (tmps.getD t undef)) (t : Nat) : VRel σ (exJ tmps t) (tmps.getD t undef) := by
  unfold exJ
  have h := hx t
  generalize tmps.getD t undef = u at h
  cases u <;> first
    | exact .bool _
    | exact .any _ (fun b hb => by cases hb)
    | (show VRel σ (xt (t + 5)) _; simp only [clean] at h; rw [← h]; exact .ext _)
theorem exJ_inv [τ : Tok] {σ : Inj} {tmps : Array Value} (hx : ∀ t, τ.ext (t + 5) = clean (tmps.getD t undef)) {t : Nat} {u : Value} (hn : ∀ xs, tmps.getD t undef ≠ .agg xs) (h : VRel σ (exJ tmps t) u) : u = tmps.getD t undef := by
  unfold exJ at h
  have h5 := hx t
  generalize tmps.getD t undef = v at *
  have ext : ∀ {k : Nat} {u : Value}, VRel σ (xt k) u → u = τ.ext k := by
    intro k u h
    cases h
    rfl
  cases v <;> first
    | (cases h; rfl)
    | exact absurd rfl (hn _)
    | (rw [ext h, h5]; rfl)
theorem rel_plain [τ : Tok] {σ : Inj} {v u : Value} (hp : plain1 v = true) (h : VRel σ v u) : u = v := VRel.eq_of_plain1 hp h

/-- what a part leaves as it was, and what it sets -/
structure Stay (a : Act) (r : Option Res) (a' : Act) : Prop where
  size : a'.tmps.size = 118
  defers : a'.defers = []
  kept : ∀ t, t < 118 → Has r t (exJ a.tmps t) → (∀ xs, a.tmps.getD t undef ≠ .agg xs) → a'.tmps.getD t undef = a.tmps.getD t undef
  set : ∀ t v, t < 118 → Has r t v → plain1 v = true → a'.tmps.getD t undef = v

section
variable {P : Program} {B0 : Nat} {w0 : World} {many keep : Nat} {order : List Nat} {pa : Option Addr} {pc L i : Nat} {a : Act} {w : World} {F : Fence} {m : Nat} {Q : Exit → Act → World → Prop}
theorem Marked.nil {σ : Inj} {e : Tree Value} {ds : List Deferred} (h : Marked σ e ds) (hm : noMarks e = true) : ds = [] := by
  obtain ⟨ids, h1, h2⟩ := h
  unfold noMarks at hm
  split at hm
  · rename_i hg
    unfold marksE at h1
    rw [hg] at h1
    cases h1
    cases h2
    rfl
  · cases hm
theorem marked_nil {σ : Inj} {e : Tree Value} (hm : noMarks e = true) : Marked σ e [] := by
  unfold noMarks at hm
  split at hm
  · rename_i hg
    exact ⟨[], by unfold marksE; rw [hg]; rfl, .nil⟩
  · cases hm
theorem envOf_noMarks [Tok] {l : List (Nat × Value)} {j : Nat → Value} : noMarks (envOf l j) = true := by
  have : (envOf l j).get 1099511627776 = none := by
    rw [show (envOf l j).get 1099511627776 = _ from mkT_get 7 _ _]
    rw [if_neg (by omega)]
  unfold noMarks
  rw [this]
theorem callOk [Tok] : CallOk Try.prog B0 w0 ca := aCallP_sound tabOk (fun f h hh => by cases hh) 1000000 60
/-- the names that stand for a frame to the letter -/
@[reducible] def lit (H : Head B0 w0 many keep order pa pc L i a w) (hL : L ≤ 100) : Unit → Tok := fun _ => names (keep :: order) H.nodup H.lt pa pc L i hL fun t => a.tmps.getD t undef
theorem lit_pages (H : Head B0 w0 many keep order pa pc L i a w) (hL : L ≤ 100) : ∃ σ, Pages B0 w0 many keep order (a.tmps.getD 7 undef) (a.tmps.getD 8 undef) w (lit H hL ()) σ := by
  obtain ⟨τ, σ, h⟩ := H.pages
  refine ⟨σ, h.names (lit H hL) (Nat.le_refl _) rfl fun j x hj => ?_⟩
  show (keep :: order).getD (j + 1) 0 = x
  simp [List.getD_eq_getElem?_getD, hj]

theorem envEx_rel [τ : Tok] {σ : Inj} {tmps : Array Value} {l : List (Nat × Value)} (hs : tmps.size = 118) (hx : ∀ t, τ.ext (t + 5) = clean (tmps.getD t undef)) (hl : ∀ p ∈ l, p.1 < 118 ∧ plain1 p.2 = true ∧ tmps.getD p.1 undef = p.2) :
    EnvRel σ 118 (envOf l (exJ tmps)) tmps := by
  have hget : ∀ t, (envOf l (exJ tmps)).get t = if t + 1 < 128 then orJ (exJ tmps) t (assocN l t) else none := fun t => mkT_get 7 _ t
  have hout : ∀ t, 118 ≤ t → (envOf l (exJ tmps)).get t = none := by
    intro t ht
    rw [hget]
    split
    · have ha : assocN l t = none := by
        cases ha : assocN l t with
        | none => rfl
        | some v => have := (hl _ (assocN_mem ha)).1; simp only at this; omega
      have : Nat.blt t 118 = false := by
        cases hb : Nat.blt t 118 with
        | false => rfl
        | true => have := blt_true hb; omega
      rw [ha]
      simp [orJ, this]
    · rfl
  refine ⟨hs, by omega, fun t ht => ?_, fun t ht _ => hout t ht, fun v hv => ?_⟩
  · have e : tmps.getD t undef = tmps[t] := by simp [Array.getD, ht]
    rw [hget, if_pos (by omega)]
    cases ha : assocN l t with
    | some v =>
      obtain ⟨_, h2, h3⟩ := hl _ (assocN_mem ha)
      simp only at h2 h3
      rw [← e, h3]
      exact VRel.plain1 h2
    | none =>
      have : Nat.blt t 118 = true := by rw [Nat.blt_eq]; omega
      simp only [orJ, this, cond_true, Option.getD_some]
      rw [← e]
      exact exJ_rel hx t
  · rw [hout _ (by omega)] at hv; cases hv

/-- a part that goes through, to the letter -/
theorem lit_step (H : Head B0 w0 many keep order pa pc L i a w) (hL : L ≤ 100) {c : Code} {l : List (Nat × Value)} {r : Option Res}
    (hr : r = aCode tab ca 118 true 1000 none c (envOf l (exJ a.tmps)) (canonS many order.length)) (hg : Goes r (canonS many order.length))
    (hl : ∀ p ∈ l, p.1 < 118 ∧ plain1 p.2 = true ∧ a.tmps.getD p.1 undef = p.2) (hF : Free F) (hro : F.round = none)
    (hQ : ∀ a' w', Stay a r a' → (∃ τ σ, Pages B0 w0 many keep order (a.tmps.getD 7 undef) (a.tmps.getD 8 undef) w' τ σ) → Q .normal a' w') : c.wpIn F m Try.prog Q a w := by
  obtain ⟨σ, hp⟩ := lit_pages H hL
  letI : Tok := lit H hL ()
  have hx : ∀ t, (lit H hL ()).ext (t + 5) = clean (a.tmps.getD t undef) := fun t => rfl
  have henv : EnvRel σ 118 (envOf l (exJ a.tmps)) a.tmps := envEx_rel H.size hx hl
  have hrun := hg.run
  rw [hr] at hrun
  refine (aCode_sound tabOk callOk true 1000 none c _ _ _ hrun σ a w F m Q hp.inv henv (fun _ => by rw [H.defers]; exact marked_nil envOf_noMarks) hF (fun _ => hro) ?_).1
  intro σ' a' w' x1 x2 x3 x4 x5
  rw [← hr] at x4 x5
  have hle := x1.le hp.inv
  have hs : a'.tmps.size = 118 := x4.size
  have rel : ∀ t v, t < 118 → Has r t v → VRel σ' v (a'.tmps.getD t undef) := by
    intro t v ht hv
    have ht' : t < a'.tmps.size := by omega
    have := x4.rel t ht'
    unfold Has at hv
    rw [hv] at this
    simpa [Array.getD, ht'] using this
  refine hQ a' w' ⟨hs, Marked.nil (x5 rfl) hg.marks, fun t ht hv hn => exJ_inv hx hn (rel t _ ht hv), fun t v ht hv hpv => rel_plain hpv (rel t v ht hv)⟩ ⟨lit H hL (), σ', hp.cnt, hp.zero, hp.num, x3, hp.ptr.mono hle, hp.ord.mono hle⟩

theorem notAgg {u v : Value} (h : u = v) (hv : ∀ xs, v ≠ .agg xs) : ∀ xs, u ≠ .agg xs := by rw [h]; exact hv
theorem ptr_notAgg [Tok] {σ : Inj} {b o : Nat} {u : Value} (h : VRel σ (.pointer (some ⟨b, o, none⟩)) u) : ∀ xs, u ≠ .agg xs := by
  cases h
  intro xs e
  cases e
theorem ord_notAgg [Tok] {σ : Inj} {k : Nat} {u : Value} (h : VRel σ (ordV k) u) : ∀ xs, u ≠ .agg xs := by
  unfold ordV at h
  intro xs e
  subst e
  cases hb : Nat.beq k 0 <;> rw [hb] at h
  · generalize hc : OPEN + k = c at h
    cases h
  · obtain ⟨a', e⟩ := slice_zero rfl rfl h
    cases e
/-- a head stays one -/
theorem Head.stay (H : Head B0 w0 many keep order pa pc L i a w) {r : Option Res} {a' : Act} {w' : World} {i' : Nat} (st : Stay a r a')
    (h0 : Has r 0 (exJ a.tmps 0)) (h1 : Has r 1 (exJ a.tmps 1)) (h2 : Has r 2 (exJ a.tmps 2) ∨ Has r 2 (iv keep)) (h6 : Has r 6 (exJ a.tmps 6)) (h7 : Has r 7 (exJ a.tmps 7)) (h8 : Has r 8 (exJ a.tmps 8)) (h45 : Has r 45 (exJ a.tmps 45))
    (h46 : Has r 46 (exJ a.tmps 46) ∨ Has r 46 (iv L)) (h47 : (Has r 47 (exJ a.tmps 47) ∧ i' = i) ∨ Has r 47 (iv i'))
    (hp : ∃ τ σ, Pages B0 w0 many keep order (a.tmps.getD 7 undef) (a.tmps.getD 8 undef) w' τ σ) : Head B0 w0 many keep order pa pc L i' a' w' := by
  have e0 := st.kept 0 (by omega) h0 (notAgg H.t0 (by intro xs; simp [iv]))
  have e1 := st.kept 1 (by omega) h1 (notAgg H.t1 (by simp))
  have e2 : a'.tmps.getD 2 undef = iv keep := by
    rcases h2 with h2 | h2
    · rw [st.kept 2 (by omega) h2 (notAgg H.t2 (by intro xs; simp [iv])), H.t2]
    · exact st.set 2 _ (by omega) h2 rfl
  have e6 := st.kept 6 (by omega) h6 (notAgg H.t6 (by simp))
  have e45 := st.kept 45 (by omega) h45 (notAgg H.t45 (by simp))
  have e46 : a'.tmps.getD 46 undef = iv L := by
    rcases h46 with h | h
    · rw [st.kept 46 (by omega) h (notAgg H.t46 (by intro xs; simp [iv])), H.t46]
    · exact st.set 46 _ (by omega) h rfl
  have e47 : a'.tmps.getD 47 undef = iv i' := by
    rcases h47 with ⟨h, rfl⟩ | h
    · rw [st.kept 47 (by omega) h (notAgg H.t47 (by intro xs; simp [iv])), H.t47]
    · exact st.set 47 _ (by omega) h rfl
  obtain ⟨τ, σ, hpg⟩ := H.pages
  have e7 := st.kept 7 (by omega) h7 (@ptr_notAgg τ _ _ _ _ hpg.ptr)
  have e8 := st.kept 8 (by omega) h8 (@ord_notAgg τ _ _ _ hpg.ord)
  exact ⟨st.size, e0.trans H.t0, e1.trans H.t1, e2, e6.trans H.t6, e45.trans H.t45, e46, e47, H.nodup, H.lt, H.short, st.defers, by rw [e7, e8]; exact hp⟩

/-! ### the first part of a round -/
theorem step9 (H : Head B0 w0 many keep order pa pc L i a w) (hL : L ≤ 100) (hF : Free F) (hro : F.round = none)
    (hQ : ∀ a' w', Head B0 w0 many keep order pa pc L i a' w' → a'.tmps.getD 48 undef = .bool (ilt (.ofNat i) (.ofNat L)) → Q .normal a' w') : r9.wpIn F m Try.prog Q a w := by
  refine lit_step H hL (r := run9 L i (exJ a.tmps) (canonS many order.length)) rfl (s9_run _ _ _ _) (fun p hp => ?_) hF hro fun a' w' st hp => ?_
  · simp only [List.mem_cons, List.not_mem_nil, or_false] at hp
    rcases hp with rfl | rfl
    · exact ⟨by omega, rfl, H.t46⟩
    · exact ⟨by omega, rfl, H.t47⟩
  · exact hQ a' w' (H.stay st (s9_k0 _ _ _ _) (s9_k1 _ _ _ _) (.inl (s9_k2 _ _ _ _)) (s9_k6 _ _ _ _) (s9_k7 _ _ _ _) (s9_k8 _ _ _ _) (s9_k45 _ _ _ _) (.inr (s9_t46 _ _ _ _)) (.inr (s9_t47 _ _ _ _)) hp)
      (st.set 48 _ (by omega) (s9_t48 _ _ _ _) rfl)
theorem wrap_small {n : Nat} (h : n ≤ 1000) : fwrap .i64 (.ofNat n) = .ofNat n := by
  have h1 : n % 18446744073709551616 = n := Nat.mod_eq_of_lt (by omega)
  have h2 : Nat.ble 18446744073709551616 (2 * n) = false := by
    cases hb : Nat.ble 18446744073709551616 (2 * n) with
    | false => rfl
    | true => have := Nat.le_of_ble_eq_true hb; omega
  simp [fwrap, fmod, modulus, fwrapR, signedK, h1, h2]
theorem step25 (H : Head B0 w0 many keep order pa pc L i a w) (hL : L ≤ 100) (hi : i < L) (hF : Free F) (hro : F.round = none)
    (hQ : ∀ a' w', Head B0 w0 many keep order pa pc L (i + 1) a' w' → Q .normal a' w') : r25.wpIn F m Try.prog Q a w := by
  refine lit_step H hL (r := run25 i (exJ a.tmps) (canonS many order.length)) rfl (s25_run _ _ _) (fun p hp => ?_) hF hro fun a' w' st hp => ?_
  · simp only [List.mem_cons, List.not_mem_nil, or_false] at hp
    subst hp
    exact ⟨by omega, rfl, H.t47⟩
  · have h47 := s25_t47 i (exJ a.tmps) (canonS many order.length)
    rw [wrap_small (by omega)] at h47
    exact hQ a' w' (H.stay st (s25_k0 _ _ _) (s25_k1 _ _ _) (.inl (s25_k2 _ _ _)) (s25_k6 _ _ _) (s25_k7 _ _ _) (s25_k8 _ _ _) (s25_k45 _ _ _) (.inl (s25_k46 _ _ _)) (.inr h47) hp)
/-- is the page at hand one that counts? -/
def skips (p : Int) (keep : Nat) : Bool := decide (p < 0) || (decide (5 < p) || decide (p = .ofNat keep))
theorem step11_of (H : Head B0 w0 many keep order pa pc L i a w) (hL : L ≤ 100) (hF : Free F) (hro : F.round = none) {pv : Value} {b : Bool} (hpv : plain1 pv = true) (h10 : a.tmps.getD 10 undef = pv)
    (hg : Goes (run11 pv keep (exJ a.tmps) (canonS many order.length)) (canonS many order.length))
    (ht : Has (run11 pv keep (exJ a.tmps) (canonS many order.length)) 61 (.bool b)) (ht2 : Has (run11 pv keep (exJ a.tmps) (canonS many order.length)) 2 (iv keep)) (ht10 : Has (run11 pv keep (exJ a.tmps) (canonS many order.length)) 10 pv)
    (hk : ∀ t ∈ [0, 1, 6, 7, 8, 45, 46, 47], Has (run11 pv keep (exJ a.tmps) (canonS many order.length)) t (exJ a.tmps t))
    (hQ : ∀ a' w', Head B0 w0 many keep order pa pc L i a' w' → a'.tmps.getD 10 undef = pv → a'.tmps.getD 61 undef = .bool b → Q .normal a' w') : r11.wpIn F m Try.prog Q a w := by
  refine lit_step H hL (r := run11 pv keep (exJ a.tmps) (canonS many order.length)) rfl hg (fun p hp => ?_) hF hro fun a' w' st hp => ?_
  · simp only [List.mem_cons, List.not_mem_nil, or_false] at hp
    rcases hp with rfl | rfl
    · exact ⟨by omega, rfl, H.t2⟩
    · exact ⟨by omega, hpv, h10⟩
  · exact hQ a' w' (H.stay st (hk 0 (by simp)) (hk 1 (by simp)) (.inr ht2) (hk 6 (by simp)) (hk 7 (by simp)) (hk 8 (by simp)) (hk 45 (by simp)) (.inl (hk 46 (by simp))) (.inl ⟨hk 47 (by simp), rfl⟩) hp)
      (st.set 10 _ (by omega) ht10 hpv) (st.set 61 _ (by omega) ht rfl)
theorem all8 {Pr : Nat → Prop} (h0 : Pr 0) (h1 : Pr 1) (h6 : Pr 6) (h7 : Pr 7) (h8 : Pr 8) (h45 : Pr 45) (h46 : Pr 46) (h47 : Pr 47) : ∀ t ∈ [0, 1, 6, 7, 8, 45, 46, 47], Pr t := by
  intro t ht
  simp only [List.mem_cons, List.not_mem_nil, or_false] at ht
  rcases ht with rfl | rfl | rfl | rfl | rfl | rfl | rfl | rfl <;> assumption
theorem step11 (H : Head B0 w0 many keep order pa pc L i a w) (hL : L ≤ 100) (hF : Free F) (hro : F.round = none) {p : Int} (h10 : a.tmps.getD 10 undef = .int .i64 p) (hk6 : keep < 6)
    (hQ : ∀ a' w', Head B0 w0 many keep order pa pc L i a' w' → a'.tmps.getD 10 undef = .int .i64 p → a'.tmps.getD 61 undef = .bool (skips p keep) → Q .normal a' w') : r11.wpIn F m Try.prog Q a w := by
  cases p with
  | negSucc n =>
    have e : skips (.negSucc n) keep = true := by simp [skips]
    rw [e] at hQ
    exact step11_of H hL hF hro rfl h10 (neg_run _ _ _ _) (neg_t61 _ _ _ _) (neg_t2 _ _ _ _) (neg_t10 _ _ _ _) (all8 (neg_k0 _ _ _ _) (neg_k1 _ _ _ _) (neg_k6 _ _ _ _) (neg_k7 _ _ _ _) (neg_k8 _ _ _ _) (neg_k45 _ _ _ _) (neg_k46 _ _ _ _) (neg_k47 _ _ _ _)) hQ
  | ofNat q =>
    by_cases hq : 6 ≤ q
    · obtain ⟨n, rfl⟩ : ∃ n, q = n + 6 := ⟨q - 6, by omega⟩
      have e : skips (.ofNat (n + 6)) keep = true := by
        have : (5 : Int) < Int.ofNat (n + 6) := by simp; omega
        simp only [skips, decide_eq_true this, Bool.true_or, Bool.or_true]
      rw [e] at hQ
      exact step11_of H hL hF hro rfl h10 (big_run _ _ _ _) (big_t61 _ _ _ _) (big_t2 _ _ _ _) (big_t10 _ _ _ _) (all8 (big_k0 _ _ _ _) (big_k1 _ _ _ _) (big_k6 _ _ _ _) (big_k7 _ _ _ _) (big_k8 _ _ _ _) (big_k45 _ _ _ _) (big_k46 _ _ _ _) (big_k47 _ _ _ _)) hQ
    · have hq : q < 6 := by omega
      rcases (by omega : q = 0 ∨ q = 1 ∨ q = 2 ∨ q = 3 ∨ q = 4 ∨ q = 5) with rfl | rfl | rfl | rfl | rfl | rfl <;> rcases (by omega : keep = 0 ∨ keep = 1 ∨ keep = 2 ∨ keep = 3 ∨ keep = 4 ∨ keep = 5) with rfl | rfl | rfl | rfl | rfl | rfl
      · exact step11_of H hL hF hro rfl h10 (pg00_run _ _) (pg00_t61 _ _) (pg00_t2 _ _) (pg00_t10 _ _) (all8 (pg00_k0 _ _) (pg00_k1 _ _) (pg00_k6 _ _) (pg00_k7 _ _) (pg00_k8 _ _) (pg00_k45 _ _) (pg00_k46 _ _) (pg00_k47 _ _)) hQ
      · exact step11_of H hL hF hro rfl h10 (pg01_run _ _) (pg01_t61 _ _) (pg01_t2 _ _) (pg01_t10 _ _) (all8 (pg01_k0 _ _) (pg01_k1 _ _) (pg01_k6 _ _) (pg01_k7 _ _) (pg01_k8 _ _) (pg01_k45 _ _) (pg01_k46 _ _) (pg01_k47 _ _)) hQ
      · exact step11_of H hL hF hro rfl h10 (pg02_run _ _) (pg02_t61 _ _) (pg02_t2 _ _) (pg02_t10 _ _) (all8 (pg02_k0 _ _) (pg02_k1 _ _) (pg02_k6 _ _) (pg02_k7 _ _) (pg02_k8 _ _) (pg02_k45 _ _) (pg02_k46 _ _) (pg02_k47 _ _)) hQ
      · exact step11_of H hL hF hro rfl h10 (pg03_run _ _) (pg03_t61 _ _) (pg03_t2 _ _) (pg03_t10 _ _) (all8 (pg03_k0 _ _) (pg03_k1 _ _) (pg03_k6 _ _) (pg03_k7 _ _) (pg03_k8 _ _) (pg03_k45 _ _) (pg03_k46 _ _) (pg03_k47 _ _)) hQ
      · exact step11_of H hL hF hro rfl h10 (pg04_run _ _) (pg04_t61 _ _) (pg04_t2 _ _) (pg04_t10 _ _) (all8 (pg04_k0 _ _) (pg04_k1 _ _) (pg04_k6 _ _) (pg04_k7 _ _) (pg04_k8 _ _) (pg04_k45 _ _) (pg04_k46 _ _) (pg04_k47 _ _)) hQ
      · exact step11_of H hL hF hro rfl h10 (pg05_run _ _) (pg05_t61 _ _) (pg05_t2 _ _) (pg05_t10 _ _) (all8 (pg05_k0 _ _) (pg05_k1 _ _) (pg05_k6 _ _) (pg05_k7 _ _) (pg05_k8 _ _) (pg05_k45 _ _) (pg05_k46 _ _) (pg05_k47 _ _)) hQ
      · exact step11_of H hL hF hro rfl h10 (pg10_run _ _) (pg10_t61 _ _) (pg10_t2 _ _) (pg10_t10 _ _) (all8 (pg10_k0 _ _) (pg10_k1 _ _) (pg10_k6 _ _) (pg10_k7 _ _) (pg10_k8 _ _) (pg10_k45 _ _) (pg10_k46 _ _) (pg10_k47 _ _)) hQ
      · exact step11_of H hL hF hro rfl h10 (pg11_run _ _) (pg11_t61 _ _) (pg11_t2 _ _) (pg11_t10 _ _) (all8 (pg11_k0 _ _) (pg11_k1 _ _) (pg11_k6 _ _) (pg11_k7 _ _) (pg11_k8 _ _) (pg11_k45 _ _) (pg11_k46 _ _) (pg11_k47 _ _)) hQ
      · exact step11_of H hL hF hro rfl h10 (pg12_run _ _) (pg12_t61 _ _) (pg12_t2 _ _) (pg12_t10 _ _) (all8 (pg12_k0 _ _) (pg12_k1 _ _) (pg12_k6 _ _) (pg12_k7 _ _) (pg12_k8 _ _) (pg12_k45 _ _) (pg12_k46 _ _) (pg12_k47 _ _)) hQ
      · exact step11_of H hL hF hro rfl h10 (pg13_run _ _) (pg13_t61 _ _) (pg13_t2 _ _) (pg13_t10 _ _) (all8 (pg13_k0 _ _) (pg13_k1 _ _) (pg13_k6 _ _) (pg13_k7 _ _) (pg13_k8 _ _) (pg13_k45 _ _) (pg13_k46 _ _) (pg13_k47 _ _)) hQ
      · exact step11_of H hL hF hro rfl h10 (pg14_run _ _) (pg14_t61 _ _) (pg14_t2 _ _) (pg14_t10 _ _) (all8 (pg14_k0 _ _) (pg14_k1 _ _) (pg14_k6 _ _) (pg14_k7 _ _) (pg14_k8 _ _) (pg14_k45 _ _) (pg14_k46 _ _) (pg14_k47 _ _)) hQ
      · exact step11_of H hL hF hro rfl h10 (pg15_run _ _) (pg15_t61 _ _) (pg15_t2 _ _) (pg15_t10 _ _) (all8 (pg15_k0 _ _) (pg15_k1 _ _) (pg15_k6 _ _) (pg15_k7 _ _) (pg15_k8 _ _) (pg15_k45 _ _) (pg15_k46 _ _) (pg15_k47 _ _)) hQ
      · exact step11_of H hL hF hro rfl h10 (pg20_run _ _) (pg20_t61 _ _) (pg20_t2 _ _) (pg20_t10 _ _) (all8 (pg20_k0 _ _) (pg20_k1 _ _) (pg20_k6 _ _) (pg20_k7 _ _) (pg20_k8 _ _) (pg20_k45 _ _) (pg20_k46 _ _) (pg20_k47 _ _)) hQ
      · exact step11_of H hL hF hro rfl h10 (pg21_run _ _) (pg21_t61 _ _) (pg21_t2 _ _) (pg21_t10 _ _) (all8 (pg21_k0 _ _) (pg21_k1 _ _) (pg21_k6 _ _) (pg21_k7 _ _) (pg21_k8 _ _) (pg21_k45 _ _) (pg21_k46 _ _) (pg21_k47 _ _)) hQ
      · exact step11_of H hL hF hro rfl h10 (pg22_run _ _) (pg22_t61 _ _) (pg22_t2 _ _) (pg22_t10 _ _) (all8 (pg22_k0 _ _) (pg22_k1 _ _) (pg22_k6 _ _) (pg22_k7 _ _) (pg22_k8 _ _) (pg22_k45 _ _) (pg22_k46 _ _) (pg22_k47 _ _)) hQ
      · exact step11_of H hL hF hro rfl h10 (pg23_run _ _) (pg23_t61 _ _) (pg23_t2 _ _) (pg23_t10 _ _) (all8 (pg23_k0 _ _) (pg23_k1 _ _) (pg23_k6 _ _) (pg23_k7 _ _) (pg23_k8 _ _) (pg23_k45 _ _) (pg23_k46 _ _) (pg23_k47 _ _)) hQ
      · exact step11_of H hL hF hro rfl h10 (pg24_run _ _) (pg24_t61 _ _) (pg24_t2 _ _) (pg24_t10 _ _) (all8 (pg24_k0 _ _) (pg24_k1 _ _) (pg24_k6 _ _) (pg24_k7 _ _) (pg24_k8 _ _) (pg24_k45 _ _) (pg24_k46 _ _) (pg24_k47 _ _)) hQ
      · exact step11_of H hL hF hro rfl h10 (pg25_run _ _) (pg25_t61 _ _) (pg25_t2 _ _) (pg25_t10 _ _) (all8 (pg25_k0 _ _) (pg25_k1 _ _) (pg25_k6 _ _) (pg25_k7 _ _) (pg25_k8 _ _) (pg25_k45 _ _) (pg25_k46 _ _) (pg25_k47 _ _)) hQ
      · exact step11_of H hL hF hro rfl h10 (pg30_run _ _) (pg30_t61 _ _) (pg30_t2 _ _) (pg30_t10 _ _) (all8 (pg30_k0 _ _) (pg30_k1 _ _) (pg30_k6 _ _) (pg30_k7 _ _) (pg30_k8 _ _) (pg30_k45 _ _) (pg30_k46 _ _) (pg30_k47 _ _)) hQ
      · exact step11_of H hL hF hro rfl h10 (pg31_run _ _) (pg31_t61 _ _) (pg31_t2 _ _) (pg31_t10 _ _) (all8 (pg31_k0 _ _) (pg31_k1 _ _) (pg31_k6 _ _) (pg31_k7 _ _) (pg31_k8 _ _) (pg31_k45 _ _) (pg31_k46 _ _) (pg31_k47 _ _)) hQ
      · exact step11_of H hL hF hro rfl h10 (pg32_run _ _) (pg32_t61 _ _) (pg32_t2 _ _) (pg32_t10 _ _) (all8 (pg32_k0 _ _) (pg32_k1 _ _) (pg32_k6 _ _) (pg32_k7 _ _) (pg32_k8 _ _) (pg32_k45 _ _) (pg32_k46 _ _) (pg32_k47 _ _)) hQ
      · exact step11_of H hL hF hro rfl h10 (pg33_run _ _) (pg33_t61 _ _) (pg33_t2 _ _) (pg33_t10 _ _) (all8 (pg33_k0 _ _) (pg33_k1 _ _) (pg33_k6 _ _) (pg33_k7 _ _) (pg33_k8 _ _) (pg33_k45 _ _) (pg33_k46 _ _) (pg33_k47 _ _)) hQ
      · exact step11_of H hL hF hro rfl h10 (pg34_run _ _) (pg34_t61 _ _) (pg34_t2 _ _) (pg34_t10 _ _) (all8 (pg34_k0 _ _) (pg34_k1 _ _) (pg34_k6 _ _) (pg34_k7 _ _) (pg34_k8 _ _) (pg34_k45 _ _) (pg34_k46 _ _) (pg34_k47 _ _)) hQ
      · exact step11_of H hL hF hro rfl h10 (pg35_run _ _) (pg35_t61 _ _) (pg35_t2 _ _) (pg35_t10 _ _) (all8 (pg35_k0 _ _) (pg35_k1 _ _) (pg35_k6 _ _) (pg35_k7 _ _) (pg35_k8 _ _) (pg35_k45 _ _) (pg35_k46 _ _) (pg35_k47 _ _)) hQ
      · exact step11_of H hL hF hro rfl h10 (pg40_run _ _) (pg40_t61 _ _) (pg40_t2 _ _) (pg40_t10 _ _) (all8 (pg40_k0 _ _) (pg40_k1 _ _) (pg40_k6 _ _) (pg40_k7 _ _) (pg40_k8 _ _) (pg40_k45 _ _) (pg40_k46 _ _) (pg40_k47 _ _)) hQ
      · exact step11_of H hL hF hro rfl h10 (pg41_run _ _) (pg41_t61 _ _) (pg41_t2 _ _) (pg41_t10 _ _) (all8 (pg41_k0 _ _) (pg41_k1 _ _) (pg41_k6 _ _) (pg41_k7 _ _) (pg41_k8 _ _) (pg41_k45 _ _) (pg41_k46 _ _) (pg41_k47 _ _)) hQ
      · exact step11_of H hL hF hro rfl h10 (pg42_run _ _) (pg42_t61 _ _) (pg42_t2 _ _) (pg42_t10 _ _) (all8 (pg42_k0 _ _) (pg42_k1 _ _) (pg42_k6 _ _) (pg42_k7 _ _) (pg42_k8 _ _) (pg42_k45 _ _) (pg42_k46 _ _) (pg42_k47 _ _)) hQ
      · exact step11_of H hL hF hro rfl h10 (pg43_run _ _) (pg43_t61 _ _) (pg43_t2 _ _) (pg43_t10 _ _) (all8 (pg43_k0 _ _) (pg43_k1 _ _) (pg43_k6 _ _) (pg43_k7 _ _) (pg43_k8 _ _) (pg43_k45 _ _) (pg43_k46 _ _) (pg43_k47 _ _)) hQ
      · exact step11_of H hL hF hro rfl h10 (pg44_run _ _) (pg44_t61 _ _) (pg44_t2 _ _) (pg44_t10 _ _) (all8 (pg44_k0 _ _) (pg44_k1 _ _) (pg44_k6 _ _) (pg44_k7 _ _) (pg44_k8 _ _) (pg44_k45 _ _) (pg44_k46 _ _) (pg44_k47 _ _)) hQ
      · exact step11_of H hL hF hro rfl h10 (pg45_run _ _) (pg45_t61 _ _) (pg45_t2 _ _) (pg45_t10 _ _) (all8 (pg45_k0 _ _) (pg45_k1 _ _) (pg45_k6 _ _) (pg45_k7 _ _) (pg45_k8 _ _) (pg45_k45 _ _) (pg45_k46 _ _) (pg45_k47 _ _)) hQ
      · exact step11_of H hL hF hro rfl h10 (pg50_run _ _) (pg50_t61 _ _) (pg50_t2 _ _) (pg50_t10 _ _) (all8 (pg50_k0 _ _) (pg50_k1 _ _) (pg50_k6 _ _) (pg50_k7 _ _) (pg50_k8 _ _) (pg50_k45 _ _) (pg50_k46 _ _) (pg50_k47 _ _)) hQ
      · exact step11_of H hL hF hro rfl h10 (pg51_run _ _) (pg51_t61 _ _) (pg51_t2 _ _) (pg51_t10 _ _) (all8 (pg51_k0 _ _) (pg51_k1 _ _) (pg51_k6 _ _) (pg51_k7 _ _) (pg51_k8 _ _) (pg51_k45 _ _) (pg51_k46 _ _) (pg51_k47 _ _)) hQ
      · exact step11_of H hL hF hro rfl h10 (pg52_run _ _) (pg52_t61 _ _) (pg52_t2 _ _) (pg52_t10 _ _) (all8 (pg52_k0 _ _) (pg52_k1 _ _) (pg52_k6 _ _) (pg52_k7 _ _) (pg52_k8 _ _) (pg52_k45 _ _) (pg52_k46 _ _) (pg52_k47 _ _)) hQ
      · exact step11_of H hL hF hro rfl h10 (pg53_run _ _) (pg53_t61 _ _) (pg53_t2 _ _) (pg53_t10 _ _) (all8 (pg53_k0 _ _) (pg53_k1 _ _) (pg53_k6 _ _) (pg53_k7 _ _) (pg53_k8 _ _) (pg53_k45 _ _) (pg53_k46 _ _) (pg53_k47 _ _)) hQ
      · exact step11_of H hL hF hro rfl h10 (pg54_run _ _) (pg54_t61 _ _) (pg54_t2 _ _) (pg54_t10 _ _) (all8 (pg54_k0 _ _) (pg54_k1 _ _) (pg54_k6 _ _) (pg54_k7 _ _) (pg54_k8 _ _) (pg54_k45 _ _) (pg54_k46 _ _) (pg54_k47 _ _)) hQ
      · exact step11_of H hL hF hro rfl h10 (pg55_run _ _) (pg55_t61 _ _) (pg55_t2 _ _) (pg55_t10 _ _) (all8 (pg55_k0 _ _) (pg55_k1 _ _) (pg55_k6 _ _) (pg55_k7 _ _) (pg55_k8 _ _) (pg55_k45 _ _) (pg55_k46 _ _) (pg55_k47 _ _)) hQ

/-! ### the page is read -/
theorem wp_value [Tok] {o : Oper} {v : Value} {next : Act → World → Prop} (hF : Free F) (hnd : ∀ c, o.op ≠ .defer c) (h : (execOp a.eval o).run Try.prog w = .ok (.value v) w) (hk : next (a.put o.dst v) w) : o.wpIn F m Try.prog a w next Q := by
  unfold Oper.wpIn
  rw [Oper.semAt_eq _ _ _ hnd, h]
  exact ⟨fun f _ => hF.1 f, hk⟩
theorem put_getD {a : Act} {d t : Nat} {v : Value} (hs : a.tmps.size = 118) (hd : d < 118) : (a.put (some d) v).tmps.getD t undef = if t = d then v else a.tmps.getD t undef := by
  unfold Act.put
  simp only [Array.getD, Array.size_setIfInBounds]
  by_cases h : t = d
  · subst h
    have : t < a.tmps.size := by omega
    simp [this]
  · rw [if_neg h]
    by_cases ht : t < a.tmps.size
    · simp [ht, Array.getElem_setIfInBounds_ne ht (Ne.symm h)]
    · simp [ht]
/-- the cells that the call's pages lie in, as they were when it began -/
def Reads (w0 : World) (B0 : Nat) (pa : Option Addr) (zs : List Int) : Prop := ∀ i z, zs[i]? = some z → ∃ b o, pa = some ⟨b, o, none⟩ ∧ b < B0 ∧ w0.cell? ⟨b, o + i, none⟩ = some (.int .i64 z)
theorem step10 (H : Head B0 w0 many keep order pa pc L i a w) {zs : List Int} (hz : Reads w0 B0 pa zs) {p : Int} (hp : zs[i]? = some p) (hi : i < L) (hF : Free F)
    (hQ : ∀ a', Head B0 w0 many keep order pa pc L i a' w → a'.tmps.getD 10 undef = .int .i64 p → Q .normal a' w) : r10.wpIn F m Try.prog Q a w := by
  obtain ⟨τ, σ, hpg⟩ := H.pages
  letI : Tok := τ
  obtain ⟨b, o, rfl, hb, hc⟩ := hz i p hp
  have hcell : w.cell? ⟨b, o + i, none⟩ = some (.int .i64 p) := by
    rw [← hc]
    exact World.cell?_of_block (hpg.inv.below.block b hb)
  rw [shape5]
  refine wpIn_region ?_
  rw [size10]
  have ha := op10a
  have hb' := op10b
  have hc' := op10c
  cases h0 : (opsOf r10)[0]? with
  | none => rw [h0] at ha; cases ha
  | some o0 =>
  cases h1 : (opsOf r10)[1]? with
  | none => rw [h1] at hb'; cases hb'
  | some o1 =>
  cases h2 : (opsOf r10)[2]? with
  | none => rw [h2] at hc'; cases hc'
  | some o2 =>
  rw [h0] at ha
  rw [h1] at hb'
  rw [h2] at hc'
  simp only [Option.map_some, Option.some.injEq, Prod.mk.injEq] at ha hb' hc'
  obtain ⟨a1, a2, a3⟩ := ha
  obtain ⟨c1, c2, c3⟩ := hb'
  obtain ⟨d1, d2, d3⟩ := hc'
  have hrange : List.range 3 = [0, 1, 2] := rfl
  rw [hrange]
  have w0' : Region.wanted o0 (yielded (opsOf r10) a.tmps) = true := by simp [Region.wanted, a3]
  -- the element's address
  have hev45 : a.eval (.tmp 45) = .slice (some ⟨b, o, none⟩) L pc := H.t45
  have hev47 : a.eval (.tmp 47) = iv i := H.t47
  have hidx : ∀ w, (Instr.indexAt 31 (.slice (some ⟨b, o, none⟩) L pc) (iv i)).run Try.prog w = .ok (.pointer (some ⟨b, o + i, none⟩)) w := by
    intro w
    have hx : VRel (fun _ => some ⟨b, 0, pc⟩) (.slice (some ⟨0, o, none⟩) L (OPEN + 0)) (.slice (some ⟨b, 0 + o, none⟩) L (0 + pc)) := @VRel.sliceO _ (fun _ => some ⟨b, 0, pc⟩) 0 o L 0 ⟨b, 0, pc⟩ rfl
    have hrun : aIndexAddr tab 31 (.slice (some ⟨0, o, none⟩) L (OPEN + 0)) (iv i) = some (.pointer (some ⟨0, o + i * 1, none⟩)) := by
      have hblt : Nat.blt i L = true := by rw [Nat.blt_eq]; exact hi
      show obnd (tab.ty 31) (fun d => ixAs tab d i (.slice (some ⟨0, o, none⟩) L (OPEN + 0))) = _
      simp only [ty31, obnd, ixAs, ixSl, size3, onSlice, hblt, cond_true, onAddr]
    obtain ⟨v', h1, h2⟩ := aIndexAddr_sound tabOk hx (.int .i64 (.ofNat i)) hrun w
    cases h1 with
    | @ptr _ _ l hl =>
      cases hl
      have e : 0 + (o + i * 1) = o + i := by omega
      rw [e] at h2
      rw [Nat.zero_add, Nat.zero_add] at h2
      exact h2
  simp only [wpOpsIn, h0, w0', if_true]
  refine wp_value hF (by intro c; rw [a1]; simp) (v := .pointer (some ⟨b, o + i, none⟩)) (by simp [execOp, a1, hev45, hev47, hidx w]) ?_
  rw [a2]
  have s1 : (a.put (some 49) (.pointer (some ⟨b, o + i, none⟩))).tmps.size = 118 := by simp [Act.put, H.size]
  generalize ha1 : a.put (some 49) (.pointer (some ⟨b, o + i, none⟩)) = A1 at *
  have w1' : Region.wanted o1 (yielded (opsOf r10) A1.tmps) = true := by simp [Region.wanted, c3]
  simp only [h1, w1', if_true]
  have hev49 : A1.eval (.tmp 49) = .pointer (some ⟨b, o + i, none⟩) := by
    show A1.tmps.getD 49 undef = _
    rw [← ha1, put_getD H.size (by omega), if_pos rfl]
  have hload : (Instr.loadAt 3 (.pointer (some ⟨b, o + i, none⟩))).run Try.prog w = .ok (.int .i64 p) w := by
    simp [Instr.loadAt, Instr.sureAddr, loadVar, isAgg_run tabOk agg3, hcell]
  refine wp_value hF (by intro c; rw [c1]; simp) (v := .int .i64 p) (by simp [execOp, c1, hev49, hload]) ?_
  rw [c2]
  have s2 : (A1.put (some 50) (.int .i64 p)).tmps.size = 118 := by simp [Act.put, s1]
  generalize ha2 : A1.put (some 50) (.int .i64 p) = A2 at *
  have w2' : Region.wanted o2 (yielded (opsOf r10) A2.tmps) = true := by simp [Region.wanted, d3]
  simp only [h2, w2', if_true]
  have hev50 : A2.eval (.tmp 50) = .int .i64 p := by
    show A2.tmps.getD 50 undef = _
    rw [← ha2, put_getD s1 (by omega), if_pos rfl]
  refine wp_value hF (by intro c; rw [d1]; simp) (v := .int .i64 p) (by simp [execOp, d1, hev50]) ?_
  rw [d2]
  have look : ∀ t, t ≠ 10 → t ≠ 49 → t ≠ 50 → (A2.put (some 10) (.int .i64 p)).tmps.getD t undef = a.tmps.getD t undef := by
    intro t n1 n2 n3
    rw [put_getD s2 (by omega), if_neg n1, ← ha2, put_getD s1 (by omega), if_neg n3, ← ha1, put_getD H.size (by omega), if_neg n2]
  have hdef : (A2.put (some 10) (.int .i64 p)).defers = a.defers := by rw [← ha2, ← ha1]; rfl
  refine hQ _ ⟨by simp [Act.put, s2], (look 0 (by omega) (by omega) (by omega)).trans H.t0, (look 1 (by omega) (by omega) (by omega)).trans H.t1, (look 2 (by omega) (by omega) (by omega)).trans H.t2, (look 6 (by omega) (by omega) (by omega)).trans H.t6, (look 45 (by omega) (by omega) (by omega)).trans H.t45, (look 46 (by omega) (by omega) (by omega)).trans H.t46, (look 47 (by omega) (by omega) (by omega)).trans H.t47, H.nodup, H.lt, H.short, hdef.trans H.defers, ?_⟩ (by rw [put_getD s2 (by omega), if_pos rfl])
  rw [look 7 (by omega) (by omega) (by omega), look 8 (by omega) (by omega) (by omega)]
  exact H.pages

/-! ### the second part of a round -/
theorem headL_rel [τ : Tok] {σ : Inj} {ps : List (Nat × Value)} (H : Head B0 w0 many keep order pa pc L i a w) (hp : Pages B0 w0 many keep order (a.tmps.getD 7 undef) (a.tmps.getD 8 undef) w τ σ)
    (e0 : τ.ext 0 = .slice pa L pc) (e1 : τ.ext 1 = iv L) (e2 : τ.ext 2 = iv i) (hps : ∀ p ∈ ps, p.1 < 118 ∧ VRel σ p.2 (a.tmps.getD p.1 undef)) :
    EnvRel σ 118 (envOf (headL many order.length ps) (junk a.tmps)) a.tmps := by
  have hk : VRel σ (tk 0) (iv keep) := by
    have := VRel.tok (σ := σ) (j := 0) (by have := hp.cnt; omega)
    rw [hp.zero] at this
    exact this
  have h : ∀ p ∈ headL many order.length ps, p.1 < 118 ∧ VRel σ p.2 (a.tmps.getD p.1 undef) := by
    intro p hm
    unfold headL at hm
    simp only [List.cons_append, List.nil_append, List.mem_cons] at hm
    rcases hm with rfl | rfl | rfl | rfl | rfl | rfl | rfl | rfl | rfl | hm
    · exact ⟨by show (0 : Nat) < 118; omega, by show VRel σ _ (a.tmps.getD 0 undef); rw [H.t0]; exact .int _ _⟩
    · exact ⟨by show (1 : Nat) < 118; omega, by show VRel σ _ (a.tmps.getD 1 undef); rw [H.t1, ← e0]; exact .ext 0⟩
    · exact ⟨by show (2 : Nat) < 118; omega, by show VRel σ _ (a.tmps.getD 2 undef); rw [H.t2]; exact hk⟩
    · exact ⟨by show (6 : Nat) < 118; omega, by show VRel σ _ (a.tmps.getD 6 undef); rw [H.t6]; exact .bool _⟩
    · exact ⟨by show (7 : Nat) < 118; omega, hp.ptr⟩
    · exact ⟨by show (8 : Nat) < 118; omega, hp.ord⟩
    · exact ⟨by show (45 : Nat) < 118; omega, by show VRel σ _ (a.tmps.getD 45 undef); rw [H.t45, ← e0]; exact .ext 0⟩
    · exact ⟨by show (46 : Nat) < 118; omega, by show VRel σ _ (a.tmps.getD 46 undef); rw [H.t46, ← e1]; exact .ext 1⟩
    · exact ⟨by show (47 : Nat) < 118; omega, by show VRel σ _ (a.tmps.getD 47 undef); rw [H.t47, ← e2]; exact .ext 2⟩
    · exact hps p hm
  refine envOf_rel H.size fun p hm => ?_
  obtain ⟨h1, h2⟩ := h p hm
  have h1' : p.1 < a.tmps.size := by rw [H.size]; exact h1
  exact ⟨h1', by simpa [Array.getD, h1'] using h2⟩
theorem roundB_spec {P : List Nat} {r : Option Res} (h : roundB many P r = true) : ∃ e s, r = some ⟨.normal, e, s⟩ ∧ headB many P (xt 2) e s = true := by
  unfold roundB at h
  split at h
  · exact ⟨_, _, rfl, h⟩
  · cases h
theorem headB_marks {P : List Nat} {ix : Value} {e : Tree Value} {s : St} (h : headB many P ix e s = true) : noMarks e = true := by
  have h : (noMarks e && _) = true := h
  rw [Bool.and_eq_true] at h
  exact h.1
/-- a head behind a part that has given the pages the names P -/
theorem head_of [τ : Tok] {σ : Inj} {s : St} {e : Tree Value} {a' : Act} {w' : World} {Pn : List Nat} {ix : Value} {i' : Nat} (hI : Ab.Inv B0 w0 σ s w') (he : EnvRel σ 118 e a'.tmps) (hb : headB many Pn ix e s = true)
    (e0 : τ.ext 0 = .slice pa L pc) (e1 : τ.ext 1 = iv L) (eix : ∀ u, VRel σ ix u → u = iv i') (hz : τ.num 0 = keep) (hpos : 0 < τ.cnt)
    (hold : ∀ q ∈ Pn, 1 ≤ q ∧ q < τ.cnt) (hnd : Pn.Nodup) (hlen : Pn.length < many) (hd : a'.defers = []) (hL : L ≤ 100) :
    Head B0 w0 many keep (Pn.map τ.num) pa pc L i' a' w' := by
  have hk6 : keep < 6 := by rw [← hz]; exact τ.lt 0 hpos
  have hnd' : (keep :: Pn.map τ.num).Nodup := by
    rw [List.nodup_cons]
    constructor
    · intro hm
      obtain ⟨q, hq, e⟩ := List.mem_map.1 hm
      have := τ.inj q 0 (hold q hq).2 hpos (by rw [e, hz])
      have := (hold q hq).1
      omega
    · refine List.pairwise_map.2 (hnd.imp_of_mem fun {x y} hx hy hxy e => hxy (τ.inj x y (hold x hx).2 (hold y hy).2 e))
  have hlt' : ∀ x ∈ keep :: Pn.map τ.num, x < 6 := by
    intro x hx
    rcases List.mem_cons.1 hx with rfl | hx
    · exact hk6
    · obtain ⟨q, hq, rfl⟩ := List.mem_map.1 hx
      exact τ.lt q (hold q hq).2
  let τ' : Unit → Tok := fun _ => names (keep :: Pn.map τ.num) hnd' hlt' pa pc L i' hL fun _ => iv 0
  have hnum : ∀ j q, Pn[j]? = some q → (τ' ()).num (j + 1) = τ.num q := by
    intro j q hq
    show (keep :: Pn.map τ.num).getD (j + 1) 0 = τ.num q
    simp [List.getD_eq_getElem?_getD, hq]
  have fit : Fit τ (τ' ()) Pn := ⟨by show Pn.length + 1 ≤ (keep :: Pn.map τ.num).length; simp, fun q hq => (hold q hq).2, hpos, hz.symm, hnum⟩
  obtain ⟨h1, _, σ', h2, h3, h4⟩ := head_move (τ' := τ') hI he hb fit
  have g := fun t v (hm : (t, v) ∈ [(0, iv many), (1, xt 0), (2, tk 0), (6, Value.bool false), (45, xt 0), (46, xt 1), (47, ix)]) => h1 (t, v) hm
  have ext : ∀ {k : Nat} {u : Value}, VRel σ (xt k) u → u = τ.ext k := by
    intro k u h
    cases h
    rfl
  refine ⟨he.size, rel_plain rfl (g 0 (iv many) (by simp)), (ext (g 1 (xt 0) (by simp))).trans e0, ?_, rel_plain rfl (g 6 (.bool false) (by simp)), (ext (g 45 (xt 0) (by simp))).trans e0, (ext (g 46 (xt 1) (by simp))).trans e1, eix _ (g 47 ix (by simp)), hnd', hlt', by simpa using hlen, hd, τ' (), σ', ?_⟩
  · have := g 2 (tk 0) (by simp)
    simp only at this
    generalize a'.tmps.getD 2 undef = u at this
    cases this
    rw [hz]
    rfl
  · refine ⟨by show (Pn.map τ.num).length + 1 ≤ (keep :: Pn.map τ.num).length; simp, rfl, fun j x hx => ?_, ?_, h3, ?_⟩
    · show (keep :: Pn.map τ.num).getD (j + 1) 0 = x
      simp only [List.getD_eq_getElem?_getD, List.getElem?_cons_succ, hx, Option.getD_some]
    · rw [List.length_map]; exact h2
    · rw [List.length_map]; exact h4
theorem step_rest (H : Head B0 w0 many keep order pa pc L i a w) (hL : L ≤ 100) (hm2 : 2 ≤ many) (hm6 : many ≤ 6) {p : Nat} (h10 : a.tmps.getD 10 undef = iv p) (hp6 : p < 6) (hpk : p ≠ keep) (hF : Free F) (hro : F.round = none)
    (hQ : ∀ a' w' order', Head B0 w0 many keep order' pa pc L i a' w' → Q .normal a' w') : rest.wpIn F m Try.prog Q a w := by
  -- the page's name
  obtain ⟨ns, q, hnd, hlt, hpre, hq1, hq2, hqk, hqp, hq5⟩ : ∃ (ns : List Nat) (q : Nat), ns.Nodup ∧ (∀ x ∈ ns, x < 6) ∧ (∀ j, j ≤ order.length → ns.getD j 0 = (keep :: order).getD j 0) ∧ 1 ≤ q ∧ q < ns.length ∧ q ≤ order.length + 1 ∧ ns.getD q 0 = p ∧ order.length + 1 ≤ ns.length := by
    by_cases hm : p ∈ order
    · obtain ⟨j, hj, hjp⟩ := List.getElem_of_mem hm
      refine ⟨keep :: order, j + 1, H.nodup, H.lt, fun _ _ => rfl, by omega, by simp; omega, by omega, ?_, by simp⟩
      simp [List.getD_eq_getElem?_getD, List.getElem?_eq_getElem hj, hjp]
    · refine ⟨keep :: (order ++ [p]), order.length + 1, ?_, ?_, ?_, by omega, by simp, by omega, ?_, by simp⟩
      · have h1 := H.nodup
        rw [List.nodup_cons] at h1 ⊢
        refine ⟨?_, ?_⟩
        · simp only [List.mem_append, List.mem_singleton, not_or]
          exact ⟨h1.1, Ne.symm hpk⟩
        · rw [List.nodup_append]
          refine ⟨h1.2, by simp, ?_⟩
          intro x hx y hy e
          simp only [List.mem_singleton] at hy
          subst hy
          subst e
          exact hm hx
      · intro x hx
        simp only [List.mem_cons, List.mem_append, List.not_mem_nil, or_false] at hx
        rcases hx with rfl | hx | rfl
        · exact H.lt _ List.mem_cons_self
        · exact H.lt _ (List.mem_cons_of_mem _ hx)
        · exact hp6
      · intro j hj
        cases j with
        | zero => rfl
        | succ j =>
          have : j < order.length := by omega
          simp [List.getD_eq_getElem?_getD, List.getElem?_append_left this]
      · simp [List.getD_eq_getElem?_getD]
  have hbound := nodup_bound 6 ns hnd hlt
  have htr := trAll hm2 hm6 H.short hq1 hqk (fun h5 => by omega)
  obtain ⟨τ0, σ, hp0⟩ := H.pages
  let τ' : Unit → Tok := fun _ => names ns hnd hlt pa pc L i hL fun _ => iv 0
  have hp : Pages B0 w0 many keep order (a.tmps.getD 7 undef) (a.tmps.getD 8 undef) w (τ' ()) σ := by
    refine hp0.names τ' hq5 ?_ fun j x hj => ?_
    · show ns.getD 0 0 = keep
      rw [hpre 0 (by omega)]; rfl
    · show ns.getD (j + 1) 0 = x
      have : j < order.length := by
        rcases Nat.lt_or_ge j order.length with h | h
        · exact h
        · rw [List.getElem?_eq_none h] at hj; cases hj
      rw [hpre (j + 1) (by omega)]
      simp [List.getD_eq_getElem?_getD, hj]
  letI : Tok := τ' ()
  obtain ⟨e, s, hrun, hb⟩ := roundB_spec (htr.go (junk a.tmps))
  have htok : VRel σ (tk q) (a.tmps.getD 10 undef) := by
    rw [h10]
    have := VRel.tok (σ := σ) (j := q) (show q < (τ' ()).cnt from hq2)
    rw [show Tok.num q = p from hqp] at this
    exact this
  have henv := headL_rel (ps := [(10, tk q)]) H hp rfl rfl rfl (fun x hx => by
    simp only [List.mem_cons, List.not_mem_nil, or_false] at hx
    subst hx
    exact ⟨by show (10 : Nat) < 118; omega, htok⟩)
  refine (aCode_sound tabOk callOk true 100000 none rest _ _ _ hrun σ a w F m Q hp.inv henv (fun _ => by rw [H.defers]; exact marked_nil envOf_noMarks) hF (fun _ => hro) ?_).1
  intro σ' a' w' x1 x2 x3 x4 x5
  refine hQ a' w' _ (head_of x3 x4 hb rfl rfl (fun u h => by cases h; rfl) ?_ (by show 0 < ns.length; omega) (fun x hx => ?_) htr.nd htr.len (Marked.nil (x5 rfl) (headB_marks hb)) hL)
  · show ns.getD 0 0 = keep
    rw [hpre 0 (by omega)]; rfl
  · have := htr.pos x hx
    refine ⟨this.1, ?_⟩
    show x < ns.length
    have h2 := this.2
    rcases Nat.le_total order.length q with h | h
    · rw [Nat.max_eq_right h] at h2; omega
    · rw [Nat.max_eq_left h] at h2; omega

/-! ### the loop -/
theorem skips_false {p : Int} (h : skips p keep = false) : ∃ q : Nat, p = .ofNat q ∧ q < 6 ∧ q ≠ keep := by
  simp only [skips, Bool.or_eq_false_iff, decide_eq_false_iff_not] at h
  obtain ⟨h1, h2, h3⟩ := h
  refine ⟨p.toNat, ?_, ?_, ?_⟩
  · simp; omega
  · omega
  · intro e
    apply h3
    simp
    omega
theorem loop_rounds (hL : L ≤ 100) (hm2 : 2 ≤ many) (hm6 : many ≤ 6) {zs : List Int} (hz : Reads w0 B0 pa zs) (hzl : ∀ i, i < L → ∃ p, zs[i]? = some p) (hF : Free F) (hro : F.round = none)
    (hQ : ∀ a' w' order', Head B0 w0 many keep order' pa pc L L a' w' → Q (.exit 0) a' w') :
    ∀ (rem i : Nat) (order : List Nat) (a : Act) (w : World), i + rem = L → Head B0 w0 many keep order pa pc L i a w → Code.roundsIn F m Try.prog lb Q (rem + 1) a w := by
  intro rem
  induction rem with
  | zero =>
    intro i order a w hi H
    rw [roundsIn_succ, shape3]
    refine wpIn_seq (step9 H hL hF hro fun a1 w1 H1 h48 => ?_)
    refine wpIn_seq (wpIn_cond_false (c := .tmp 48) ?_ (wpIn_exit ?_))
    · show a1.tmps.getD 48 undef = _
      rw [h48]
      have : Nat.ble (i + 1) L = false := by
        cases hb : Nat.ble (i + 1) L with
        | false => rfl
        | true => have := Nat.le_of_ble_eq_true hb; omega
      show Value.bool (Nat.ble (i + 1) L) = _
      rw [this]
    · have e : i = L := by omega
      subst e
      exact hQ a1 w1 order H1
  | succ rem ih =>
    intro i order a w hi H
    rw [roundsIn_succ, shape3]
    have hlt : i < L := by omega
    have hk6 : keep < 6 := H.lt keep List.mem_cons_self
    refine wpIn_seq (step9 H hL hF hro fun a1 w1 H1 h48 => ?_)
    have back : ∀ (a' : Act) (w' : World) (order' : List Nat), Head B0 w0 many keep order' pa pc L i a' w' → r25.wpIn F m Try.prog (Exit.then (Code.roundsIn F m Try.prog lb Q (rem + 1)) Q) a' w' := fun a' w' order' H' =>
      step25 H' hL hlt hF hro fun a2 w2 H2 => ih (i + 1) order' a2 w2 (by omega) H2
    refine wpIn_seq (wpIn_cond_true (c := .tmp 48) ?_ (wpIn_skip ?_))
    · show a1.tmps.getD 48 undef = _
      rw [h48]
      have : Nat.ble (i + 1) L = true := Nat.ble_eq_true_of_le hlt
      show Value.bool (Nat.ble (i + 1) L) = _
      rw [this]
    · refine wpIn_seq (wpIn_block ?_)
      rw [shape4]
      obtain ⟨p, hp⟩ := hzl i hlt
      refine wpIn_seq (step10 H1 hz hp hlt hF fun a2 H2 h10 => ?_)
      refine wpIn_seq (wpIn_seq (step11 H2 hL hF hro h10 hk6 fun a3 w3 H3 h10' h61 => ?_))
      refine wpIn_cond_split (c := .tmp 61) (t := skips p keep) h61 (fun ht => wpIn_exit ?_) (fun hf => wpIn_skip ?_)
      · exact back a3 w3 order H3
      · obtain ⟨q, rfl, hq6, hqk⟩ := skips_false hf
        exact step_rest H3 hL hm2 hm6 h10' hq6 hqk hF hro fun a4 w4 order' H4 => back a4 w4 order' H4

/-! ### behind the loop -/
theorem retTrue_spec {r : Option Res} (h : retTrue r = true) : ∃ e s, r = some ⟨.ret, e, s⟩ ∧ noMarks e = true ∧ e.get 6 = some (.bool true) := by
  unfold retTrue at h
  split at h
  · rw [Bool.and_eq_true] at h
    obtain ⟨h1, h2⟩ := h
    split at h2
    · rename_i hg
      exact ⟨_, _, rfl, h1, hg⟩
    · cases h2
  · cases h
theorem step_post (H : Head B0 w0 many keep order pa pc L i a w) (hL : L ≤ 100) (hm2 : 2 ≤ many) (hm6 : many ≤ 6) (hF : Free F) (hro : F.round = none) {R : Ending → World → Prop}
    (hR : ∀ w', Below B0 w0 w' → R (.returned (.bool true)) w') : post.wpIn F m Try.prog (bodyPost Try.prog Try.f4 R) a w := by
  obtain ⟨σ, hp⟩ := lit_pages H hL
  letI : Tok := lit H hL ()
  obtain ⟨e, s, hrun, hmk, h6⟩ := retTrue_spec (finAll hm2 hm6 H.short (junk a.tmps))
  have henv := headL_rel (ps := []) H hp rfl rfl rfl (fun x hx => by cases hx)
  refine (aCode_sound tabOk callOk true 100000 none post _ _ _ hrun σ a w F m _ hp.inv henv (fun _ => by rw [H.defers]; exact marked_nil envOf_noMarks) hF (fun _ => hro) ?_).1
  intro σ' a' w' x1 x2 x3 x4 x5
  have hres : aResults tab e s Try.f4.results.toList = some [.bool true] := by
    rw [results4]
    have h : aOpd e (.tmp 6) = some (.bool true) := by
      show cond (Nat.beq 6 1099511627776) none (orUndef (e.get 6)) = _
      rw [h6]
      rfl
    show obnd (aOpd e (.tmp 6)) _ = _
    rw [h]
    rfl
  obtain ⟨v', h1, h2⟩ := results_sound tabOk x3 x4 hres
  have hv : v' = .bool true := rel_plain rfl h1
  subst hv
  exact ⟨Marked.nil (x5 rfl) hmk, _, h2, hR w' x3.below⟩

/-! ### the way to the loop -/
theorem aList_sound [Tok] {rest' : Code} (hF : Free F) (hro : F.round = none) : ∀ (l : List Code) (e e' : Tree Value) (s s' : St) (σ : Inj) (a : Act) (w : World), aList tab ca 118 100000 l e s = some (e', s') → Ab.Inv B0 w0 σ s w → EnvRel σ 118 e a.tmps → Marked σ e a.defers →
    (∀ σ' a' w', Ab.Inv B0 w0 σ' s' w' → EnvRel σ' 118 e' a'.tmps → Marked σ' e' a'.defers → rest'.wpIn F m Try.prog Q a' w') → (seqs l rest').wpIn F m Try.prog Q a w
  | [], e, e', s, s', σ, a, w, h, hI, he, hM, hk => by
    cases h
    exact hk σ a w hI he hM
  | c :: l, e, e', s, s', σ, a, w, h, hI, he, hM, hk => by
    obtain ⟨r, hr, h⟩ := obnd_some (show obnd (aCode tab ca 118 true 100000 none c e s) _ = some (e', s') from h)
    refine wpIn_seq ((aCode_sound tabOk callOk true 100000 none c e s r hr σ a w F m _ hI he (fun _ => hM) hF (fun _ => hro) ?_).1)
    intro σ' a' w' x1 x2 x3 x4 x5
    obtain ⟨x, e1, s1⟩ := r
    cases x with
    | normal => exact aList_sound hF hro l e1 e' s1 s' σ' a' w' h x3 x4 (x5 rfl) hk
    | exit id => cases h
    | goto l => cases h
    | ret => cases h
theorem start_spec (h : Ab.start tab ca 100000 pre r8 many = true) : ∃ e1 s1 e2 s2, aList tab ca 118 100000 pre (argsE [iv many, xt 0, tk 0] 0 .leaf) ⟨.leaf, 0⟩ = some (e1, s1) ∧ aCode tab ca 118 true 100000 none r8 e1 s1 = some ⟨.normal, e2, s2⟩ ∧ headB many [] (iv 0) e2 s2 = true := by
  unfold Ab.start at h
  split at h
  · rename_i e1 s1 h1
    split at h
    · rename_i e2 s2 h2
      exact ⟨e1, s1, e2, s2, h1, h2, h⟩
    · cases h
  · cases h
theorem body_ok (hL : L ≤ 100) (hm2 : 2 ≤ many) (hm6 : many ≤ 6) (hk6 : keep < 6) {w : World} {zs : List Int} (hz : Reads w w.heap.size pa zs) (hzl : ∀ i, i < L → ∃ p, zs[i]? = some p) (hF : Free F) (hro : F.round = none) :
    cc.wpIn F m Try.prog (bodyPost Try.prog Try.f4 fun e w' => e = .returned (.bool true) ∧ Below w.heap.size w w') { tmps := #[iv many, .slice pa L pc, iv keep] ++ Array.replicate (118 - 3) undef, defers := [] } w := by
  obtain ⟨e1, s1, e2, s2, h1, h2, hb⟩ := start_spec (stAll hm2 hm6)
  have hnd : [keep].Nodup := by simp
  have hlt : ∀ x ∈ [keep], x < 6 := by simpa using hk6
  letI τ : Tok := names [keep] hnd hlt pa pc L 0 hL fun _ => iv 0
  have hr : LRel (fun _ => none) [iv many, xt 0, tk 0] (#[iv many, .slice pa L pc, iv keep] : Array Value).toList :=
    .cons (.int _ _) (.cons (.ext 0) (.cons (.tok (j := 0) (by show 0 < [keep].length; simp)) .nil))
  have henv := args_env (n := 118) hr (by simp) (by omega)
  have hmk : Marked (fun _ => none) (argsE [iv many, xt 0, tk 0] 0 .leaf) [] := ⟨[], args_mk (n := 118) (by simp) (by omega), .nil⟩
  rw [shape2]
  refine aList_sound hF hro pre _ e1 _ s1 (fun _ => none) _ w h1 (inv_start w) henv hmk fun σ1 a1 w1 i1 v1 m1 => ?_
  refine wpIn_seq (wpIn_seq ((aCode_sound tabOk callOk true 100000 none r8 e1 s1 _ h2 σ1 a1 w1 F m _ i1 v1 (fun _ => m1) hF (fun _ => hro) ?_).1))
  intro σ2 a2 w2 x1 x2 x3 x4 x5
  have H : Head w.heap.size w many keep [] pa pc L 0 a2 w2 :=
    head_of (Pn := []) (i' := 0) x3 x4 hb rfl rfl (fun u h => by cases h; rfl) rfl (by show 0 < [keep].length; simp) (fun q hq => by cases hq) List.nodup_nil (by show 0 < many; omega) (Marked.nil (x5 rfl) (headB_marks hb)) hL
  refine wpIn_block (wpIn_loop_rounds (L + 1) (loop_rounds hL hm2 hm6 hz hzl hF hro (fun a' w' order' H' => ?_) L 0 [] a2 w2 (by omega) H))
  exact step_post H' hL hm2 hm6 hF hro fun w' hbel => ⟨rfl, hbel⟩

/-! ### the call -/
theorem by_run [Tok] {args : List Value} {args' : Array Value} (h : isTrue (ca 4 args ⟨.leaf, 0⟩) = true) (hr : LRel (fun _ => none) args args'.toList) (w : World) :
    Calls Try.prog 4 args' w fun e w' => e = .returned (.bool true) ∧ Below w.heap.size w w' := by
  obtain ⟨s, hs⟩ := isTrue_some h
  obtain ⟨_, _, hc⟩ := (callOk (B0 := w.heap.size) (w0 := w) 4 args _ _ _ hs (fun _ => none) w args' (inv_start w) hr).1 (by decide : (4 : Nat) < 1099511627776)
  refine (callsIn_wide.1 (hc Fence.wide 0 free_wide)).mono ?_
  rintro e w' ⟨σ', v', he, _, hI, hv⟩
  cases hv
  exact ⟨he, hI.below⟩
theorem walk (many keep : Int) (pa : Option Addr) (L pc : Nat) (w : World) (zs : List Int) (hz : Reads w w.heap.size pa zs) (hzl : ∀ i, i < L → ∃ p, zs[i]? = some p) :
    Calls Try.prog 4 #[.int .i64 many, .slice pa L pc, .int .i64 keep] w fun e w' => e = .returned (.bool true) ∧ Below w.heap.size w w' := by
  by_cases hL : L ≤ 100
  · letI : Tok := names [] List.nodup_nil (fun x hx => by cases hx) pa pc L 0 hL fun _ => iv 0
    have rel : ∀ x z, LRel (fun _ => none) [.int .i64 x, xt 0, .int .i64 z] (#[.int .i64 x, .slice pa L pc, .int .i64 z] : Array Value).toList := fun x z =>
      .cons (.int _ _) (.cons (.ext 0) (.cons (.int _ _) .nil))
    cases many with
    | negSucc n => exact by_run (gb n keep) (rel _ _) w
    | ofNat n =>
      by_cases h0 : n = 0
      · subst h0; exact by_run (gc keep) (rel _ _) w
      by_cases h1 : n = 1
      · subst h1; exact by_run (gd keep) (rel _ _) w
      by_cases h7 : 7 ≤ n
      · obtain ⟨k, rfl⟩ : ∃ k, n = k + 7 := ⟨n - 7, by omega⟩
        exact by_run (ge k keep) (rel _ _) w
      have hm2 : 2 ≤ n := by omega
      have hm6 : n ≤ 6 := by omega
      have small : ∀ k : Nat, isTrue (ca 4 [iv n, xt 0, .int .i64 (.negSucc k)] ⟨.leaf, 0⟩) = true ∧ isTrue (ca 4 [iv n, xt 0, .int .i64 (.ofNat (k + 6))] ⟨.leaf, 0⟩) = true := by
        intro k
        rcases (by omega : n = 2 ∨ n = 3 ∨ n = 4 ∨ n = 5 ∨ n = 6) with rfl | rfl | rfl | rfl | rfl
        · exact ⟨gf2 k, gg2 k⟩
        · exact ⟨gf3 k, gg3 k⟩
        · exact ⟨gf4 k, gg4 k⟩
        · exact ⟨gf5 k, gg5 k⟩
        · exact ⟨gf6 k, gg6 k⟩
      cases keep with
      | negSucc k => exact by_run (small k).1 (rel _ _) w
      | ofNat k =>
        by_cases h6 : 6 ≤ k
        · obtain ⟨j, rfl⟩ : ∃ j, k = j + 6 := ⟨k - 6, by omega⟩
          exact by_run (small j).2 (rel _ _) w
        · refine (callsIn_wide (n := 0)).1 (callsIn_of_wp Try.func4 shape1 trivial ?_)
          rw [ntmps4]
          exact body_ok hL hm2 hm6 (by omega) hz hzl free_wide rfl
  · letI : Tok := namesBig pa pc L (by omega)
    exact by_run (ga many keep) (.cons (.int _ _) (.cons (.ext 4) (.cons (.int _ _) .nil))) w
end
end Go.Proofs.Ytijfafacddefhaa.cacheLast
