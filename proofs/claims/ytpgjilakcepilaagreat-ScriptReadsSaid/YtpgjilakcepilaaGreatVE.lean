/- The contract of package script's one. -/
import Derived.Test.YtpgjilakcepilaaGreatVD
namespace Go.Proofs.YtpgjilakcepilaaGreat.PV
open Go.RowKit Go.Proofs.YtpgjilakcepilaaGreat.PScriptReads Go.Proofs.YtpgjilakcepilaaGreatW.PrintWords Go.Proofs.YtpgjilakcepilaaGreatW.PrintLast Go.Proofs.YtpgjilakcepilaaGreatW.PrintMore
set_option linter.unusedVariables false
set_option linter.unusedSimpArgs false

/-- a step -/
structure Stp where
  kind : Int
  client : Int
  lane : Int
  n : Int
  at_ : Int
  mask : Int
  opk : Int
  page : Int
  obj : Int
  re : Nat
  im : Nat
def opV (s : Stp) : Value := .agg #[.int .i64 s.opk, .int .i64 s.page, .int .i64 s.obj, .complex .f64 s.re s.im]
def stepV (s : Stp) : Value := .agg #[.int .i64 s.kind, .int .i64 s.client, .int .i64 s.lane, .int .i64 s.n, .int .i64 s.at_, .int .u16 s.mask, .int .i64 s.opk, .int .i64 s.page, .int .i64 s.obj, .complex .f64 s.re s.im]
def stepC (s : Stp) : List Value := [.int .i64 s.kind, .int .i64 s.client, .int .i64 s.lane, .int .i64 s.n, .int .i64 s.at_, .int .u16 s.mask, .int .i64 s.opk, .int .i64 s.page, .int .i64 s.obj, .complex .f64 s.re s.im]

theorem run_store_complex {P : Program} (a : Addr) (k : FloatKind) (x y : Nat) (m : Mode) (w : World) : (store a (.complex k x y) m).run P w = stored P w a (.complex k x y) m := run_store P w a _ m rfl
attribute [local go_sem] run_store_complex

set_option maxHeartbeats 400000 in
set_option maxRecDepth 100000 in
theorem one_short (A : Option Addr) (c : Nat) (l : List Int) (w : World) (hl : l.length < 27) :
    Calls Tryz.prog 13 #[.slice A l.length c] w fun e w' => e = .returned (.tuple #[stepV ⟨0, 0, 0, 0, 0, 0, 0, 0, 0, 0, 0⟩, .slice none 0 0, .bool false]) ∧ Below w.heap.size w w' := by
  have hg := get_short A c l 9
  go_enter Tryz.func13, Tryz.ntmps13
  go_wp2_with (go_at_call 12; refine (hg _ (by omega) (by omega)).mono ?_; rintro e w' ⟨rfl, rfl⟩)
  refine bodyPost_ret (v := .tuple #[stepV ⟨0, 0, 0, 0, 0, 0, 0, 0, 0, 0, 0⟩, .slice none 0 0, .bool false]) ?_ rfl ⟨rfl, ?_⟩
  · simp [results, Tryz.results13, go_sem, stepV]
  · exact (Below.refl _ _).alloc (Nat.le_refl _) _
/-- a block, its cells -/
def isBlk (w : World) (b : Nat) (T : TypeId) (cs : List Value) : Prop := w.heap[b]? = some (.cells cs.toArray T (0, 0))
theorem blk_cell {w : World} {b : Nat} {T : TypeId} {cs : List Value} (h : isBlk w b T cs) (k : Nat) : w.cell? ⟨b, k, none⟩ = cs[k]? := by
  unfold isBlk at h
  simp [World.cell?, h]
theorem blk_frozen {w : World} {b : Nat} {T : TypeId} {cs : List Value} (h : isBlk w b T cs) (k : Nat) : w.frozen? ⟨b, k, none⟩ = false := by
  unfold isBlk at h
  simp [World.frozen?, h]
theorem blk_set {w : World} {b : Nat} {T : TypeId} {cs : List Value} (h : isBlk w b T cs) (k : Nat) (v : Value) : isBlk (w.setCell ⟨b, k, none⟩ v) b T (cs.set k v) := by
  unfold isBlk at h ⊢
  simp [World.setCell, Array.getElem?_modify, h]
theorem blk_drew {w : World} {b : Nat} {T : TypeId} {cs : List Value} (h : isBlk w b T cs) : isBlk w.drew b T cs := h
theorem blk_lt {w : World} {b : Nat} {T : TypeId} {cs : List Value} (h : isBlk w b T cs) : b < w.heap.size := (Array.getElem?_eq_some_iff.1 h).1
theorem blk_below {w w1 : World} {b : Nat} {T : TypeId} {cs : List Value} (h : isBlk w b T cs) (hb : Below w.heap.size w w1) : isBlk w1 b T cs := by
  have := hb.block b (blk_lt h)
  unfold isBlk at h ⊢
  rw [this, h]
theorem blk_alloc (w : World) (T : TypeId) (cs : List Value) : isBlk (w.alloc (.cells cs.toArray T)) w.heap.size T cs := by
  show (w.heap.push _)[w.heap.size]? = _
  exact Array.getElem?_push_size
def zeroC : List Value := [.int .i64 0, .int .i64 0, .int .i64 0, .int .i64 0, .int .i64 0, .int .u16 0, .int .i64 0, .int .i64 0, .int .i64 0, .complex .f64 0 0]
theorem bcell {W w1 : World} (hb : Below W.heap.size W w1) : (∀ b o, b < W.heap.size → w1.cell? ⟨b, o, none⟩ = W.cell? ⟨b, o, none⟩) ∧ (∀ b o, b < W.heap.size → w1.frozen? ⟨b, o, none⟩ = W.frozen? ⟨b, o, none⟩) :=
  ⟨fun b o h => hb.cell (p := ⟨b, o, none⟩) h, fun b o h => hb.frozen (p := ⟨b, o, none⟩) h⟩
/-- a list of whole numbers, its cells -/
theorem R_ints {w : World} {base : Nat} {v : Value} {l : List Int} {n : Nat} (h : Kd.R (Kd.int .i64) 3 w base (fun _ => True) v l) (hn : l.length = n) (h0 : 0 < n) : ∃ (g c : Nat), v = .slice (some ⟨g, 0, none⟩) n c ∧ base ≤ g ∧ g < w.heap.size ∧ ∀ i : Nat, i < n → w.cell? ⟨g, i, none⟩ = some (.int .i64 (l.getD i 0)) := by
  subst hn
  obtain ⟨A, c, ev, hc, hC⟩ := Kd.R_reads h
  have hb := Kd.R_bound h
  obtain ⟨_, inner, ho, _⟩ := h
  rcases ho.2 with ⟨hv, h2⟩ | ⟨g, cap, cur, hv, hg, hh, r⟩
  · rw [ev] at hv
    injection hv with _ h3 _
    omega
  · rw [ev] at hv
    injection hv with h1 h2 h3
    subst h1
    refine ⟨g, c, ev, hg, ?_, fun i hi => ?_⟩
    · exact (Array.getElem?_eq_some_iff.1 hh).1
    · obtain ⟨ad', e, hx⟩ := Kd.at_int hC i (by omega) (by omega)
      cases e
      rw [Int.toNat_natCast] at hx
      have e2 : (Addr.add ⟨g, 0, none⟩ i) = ⟨g, i, none⟩ := by
        simp [Addr.add]
        omega
      rw [e2] at hx
      rw [hx]
      simp [rd]
theorem nums_getD (l : List Int) (m i : Nat) (h : i < m) : (nums l m).getD i 0 = num l i := by
  simp [nums, List.getD_eq_getElem?_getD, h]

set_option maxHeartbeats 400000 in
set_option maxRecDepth 100000 in
theorem one_mask (A : Option Addr) (c : Nat) (l : List Int) (w : World) (hr : Kd.C (Kd.int .u8) w A l.length l) (hc : l.length ≤ c) (hb : ∀ x ∈ l, byt x) (hl : 27 ≤ l.length) (hL : l.length ≤ 100000) (hm : 65535 < num l 5) :
    Calls Tryz.prog 13 #[.slice A l.length c] w fun e w' => e = .returned (.tuple #[stepV ⟨0, 0, 0, 0, 0, 0, 0, 0, 0, 0, 0⟩, .slice none 0 0, .bool false]) ∧ Below w.heap.size w w' := by
  have hg := fun W hW => get_any A c l 9 W hW hc hb hl (by omega) hL
  have HG := Aside0.mk hg
  have HR := Aside0.mk hr
  clear hg hc hb hL hr
  go_enter Tryz.func13, Tryz.ntmps13
  go_wp2_with (go_at_call 12; refine (HG.out _ (Kd.C_alloc HR.out _)).mono ?_; rintro e w2 ⟨v0, v1, rfl, r0, r1, b2⟩; obtain ⟨g0, c0, rfl, hg0, hg1, hx⟩ := R_ints r0 (nums_length l 9) (by omega); have hx5 := hx 5 (by omega); rw [nums_getD l 9 5 (by omega)] at hx5; have HX := Aside0.mk hx; have B2 := Aside0.mk b2; have R1 := Aside0.mk r1; clear hx r0 r1; obtain ⟨hc2, hf2⟩ := bcell b2; clear b2 hg0 hg1)
  refine bodyPost_ret (v := .tuple #[stepV ⟨0, 0, 0, 0, 0, 0, 0, 0, 0, 0, 0⟩, .slice none 0 0, .bool false]) ?_ rfl ⟨rfl, ?_⟩
  · simp [results, Tryz.results13, go_sem, stepV, hc2]
  · iterate 10 (refine Below.setCell ?_ (by simp) _)
    exact ((Below.refl _ _).alloc (Nat.le_refl _) _).trans (B2.out.mono (by simp))
set_option maxHeartbeats 1000000 in
set_option maxRecDepth 100000 in
theorem one_gen0 (A : Option Addr) (c : Nat) (l : List Int) (re im : Nat) (rest : List Int) (w : World) (hr : Kd.C (Kd.int .u8) w A l.length l) (hc : l.length ≤ c) (hb : ∀ x ∈ l, byt x) (hl : 27 ≤ l.length) (hL : l.length ≤ 100000) (hm : num l 5 ≤ 65535)
    (ht : ∀ (W : World) A1 c1, Kd.C (Kd.int .u8) W A1 (l.length - 3 * 9) (l.drop (3 * 9)) → l.length - 3 * 9 ≤ c1 → Calls Tryz.prog 28 #[.slice A1 (l.length - 3 * 9) c1] W fun e w' => ∃ v1 : Value, e = .returned (.tuple #[.complex .f64 re im, v1, .int .i64 0]) ∧ Kd.R (Kd.int .u8) 5 w' W.heap.size (fun _ => True) v1 rest ∧ Below W.heap.size W w') :
    Calls Tryz.prog 13 #[.slice A l.length c] w fun e w' => ∃ v : Value, e = .returned (.tuple #[stepV ⟨num l 0, num l 1, num l 2, num l 3 - 1, num l 4 - 1, num l 5, num l 6, num l 7, num l 8, re, im⟩, v, .bool true]) ∧ Kd.R (Kd.int .u8) 5 w' w.heap.size (fun _ => True) v rest ∧ Below w.heap.size w w' := by
  have hg := fun W hW => get_any A c l 9 W hW hc hb hl (by omega) hL
  have HG := Aside0.mk hg
  have HR := Aside0.mk hr
  have HT := Aside0.mk ht
  have HN := Aside0.mk (num_bd hb)
  clear hg hc hb hL hr ht
  go_enter Tryz.func13, Tryz.ntmps13
  go_wp2_with (first | (go_at_call 12; refine (HG.out _ (Kd.C_alloc HR.out _)).mono ?_; rintro e w2 ⟨v0, v1, rfl, r0, r1, b2⟩; obtain ⟨g0, c0, rfl, hg0, hg1, hx⟩ := R_ints r0 (nums_length l 9) (by omega); have hx5 := hx 5 (by omega); rw [nums_getD l 9 5 (by omega)] at hx5; obtain ⟨A1, c1, rfl, l1, k1⟩ := Kd.R_reads r1; rw [List.length_drop] at l1 k1; rw [List.length_drop]; have HX := Aside0.mk hx; have B2 := Aside0.mk b2; have L1 := Aside0.mk l1; have K1 := Aside0.mk k1; clear hx r0 r1 l1 k1; obtain ⟨hc2, hf2⟩ := bcell b2; clear b2) | (go_at_call 28; refine (HT.out _ A1 c1 K1.out L1.out).mono ?_; rintro e w3 ⟨v3, rfl, r3, b3⟩; have B3 := Aside0.mk b3; have R3 := Aside0.mk r3; clear b3 r3))
  have hk3 : ∀ k, k < 9 → w3.drew.cell? ⟨g0, k, none⟩ = some (.int .i64 (num l k)) := fun k hk => by
    rw [World.cell?_drew, B3.out.cell (p := ⟨g0, k, none⟩) hg1, HX.out k hk, nums_getD l 9 k hk]
  have HK3 := Aside0.mk hk3
  have hz3 : isBlk w3 w.heap.size 49 zeroC := blk_below (blk_below (blk_alloc w 49 zeroC) B2.out) B3.out
  have hz := blk_cell hz3
  have hzf := blk_frozen hz3
  have HZ3 := Aside0.mk hz3
  unfold zeroC at hz
  clear hk3 hz3
  have e3 : IntKind.i64.wrap (num l 3 - 1) = num l 3 - 1 := by
    have := HN.out 3
    rw [i64_w, w64 _ (by omega) (by omega)]
  have e4 : IntKind.i64.wrap (num l 4 - 1) = num l 4 - 1 := by
    have := HN.out 4
    rw [i64_w, w64 _ (by omega) (by omega)]
  have e5 : IntKind.u16.wrap (num l 5) = num l 5 := by
    have := HN.out 5
    simp only [IntKind.wrap, IntKind.bits, IntKind.signed]
    simp
    omega
  refine start_ (n := 23) (S := fun w' => w'.cell? ⟨g0, 0, none⟩ = some (.int .i64 (num l 0)) ∧ w'.cell? ⟨g0, 1, none⟩ = some (.int .i64 (num l 1)) ∧ w'.cell? ⟨g0, 2, none⟩ = some (.int .i64 (num l 2)) ∧ w'.cell? ⟨g0, 3, none⟩ = some (.int .i64 (num l 3)) ∧ w'.cell? ⟨g0, 4, none⟩ = some (.int .i64 (num l 4)) ∧ w'.cell? ⟨g0, 5, none⟩ = some (.int .i64 (num l 5))) (ds := [22]) #[false, false, false, false, false, false, false, false, false, false, false, false, false, false, false, false, false, false, false, false, false, false, false] (by kernel_rfl) rfl rfl ⟨HK3.out 0 (by omega), HK3.out 1 (by omega), HK3.out 2 (by omega), HK3.out 3 (by omega), HK3.out 4 (by omega), HK3.out 5 (by omega)⟩ (fun hHeld => ?_)
  refine pure_ (i := 0) (N := some 30) (v := ?_) (a' := ?_) #[true, false, false, false, false, false, false, false, false, false, false, false, false, false, false, false, false, false, false, false, false, false, false] rfl rfl (by kernel_rfl) (fun _ _ _ h => h) (Or.inl ⟨by rfl, ?_⟩) ?_ ?_
  rotate_left
  · intro w'
    go_simp
    with_reducible rfl
  rotate_left
  · simp only [Act.put, List.setIfInBounds_toArray, List.set_cons_zero, List.set_cons_succ, i64_w, i32_w]
    rfl
  refine pure_ (i := 1) (N := some 31) (v := ?_) (a' := ?_) #[true, true, false, false, false, false, false, false, false, false, false, false, false, false, false, false, false, false, false, false, false, false, false] rfl rfl (by kernel_rfl) (fun _ _ _ h => h) (Or.inl ⟨by rfl, ?_⟩) ?_ ?_
  rotate_left
  · intro w'
    go_simp
    with_reducible rfl
  rotate_left
  · simp only [Act.put, List.setIfInBounds_toArray, List.set_cons_zero, List.set_cons_succ, i64_w, i32_w]
    rfl
  refine take_ (i := 2) (N := some 32) (v := ?_) (a' := ?_) #[true, true, true, false, false, false, false, false, false, false, false, false, false, false, false, false, false, false, false, false, false, false, false] rfl rfl (by kernel_rfl) (fun _ _ _ h => h) (Or.inl ⟨by rfl, ?_⟩) hHeld ?_ ?_
  rotate_left
  · rintro w' ⟨s0, s1, s2, s3, s4, s5⟩
    go_simp
    with_reducible rfl
  rotate_left
  · simp only [Act.put, List.setIfInBounds_toArray, List.set_cons_zero, List.set_cons_succ, i64_w, i32_w]
    rfl
  refine pure_ (i := 3) (N := some 33) (v := ?_) (a' := ?_) #[true, true, true, true, false, false, false, false, false, false, false, false, false, false, false, false, false, false, false, false, false, false, false] rfl rfl (by kernel_rfl) (fun _ _ _ h => h) (Or.inl ⟨by rfl, ?_⟩) ?_ ?_
  rotate_left
  · intro w'
    go_simp
    with_reducible rfl
  rotate_left
  · simp only [Act.put, List.setIfInBounds_toArray, List.set_cons_zero, List.set_cons_succ, i64_w, i32_w]
    rfl
  refine pure_ (i := 4) (N := some 34) (v := ?_) (a' := ?_) #[true, true, true, true, true, false, false, false, false, false, false, false, false, false, false, false, false, false, false, false, false, false, false] rfl rfl (by kernel_rfl) (fun _ _ _ h => h) (Or.inl ⟨by rfl, ?_⟩) ?_ ?_
  rotate_left
  · intro w'
    go_simp
    with_reducible rfl
  rotate_left
  · simp only [Act.put, List.setIfInBounds_toArray, List.set_cons_zero, List.set_cons_succ, i64_w, i32_w]
    rfl
  refine take_ (i := 5) (N := some 35) (v := ?_) (a' := ?_) #[true, true, true, true, true, true, false, false, false, false, false, false, false, false, false, false, false, false, false, false, false, false, false] rfl rfl (by kernel_rfl) (fun _ _ _ h => h) (Or.inl ⟨by rfl, ?_⟩) hHeld ?_ ?_
  rotate_left
  · rintro w' ⟨s0, s1, s2, s3, s4, s5⟩
    go_simp
    with_reducible rfl
  rotate_left
  · simp only [Act.put, List.setIfInBounds_toArray, List.set_cons_zero, List.set_cons_succ, i64_w, i32_w]
    rfl
  refine pure_ (i := 6) (N := some 36) (v := ?_) (a' := ?_) #[true, true, true, true, true, true, true, false, false, false, false, false, false, false, false, false, false, false, false, false, false, false, false] rfl rfl (by kernel_rfl) (fun _ _ _ h => h) (Or.inl ⟨by rfl, ?_⟩) ?_ ?_
  rotate_left
  · intro w'
    go_simp
    with_reducible rfl
  rotate_left
  · simp only [Act.put, List.setIfInBounds_toArray, List.set_cons_zero, List.set_cons_succ, i64_w, i32_w]
    rfl
  refine pure_ (i := 7) (N := some 37) (v := ?_) (a' := ?_) #[true, true, true, true, true, true, true, true, false, false, false, false, false, false, false, false, false, false, false, false, false, false, false] rfl rfl (by kernel_rfl) (fun _ _ _ h => h) (Or.inl ⟨by rfl, ?_⟩) ?_ ?_
  rotate_left
  · intro w'
    go_simp
    with_reducible rfl
  rotate_left
  · simp only [Act.put, List.setIfInBounds_toArray, List.set_cons_zero, List.set_cons_succ, i64_w, i32_w]
    rfl
  refine take_ (i := 8) (N := some 38) (v := ?_) (a' := ?_) #[true, true, true, true, true, true, true, true, true, false, false, false, false, false, false, false, false, false, false, false, false, false, false] rfl rfl (by kernel_rfl) (fun _ _ _ h => h) (Or.inl ⟨by rfl, ?_⟩) hHeld ?_ ?_
  rotate_left
  · rintro w' ⟨s0, s1, s2, s3, s4, s5⟩
    go_simp
    with_reducible rfl
  rotate_left
  · simp only [Act.put, List.setIfInBounds_toArray, List.set_cons_zero, List.set_cons_succ, i64_w, i32_w]
    rfl
  refine pure_ (i := 9) (N := some 39) (v := ?_) (a' := ?_) #[true, true, true, true, true, true, true, true, true, true, false, false, false, false, false, false, false, false, false, false, false, false, false] rfl rfl (by kernel_rfl) (fun _ _ _ h => h) (Or.inl ⟨by rfl, ?_⟩) ?_ ?_
  rotate_left
  · intro w'
    go_simp
    with_reducible rfl
  rotate_left
  · simp only [Act.put, List.setIfInBounds_toArray, List.set_cons_zero, List.set_cons_succ, i64_w, i32_w]
    rfl
  refine pure_ (i := 10) (N := some 40) (v := ?_) (a' := ?_) #[true, true, true, true, true, true, true, true, true, true, true, false, false, false, false, false, false, false, false, false, false, false, false] rfl rfl (by kernel_rfl) (fun _ _ _ h => h) (Or.inl ⟨by rfl, ?_⟩) ?_ ?_
  rotate_left
  · intro w'
    go_simp
    with_reducible rfl
  rotate_left
  · simp only [Act.put, List.setIfInBounds_toArray, List.set_cons_zero, List.set_cons_succ, i64_w, i32_w]
    rfl
  refine take_ (i := 11) (N := some 41) (v := ?_) (a' := ?_) #[true, true, true, true, true, true, true, true, true, true, true, true, false, false, false, false, false, false, false, false, false, false, false] rfl rfl (by kernel_rfl) (fun _ _ _ h => h) (Or.inl ⟨by rfl, ?_⟩) hHeld ?_ ?_
  rotate_left
  · rintro w' ⟨s0, s1, s2, s3, s4, s5⟩
    go_simp
    with_reducible rfl
  rotate_left
  · simp only [Act.put, List.setIfInBounds_toArray, List.set_cons_zero, List.set_cons_succ, i64_w, i32_w]
    rfl
  refine pure_ (i := 12) (N := some 42) (v := ?_) (a' := ?_) #[true, true, true, true, true, true, true, true, true, true, true, true, true, false, false, false, false, false, false, false, false, false, false] rfl rfl (by kernel_rfl) (fun _ _ _ h => h) (Or.inl ⟨by rfl, ?_⟩) ?_ ?_
  rotate_left
  · intro w'
    go_simp
    with_reducible rfl
  rotate_left
  · simp only [Act.put, List.setIfInBounds_toArray, List.set_cons_zero, List.set_cons_succ, i64_w, i32_w]
    rfl
  refine pure_ (i := 13) (N := some 43) (v := ?_) (a' := ?_) #[true, true, true, true, true, true, true, true, true, true, true, true, true, true, false, false, false, false, false, false, false, false, false] rfl rfl (by kernel_rfl) (fun _ _ _ h => h) (Or.inl ⟨by rfl, ?_⟩) ?_ ?_
  rotate_left
  · intro w'
    go_simp
    with_reducible rfl
  rotate_left
  · simp only [Act.put, List.setIfInBounds_toArray, List.set_cons_zero, List.set_cons_succ, i64_w, i32_w]
    rfl
  refine pure_ (i := 14) (N := some 44) (v := ?_) (a' := ?_) #[true, true, true, true, true, true, true, true, true, true, true, true, true, true, true, false, false, false, false, false, false, false, false] rfl rfl (by kernel_rfl) (fun _ _ _ h => h) (Or.inl ⟨by rfl, ?_⟩) ?_ ?_
  rotate_left
  · intro w'
    go_simp
    with_reducible rfl
  rotate_left
  · simp only [Act.put, List.setIfInBounds_toArray, List.set_cons_zero, List.set_cons_succ, i64_w, i32_w]
    rfl
  refine take_ (i := 15) (N := some 45) (v := ?_) (a' := ?_) #[true, true, true, true, true, true, true, true, true, true, true, true, true, true, true, true, false, false, false, false, false, false, false] rfl rfl (by kernel_rfl) (fun _ _ _ h => h) (Or.inl ⟨by rfl, ?_⟩) hHeld ?_ ?_
  rotate_left
  · rintro w' ⟨s0, s1, s2, s3, s4, s5⟩
    go_simp
    with_reducible rfl
  rotate_left
  · simp only [Act.put, List.setIfInBounds_toArray, List.set_cons_zero, List.set_cons_succ, i64_w, i32_w]
    rfl
  refine pure_ (i := 16) (N := some 46) (v := ?_) (a' := ?_) #[true, true, true, true, true, true, true, true, true, true, true, true, true, true, true, true, true, false, false, false, false, false, false] rfl rfl (by kernel_rfl) (fun _ _ _ h => h) (Or.inl ⟨by rfl, ?_⟩) ?_ ?_
  rotate_left
  · intro w'
    go_simp
    with_reducible rfl
  rotate_left
  · simp only [Act.put, List.setIfInBounds_toArray, List.set_cons_zero, List.set_cons_succ, i64_w, i32_w]
    rfl
  refine pure_ (i := 17) (N := some 47) (v := ?_) (a' := ?_) #[true, true, true, true, true, true, true, true, true, true, true, true, true, true, true, true, true, true, false, false, false, false, false] rfl rfl (by kernel_rfl) (fun _ _ _ h => h) (Or.inl ⟨by rfl, ?_⟩) ?_ ?_
  rotate_left
  · intro w'
    go_simp
    with_reducible rfl
  rotate_left
  · simp only [Act.put, List.setIfInBounds_toArray, List.set_cons_zero, List.set_cons_succ, i64_w, i32_w]
    rfl
  refine pure_ (i := 18) (N := some 48) (v := ?_) (a' := ?_) #[true, true, true, true, true, true, true, true, true, true, true, true, true, true, true, true, true, true, true, false, false, false, false] rfl rfl (by kernel_rfl) (fun _ _ _ h => h) (Or.inl ⟨by rfl, ?_⟩) ?_ ?_
  rotate_left
  · intro w'
    go_simp
    with_reducible rfl
  rotate_left
  · simp only [Act.put, List.setIfInBounds_toArray, List.set_cons_zero, List.set_cons_succ, i64_w, i32_w]
    rfl
  refine take_ (i := 19) (N := some 49) (v := ?_) (a' := ?_) #[true, true, true, true, true, true, true, true, true, true, true, true, true, true, true, true, true, true, true, true, false, false, false] rfl rfl (by kernel_rfl) (fun _ _ _ h => h) (Or.inl ⟨by rfl, ?_⟩) hHeld ?_ ?_
  rotate_left
  · rintro w' ⟨s0, s1, s2, s3, s4, s5⟩
    go_simp
    with_reducible rfl
  rotate_left
  · simp only [Act.put, List.setIfInBounds_toArray, List.set_cons_zero, List.set_cons_succ, i64_w, i32_w]
    rfl
  refine pure_ (i := 20) (N := some 50) (v := ?_) (a' := ?_) #[true, true, true, true, true, true, true, true, true, true, true, true, true, true, true, true, true, true, true, true, true, false, false] rfl rfl (by kernel_rfl) (fun _ _ _ h => h) (Or.inl ⟨by rfl, ?_⟩) ?_ ?_
  rotate_left
  · intro w'
    go_simp
    with_reducible rfl
  rotate_left
  · simp only [Act.put, List.setIfInBounds_toArray, List.set_cons_zero, List.set_cons_succ, i64_w, i32_w]
    rfl
  refine pure_ (i := 21) (N := some 51) (v := ?_) (a' := ?_) #[true, true, true, true, true, true, true, true, true, true, true, true, true, true, true, true, true, true, true, true, true, true, false] rfl rfl (by kernel_rfl) (fun _ _ _ h => h) (Or.inl ⟨by rfl, ?_⟩) ?_ ?_
  rotate_left
  · intro w'
    go_simp
    with_reducible rfl
  rotate_left
  · simp only [Act.put, List.setIfInBounds_toArray, List.set_cons_zero, List.set_cons_succ, i64_w, i32_w]
    rfl
  refine last_ (i := 22) (N := none) #[true, true, true, true, true, true, true, true, true, true, true, true, true, true, true, true, true, true, true, true, true, true, true] rfl rfl (by kernel_rfl) (by decide) (fun K hK => ?_)
  refine skip_ (w1 := ?_) (by rfl) rfl ?_ ?_
  rotate_left
  · go_simp
    rfl
  refine hK.out _ _ ?_
  clear hK K
  refine done_ (by kernel_rfl) ?_
  have hz4 : isBlk ((((((((((w3.setCell ⟨w.heap.size, 0, none⟩ (.int .i64 (num l 0))).setCell ⟨w.heap.size, 1, none⟩ (.int .i64 (num l 1))).setCell ⟨w.heap.size, 2, none⟩ (.int .i64 (num l 2))).setCell ⟨w.heap.size, 3, none⟩ (.int .i64 (num l 3 - 1))).setCell ⟨w.heap.size, 4, none⟩ (.int .i64 (num l 4 - 1))).setCell ⟨w.heap.size, 5, none⟩ (.int .u16 (num l 5))).setCell ⟨w.heap.size, 6, none⟩ (.int .i64 0)).setCell ⟨w.heap.size, 7, none⟩ (.int .i64 0)).setCell ⟨w.heap.size, 8, none⟩ (.int .i64 0)).setCell ⟨w.heap.size, 9, none⟩ (.complex .f64 0 0)).drew w.heap.size 49 [.int .i64 (num l 0), .int .i64 (num l 1), .int .i64 (num l 2), .int .i64 (num l 3 - 1), .int .i64 (num l 4 - 1), .int .u16 (num l 5), .int .i64 0, .int .i64 0, .int .i64 0, .complex .f64 0 0] := blk_drew (blk_set (blk_set (blk_set (blk_set (blk_set (blk_set (blk_set (blk_set (blk_set (blk_set HZ3.out 0 _) 1 _) 2 _) 3 _) 4 _) 5 _) 6 _) 7 _) 8 _) 9 _)
  have hB3 : Below w.heap.size w w3 := (((Below.refl _ _).alloc (Nat.le_refl _) _).trans (B2.out.mono (by simp))).trans (B3.out.mono (Nat.le_of_lt (blk_lt (blk_below (blk_alloc w 49 zeroC) B2.out))))
  have hB4 : Below w.heap.size w ((((((((((w3.setCell ⟨w.heap.size, 0, none⟩ (.int .i64 (num l 0))).setCell ⟨w.heap.size, 1, none⟩ (.int .i64 (num l 1))).setCell ⟨w.heap.size, 2, none⟩ (.int .i64 (num l 2))).setCell ⟨w.heap.size, 3, none⟩ (.int .i64 (num l 3 - 1))).setCell ⟨w.heap.size, 4, none⟩ (.int .i64 (num l 4 - 1))).setCell ⟨w.heap.size, 5, none⟩ (.int .u16 (num l 5))).setCell ⟨w.heap.size, 6, none⟩ (.int .i64 0)).setCell ⟨w.heap.size, 7, none⟩ (.int .i64 0)).setCell ⟨w.heap.size, 8, none⟩ (.int .i64 0)).setCell ⟨w.heap.size, 9, none⟩ (.complex .f64 0 0)).drew := by
    refine below_drew1 ?_
    iterate 10 (refine Below.setCell ?_ (by simp) _)
    exact hB3
  have hR4 : Kd.R (Kd.int .u8) 5 ((((((((((w3.setCell ⟨w.heap.size, 0, none⟩ (.int .i64 (num l 0))).setCell ⟨w.heap.size, 1, none⟩ (.int .i64 (num l 1))).setCell ⟨w.heap.size, 2, none⟩ (.int .i64 (num l 2))).setCell ⟨w.heap.size, 3, none⟩ (.int .i64 (num l 3 - 1))).setCell ⟨w.heap.size, 4, none⟩ (.int .i64 (num l 4 - 1))).setCell ⟨w.heap.size, 5, none⟩ (.int .u16 (num l 5))).setCell ⟨w.heap.size, 6, none⟩ (.int .i64 0)).setCell ⟨w.heap.size, 7, none⟩ (.int .i64 0)).setCell ⟨w.heap.size, 8, none⟩ (.int .i64 0)).setCell ⟨w.heap.size, 9, none⟩ (.complex .f64 0 0)).drew w.heap.size (fun k => w.heap.size < k) v3 rest := by
    have h0 := Kd.R_mono (Kd.R_bound R3.out) (ok' := fun k => w.heap.size < k) (fun k hk => Nat.lt_of_lt_of_le (blk_lt (blk_below (blk_alloc w 49 zeroC) B2.out)) hk.2.1)
    refine Kd.R_drew ?_
    iterate 10 (refine Kd.R_far ?_ (fun k hk => Nat.ne_of_gt hk) _)
    exact Kd.R_lower h0 (Nat.le_of_lt (blk_lt (blk_below (blk_alloc w 49 zeroC) B2.out)))
  have hk4 : ∀ k, k < 9 → (((((((((((w3.setCell ⟨w.heap.size, 0, none⟩ (.int .i64 (num l 0))).setCell ⟨w.heap.size, 1, none⟩ (.int .i64 (num l 1))).setCell ⟨w.heap.size, 2, none⟩ (.int .i64 (num l 2))).setCell ⟨w.heap.size, 3, none⟩ (.int .i64 (num l 3 - 1))).setCell ⟨w.heap.size, 4, none⟩ (.int .i64 (num l 4 - 1))).setCell ⟨w.heap.size, 5, none⟩ (.int .u16 (num l 5))).setCell ⟨w.heap.size, 6, none⟩ (.int .i64 0)).setCell ⟨w.heap.size, 7, none⟩ (.int .i64 0)).setCell ⟨w.heap.size, 8, none⟩ (.int .i64 0)).setCell ⟨w.heap.size, 9, none⟩ (.complex .f64 0 0)).drew).cell? ⟨g0, k, none⟩ = some (.int .i64 (num l k)) := fun k hk => by
    rw [World.cell?_drew]
    have hne : g0 ≠ w.heap.size := by
      have := hg0
      simp at this
      omega
    unfold World.cell?
    iterate 10 (rw [Below.heap_setCell _ _ _ _ hne])
    exact HK3.out k hk
  generalize ((((((((((w3.setCell ⟨w.heap.size, 0, none⟩ (.int .i64 (num l 0))).setCell ⟨w.heap.size, 1, none⟩ (.int .i64 (num l 1))).setCell ⟨w.heap.size, 2, none⟩ (.int .i64 (num l 2))).setCell ⟨w.heap.size, 3, none⟩ (.int .i64 (num l 3 - 1))).setCell ⟨w.heap.size, 4, none⟩ (.int .i64 (num l 4 - 1))).setCell ⟨w.heap.size, 5, none⟩ (.int .u16 (num l 5))).setCell ⟨w.heap.size, 6, none⟩ (.int .i64 0)).setCell ⟨w.heap.size, 7, none⟩ (.int .i64 0)).setCell ⟨w.heap.size, 8, none⟩ (.int .i64 0)).setCell ⟨w.heap.size, 9, none⟩ (.complex .f64 0 0)).drew = w4 at hz4 hB4 hR4 hk4 ⊢
  have HZ4 := Aside0.mk hz4
  have HB4 := Aside0.mk hB4
  have HR4 := Aside0.mk hR4
  have HK4 := Aside0.mk hk4
  clear hB4 hR4 hk4 hz hzf HK3 HZ3 hB3 hz4 e3 e4 e5
  go_wp2
  have hz := blk_cell (blk_drew HZ4.out)
  have hzf := blk_frozen HZ4.out
  have hz' := blk_cell HZ4.out
  refine start_ (n := 13) (S := fun w' => w'.cell? ⟨g0, 6, none⟩ = some (.int .i64 (num l 6)) ∧ w'.cell? ⟨g0, 7, none⟩ = some (.int .i64 (num l 7)) ∧ w'.cell? ⟨g0, 8, none⟩ = some (.int .i64 (num l 8))) (ds := [12]) #[false, false, false, false, false, false, false, false, false, false, false, false, false] (by kernel_rfl) rfl rfl ⟨(World.cell?_drew _ _).trans (HK4.out 6 (by omega)), (World.cell?_drew _ _).trans (HK4.out 7 (by omega)), (World.cell?_drew _ _).trans (HK4.out 8 (by omega))⟩ (fun hHeld => ?_)
  refine pure_ (i := 0) (N := some 52) (v := ?_) (a' := ?_) #[true, false, false, false, false, false, false, false, false, false, false, false, false] rfl rfl (by kernel_rfl) (fun _ _ _ h => h) (Or.inl ⟨by rfl, ?_⟩) ?_ ?_
  rotate_left
  · intro w'
    go_simp
    with_reducible rfl
  rotate_left
  · simp only [Act.put, List.setIfInBounds_toArray, List.set_cons_zero, List.set_cons_succ, i64_w, i32_w]
    rfl
  refine pure_ (i := 1) (N := some 53) (v := ?_) (a' := ?_) #[true, true, false, false, false, false, false, false, false, false, false, false, false] rfl rfl (by kernel_rfl) (fun _ _ _ h => h) (Or.inl ⟨by rfl, ?_⟩) ?_ ?_
  rotate_left
  · intro w'
    go_simp
    with_reducible rfl
  rotate_left
  · simp only [Act.put, List.setIfInBounds_toArray, List.set_cons_zero, List.set_cons_succ, i64_w, i32_w]
    rfl
  refine take_ (i := 2) (N := some 54) (v := ?_) (a' := ?_) #[true, true, true, false, false, false, false, false, false, false, false, false, false] rfl rfl (by kernel_rfl) (fun _ _ _ h => h) (Or.inl ⟨by rfl, ?_⟩) hHeld ?_ ?_
  rotate_left
  · rintro w' ⟨s0, s1, s2⟩
    go_simp
    with_reducible rfl
  rotate_left
  · simp only [Act.put, List.setIfInBounds_toArray, List.set_cons_zero, List.set_cons_succ, i64_w, i32_w]
    rfl
  refine pure_ (i := 3) (N := some 55) (v := ?_) (a' := ?_) #[true, true, true, true, false, false, false, false, false, false, false, false, false] rfl rfl (by kernel_rfl) (fun _ _ _ h => h) (Or.inl ⟨by rfl, ?_⟩) ?_ ?_
  rotate_left
  · intro w'
    go_simp
    with_reducible rfl
  rotate_left
  · simp only [Act.put, List.setIfInBounds_toArray, List.set_cons_zero, List.set_cons_succ, i64_w, i32_w]
    rfl
  refine pure_ (i := 4) (N := some 56) (v := ?_) (a' := ?_) #[true, true, true, true, true, false, false, false, false, false, false, false, false] rfl rfl (by kernel_rfl) (fun _ _ _ h => h) (Or.inl ⟨by rfl, ?_⟩) ?_ ?_
  rotate_left
  · intro w'
    go_simp
    with_reducible rfl
  rotate_left
  · simp only [Act.put, List.setIfInBounds_toArray, List.set_cons_zero, List.set_cons_succ, i64_w, i32_w]
    rfl
  refine take_ (i := 5) (N := some 57) (v := ?_) (a' := ?_) #[true, true, true, true, true, true, false, false, false, false, false, false, false] rfl rfl (by kernel_rfl) (fun _ _ _ h => h) (Or.inl ⟨by rfl, ?_⟩) hHeld ?_ ?_
  rotate_left
  · rintro w' ⟨s0, s1, s2⟩
    go_simp
    with_reducible rfl
  rotate_left
  · simp only [Act.put, List.setIfInBounds_toArray, List.set_cons_zero, List.set_cons_succ, i64_w, i32_w]
    rfl
  refine pure_ (i := 6) (N := some 58) (v := ?_) (a' := ?_) #[true, true, true, true, true, true, true, false, false, false, false, false, false] rfl rfl (by kernel_rfl) (fun _ _ _ h => h) (Or.inl ⟨by rfl, ?_⟩) ?_ ?_
  rotate_left
  · intro w'
    go_simp
    with_reducible rfl
  rotate_left
  · simp only [Act.put, List.setIfInBounds_toArray, List.set_cons_zero, List.set_cons_succ, i64_w, i32_w]
    rfl
  refine pure_ (i := 7) (N := some 59) (v := ?_) (a' := ?_) #[true, true, true, true, true, true, true, true, false, false, false, false, false] rfl rfl (by kernel_rfl) (fun _ _ _ h => h) (Or.inl ⟨by rfl, ?_⟩) ?_ ?_
  rotate_left
  · intro w'
    go_simp
    with_reducible rfl
  rotate_left
  · simp only [Act.put, List.setIfInBounds_toArray, List.set_cons_zero, List.set_cons_succ, i64_w, i32_w]
    rfl
  refine take_ (i := 8) (N := some 60) (v := ?_) (a' := ?_) #[true, true, true, true, true, true, true, true, true, false, false, false, false] rfl rfl (by kernel_rfl) (fun _ _ _ h => h) (Or.inl ⟨by rfl, ?_⟩) hHeld ?_ ?_
  rotate_left
  · rintro w' ⟨s0, s1, s2⟩
    go_simp
    with_reducible rfl
  rotate_left
  · simp only [Act.put, List.setIfInBounds_toArray, List.set_cons_zero, List.set_cons_succ, i64_w, i32_w]
    rfl
  refine pure_ (i := 9) (N := some 61) (v := ?_) (a' := ?_) #[true, true, true, true, true, true, true, true, true, true, false, false, false] rfl rfl (by kernel_rfl) (fun _ _ _ h => h) (Or.inl ⟨by rfl, ?_⟩) ?_ ?_
  rotate_left
  · intro w'
    go_simp
    with_reducible rfl
  rotate_left
  · simp only [Act.put, List.setIfInBounds_toArray, List.set_cons_zero, List.set_cons_succ, i64_w, i32_w]
    rfl
  refine pure_ (i := 10) (N := some 62) (v := ?_) (a' := ?_) #[true, true, true, true, true, true, true, true, true, true, true, false, false] rfl rfl (by kernel_rfl) (fun _ _ _ h => h) (Or.inl ⟨by rfl, ?_⟩) ?_ ?_
  rotate_left
  · intro w'
    go_simp
    with_reducible rfl
  rotate_left
  · simp only [Act.put, List.setIfInBounds_toArray, List.set_cons_zero, List.set_cons_succ, i64_w, i32_w]
    rfl
  refine pure_ (i := 11) (N := some 63) (v := ?_) (a' := ?_) #[true, true, true, true, true, true, true, true, true, true, true, true, false] rfl rfl (by kernel_rfl) (fun _ _ _ h => h) (Or.inl ⟨by rfl, ?_⟩) ?_ ?_
  rotate_left
  · intro w'
    go_simp
    with_reducible rfl
  rotate_left
  · simp only [Act.put, List.setIfInBounds_toArray, List.set_cons_zero, List.set_cons_succ, i64_w, i32_w]
    rfl
  refine last_ (i := 12) (N := none) #[true, true, true, true, true, true, true, true, true, true, true, true, true] rfl rfl (by kernel_rfl) (by decide) (fun K hK => ?_)
  refine skip_ (w1 := ?_) (by rfl) rfl ?_ ?_
  rotate_left
  · go_simp
    rfl
  refine hK.out _ _ ?_
  clear hK K
  refine done_ (by kernel_rfl) ?_
  have hz5 : isBlk ((((w4.setCell ⟨w.heap.size, 6, none⟩ (.int .i64 (num l 6))).setCell ⟨w.heap.size, 7, none⟩ (.int .i64 (num l 7))).setCell ⟨w.heap.size, 8, none⟩ (.int .i64 (num l 8))).setCell ⟨w.heap.size, 9, none⟩ (.complex .f64 re im)).drew w.heap.size 49 [.int .i64 (num l 0), .int .i64 (num l 1), .int .i64 (num l 2), .int .i64 (num l 3 - 1), .int .i64 (num l 4 - 1), .int .u16 (num l 5), .int .i64 (num l 6), .int .i64 (num l 7), .int .i64 (num l 8), .complex .f64 re im] := blk_drew (blk_set (blk_set (blk_set (blk_set HZ4.out 6 _) 7 _) 8 _) 9 _)
  have hB5 : Below w.heap.size w ((((w4.setCell ⟨w.heap.size, 6, none⟩ (.int .i64 (num l 6))).setCell ⟨w.heap.size, 7, none⟩ (.int .i64 (num l 7))).setCell ⟨w.heap.size, 8, none⟩ (.int .i64 (num l 8))).setCell ⟨w.heap.size, 9, none⟩ (.complex .f64 re im)).drew := by
    refine below_drew1 ?_
    iterate 4 (refine Below.setCell ?_ (by simp) _)
    exact HB4.out
  have hR5 : Kd.R (Kd.int .u8) 5 ((((w4.setCell ⟨w.heap.size, 6, none⟩ (.int .i64 (num l 6))).setCell ⟨w.heap.size, 7, none⟩ (.int .i64 (num l 7))).setCell ⟨w.heap.size, 8, none⟩ (.int .i64 (num l 8))).setCell ⟨w.heap.size, 9, none⟩ (.complex .f64 re im)).drew w.heap.size (fun k => w.heap.size < k) v3 rest := by
    refine Kd.R_drew ?_
    iterate 4 (refine Kd.R_far ?_ (fun k hk => Nat.ne_of_gt hk) _)
    exact HR4.out
  generalize ((((w4.setCell ⟨w.heap.size, 6, none⟩ (.int .i64 (num l 6))).setCell ⟨w.heap.size, 7, none⟩ (.int .i64 (num l 7))).setCell ⟨w.heap.size, 8, none⟩ (.int .i64 (num l 8))).setCell ⟨w.heap.size, 9, none⟩ (.complex .f64 re im)).drew = w5 at hz5 hB5 hR5 ⊢
  have HZ5 := Aside0.mk hz5
  have HB5 := Aside0.mk hB5
  have HR5 := Aside0.mk hR5
  clear hB5 hR5 hz5 hz hzf hz'
  have hz := blk_cell HZ5.out
  have hzf := blk_frozen HZ5.out
  go_wp2
  refine bodyPost_ret (v := .tuple #[stepV ⟨num l 0, num l 1, num l 2, num l 3 - 1, num l 4 - 1, num l 5, num l 6, num l 7, num l 8, re, im⟩, v3, .bool true]) ?_ rfl ⟨v3, rfl, ?_, ?_⟩
  · simp [results, Tryz.results13, go_sem, stepV, hz]
  · refine Kd.R_mono (ok := fun k => w.heap.size < k) ?_ (fun _ _ => trivial)
    iterate 10 (refine Kd.R_far ?_ (fun k hk => Nat.ne_of_gt hk) _)
    exact HR5.out
  · iterate 10 (refine Below.setCell ?_ (by simp) _)
    exact HB5.out
set_option maxHeartbeats 1000000 in
set_option maxRecDepth 100000 in
theorem one_gen21 (A : Option Addr) (c : Nat) (l : List Int) (re im : Nat) (rest : List Int) (w : World) (hr : Kd.C (Kd.int .u8) w A l.length l) (hc : l.length ≤ c) (hb : ∀ x ∈ l, byt x) (hl : 27 ≤ l.length) (hL : l.length ≤ 100000) (hm : num l 5 ≤ 65535)
    (ht : ∀ (W : World) A1 c1, Kd.C (Kd.int .u8) W A1 (l.length - 3 * 9) (l.drop (3 * 9)) → l.length - 3 * 9 ≤ c1 → Calls Tryz.prog 28 #[.slice A1 (l.length - 3 * 9) c1] W fun e w' => ∃ v1 : Value, e = .returned (.tuple #[.complex .f64 re im, v1, .int .i64 21]) ∧ Kd.R (Kd.int .u8) 5 w' W.heap.size (fun _ => True) v1 rest ∧ Below W.heap.size W w') :
    Calls Tryz.prog 13 #[.slice A l.length c] w fun e w' => ∃ v : Value, e = .returned (.tuple #[stepV ⟨num l 0, num l 1, num l 2, num l 3 - 1, num l 4 - 1, num l 5, num l 6, num l 7, num l 8, re, im⟩, v, .bool false]) ∧ Kd.R (Kd.int .u8) 5 w' w.heap.size (fun _ => True) v rest ∧ Below w.heap.size w w' := by
  have hg := fun W hW => get_any A c l 9 W hW hc hb hl (by omega) hL
  have HG := Aside0.mk hg
  have HR := Aside0.mk hr
  have HT := Aside0.mk ht
  have HN := Aside0.mk (num_bd hb)
  clear hg hc hb hL hr ht
  go_enter Tryz.func13, Tryz.ntmps13
  go_wp2_with (first | (go_at_call 12; refine (HG.out _ (Kd.C_alloc HR.out _)).mono ?_; rintro e w2 ⟨v0, v1, rfl, r0, r1, b2⟩; obtain ⟨g0, c0, rfl, hg0, hg1, hx⟩ := R_ints r0 (nums_length l 9) (by omega); have hx5 := hx 5 (by omega); rw [nums_getD l 9 5 (by omega)] at hx5; obtain ⟨A1, c1, rfl, l1, k1⟩ := Kd.R_reads r1; rw [List.length_drop] at l1 k1; rw [List.length_drop]; have HX := Aside0.mk hx; have B2 := Aside0.mk b2; have L1 := Aside0.mk l1; have K1 := Aside0.mk k1; clear hx r0 r1 l1 k1; obtain ⟨hc2, hf2⟩ := bcell b2; clear b2) | (go_at_call 28; refine (HT.out _ A1 c1 K1.out L1.out).mono ?_; rintro e w3 ⟨v3, rfl, r3, b3⟩; have B3 := Aside0.mk b3; have R3 := Aside0.mk r3; clear b3 r3))
  have hk3 : ∀ k, k < 9 → w3.drew.cell? ⟨g0, k, none⟩ = some (.int .i64 (num l k)) := fun k hk => by
    rw [World.cell?_drew, B3.out.cell (p := ⟨g0, k, none⟩) hg1, HX.out k hk, nums_getD l 9 k hk]
  have HK3 := Aside0.mk hk3
  have hz3 : isBlk w3 w.heap.size 49 zeroC := blk_below (blk_below (blk_alloc w 49 zeroC) B2.out) B3.out
  have hz := blk_cell hz3
  have hzf := blk_frozen hz3
  have HZ3 := Aside0.mk hz3
  unfold zeroC at hz
  clear hk3 hz3
  have e3 : IntKind.i64.wrap (num l 3 - 1) = num l 3 - 1 := by
    have := HN.out 3
    rw [i64_w, w64 _ (by omega) (by omega)]
  have e4 : IntKind.i64.wrap (num l 4 - 1) = num l 4 - 1 := by
    have := HN.out 4
    rw [i64_w, w64 _ (by omega) (by omega)]
  have e5 : IntKind.u16.wrap (num l 5) = num l 5 := by
    have := HN.out 5
    simp only [IntKind.wrap, IntKind.bits, IntKind.signed]
    simp
    omega
  refine start_ (n := 23) (S := fun w' => w'.cell? ⟨g0, 0, none⟩ = some (.int .i64 (num l 0)) ∧ w'.cell? ⟨g0, 1, none⟩ = some (.int .i64 (num l 1)) ∧ w'.cell? ⟨g0, 2, none⟩ = some (.int .i64 (num l 2)) ∧ w'.cell? ⟨g0, 3, none⟩ = some (.int .i64 (num l 3)) ∧ w'.cell? ⟨g0, 4, none⟩ = some (.int .i64 (num l 4)) ∧ w'.cell? ⟨g0, 5, none⟩ = some (.int .i64 (num l 5))) (ds := [22]) #[false, false, false, false, false, false, false, false, false, false, false, false, false, false, false, false, false, false, false, false, false, false, false] (by kernel_rfl) rfl rfl ⟨HK3.out 0 (by omega), HK3.out 1 (by omega), HK3.out 2 (by omega), HK3.out 3 (by omega), HK3.out 4 (by omega), HK3.out 5 (by omega)⟩ (fun hHeld => ?_)
  refine pure_ (i := 0) (N := some 30) (v := ?_) (a' := ?_) #[true, false, false, false, false, false, false, false, false, false, false, false, false, false, false, false, false, false, false, false, false, false, false] rfl rfl (by kernel_rfl) (fun _ _ _ h => h) (Or.inl ⟨by rfl, ?_⟩) ?_ ?_
  rotate_left
  · intro w'
    go_simp
    with_reducible rfl
  rotate_left
  · simp only [Act.put, List.setIfInBounds_toArray, List.set_cons_zero, List.set_cons_succ, i64_w, i32_w]
    rfl
  refine pure_ (i := 1) (N := some 31) (v := ?_) (a' := ?_) #[true, true, false, false, false, false, false, false, false, false, false, false, false, false, false, false, false, false, false, false, false, false, false] rfl rfl (by kernel_rfl) (fun _ _ _ h => h) (Or.inl ⟨by rfl, ?_⟩) ?_ ?_
  rotate_left
  · intro w'
    go_simp
    with_reducible rfl
  rotate_left
  · simp only [Act.put, List.setIfInBounds_toArray, List.set_cons_zero, List.set_cons_succ, i64_w, i32_w]
    rfl
  refine take_ (i := 2) (N := some 32) (v := ?_) (a' := ?_) #[true, true, true, false, false, false, false, false, false, false, false, false, false, false, false, false, false, false, false, false, false, false, false] rfl rfl (by kernel_rfl) (fun _ _ _ h => h) (Or.inl ⟨by rfl, ?_⟩) hHeld ?_ ?_
  rotate_left
  · rintro w' ⟨s0, s1, s2, s3, s4, s5⟩
    go_simp
    with_reducible rfl
  rotate_left
  · simp only [Act.put, List.setIfInBounds_toArray, List.set_cons_zero, List.set_cons_succ, i64_w, i32_w]
    rfl
  refine pure_ (i := 3) (N := some 33) (v := ?_) (a' := ?_) #[true, true, true, true, false, false, false, false, false, false, false, false, false, false, false, false, false, false, false, false, false, false, false] rfl rfl (by kernel_rfl) (fun _ _ _ h => h) (Or.inl ⟨by rfl, ?_⟩) ?_ ?_
  rotate_left
  · intro w'
    go_simp
    with_reducible rfl
  rotate_left
  · simp only [Act.put, List.setIfInBounds_toArray, List.set_cons_zero, List.set_cons_succ, i64_w, i32_w]
    rfl
  refine pure_ (i := 4) (N := some 34) (v := ?_) (a' := ?_) #[true, true, true, true, true, false, false, false, false, false, false, false, false, false, false, false, false, false, false, false, false, false, false] rfl rfl (by kernel_rfl) (fun _ _ _ h => h) (Or.inl ⟨by rfl, ?_⟩) ?_ ?_
  rotate_left
  · intro w'
    go_simp
    with_reducible rfl
  rotate_left
  · simp only [Act.put, List.setIfInBounds_toArray, List.set_cons_zero, List.set_cons_succ, i64_w, i32_w]
    rfl
  refine take_ (i := 5) (N := some 35) (v := ?_) (a' := ?_) #[true, true, true, true, true, true, false, false, false, false, false, false, false, false, false, false, false, false, false, false, false, false, false] rfl rfl (by kernel_rfl) (fun _ _ _ h => h) (Or.inl ⟨by rfl, ?_⟩) hHeld ?_ ?_
  rotate_left
  · rintro w' ⟨s0, s1, s2, s3, s4, s5⟩
    go_simp
    with_reducible rfl
  rotate_left
  · simp only [Act.put, List.setIfInBounds_toArray, List.set_cons_zero, List.set_cons_succ, i64_w, i32_w]
    rfl
  refine pure_ (i := 6) (N := some 36) (v := ?_) (a' := ?_) #[true, true, true, true, true, true, true, false, false, false, false, false, false, false, false, false, false, false, false, false, false, false, false] rfl rfl (by kernel_rfl) (fun _ _ _ h => h) (Or.inl ⟨by rfl, ?_⟩) ?_ ?_
  rotate_left
  · intro w'
    go_simp
    with_reducible rfl
  rotate_left
  · simp only [Act.put, List.setIfInBounds_toArray, List.set_cons_zero, List.set_cons_succ, i64_w, i32_w]
    rfl
  refine pure_ (i := 7) (N := some 37) (v := ?_) (a' := ?_) #[true, true, true, true, true, true, true, true, false, false, false, false, false, false, false, false, false, false, false, false, false, false, false] rfl rfl (by kernel_rfl) (fun _ _ _ h => h) (Or.inl ⟨by rfl, ?_⟩) ?_ ?_
  rotate_left
  · intro w'
    go_simp
    with_reducible rfl
  rotate_left
  · simp only [Act.put, List.setIfInBounds_toArray, List.set_cons_zero, List.set_cons_succ, i64_w, i32_w]
    rfl
  refine take_ (i := 8) (N := some 38) (v := ?_) (a' := ?_) #[true, true, true, true, true, true, true, true, true, false, false, false, false, false, false, false, false, false, false, false, false, false, false] rfl rfl (by kernel_rfl) (fun _ _ _ h => h) (Or.inl ⟨by rfl, ?_⟩) hHeld ?_ ?_
  rotate_left
  · rintro w' ⟨s0, s1, s2, s3, s4, s5⟩
    go_simp
    with_reducible rfl
  rotate_left
  · simp only [Act.put, List.setIfInBounds_toArray, List.set_cons_zero, List.set_cons_succ, i64_w, i32_w]
    rfl
  refine pure_ (i := 9) (N := some 39) (v := ?_) (a' := ?_) #[true, true, true, true, true, true, true, true, true, true, false, false, false, false, false, false, false, false, false, false, false, false, false] rfl rfl (by kernel_rfl) (fun _ _ _ h => h) (Or.inl ⟨by rfl, ?_⟩) ?_ ?_
  rotate_left
  · intro w'
    go_simp
    with_reducible rfl
  rotate_left
  · simp only [Act.put, List.setIfInBounds_toArray, List.set_cons_zero, List.set_cons_succ, i64_w, i32_w]
    rfl
  refine pure_ (i := 10) (N := some 40) (v := ?_) (a' := ?_) #[true, true, true, true, true, true, true, true, true, true, true, false, false, false, false, false, false, false, false, false, false, false, false] rfl rfl (by kernel_rfl) (fun _ _ _ h => h) (Or.inl ⟨by rfl, ?_⟩) ?_ ?_
  rotate_left
  · intro w'
    go_simp
    with_reducible rfl
  rotate_left
  · simp only [Act.put, List.setIfInBounds_toArray, List.set_cons_zero, List.set_cons_succ, i64_w, i32_w]
    rfl
  refine take_ (i := 11) (N := some 41) (v := ?_) (a' := ?_) #[true, true, true, true, true, true, true, true, true, true, true, true, false, false, false, false, false, false, false, false, false, false, false] rfl rfl (by kernel_rfl) (fun _ _ _ h => h) (Or.inl ⟨by rfl, ?_⟩) hHeld ?_ ?_
  rotate_left
  · rintro w' ⟨s0, s1, s2, s3, s4, s5⟩
    go_simp
    with_reducible rfl
  rotate_left
  · simp only [Act.put, List.setIfInBounds_toArray, List.set_cons_zero, List.set_cons_succ, i64_w, i32_w]
    rfl
  refine pure_ (i := 12) (N := some 42) (v := ?_) (a' := ?_) #[true, true, true, true, true, true, true, true, true, true, true, true, true, false, false, false, false, false, false, false, false, false, false] rfl rfl (by kernel_rfl) (fun _ _ _ h => h) (Or.inl ⟨by rfl, ?_⟩) ?_ ?_
  rotate_left
  · intro w'
    go_simp
    with_reducible rfl
  rotate_left
  · simp only [Act.put, List.setIfInBounds_toArray, List.set_cons_zero, List.set_cons_succ, i64_w, i32_w]
    rfl
  refine pure_ (i := 13) (N := some 43) (v := ?_) (a' := ?_) #[true, true, true, true, true, true, true, true, true, true, true, true, true, true, false, false, false, false, false, false, false, false, false] rfl rfl (by kernel_rfl) (fun _ _ _ h => h) (Or.inl ⟨by rfl, ?_⟩) ?_ ?_
  rotate_left
  · intro w'
    go_simp
    with_reducible rfl
  rotate_left
  · simp only [Act.put, List.setIfInBounds_toArray, List.set_cons_zero, List.set_cons_succ, i64_w, i32_w]
    rfl
  refine pure_ (i := 14) (N := some 44) (v := ?_) (a' := ?_) #[true, true, true, true, true, true, true, true, true, true, true, true, true, true, true, false, false, false, false, false, false, false, false] rfl rfl (by kernel_rfl) (fun _ _ _ h => h) (Or.inl ⟨by rfl, ?_⟩) ?_ ?_
  rotate_left
  · intro w'
    go_simp
    with_reducible rfl
  rotate_left
  · simp only [Act.put, List.setIfInBounds_toArray, List.set_cons_zero, List.set_cons_succ, i64_w, i32_w]
    rfl
  refine take_ (i := 15) (N := some 45) (v := ?_) (a' := ?_) #[true, true, true, true, true, true, true, true, true, true, true, true, true, true, true, true, false, false, false, false, false, false, false] rfl rfl (by kernel_rfl) (fun _ _ _ h => h) (Or.inl ⟨by rfl, ?_⟩) hHeld ?_ ?_
  rotate_left
  · rintro w' ⟨s0, s1, s2, s3, s4, s5⟩
    go_simp
    with_reducible rfl
  rotate_left
  · simp only [Act.put, List.setIfInBounds_toArray, List.set_cons_zero, List.set_cons_succ, i64_w, i32_w]
    rfl
  refine pure_ (i := 16) (N := some 46) (v := ?_) (a' := ?_) #[true, true, true, true, true, true, true, true, true, true, true, true, true, true, true, true, true, false, false, false, false, false, false] rfl rfl (by kernel_rfl) (fun _ _ _ h => h) (Or.inl ⟨by rfl, ?_⟩) ?_ ?_
  rotate_left
  · intro w'
    go_simp
    with_reducible rfl
  rotate_left
  · simp only [Act.put, List.setIfInBounds_toArray, List.set_cons_zero, List.set_cons_succ, i64_w, i32_w]
    rfl
  refine pure_ (i := 17) (N := some 47) (v := ?_) (a' := ?_) #[true, true, true, true, true, true, true, true, true, true, true, true, true, true, true, true, true, true, false, false, false, false, false] rfl rfl (by kernel_rfl) (fun _ _ _ h => h) (Or.inl ⟨by rfl, ?_⟩) ?_ ?_
  rotate_left
  · intro w'
    go_simp
    with_reducible rfl
  rotate_left
  · simp only [Act.put, List.setIfInBounds_toArray, List.set_cons_zero, List.set_cons_succ, i64_w, i32_w]
    rfl
  refine pure_ (i := 18) (N := some 48) (v := ?_) (a' := ?_) #[true, true, true, true, true, true, true, true, true, true, true, true, true, true, true, true, true, true, true, false, false, false, false] rfl rfl (by kernel_rfl) (fun _ _ _ h => h) (Or.inl ⟨by rfl, ?_⟩) ?_ ?_
  rotate_left
  · intro w'
    go_simp
    with_reducible rfl
  rotate_left
  · simp only [Act.put, List.setIfInBounds_toArray, List.set_cons_zero, List.set_cons_succ, i64_w, i32_w]
    rfl
  refine take_ (i := 19) (N := some 49) (v := ?_) (a' := ?_) #[true, true, true, true, true, true, true, true, true, true, true, true, true, true, true, true, true, true, true, true, false, false, false] rfl rfl (by kernel_rfl) (fun _ _ _ h => h) (Or.inl ⟨by rfl, ?_⟩) hHeld ?_ ?_
  rotate_left
  · rintro w' ⟨s0, s1, s2, s3, s4, s5⟩
    go_simp
    with_reducible rfl
  rotate_left
  · simp only [Act.put, List.setIfInBounds_toArray, List.set_cons_zero, List.set_cons_succ, i64_w, i32_w]
    rfl
  refine pure_ (i := 20) (N := some 50) (v := ?_) (a' := ?_) #[true, true, true, true, true, true, true, true, true, true, true, true, true, true, true, true, true, true, true, true, true, false, false] rfl rfl (by kernel_rfl) (fun _ _ _ h => h) (Or.inl ⟨by rfl, ?_⟩) ?_ ?_
  rotate_left
  · intro w'
    go_simp
    with_reducible rfl
  rotate_left
  · simp only [Act.put, List.setIfInBounds_toArray, List.set_cons_zero, List.set_cons_succ, i64_w, i32_w]
    rfl
  refine pure_ (i := 21) (N := some 51) (v := ?_) (a' := ?_) #[true, true, true, true, true, true, true, true, true, true, true, true, true, true, true, true, true, true, true, true, true, true, false] rfl rfl (by kernel_rfl) (fun _ _ _ h => h) (Or.inl ⟨by rfl, ?_⟩) ?_ ?_
  rotate_left
  · intro w'
    go_simp
    with_reducible rfl
  rotate_left
  · simp only [Act.put, List.setIfInBounds_toArray, List.set_cons_zero, List.set_cons_succ, i64_w, i32_w]
    rfl
  refine last_ (i := 22) (N := none) #[true, true, true, true, true, true, true, true, true, true, true, true, true, true, true, true, true, true, true, true, true, true, true] rfl rfl (by kernel_rfl) (by decide) (fun K hK => ?_)
  refine skip_ (w1 := ?_) (by rfl) rfl ?_ ?_
  rotate_left
  · go_simp
    rfl
  refine hK.out _ _ ?_
  clear hK K
  refine done_ (by kernel_rfl) ?_
  have hz4 : isBlk ((((((((((w3.setCell ⟨w.heap.size, 0, none⟩ (.int .i64 (num l 0))).setCell ⟨w.heap.size, 1, none⟩ (.int .i64 (num l 1))).setCell ⟨w.heap.size, 2, none⟩ (.int .i64 (num l 2))).setCell ⟨w.heap.size, 3, none⟩ (.int .i64 (num l 3 - 1))).setCell ⟨w.heap.size, 4, none⟩ (.int .i64 (num l 4 - 1))).setCell ⟨w.heap.size, 5, none⟩ (.int .u16 (num l 5))).setCell ⟨w.heap.size, 6, none⟩ (.int .i64 0)).setCell ⟨w.heap.size, 7, none⟩ (.int .i64 0)).setCell ⟨w.heap.size, 8, none⟩ (.int .i64 0)).setCell ⟨w.heap.size, 9, none⟩ (.complex .f64 0 0)).drew w.heap.size 49 [.int .i64 (num l 0), .int .i64 (num l 1), .int .i64 (num l 2), .int .i64 (num l 3 - 1), .int .i64 (num l 4 - 1), .int .u16 (num l 5), .int .i64 0, .int .i64 0, .int .i64 0, .complex .f64 0 0] := blk_drew (blk_set (blk_set (blk_set (blk_set (blk_set (blk_set (blk_set (blk_set (blk_set (blk_set HZ3.out 0 _) 1 _) 2 _) 3 _) 4 _) 5 _) 6 _) 7 _) 8 _) 9 _)
  have hB3 : Below w.heap.size w w3 := (((Below.refl _ _).alloc (Nat.le_refl _) _).trans (B2.out.mono (by simp))).trans (B3.out.mono (Nat.le_of_lt (blk_lt (blk_below (blk_alloc w 49 zeroC) B2.out))))
  have hB4 : Below w.heap.size w ((((((((((w3.setCell ⟨w.heap.size, 0, none⟩ (.int .i64 (num l 0))).setCell ⟨w.heap.size, 1, none⟩ (.int .i64 (num l 1))).setCell ⟨w.heap.size, 2, none⟩ (.int .i64 (num l 2))).setCell ⟨w.heap.size, 3, none⟩ (.int .i64 (num l 3 - 1))).setCell ⟨w.heap.size, 4, none⟩ (.int .i64 (num l 4 - 1))).setCell ⟨w.heap.size, 5, none⟩ (.int .u16 (num l 5))).setCell ⟨w.heap.size, 6, none⟩ (.int .i64 0)).setCell ⟨w.heap.size, 7, none⟩ (.int .i64 0)).setCell ⟨w.heap.size, 8, none⟩ (.int .i64 0)).setCell ⟨w.heap.size, 9, none⟩ (.complex .f64 0 0)).drew := by
    refine below_drew1 ?_
    iterate 10 (refine Below.setCell ?_ (by simp) _)
    exact hB3
  have hR4 : Kd.R (Kd.int .u8) 5 ((((((((((w3.setCell ⟨w.heap.size, 0, none⟩ (.int .i64 (num l 0))).setCell ⟨w.heap.size, 1, none⟩ (.int .i64 (num l 1))).setCell ⟨w.heap.size, 2, none⟩ (.int .i64 (num l 2))).setCell ⟨w.heap.size, 3, none⟩ (.int .i64 (num l 3 - 1))).setCell ⟨w.heap.size, 4, none⟩ (.int .i64 (num l 4 - 1))).setCell ⟨w.heap.size, 5, none⟩ (.int .u16 (num l 5))).setCell ⟨w.heap.size, 6, none⟩ (.int .i64 0)).setCell ⟨w.heap.size, 7, none⟩ (.int .i64 0)).setCell ⟨w.heap.size, 8, none⟩ (.int .i64 0)).setCell ⟨w.heap.size, 9, none⟩ (.complex .f64 0 0)).drew w.heap.size (fun k => w.heap.size < k) v3 rest := by
    have h0 := Kd.R_mono (Kd.R_bound R3.out) (ok' := fun k => w.heap.size < k) (fun k hk => Nat.lt_of_lt_of_le (blk_lt (blk_below (blk_alloc w 49 zeroC) B2.out)) hk.2.1)
    refine Kd.R_drew ?_
    iterate 10 (refine Kd.R_far ?_ (fun k hk => Nat.ne_of_gt hk) _)
    exact Kd.R_lower h0 (Nat.le_of_lt (blk_lt (blk_below (blk_alloc w 49 zeroC) B2.out)))
  have hk4 : ∀ k, k < 9 → (((((((((((w3.setCell ⟨w.heap.size, 0, none⟩ (.int .i64 (num l 0))).setCell ⟨w.heap.size, 1, none⟩ (.int .i64 (num l 1))).setCell ⟨w.heap.size, 2, none⟩ (.int .i64 (num l 2))).setCell ⟨w.heap.size, 3, none⟩ (.int .i64 (num l 3 - 1))).setCell ⟨w.heap.size, 4, none⟩ (.int .i64 (num l 4 - 1))).setCell ⟨w.heap.size, 5, none⟩ (.int .u16 (num l 5))).setCell ⟨w.heap.size, 6, none⟩ (.int .i64 0)).setCell ⟨w.heap.size, 7, none⟩ (.int .i64 0)).setCell ⟨w.heap.size, 8, none⟩ (.int .i64 0)).setCell ⟨w.heap.size, 9, none⟩ (.complex .f64 0 0)).drew).cell? ⟨g0, k, none⟩ = some (.int .i64 (num l k)) := fun k hk => by
    rw [World.cell?_drew]
    have hne : g0 ≠ w.heap.size := by
      have := hg0
      simp at this
      omega
    unfold World.cell?
    iterate 10 (rw [Below.heap_setCell _ _ _ _ hne])
    exact HK3.out k hk
  generalize ((((((((((w3.setCell ⟨w.heap.size, 0, none⟩ (.int .i64 (num l 0))).setCell ⟨w.heap.size, 1, none⟩ (.int .i64 (num l 1))).setCell ⟨w.heap.size, 2, none⟩ (.int .i64 (num l 2))).setCell ⟨w.heap.size, 3, none⟩ (.int .i64 (num l 3 - 1))).setCell ⟨w.heap.size, 4, none⟩ (.int .i64 (num l 4 - 1))).setCell ⟨w.heap.size, 5, none⟩ (.int .u16 (num l 5))).setCell ⟨w.heap.size, 6, none⟩ (.int .i64 0)).setCell ⟨w.heap.size, 7, none⟩ (.int .i64 0)).setCell ⟨w.heap.size, 8, none⟩ (.int .i64 0)).setCell ⟨w.heap.size, 9, none⟩ (.complex .f64 0 0)).drew = w4 at hz4 hB4 hR4 hk4 ⊢
  have HZ4 := Aside0.mk hz4
  have HB4 := Aside0.mk hB4
  have HR4 := Aside0.mk hR4
  have HK4 := Aside0.mk hk4
  clear hB4 hR4 hk4 hz hzf HK3 HZ3 hB3 hz4 e3 e4 e5
  go_wp2
  have hz := blk_cell (blk_drew HZ4.out)
  have hzf := blk_frozen HZ4.out
  have hz' := blk_cell HZ4.out
  refine start_ (n := 13) (S := fun w' => w'.cell? ⟨g0, 6, none⟩ = some (.int .i64 (num l 6)) ∧ w'.cell? ⟨g0, 7, none⟩ = some (.int .i64 (num l 7)) ∧ w'.cell? ⟨g0, 8, none⟩ = some (.int .i64 (num l 8))) (ds := [12]) #[false, false, false, false, false, false, false, false, false, false, false, false, false] (by kernel_rfl) rfl rfl ⟨(World.cell?_drew _ _).trans (HK4.out 6 (by omega)), (World.cell?_drew _ _).trans (HK4.out 7 (by omega)), (World.cell?_drew _ _).trans (HK4.out 8 (by omega))⟩ (fun hHeld => ?_)
  refine pure_ (i := 0) (N := some 52) (v := ?_) (a' := ?_) #[true, false, false, false, false, false, false, false, false, false, false, false, false] rfl rfl (by kernel_rfl) (fun _ _ _ h => h) (Or.inl ⟨by rfl, ?_⟩) ?_ ?_
  rotate_left
  · intro w'
    go_simp
    with_reducible rfl
  rotate_left
  · simp only [Act.put, List.setIfInBounds_toArray, List.set_cons_zero, List.set_cons_succ, i64_w, i32_w]
    rfl
  refine pure_ (i := 1) (N := some 53) (v := ?_) (a' := ?_) #[true, true, false, false, false, false, false, false, false, false, false, false, false] rfl rfl (by kernel_rfl) (fun _ _ _ h => h) (Or.inl ⟨by rfl, ?_⟩) ?_ ?_
  rotate_left
  · intro w'
    go_simp
    with_reducible rfl
  rotate_left
  · simp only [Act.put, List.setIfInBounds_toArray, List.set_cons_zero, List.set_cons_succ, i64_w, i32_w]
    rfl
  refine take_ (i := 2) (N := some 54) (v := ?_) (a' := ?_) #[true, true, true, false, false, false, false, false, false, false, false, false, false] rfl rfl (by kernel_rfl) (fun _ _ _ h => h) (Or.inl ⟨by rfl, ?_⟩) hHeld ?_ ?_
  rotate_left
  · rintro w' ⟨s0, s1, s2⟩
    go_simp
    with_reducible rfl
  rotate_left
  · simp only [Act.put, List.setIfInBounds_toArray, List.set_cons_zero, List.set_cons_succ, i64_w, i32_w]
    rfl
  refine pure_ (i := 3) (N := some 55) (v := ?_) (a' := ?_) #[true, true, true, true, false, false, false, false, false, false, false, false, false] rfl rfl (by kernel_rfl) (fun _ _ _ h => h) (Or.inl ⟨by rfl, ?_⟩) ?_ ?_
  rotate_left
  · intro w'
    go_simp
    with_reducible rfl
  rotate_left
  · simp only [Act.put, List.setIfInBounds_toArray, List.set_cons_zero, List.set_cons_succ, i64_w, i32_w]
    rfl
  refine pure_ (i := 4) (N := some 56) (v := ?_) (a' := ?_) #[true, true, true, true, true, false, false, false, false, false, false, false, false] rfl rfl (by kernel_rfl) (fun _ _ _ h => h) (Or.inl ⟨by rfl, ?_⟩) ?_ ?_
  rotate_left
  · intro w'
    go_simp
    with_reducible rfl
  rotate_left
  · simp only [Act.put, List.setIfInBounds_toArray, List.set_cons_zero, List.set_cons_succ, i64_w, i32_w]
    rfl
  refine take_ (i := 5) (N := some 57) (v := ?_) (a' := ?_) #[true, true, true, true, true, true, false, false, false, false, false, false, false] rfl rfl (by kernel_rfl) (fun _ _ _ h => h) (Or.inl ⟨by rfl, ?_⟩) hHeld ?_ ?_
  rotate_left
  · rintro w' ⟨s0, s1, s2⟩
    go_simp
    with_reducible rfl
  rotate_left
  · simp only [Act.put, List.setIfInBounds_toArray, List.set_cons_zero, List.set_cons_succ, i64_w, i32_w]
    rfl
  refine pure_ (i := 6) (N := some 58) (v := ?_) (a' := ?_) #[true, true, true, true, true, true, true, false, false, false, false, false, false] rfl rfl (by kernel_rfl) (fun _ _ _ h => h) (Or.inl ⟨by rfl, ?_⟩) ?_ ?_
  rotate_left
  · intro w'
    go_simp
    with_reducible rfl
  rotate_left
  · simp only [Act.put, List.setIfInBounds_toArray, List.set_cons_zero, List.set_cons_succ, i64_w, i32_w]
    rfl
  refine pure_ (i := 7) (N := some 59) (v := ?_) (a' := ?_) #[true, true, true, true, true, true, true, true, false, false, false, false, false] rfl rfl (by kernel_rfl) (fun _ _ _ h => h) (Or.inl ⟨by rfl, ?_⟩) ?_ ?_
  rotate_left
  · intro w'
    go_simp
    with_reducible rfl
  rotate_left
  · simp only [Act.put, List.setIfInBounds_toArray, List.set_cons_zero, List.set_cons_succ, i64_w, i32_w]
    rfl
  refine take_ (i := 8) (N := some 60) (v := ?_) (a' := ?_) #[true, true, true, true, true, true, true, true, true, false, false, false, false] rfl rfl (by kernel_rfl) (fun _ _ _ h => h) (Or.inl ⟨by rfl, ?_⟩) hHeld ?_ ?_
  rotate_left
  · rintro w' ⟨s0, s1, s2⟩
    go_simp
    with_reducible rfl
  rotate_left
  · simp only [Act.put, List.setIfInBounds_toArray, List.set_cons_zero, List.set_cons_succ, i64_w, i32_w]
    rfl
  refine pure_ (i := 9) (N := some 61) (v := ?_) (a' := ?_) #[true, true, true, true, true, true, true, true, true, true, false, false, false] rfl rfl (by kernel_rfl) (fun _ _ _ h => h) (Or.inl ⟨by rfl, ?_⟩) ?_ ?_
  rotate_left
  · intro w'
    go_simp
    with_reducible rfl
  rotate_left
  · simp only [Act.put, List.setIfInBounds_toArray, List.set_cons_zero, List.set_cons_succ, i64_w, i32_w]
    rfl
  refine pure_ (i := 10) (N := some 62) (v := ?_) (a' := ?_) #[true, true, true, true, true, true, true, true, true, true, true, false, false] rfl rfl (by kernel_rfl) (fun _ _ _ h => h) (Or.inl ⟨by rfl, ?_⟩) ?_ ?_
  rotate_left
  · intro w'
    go_simp
    with_reducible rfl
  rotate_left
  · simp only [Act.put, List.setIfInBounds_toArray, List.set_cons_zero, List.set_cons_succ, i64_w, i32_w]
    rfl
  refine pure_ (i := 11) (N := some 63) (v := ?_) (a' := ?_) #[true, true, true, true, true, true, true, true, true, true, true, true, false] rfl rfl (by kernel_rfl) (fun _ _ _ h => h) (Or.inl ⟨by rfl, ?_⟩) ?_ ?_
  rotate_left
  · intro w'
    go_simp
    with_reducible rfl
  rotate_left
  · simp only [Act.put, List.setIfInBounds_toArray, List.set_cons_zero, List.set_cons_succ, i64_w, i32_w]
    rfl
  refine last_ (i := 12) (N := none) #[true, true, true, true, true, true, true, true, true, true, true, true, true] rfl rfl (by kernel_rfl) (by decide) (fun K hK => ?_)
  refine skip_ (w1 := ?_) (by rfl) rfl ?_ ?_
  rotate_left
  · go_simp
    rfl
  refine hK.out _ _ ?_
  clear hK K
  refine done_ (by kernel_rfl) ?_
  have hz5 : isBlk ((((w4.setCell ⟨w.heap.size, 6, none⟩ (.int .i64 (num l 6))).setCell ⟨w.heap.size, 7, none⟩ (.int .i64 (num l 7))).setCell ⟨w.heap.size, 8, none⟩ (.int .i64 (num l 8))).setCell ⟨w.heap.size, 9, none⟩ (.complex .f64 re im)).drew w.heap.size 49 [.int .i64 (num l 0), .int .i64 (num l 1), .int .i64 (num l 2), .int .i64 (num l 3 - 1), .int .i64 (num l 4 - 1), .int .u16 (num l 5), .int .i64 (num l 6), .int .i64 (num l 7), .int .i64 (num l 8), .complex .f64 re im] := blk_drew (blk_set (blk_set (blk_set (blk_set HZ4.out 6 _) 7 _) 8 _) 9 _)
  have hB5 : Below w.heap.size w ((((w4.setCell ⟨w.heap.size, 6, none⟩ (.int .i64 (num l 6))).setCell ⟨w.heap.size, 7, none⟩ (.int .i64 (num l 7))).setCell ⟨w.heap.size, 8, none⟩ (.int .i64 (num l 8))).setCell ⟨w.heap.size, 9, none⟩ (.complex .f64 re im)).drew := by
    refine below_drew1 ?_
    iterate 4 (refine Below.setCell ?_ (by simp) _)
    exact HB4.out
  have hR5 : Kd.R (Kd.int .u8) 5 ((((w4.setCell ⟨w.heap.size, 6, none⟩ (.int .i64 (num l 6))).setCell ⟨w.heap.size, 7, none⟩ (.int .i64 (num l 7))).setCell ⟨w.heap.size, 8, none⟩ (.int .i64 (num l 8))).setCell ⟨w.heap.size, 9, none⟩ (.complex .f64 re im)).drew w.heap.size (fun k => w.heap.size < k) v3 rest := by
    refine Kd.R_drew ?_
    iterate 4 (refine Kd.R_far ?_ (fun k hk => Nat.ne_of_gt hk) _)
    exact HR4.out
  generalize ((((w4.setCell ⟨w.heap.size, 6, none⟩ (.int .i64 (num l 6))).setCell ⟨w.heap.size, 7, none⟩ (.int .i64 (num l 7))).setCell ⟨w.heap.size, 8, none⟩ (.int .i64 (num l 8))).setCell ⟨w.heap.size, 9, none⟩ (.complex .f64 re im)).drew = w5 at hz5 hB5 hR5 ⊢
  have HZ5 := Aside0.mk hz5
  have HB5 := Aside0.mk hB5
  have HR5 := Aside0.mk hR5
  clear hB5 hR5 hz5 hz hzf hz'
  have hz := blk_cell HZ5.out
  have hzf := blk_frozen HZ5.out
  go_wp2
  refine bodyPost_ret (v := .tuple #[stepV ⟨num l 0, num l 1, num l 2, num l 3 - 1, num l 4 - 1, num l 5, num l 6, num l 7, num l 8, re, im⟩, v3, .bool false]) ?_ rfl ⟨v3, rfl, ?_, ?_⟩
  · simp [results, Tryz.results13, go_sem, stepV, hz]
  · refine Kd.R_mono (ok := fun k => w.heap.size < k) ?_ (fun _ _ => trivial)
    iterate 10 (refine Kd.R_far ?_ (fun k hk => Nat.ne_of_gt hk) _)
    exact HR5.out
  · iterate 10 (refine Below.setCell ?_ (by simp) _)
    exact HB5.out
/-- the step with which bytes begin -/
def stepOf (l : List Int) : Stp := ⟨num l 0, num l 1, num l 2, num l 3 - 1, num l 4 - 1, num l 5, num l 6, num l 7, num l 8, (oct (l.drop 27) 0).toNat, (oct (l.drop 27) 8).toNat⟩
theorem one_ok (A : Option Addr) (c : Nat) (l : List Int) (w : World) (hr : Kd.C (Kd.int .u8) w A l.length l) (hc : l.length ≤ c) (hb : ∀ x ∈ l, byt x) (hl : 43 ≤ l.length) (hL : l.length ≤ 100000) (hm : num l 5 ≤ 65535) (hcl : cleanB (l.drop 27) = true) :
    Calls Tryz.prog 13 #[.slice A l.length c] w fun e w' => ∃ v : Value, e = .returned (.tuple #[stepV (stepOf l), v, .bool true]) ∧ Kd.R (Kd.int .u8) 5 w' w.heap.size (fun _ => True) v (l.drop 43) ∧ Below w.heap.size w w' := by
  have ht := fun (W : World) A1 c1 h1 h2 => take_yes A1 c1 (l.drop 27) W h1 h2 (fun x hx => hb x (List.mem_of_mem_drop hx)) (by rw [List.length_drop]; omega) (by rw [List.length_drop]; omega) hcl
  rw [List.length_drop, List.drop_drop] at ht
  exact one_gen0 A c l _ _ _ w hr hc hb (by omega) hL hm ht
/-- the bytes begin with no step -/
theorem one_bad (A : Option Addr) (c : Nat) (l : List Int) (w : World) (hr : Kd.C (Kd.int .u8) w A l.length l) (hc : l.length ≤ c) (hb : ∀ x ∈ l, byt x) (hL : l.length ≤ 100000) (hbad : ¬ (43 ≤ l.length ∧ num l 5 ≤ 65535 ∧ cleanB (l.drop 27) = true)) :
    Calls Tryz.prog 13 #[.slice A l.length c] w fun e w' => ∃ (s : Stp) (v : Value), e = .returned (.tuple #[stepV s, v, .bool false]) ∧ Kd.R (Kd.int .u8) 5 w' w.heap.size (fun _ => True) v [] ∧ Below w.heap.size w w' := by
  by_cases h27 : l.length < 27
  · exact (one_short A c l w h27).mono fun e w' ⟨h1, h2⟩ => ⟨_, _, h1, Kd.R_nil _ _ _ _ _, h2⟩
  by_cases hm : num l 5 ≤ 65535
  · have hd : ∀ x ∈ l.drop 27, byt x := fun x hx => hb x (List.mem_of_mem_drop hx)
    have hlen : (l.drop 27).length = l.length - 27 := List.length_drop
    have ht : ∀ (W : World) A1 c1, Kd.C (Kd.int .u8) W A1 (l.length - 3 * 9) (l.drop (3 * 9)) → l.length - 3 * 9 ≤ c1 → Calls Tryz.prog 28 #[.slice A1 (l.length - 3 * 9) c1] W fun e w' => ∃ v1 : Value, e = .returned (.tuple #[.complex .f64 0 0, v1, .int .i64 21]) ∧ Kd.R (Kd.int .u8) 5 w' W.heap.size (fun _ => True) v1 [] ∧ Below W.heap.size W w' := by
      intro W A1 c1 h1 h2
      by_cases h43 : 43 ≤ l.length
      · have hcl : cleanB (l.drop 27) = false := by
          cases h : cleanB (l.drop 27)
          · rfl
          · exact absurd ⟨h43, hm, h⟩ hbad
        have := take_no A1 c1 (l.drop 27) W (by rw [hlen]; exact h1) (by rw [hlen]; exact h2) hd (by omega) (by omega) hcl
        rw [hlen] at this
        exact this.mono fun e w' ⟨h3, h4⟩ => ⟨_, h3, Kd.R_nil _ _ _ _ _, h4⟩
      · have := take_short A1 c1 (l.drop 27) W (by omega)
        rw [hlen] at this
        exact this.mono fun e w' ⟨h3, h4⟩ => ⟨_, h3, Kd.R_nil _ _ _ _ _, h4 ▸ Below.refl _ _⟩
    exact (one_gen21 A c l 0 0 [] w hr hc hb (by omega) hL hm ht).mono fun e w' ⟨v, h1, h2, h3⟩ => ⟨_, v, h1, h2, h3⟩
  · exact (one_mask A c l w hr hc hb (by omega) hL (by omega)).mono fun e w' ⟨h1, h2⟩ => ⟨_, _, h1, Kd.R_nil _ _ _ _ _, h2⟩
end Go.Proofs.YtpgjilakcepilaaGreat.PV
