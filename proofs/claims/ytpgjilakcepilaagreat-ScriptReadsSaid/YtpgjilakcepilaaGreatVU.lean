/- The contract of package script's Read. -/
import Derived.Test.YtpgjilakcepilaaGreatVJ
namespace Go.Proofs.YtpgjilakcepilaaGreat.PV
open Go.RowKit Go.Proofs.YtpgjilakcepilaaGreat.PScriptReads Go.Proofs.YtpgjilakcepilaaGreatW.PrintWords Go.Proofs.YtpgjilakcepilaaGreatW.PrintLast Go.Proofs.YtpgjilakcepilaaGreatW.PrintMore
set_option linter.unusedVariables false
set_option linter.unusedSimpArgs false
attribute [local go_sem] run_store_complex

/-- do bytes begin with a step? -/
def stepOk (r : List Int) : Bool := decide (43 ≤ r.length) && (decide (num r 5 ≤ 65535) && cleanB (r.drop 27))
def stepsN (r : List Int) (k : Nat) : List Stp := (List.range k).map fun i => stepOf (r.drop (43 * i))
def okN (r : List Int) (k : Nat) : Bool := (List.range k).all fun i => stepOk (r.drop (43 * i))
def cfgOf (b : List Int) : Cfg := ⟨num b 0, num b 1, num b 2, num b 3, num b 4⟩
def many (b : List Int) : Nat := (num b 5).toNat
/-- are bytes those of a script? -/
def readB (b : List Int) : Bool := decide (18 ≤ b.length) && (decide (many b ≤ 500) && (okN (b.drop 18) (many b) && (decide (b.length = 18 + 43 * many b) && scriptB (cfgOf b) (stepsN (b.drop 18) (many b)))))
def readG (b : List Int) : Cfg := if readB b = true then cfgOf b else ⟨0, 0, 0, 0, 0⟩
def readL (b : List Int) : List Stp := if readB b = true then stepsN (b.drop 18) (many b) else []
def readE (b : List Int) : Int := if readB b = true then 0 else 231
theorem stepsN_succ (r : List Int) (k : Nat) : stepsN r (k + 1) = stepsN r k ++ [stepOf (r.drop (43 * k))] := by simp [stepsN, List.range_succ]
theorem stepsN_length (r : List Int) (k : Nat) : (stepsN r k).length = k := by simp [stepsN]
theorem okN_succ (r : List Int) (k : Nat) : okN r (k + 1) = (okN r k && stepOk (r.drop (43 * k))) := by simp [okN, List.range_succ]
theorem okN_len (r : List Int) : ∀ k : Nat, okN r k = true → 43 * k ≤ r.length
  | 0, _ => by omega
  | k + 1, h => by
    rw [okN_succ, Bool.and_eq_true] at h
    have h1 := h.2
    unfold stepOk at h1
    rw [Bool.and_eq_true, decide_eq_true_eq, List.length_drop] at h1
    omega
theorem okN_mono (r : List Int) (n k : Nat) (h : k ≤ n) (hk : okN r k = false) : okN r n = false := by
  unfold okN at hk ⊢
  rw [List.all_eq_false] at hk ⊢
  obtain ⟨x, hx, h1⟩ := hk
  exact ⟨x, List.mem_range.2 (Nat.lt_of_lt_of_le (List.mem_range.1 hx) h), h1⟩
theorem blk_keep {w w1 : World} {b base : Nat} {T : TypeId} {cs : List Value} (h : isBlk w b T cs) (hb : Below base w w1) (hl : b < base) : isBlk w1 b T cs := by
  have := hb.block b hl
  unfold isBlk at h ⊢
  rw [this, h]
theorem blk_other {w : World} {b b' o : Nat} {T : TypeId} {cs : List Value} {v : Value} (h : isBlk w b T cs) (hne : b ≠ b') : isBlk (w.setCell ⟨b', o, none⟩ v) b T cs := by
  unfold isBlk at h ⊢
  rw [Below.heap_setCell _ _ _ _ hne]
  exact h
theorem blk_grown {w w1 : World} {g : Nat} {T : TypeId} {cs : List Value} {row : Option Nat} (h : isBlk w g T cs) (hg : w.grownBy w1 row) (hne : some g ≠ row) : isBlk w1 g T cs := by
  have := hg.block g (blk_lt h) hne
  unfold isBlk at h ⊢
  rw [this, h]
theorem R_blk_ne {α : Type} {d : Kd α} {e base : Nat} {ok : Nat → Prop} {w : World} {v : Value} {xs : List α} {g T : Nat} {cs : List Value} (h : d.R e w base ok v xs) (hb : isBlk w g T cs) (hT : e ≠ T) : some g ≠ v.ownBlock := Kd.R_ne h hb hT
theorem R_types2 {α β : Type} {d : Kd α} {d' : Kd β} {e e' base base' : Nat} {ok ok' : Nat → Prop} {w : World} {v v' : Value} {xs : List α} {ys : List β} (h : d.R e w base ok v xs) (h' : d'.R e' w base' ok' v' ys) (he : ∀ q, q ∈ e :: d.E → q ≠ e') : d.R e w base (fun k => ok k ∧ some k ≠ v'.ownBlock) v xs := by
  refine Kd.R_mono (Kd.R_bound h) (fun k hk => ⟨hk.1, fun hv => ?_⟩)
  obtain ⟨q, hq, cells, hc⟩ := hk.2.2.2
  obtain ⟨inner, ho⟩ := Kd.R_own h'
  obtain ⟨cells', hc'⟩ := own_typed ho k hv.symm
  rw [hc] at hc'
  injection hc' with hc'
  injection hc' with _ h2 _
  exact he q hq h2
theorem info49 : (Tryz.prog.info? 49).map (fun i => (i.zero, i.size, i.bytes)) = some (some (.agg #[.int .i64 0, .int .i64 0, .int .i64 0, .int .i64 0, .int .i64 0, .int .u16 0, .int .i64 0, .int .i64 0, .int .i64 0, .complex .f64 0 0]), 10, 88) := by kernel_rfl
theorem R_u8_set {W : World} {base : Nat} {ok : Nat → Prop} {v : Value} {xs : List Int} {g : Nat} {cs : List Value} (h : Kd.R (Kd.int .u8) 5 W base ok v xs) (hb : isBlk W g 28 cs) (j : Nat) (u : Value) : Kd.R (Kd.int .u8) 5 (W.setCell ⟨g, j, none⟩ u) base ok v xs :=
  Kd.R_set h hb (by intro q hq; have : q = 5 := by simpa [Kd.int, Kd.scalar] using hq
                    omega) j u
theorem R_stp_set {W : World} {base : Nat} {ok : Nat → Prop} {v : Value} {xs : List Stp} {g : Nat} {cs : List Value} (h : Kd.R kStp 49 W base ok v xs) (hb : isBlk W g 28 cs) (j : Nat) (u : Value) : Kd.R kStp 49 (W.setCell ⟨g, j, none⟩ u) base ok v xs :=
  Kd.R_set h hb (by intro q hq; have : q = 49 := by simpa [kStp] using hq
                    omega) j u
theorem R_u8_stp {W : World} {base base' : Nat} {v v' : Value} {xs : List Int} {ys : List Stp} (h : Kd.R (Kd.int .u8) 5 W base (fun _ => True) v xs) (h' : Kd.R kStp 49 W base' (fun _ => True) v' ys) : Kd.R (Kd.int .u8) 5 W base (fun k => True ∧ some k ≠ v'.ownBlock) v xs :=
  R_types2 h h' (by intro q hq; have : q = 5 := by simpa [Kd.int, Kd.scalar] using hq
                    omega)
theorem slice_at (w : World) (o : Obj) : Value.slice (some ⟨w.heap.size + 1, 0, none⟩) 1 1 = .slice (some ⟨(w.alloc o).heap.size, 0, none⟩) 1 1 := by
  rw [show (w.alloc o).heap.size = w.heap.size + 1 from Array.size_push _]
theorem after_append {w3 w5 : World} {o : Obj} {v v3 : Value} {g1 g0 base base' : Nat} {cs1 cs0 : List Value} {xs : List Stp} {ys : List Int} (Z3 : isBlk w3 g1 28 cs1) (Q3 : isBlk w3 g0 28 cs0) (S3 : Kd.R kStp 49 w3 base (fun _ => True) v xs) (R3 : Kd.R (Kd.int .u8) 5 w3 base' (fun _ => True) v3 ys) (hg : (w3.alloc o).grownBy w5 v.ownBlock) :
    isBlk w5 g1 28 cs1 ∧ isBlk w5 g0 28 cs0 ∧ Kd.R (Kd.int .u8) 5 w5 base' (fun _ => True) v3 ys := by
  have ha : Below w3.heap.size w3 (w3.alloc o) := (Below.refl _ _).alloc (Nat.le_refl _) _
  have S := Kd.R_alloc S3 o
  have Z := blk_below Z3 ha
  have Q := blk_below Q3 ha
  have R := Kd.R_alloc R3 o
  exact ⟨blk_grown Z hg (R_blk_ne S Z (by decide)), blk_grown Q hg (R_blk_ne S Q (by decide)), Kd.R_mono (Kd.R_grown (R_u8_stp R S) hg (fun _ hk => hk.2)) (fun _ _ => trivial)⟩
def zero6 : List Value := [.int .i64 0, .int .i64 0, .int .i64 0, .int .i64 0, .int .i64 0, .slice none 0 0]
def two (w : World) : World := (w.alloc (.cells zero6.toArray 28)).alloc (.cells zero6.toArray 28)
theorem two_1 (w : World) : isBlk (two w) (w.heap.size + 1) 28 zero6 := by
  have h := blk_alloc (w.alloc (.cells zero6.toArray 28)) 28 zero6
  have e : (w.alloc (.cells zero6.toArray 28)).heap.size = w.heap.size + 1 := Array.size_push _
  rw [e] at h
  exact h
theorem two_0 (w : World) : isBlk (two w) w.heap.size 28 zero6 := blk_keep (blk_alloc w 28 zero6) ((Below.refl (w.heap.size + 1) _).alloc (Nat.le_of_eq (Array.size_push _).symm) _) (by omega)
theorem two_below (w : World) : Below w.heap.size w (two w) := ((Below.refl _ _).alloc (Nat.le_refl _) _).alloc (Nat.le_of_lt (by have : (w.alloc (.cells zero6.toArray 28)).heap.size = w.heap.size + 1 := Array.size_push _; omega)) _
theorem two_size (w : World) : (two w).heap.size = w.heap.size + 2 := by
  unfold two
  rw [show ((w.alloc (.cells zero6.toArray 28)).alloc (.cells zero6.toArray 28)).heap.size = (w.alloc (.cells zero6.toArray 28)).heap.size + 1 from Array.size_push _, show (w.alloc (.cells zero6.toArray 28)).heap.size = w.heap.size + 1 from Array.size_push _]
theorem two_next {w w2 : World} (h : Below (two w).heap.size (two w) w2) : isBlk w2 (w.heap.size + 1) 28 zero6 ∧ isBlk w2 w.heap.size 28 zero6 ∧ Below w.heap.size w w2 :=
  ⟨blk_below (two_1 w) h, blk_below (two_0 w) h, (two_below w).trans (h.mono (by rw [two_size]; omega))⟩
theorem jump_ret {l : Nat} {J : Act → World → Prop} {Q : Exit → Act → World → Prop} {a : Act} {w : World} (h : Q .ret a w) : Exit.jump l J Q .ret a w := h
def cfgC (g : Cfg) (v : Value) : List Value := [.int .i64 g.clients, .int .i64 g.frames, .int .i64 g.many, .int .i64 g.patience, .int .i64 g.room, v]
theorem C_none (w : World) : kStp.C w none 0 [] := ⟨rfl, by omega, fun h => absurd h (by omega)⟩
/-- how the run stands at the jump to the label -/
def badJ (b : List Int) (w : World) (a : Act) (w' : World) : Prop := readB b = false ∧ (∃ u0 u1 u3 u4 u5 u6 u7 u8 u9 u10 u11 u12 u13 u14 u15 u16 u17 u18 u19 u20 u21 u22 u23 u24 u25 u26 u27 u28 u29 u30 u31 u32 u33 u34 u35 u36 u37 u38 u39 u40 u41 u42 u43 u44 u45 u46 u47 u48 u49 u50 u51 u52 u53 u54 u55 u56 u57 u58 u59 u60 u61 u62 u63 u64 u65 u66 u67 u68 u69 u70 u71 : Value, a = ⟨(u0 :: u1 :: .pointer (some ⟨w.heap.size, 0, none⟩) :: u3 :: u4 :: u5 :: u6 :: u7 :: u8 :: u9 :: u10 :: u11 :: u12 :: u13 :: u14 :: u15 :: u16 :: u17 :: u18 :: u19 :: u20 :: u21 :: u22 :: u23 :: u24 :: u25 :: u26 :: u27 :: u28 :: u29 :: u30 :: u31 :: u32 :: u33 :: u34 :: u35 :: u36 :: u37 :: u38 :: u39 :: u40 :: u41 :: u42 :: u43 :: u44 :: u45 :: u46 :: u47 :: u48 :: u49 :: u50 :: u51 :: u52 :: u53 :: u54 :: u55 :: u56 :: u57 :: u58 :: u59 :: u60 :: u61 :: u62 :: u63 :: u64 :: u65 :: u66 :: u67 :: u68 :: u69 :: u70 :: u71 :: []).toArray, []⟩) ∧ isBlk w' w.heap.size 28 zero6 ∧ Below w.heap.size w w'
set_option maxHeartbeats 4000000 in
set_option maxRecDepth 100000 in
theorem read_any (hN : NewSays) (A : Option Addr) (c : Nat) (b : List Int) (w : World) (hr : Kd.C (Kd.int .u8) w A b.length b) (hc : b.length ≤ c) (hb : ∀ x ∈ b, byt x) (hL : b.length ≤ 8000) :
    Calls Tryz.prog 5 #[.slice A b.length c] w fun e w' => ∃ (A' : Option Addr) (c' : Nat), e = .returned (.tuple #[scriptV (readG b) A' (readL b).length c', .int .i64 (readE b)]) ∧ kStp.C w' A' (readL b).length (readL b) ∧ (readL b).length ≤ c' ∧ Below w.heap.size w w' := by
  have HG0 := Aside0.mk (fun W h => get_short A c b 6 W h (by omega))
  have HG := Aside0.mk (fun W hl hW => get_any A c b 6 W hW hc hb hl (by omega) (by omega))
  have HR := Aside0.mk hr
  have HY := Aside0.mk hb
  clear hr hc hb
  go_enter Tryz.func5, Tryz.ntmps5
  go_wp2
  refine wp_scope_jumps 0 (badJ b w) (fun _ _ => 0) rfl ?first ?pass
  case pass =>
    rintro a w' ⟨hR, ⟨u0, u1, u3, u4, u5, u6, u7, u8, u9, u10, u11, u12, u13, u14, u15, u16, u17, u18, u19, u20, u21, u22, u23, u24, u25, u26, u27, u28, u29, u30, u31, u32, u33, u34, u35, u36, u37, u38, u39, u40, u41, u42, u43, u44, u45, u46, u47, u48, u49, u50, u51, u52, u53, u54, u55, u56, u57, u58, u59, u60, u61, u62, u63, u64, u65, u66, u67, u68, u69, u70, u71, rfl⟩, hz, hB⟩
    have hG : readG b = ⟨0, 0, 0, 0, 0⟩ := by unfold readG; rw [hR]; rfl
    have hL : readL b = [] := by unfold readL; rw [hR]; rfl
    have hE : readE b = 231 := by unfold readE; rw [hR]; rfl
    have HG := Aside0.mk hG
    have HL := Aside0.mk hL
    have HE := Aside0.mk hE
    have HZ := Aside0.mk hz
    have HB := Aside0.mk hB
    have hy := blk_cell hz
    have hyf := blk_frozen hz
    unfold zero6 at hy
    clear hz hB hR hG hL hE HG0 HR HY
    go_wp2
    refine jump_ret ?_
    refine bodyPost_ret (v := .tuple #[scriptV ⟨0, 0, 0, 0, 0⟩ none 0 0, .int .i64 231]) ?_ rfl ⟨none, 0, ?_, ?_, ?_, ?_⟩
    · simp [results, Tryz.results5, go_sem, scriptV, hy]
    · rw [HG.out, HL.out, HE.out]; rfl
    · rw [HL.out]; exact C_none _
    · rw [HL.out]; exact Nat.le_refl 0
    · iterate 6 (refine Below.setCell ?_ (by simp) _)
      exact HB.out
  case first =>
    by_cases hl : 18 ≤ b.length
    · by_cases h5 : 500 < num b 5
      · have hR : readB b = false := by unfold readB; rw [decide_eq_false (show ¬ many b ≤ 500 by unfold many; omega), Bool.false_and, Bool.and_false]
        go_wp2_with (go_at_call 12; refine (HG.out _ (by omega) (Kd.C_alloc (Kd.C_alloc HR.out _) _)).mono ?_; rintro e w2 ⟨v0, v1, rfl, r0, r1, b2⟩; obtain ⟨g0, c0, rfl, hg0, hg1, hx⟩ := R_ints r0 (nums_length b 6) (by omega); have hx5 := hx 5 (by omega); rw [nums_getD b 6 5 (by omega)] at hx5; obtain ⟨A1, c1, rfl, l1, k1⟩ := Kd.R_reads r1; rw [List.length_drop] at l1 k1; rw [List.length_drop]; have HX := Aside0.mk hx; have B2 := Aside0.mk b2; have L1 := Aside0.mk l1; have K1 := Aside0.mk k1; have R1 := Aside0.mk r1; clear hx r0 r1 l1 k1; obtain ⟨hc2, hf2⟩ := bcell b2; clear b2)
        go_step3
        refine And.intro rfl ⟨hR, ⟨_, _, _, _, _, _, _, _, _, _, _, _, _, _, _, _, _, _, _, _, _, _, _, _, _, _, _, _, _, _, _, _, _, _, _, _, _, _, _, _, _, _, _, _, _, _, _, _, _, _, _, _, _, _, _, _, _, _, _, _, _, _, _, _, _, _, _, _, _, _, _, rfl⟩, (two_next B2.out).2.1, (two_next B2.out).2.2⟩
      · go_wp2_with (go_at_call 12; refine (HG.out _ (by omega) (Kd.C_alloc (Kd.C_alloc HR.out _) _)).mono ?_; rintro e w2 ⟨v0, v1, rfl, r0, r1, b2⟩; obtain ⟨g0, c0, rfl, hg0, hg1, hx⟩ := R_ints r0 (nums_length b 6) (by omega); have hx5 := hx 5 (by omega); rw [nums_getD b 6 5 (by omega)] at hx5; obtain ⟨A1, c1, rfl, l1, k1⟩ := Kd.R_reads r1; rw [List.length_drop] at l1 k1; rw [List.length_drop]; have HX := Aside0.mk hx; have B2 := Aside0.mk b2; have L1 := Aside0.mk l1; have K1 := Aside0.mk k1; have R1 := Aside0.mk r1; clear hx r0 r1 l1 k1; obtain ⟨hc2, hf2⟩ := bcell b2; clear b2)
        have hk2 : ∀ k, k < 6 → w2.drew.cell? ⟨g0, k, none⟩ = some (.int .i64 (num b k)) := fun k hk => by
          rw [World.cell?_drew, HX.out k hk, nums_getD b 6 k hk]
        have HK2 := Aside0.mk hk2
        obtain ⟨hz1, hz0, hB2⟩ := two_next B2.out
        have HZ1 := Aside0.mk hz1
        have HZ0 := Aside0.mk hz0
        have HB2 := Aside0.mk hB2
        have hy := blk_cell hz1
        have hyf := blk_frozen hz1
        unfold zero6 at hy
        clear hk2 hz1 hz0 hB2 hc2 hf2
        refine start_ (n := 18) (S := fun w' => w'.cell? ⟨g0, 0, none⟩ = some (.int .i64 (num b 0)) ∧ w'.cell? ⟨g0, 1, none⟩ = some (.int .i64 (num b 1)) ∧ w'.cell? ⟨g0, 2, none⟩ = some (.int .i64 (num b 2)) ∧ w'.cell? ⟨g0, 3, none⟩ = some (.int .i64 (num b 3)) ∧ w'.cell? ⟨g0, 4, none⟩ = some (.int .i64 (num b 4))) (ds := [17]) #[false, false, false, false, false, false, false, false, false, false, false, false, false, false, false, false, false, false] (by kernel_rfl) rfl rfl ⟨HK2.out 0 (by omega), HK2.out 1 (by omega), HK2.out 2 (by omega), HK2.out 3 (by omega), HK2.out 4 (by omega)⟩ (fun hHeld => ?_)
        refine pure_ (i := 0) (N := some 25) (v := ?_) (a' := ?_) #[true, false, false, false, false, false, false, false, false, false, false, false, false, false, false, false, false, false] rfl rfl (by kernel_rfl) (fun _ _ _ h => h) (Or.inl ⟨by rfl, ?_⟩) ?_ ?_
        rotate_left
        · intro w'
          go_simp
          with_reducible rfl
        rotate_left
        · simp only [Act.put, List.setIfInBounds_toArray, List.set_cons_zero, List.set_cons_succ, i64_w, i32_w]
          rfl
        refine pure_ (i := 1) (N := some 26) (v := ?_) (a' := ?_) #[true, true, false, false, false, false, false, false, false, false, false, false, false, false, false, false, false, false] rfl rfl (by kernel_rfl) (fun _ _ _ h => h) (Or.inl ⟨by rfl, ?_⟩) ?_ ?_
        rotate_left
        · intro w'
          go_simp
          with_reducible rfl
        rotate_left
        · simp only [Act.put, List.setIfInBounds_toArray, List.set_cons_zero, List.set_cons_succ, i64_w, i32_w]
          rfl
        refine take_ (i := 2) (N := some 27) (v := ?_) (a' := ?_) #[true, true, true, false, false, false, false, false, false, false, false, false, false, false, false, false, false, false] rfl rfl (by kernel_rfl) (fun _ _ _ h => h) (Or.inl ⟨by rfl, ?_⟩) hHeld ?_ ?_
        rotate_left
        · rintro w' ⟨s0, s1, s2, s3, s4⟩
          go_simp
          with_reducible rfl
        rotate_left
        · simp only [Act.put, List.setIfInBounds_toArray, List.set_cons_zero, List.set_cons_succ, i64_w, i32_w]
          rfl
        refine pure_ (i := 3) (N := some 28) (v := ?_) (a' := ?_) #[true, true, true, true, false, false, false, false, false, false, false, false, false, false, false, false, false, false] rfl rfl (by kernel_rfl) (fun _ _ _ h => h) (Or.inl ⟨by rfl, ?_⟩) ?_ ?_
        rotate_left
        · intro w'
          go_simp
          with_reducible rfl
        rotate_left
        · simp only [Act.put, List.setIfInBounds_toArray, List.set_cons_zero, List.set_cons_succ, i64_w, i32_w]
          rfl
        refine pure_ (i := 4) (N := some 29) (v := ?_) (a' := ?_) #[true, true, true, true, true, false, false, false, false, false, false, false, false, false, false, false, false, false] rfl rfl (by kernel_rfl) (fun _ _ _ h => h) (Or.inl ⟨by rfl, ?_⟩) ?_ ?_
        rotate_left
        · intro w'
          go_simp
          with_reducible rfl
        rotate_left
        · simp only [Act.put, List.setIfInBounds_toArray, List.set_cons_zero, List.set_cons_succ, i64_w, i32_w]
          rfl
        refine take_ (i := 5) (N := some 30) (v := ?_) (a' := ?_) #[true, true, true, true, true, true, false, false, false, false, false, false, false, false, false, false, false, false] rfl rfl (by kernel_rfl) (fun _ _ _ h => h) (Or.inl ⟨by rfl, ?_⟩) hHeld ?_ ?_
        rotate_left
        · rintro w' ⟨s0, s1, s2, s3, s4⟩
          go_simp
          with_reducible rfl
        rotate_left
        · simp only [Act.put, List.setIfInBounds_toArray, List.set_cons_zero, List.set_cons_succ, i64_w, i32_w]
          rfl
        refine pure_ (i := 6) (N := some 31) (v := ?_) (a' := ?_) #[true, true, true, true, true, true, true, false, false, false, false, false, false, false, false, false, false, false] rfl rfl (by kernel_rfl) (fun _ _ _ h => h) (Or.inl ⟨by rfl, ?_⟩) ?_ ?_
        rotate_left
        · intro w'
          go_simp
          with_reducible rfl
        rotate_left
        · simp only [Act.put, List.setIfInBounds_toArray, List.set_cons_zero, List.set_cons_succ, i64_w, i32_w]
          rfl
        refine pure_ (i := 7) (N := some 32) (v := ?_) (a' := ?_) #[true, true, true, true, true, true, true, true, false, false, false, false, false, false, false, false, false, false] rfl rfl (by kernel_rfl) (fun _ _ _ h => h) (Or.inl ⟨by rfl, ?_⟩) ?_ ?_
        rotate_left
        · intro w'
          go_simp
          with_reducible rfl
        rotate_left
        · simp only [Act.put, List.setIfInBounds_toArray, List.set_cons_zero, List.set_cons_succ, i64_w, i32_w]
          rfl
        refine take_ (i := 8) (N := some 33) (v := ?_) (a' := ?_) #[true, true, true, true, true, true, true, true, true, false, false, false, false, false, false, false, false, false] rfl rfl (by kernel_rfl) (fun _ _ _ h => h) (Or.inl ⟨by rfl, ?_⟩) hHeld ?_ ?_
        rotate_left
        · rintro w' ⟨s0, s1, s2, s3, s4⟩
          go_simp
          with_reducible rfl
        rotate_left
        · simp only [Act.put, List.setIfInBounds_toArray, List.set_cons_zero, List.set_cons_succ, i64_w, i32_w]
          rfl
        refine pure_ (i := 9) (N := some 34) (v := ?_) (a' := ?_) #[true, true, true, true, true, true, true, true, true, true, false, false, false, false, false, false, false, false] rfl rfl (by kernel_rfl) (fun _ _ _ h => h) (Or.inl ⟨by rfl, ?_⟩) ?_ ?_
        rotate_left
        · intro w'
          go_simp
          with_reducible rfl
        rotate_left
        · simp only [Act.put, List.setIfInBounds_toArray, List.set_cons_zero, List.set_cons_succ, i64_w, i32_w]
          rfl
        refine pure_ (i := 10) (N := some 35) (v := ?_) (a' := ?_) #[true, true, true, true, true, true, true, true, true, true, true, false, false, false, false, false, false, false] rfl rfl (by kernel_rfl) (fun _ _ _ h => h) (Or.inl ⟨by rfl, ?_⟩) ?_ ?_
        rotate_left
        · intro w'
          go_simp
          with_reducible rfl
        rotate_left
        · simp only [Act.put, List.setIfInBounds_toArray, List.set_cons_zero, List.set_cons_succ, i64_w, i32_w]
          rfl
        refine take_ (i := 11) (N := some 36) (v := ?_) (a' := ?_) #[true, true, true, true, true, true, true, true, true, true, true, true, false, false, false, false, false, false] rfl rfl (by kernel_rfl) (fun _ _ _ h => h) (Or.inl ⟨by rfl, ?_⟩) hHeld ?_ ?_
        rotate_left
        · rintro w' ⟨s0, s1, s2, s3, s4⟩
          go_simp
          with_reducible rfl
        rotate_left
        · simp only [Act.put, List.setIfInBounds_toArray, List.set_cons_zero, List.set_cons_succ, i64_w, i32_w]
          rfl
        refine pure_ (i := 12) (N := some 37) (v := ?_) (a' := ?_) #[true, true, true, true, true, true, true, true, true, true, true, true, true, false, false, false, false, false] rfl rfl (by kernel_rfl) (fun _ _ _ h => h) (Or.inl ⟨by rfl, ?_⟩) ?_ ?_
        rotate_left
        · intro w'
          go_simp
          with_reducible rfl
        rotate_left
        · simp only [Act.put, List.setIfInBounds_toArray, List.set_cons_zero, List.set_cons_succ, i64_w, i32_w]
          rfl
        refine pure_ (i := 13) (N := some 38) (v := ?_) (a' := ?_) #[true, true, true, true, true, true, true, true, true, true, true, true, true, true, false, false, false, false] rfl rfl (by kernel_rfl) (fun _ _ _ h => h) (Or.inl ⟨by rfl, ?_⟩) ?_ ?_
        rotate_left
        · intro w'
          go_simp
          with_reducible rfl
        rotate_left
        · simp only [Act.put, List.setIfInBounds_toArray, List.set_cons_zero, List.set_cons_succ, i64_w, i32_w]
          rfl
        refine take_ (i := 14) (N := some 39) (v := ?_) (a' := ?_) #[true, true, true, true, true, true, true, true, true, true, true, true, true, true, true, false, false, false] rfl rfl (by kernel_rfl) (fun _ _ _ h => h) (Or.inl ⟨by rfl, ?_⟩) hHeld ?_ ?_
        rotate_left
        · rintro w' ⟨s0, s1, s2, s3, s4⟩
          go_simp
          with_reducible rfl
        rotate_left
        · simp only [Act.put, List.setIfInBounds_toArray, List.set_cons_zero, List.set_cons_succ, i64_w, i32_w]
          rfl
        refine pure_ (i := 15) (N := some 40) (v := ?_) (a' := ?_) #[true, true, true, true, true, true, true, true, true, true, true, true, true, true, true, true, false, false] rfl rfl (by kernel_rfl) (fun _ _ _ h => h) (Or.inl ⟨by rfl, ?_⟩) ?_ ?_
        rotate_left
        · intro w'
          go_simp
          with_reducible rfl
        rotate_left
        · simp only [Act.put, List.setIfInBounds_toArray, List.set_cons_zero, List.set_cons_succ, i64_w, i32_w]
          rfl
        refine pure_ (i := 16) (N := some 41) (v := ?_) (a' := ?_) #[true, true, true, true, true, true, true, true, true, true, true, true, true, true, true, true, true, false] rfl rfl (by kernel_rfl) (fun _ _ _ h => h) (Or.inl ⟨by rfl, ?_⟩) ?_ ?_
        rotate_left
        · intro w'
          go_simp
          with_reducible rfl
        rotate_left
        · simp only [Act.put, List.setIfInBounds_toArray, List.set_cons_zero, List.set_cons_succ, i64_w, i32_w]
          rfl
        refine last_ (i := 17) (N := none) #[true, true, true, true, true, true, true, true, true, true, true, true, true, true, true, true, true, true] rfl rfl (by kernel_rfl) (by decide) (fun K hK => ?_)
        refine skip_ (w1 := ?_) (by rfl) rfl ?_ ?_
        rotate_left
        · go_simp
          rfl
        refine hK.out _ _ ?_
        clear hK K
        refine done_ (by kernel_rfl) ?_
        have hz4 : isBlk (((((w2.setCell ⟨w.heap.size + 1, 0, none⟩ (.int .i64 (num b 0))).setCell ⟨w.heap.size + 1, 1, none⟩ (.int .i64 (num b 1))).setCell ⟨w.heap.size + 1, 2, none⟩ (.int .i64 (num b 2))).setCell ⟨w.heap.size + 1, 3, none⟩ (.int .i64 (num b 3))).setCell ⟨w.heap.size + 1, 4, none⟩ (.int .i64 (num b 4))).drew (w.heap.size + 1) 28 (cfgC (cfgOf b) (.slice none 0 0)) := blk_drew (blk_set (blk_set (blk_set (blk_set (blk_set HZ1.out 0 _) 1 _) 2 _) 3 _) 4 _)
        have hq4 : isBlk (((((w2.setCell ⟨w.heap.size + 1, 0, none⟩ (.int .i64 (num b 0))).setCell ⟨w.heap.size + 1, 1, none⟩ (.int .i64 (num b 1))).setCell ⟨w.heap.size + 1, 2, none⟩ (.int .i64 (num b 2))).setCell ⟨w.heap.size + 1, 3, none⟩ (.int .i64 (num b 3))).setCell ⟨w.heap.size + 1, 4, none⟩ (.int .i64 (num b 4))).drew w.heap.size 28 zero6 := blk_drew (blk_other (blk_other (blk_other (blk_other (blk_other HZ0.out (by omega)) (by omega)) (by omega)) (by omega)) (by omega))
        have hR4 : Kd.R (Kd.int .u8) 5 (((((w2.setCell ⟨w.heap.size + 1, 0, none⟩ (.int .i64 (num b 0))).setCell ⟨w.heap.size + 1, 1, none⟩ (.int .i64 (num b 1))).setCell ⟨w.heap.size + 1, 2, none⟩ (.int .i64 (num b 2))).setCell ⟨w.heap.size + 1, 3, none⟩ (.int .i64 (num b 3))).setCell ⟨w.heap.size + 1, 4, none⟩ (.int .i64 (num b 4))).drew w.heap.size (fun _ => True) (.slice A1 (List.drop (3 * 6) b).length c1) (List.drop (3 * 6) b) := Kd.R_drew (R_u8_set (R_u8_set (R_u8_set (R_u8_set (R_u8_set (Kd.R_lower R1.out (show w.heap.size ≤ (two w).heap.size by rw [two_size]; omega)) HZ1.out 0 _) (blk_set HZ1.out 0 _) 1 _) (blk_set (blk_set HZ1.out 0 _) 1 _) 2 _) (blk_set (blk_set (blk_set HZ1.out 0 _) 1 _) 2 _) 3 _) (blk_set (blk_set (blk_set (blk_set HZ1.out 0 _) 1 _) 2 _) 3 _) 4 _)
        have hB4 : Below w.heap.size w (((((w2.setCell ⟨w.heap.size + 1, 0, none⟩ (.int .i64 (num b 0))).setCell ⟨w.heap.size + 1, 1, none⟩ (.int .i64 (num b 1))).setCell ⟨w.heap.size + 1, 2, none⟩ (.int .i64 (num b 2))).setCell ⟨w.heap.size + 1, 3, none⟩ (.int .i64 (num b 3))).setCell ⟨w.heap.size + 1, 4, none⟩ (.int .i64 (num b 4))).drew := by
          refine below_drew1 ?_
          iterate 5 (refine Below.setCell ?_ (by simp) _)
          exact HB2.out
        have hk4 : ((((((w2.setCell ⟨w.heap.size + 1, 0, none⟩ (.int .i64 (num b 0))).setCell ⟨w.heap.size + 1, 1, none⟩ (.int .i64 (num b 1))).setCell ⟨w.heap.size + 1, 2, none⟩ (.int .i64 (num b 2))).setCell ⟨w.heap.size + 1, 3, none⟩ (.int .i64 (num b 3))).setCell ⟨w.heap.size + 1, 4, none⟩ (.int .i64 (num b 4))).drew).cell? ⟨g0, 5, none⟩ = some (.int .i64 ((many b : Nat) : Int)) := by
          have hne : g0 ≠ w.heap.size + 1 := by
            have h : (two w).heap.size ≤ g0 := hg0
            rw [two_size] at h
            omega
          have hn := num_bd HY.out 5
          rw [World.cell?_drew]
          unfold World.cell?
          iterate 5 (rw [Below.heap_setCell _ _ _ _ hne])
          rw [show ((many b : Nat) : Int) = num b 5 by unfold many; omega]
          exact HK2.out 5 (by omega)
        rw [List.length_drop] at hR4
        generalize (((((w2.setCell ⟨w.heap.size + 1, 0, none⟩ (.int .i64 (num b 0))).setCell ⟨w.heap.size + 1, 1, none⟩ (.int .i64 (num b 1))).setCell ⟨w.heap.size + 1, 2, none⟩ (.int .i64 (num b 2))).setCell ⟨w.heap.size + 1, 3, none⟩ (.int .i64 (num b 3))).setCell ⟨w.heap.size + 1, 4, none⟩ (.int .i64 (num b 4))).drew = w4 at hz4 hq4 hR4 hB4 hk4 ⊢
        have HZ4 := Aside0.mk hz4
        have HQ4 := Aside0.mk hq4
        have HR4 := Aside0.mk hR4
        have HB4 := Aside0.mk hB4
        have hn5 : many b ≤ 500 := by unfold many; omega
        clear hz4 hq4 hR4 hB4 hHeld hy hyf HK2 HZ1 HZ0 HB2 R1 hg0 hg1 hx5 HX B2 L1 K1 HG HG0 h5
        go_wp2
        go_loopg [6, 45] (many b) (fun kq v6 v45 w' => ∃ (k : Nat) (v : Value), v45 = .int .i64 k ∧ Aside0 (k + kq = many b) ∧ Aside0 (Kd.R (Kd.int .u8) 5 w' w.heap.size (fun _ => True) v6 (b.drop (18 + 43 * k))) ∧ Aside0 (okN (b.drop 18) k = true) ∧ Aside0 (isBlk w' (w.heap.size + 1) 28 (cfgC (cfgOf b) v)) ∧ Aside0 (isBlk w' w.heap.size 28 zero6) ∧ Aside0 (Kd.R kStp 49 w' w.heap.size (fun _ => True) v (stepsN (b.drop 18) k)) ∧ Aside0 (Below w.heap.size w w'))
        case atStart => exact ⟨0, _, rfl, ⟨by omega⟩, ⟨HR4.out⟩, ⟨rfl⟩, HZ4, HQ4, ⟨Kd.R_nil _ _ _ _ _⟩, HB4⟩
        case round =>
          obtain ⟨k, v, rfl, HK, HRs, HOK, HZ, HQ, HS, HB⟩ := hrel
          obtain ⟨A2, c2, rfl, l2, k2⟩ := Kd.R_reads HRs.out
          have hl2 := l2
          rw [List.length_drop] at k2
          have K2 := Aside0.mk k2
          rw [List.length_drop]
          have hyb := HY.out
          clear k2
          by_cases hk : k < many b
          · have hk1 := hk
            cases ho : stepOk (b.drop (18 + 43 * k)) with
            | true =>
              have ho1 := ho
              unfold stepOk at ho1
              rw [Bool.and_eq_true, Bool.and_eq_true, decide_eq_true_eq, decide_eq_true_eq] at ho1
              have HO := Aside0.mk (fun W hW => one_ok A2 c2 (b.drop (18 + 43 * k)) W hW l2 (fun x hx => hyb x (List.mem_of_mem_drop hx)) ho1.1 (by rw [List.length_drop]; omega) ho1.2.1 ho1.2.2)
              rw [List.drop_drop, List.length_drop] at HO
              have HO1 : Aside0 (okN (b.drop 18) (k + 1) = true) := ⟨by rw [okN_succ, HOK.out, List.drop_drop, ho]; rfl⟩
              have HSL : Hid (stepsN (b.drop 18) k ++ [stepOf (b.drop (18 + 43 * k))] = stepsN (b.drop 18) (k + 1)) := Lib.hid (by rw [stepsN_succ, List.drop_drop])
              have hlk := blk_lt HZ.out
              clear ho ho1 l2 hl2
              generalize hst : stepOf (b.drop (18 + 43 * k)) = st at HO HSL
              unfold stepV at HO
              go_wp2_with (first | (go_at_call 13; refine (HO.out _ K2.out).mono ?_; rintro e w3 ⟨v3, rfl, r3, b3⟩; have R3 := Aside0.mk r3; have B3 := Aside0.mk b3; have Z3 := Aside0.mk (blk_below HZ.out b3); have hlt := blk_lt Z3.out; have hy3 := blk_cell Z3.out; have hyf3 := blk_frozen Z3.out; unfold cfgC at hy3; clear r3 b3) | ((with_reducible refine gate_builtin (b := .append) (xs := #[.tmp 56, .tmp 58]) rfl ?_); at_builtin; refine Kd.R_append kStp (w0 := w) w.heap.size rfl (.tmp 56) (.tmp 58) 26 49 _ 88 rfl Tryz.underlying26 info49 rfl (by decide) (by omega) v (stepsN (b.drop 18) k) st (stepC st) (fun _ => True) (fun _ => False) rfl (slice_at w3 _) ?aP (fun _ hk => hk.elim) (fun _ _ => trivial) ?aO ?aB ?aS ?aL ?_; (case aP => exact rfl); (case aO => exact Kd.R_alloc (Kd.R_below HS.out B3.out) _); (case aB => exact (below_step HB.out B3.out).alloc (below_size (below_step HB.out B3.out)) _); (case aS => exact below_size ((below_step HB.out B3.out).alloc (below_size (below_step HB.out B3.out)) _)); (case aL => rw [stepsN_length]; omega); intro v2 w5 ho hb hg hat; rw [HSL.out] at ho; obtain ⟨A5, c5, rfl⟩ := Kd.R_slice ho; have O5 := Aside0.mk ho; have B5 := Aside0.mk hb; obtain ⟨hz5, hq5, hr5⟩ := after_append Z3.out (blk_below HQ.out B3.out) (Kd.R_below HS.out B3.out) R3.out hg; have Z5 := Aside0.mk hz5; have Q5 := Aside0.mk hq5; have R5 := Aside0.mk hr5; have hy5 := blk_cell hz5; have hyf5 := blk_frozen hz5; unfold cfgC at hy5; clear ho hb hg hat hz5 hq5 hr5))
              go_roundg (gk - 1)
              case measure => have := HK.out; omega
              case rel =>
                refine ⟨k + 1, _, by go_num, ⟨by have := HK.out; omega⟩, ⟨?_⟩, HO1, ⟨?_⟩, ⟨?_⟩, ⟨R_stp_set O5.out Z5.out 5 _⟩, ⟨Below.setCell B5.out (by simp) _⟩⟩
                · have h := R5.out
                  (try rw [List.drop_drop] at h)
                  rw [show 18 + 43 * k + 43 = 18 + 43 * (k + 1) by omega] at h
                  exact R_u8_set (Kd.R_lower h (below_size HB.out)) Z5.out 5 _
                · exact blk_set Z5.out 5 _
                · exact blk_other Q5.out (by omega)
            | false =>
              have HO := Aside0.mk (fun W hW => one_bad A2 c2 (b.drop (18 + 43 * k)) W hW l2 (fun x hx => hyb x (List.mem_of_mem_drop hx)) (by rw [List.length_drop]; omega) (by
                intro h
                unfold stepOk at ho
                rw [decide_eq_true h.1, decide_eq_true h.2.1, h.2.2] at ho
                cases ho))
              have hR : readB b = false := by
                unfold readB
                rw [okN_mono (b.drop 18) (many b) (k + 1) (by omega) (by rw [okN_succ, List.drop_drop, ho, Bool.and_false]), Bool.false_and, Bool.and_false, Bool.and_false]
              rw [List.length_drop] at HO
              clear ho l2 hl2
              unfold stepV at HO
              go_wp2_with (go_at_call 13; refine (HO.out _ K2.out).mono ?_; rintro e w3 ⟨s3, v3, rfl, r3, b3⟩; have B3 := Aside0.mk b3; clear r3 b3)
              go_step3
              refine And.intro rfl ⟨hR, ⟨_, _, _, _, _, _, _, _, _, _, _, _, _, _, _, _, _, _, _, _, _, _, _, _, _, _, _, _, _, _, _, _, _, _, _, _, _, _, _, _, _, _, _, _, _, _, _, _, _, _, _, _, _, _, _, _, _, _, _, _, _, _, _, _, _, _, _, _, _, _, _, rfl⟩, blk_below (blk_below HQ.out B3.out) ((Below.refl _ _).alloc (Nat.le_refl _) _), (below_step HB.out B3.out).alloc (below_size (below_step HB.out B3.out)) _⟩
          · obtain rfl : k = many b := by have := HK.out; omega
            have hz := blk_cell HZ.out
            have hzf := blk_frozen HZ.out
            obtain ⟨A3, c3, rfl, l3, k3⟩ := Kd.R_reads HS.out
            have L3 := Aside0.mk l3
            have K3 := Aside0.mk k3
            unfold cfgC at hz
            clear l3 k3 l2 hl2
            by_cases hz0 : b.length = 18 + 43 * many b
            · have h0 : b.length - (18 + 43 * many b) = 0 := by omega
              cases hs : scriptB (cfgOf b) (stepsN (b.drop 18) (many b)) with
              | true =>
                have hR : readB b = true := by
                  unfold readB
                  rw [decide_eq_true hl, decide_eq_true hn5, HOK.out, decide_eq_true hz0, hs]
                  rfl
                have hG : readG b = cfgOf b := by unfold readG; rw [hR]; rfl
                have hL : readL b = stepsN (b.drop 18) (many b) := by unfold readL; rw [hR]; rfl
                have hE : readE b = 0 := by unfold readE; rw [hR]; rfl
                have HG := Aside0.mk hG
                have HL := Aside0.mk hL
                have HE := Aside0.mk hE
                have HSC := Aside0.mk (fun W hW => script_any hN (cfgOf b) A3 c3 (stepsN (b.drop 18) (many b)) W hW (by rw [stepsN_length]; omega))
                rw [hs] at HSC
                unfold scriptV at HSC
                clear hs hR hG hL hE hz0
                go_wp2_with (go_at_call 14; refine (HSC.out _ K3.out).mono ?_; rintro e w6 ⟨rfl, b6⟩; have B6 := Aside0.mk b6; have Q6 := Aside0.mk (blk_below HQ.out b6); have hy := blk_cell Q6.out; have hyf := blk_frozen Q6.out; have Z6 := Aside0.mk (blk_below HZ.out b6); have hx := blk_cell Z6.out; have hxf := blk_frozen Z6.out; unfold zero6 at hy; unfold cfgC at hx; clear b6)
                refine jump_ret ?_
                refine bodyPost_ret (v := .tuple #[scriptV (cfgOf b) A3 (stepsN (b.drop 18) (many b)).length c3, .int .i64 0]) ?_ rfl ⟨A3, c3, ?_, ?_, ?_, ?_⟩
                · simp [results, Tryz.results5, go_sem, scriptV, hy]
                · rw [HG.out, HL.out, HE.out]
                · rw [HL.out]
                  exact (Kd.R_reads' (R_stp_set (R_stp_set (R_stp_set (R_stp_set (R_stp_set (R_stp_set (Kd.R_below HS.out B6.out) Q6.out 0 _) (blk_set Q6.out 0 _) 1 _) (blk_set (blk_set Q6.out 0 _) 1 _) 2 _) (blk_set (blk_set (blk_set Q6.out 0 _) 1 _) 2 _) 3 _) (blk_set (blk_set (blk_set (blk_set Q6.out 0 _) 1 _) 2 _) 3 _) 4 _) (blk_set (blk_set (blk_set (blk_set (blk_set Q6.out 0 _) 1 _) 2 _) 3 _) 4 _) 5 _)).2.2
                · rw [HL.out]; exact L3.out
                · iterate 6 (refine Below.setCell ?_ (by simp) _)
                  exact below_step HB.out B6.out
              | false =>
                have hR : readB b = false := by
                  unfold readB
                  rw [hs, Bool.and_false, Bool.and_false, Bool.and_false, Bool.and_false]
                have HSC := Aside0.mk (fun W hW => script_any hN (cfgOf b) A3 c3 (stepsN (b.drop 18) (many b)) W hW (by rw [stepsN_length]; omega))
                rw [hs] at HSC
                unfold scriptV at HSC
                have hG : readG b = ⟨0, 0, 0, 0, 0⟩ := by unfold readG; rw [hR]; rfl
                have hL : readL b = [] := by unfold readL; rw [hR]; rfl
                have hE : readE b = 231 := by unfold readE; rw [hR]; rfl
                have HG := Aside0.mk hG
                have HL := Aside0.mk hL
                have HE := Aside0.mk hE
                clear hs hR hG hL hE
                go_wp2_with (go_at_call 14; refine (HSC.out _ K3.out).mono ?_; rintro e w6 ⟨rfl, b6⟩; have B6 := Aside0.mk b6; have Q6 := Aside0.mk (blk_below HQ.out b6); have hy := blk_cell Q6.out; have hyf := blk_frozen Q6.out; unfold zero6 at hy; clear b6)
                go_step3
                go_wp2
                refine jump_ret ?_
                refine bodyPost_ret (v := .tuple #[scriptV ⟨0, 0, 0, 0, 0⟩ none 0 0, .int .i64 231]) ?_ rfl ⟨none, 0, ?_, ?_, ?_, ?_⟩
                · simp [results, Tryz.results5, go_sem, scriptV, hy]
                · rw [HG.out, HL.out, HE.out]; rfl
                · rw [HL.out]; exact C_none _
                · rw [HL.out]; exact Nat.le_refl 0
                · iterate 6 (refine Below.setCell ?_ (by simp) _)
                  exact below_step HB.out B6.out
            · have hlen := okN_len _ _ HOK.out
              rw [List.length_drop] at hlen
              have h0 : ¬ b.length - (18 + 43 * many b) = 0 := by omega
              have hR : readB b = false := by
                unfold readB
                rw [decide_eq_false hz0, Bool.false_and, Bool.and_false, Bool.and_false, Bool.and_false]
              have hG : readG b = ⟨0, 0, 0, 0, 0⟩ := by unfold readG; rw [hR]; rfl
              have hL : readL b = [] := by unfold readL; rw [hR]; rfl
              have hE : readE b = 231 := by unfold readE; rw [hR]; rfl
              have HG := Aside0.mk hG
              have HL := Aside0.mk hL
              have HE := Aside0.mk hE
              have hy := blk_cell HQ.out
              have hyf := blk_frozen HQ.out
              unfold zero6 at hy
              clear hR hG hL hE hlen
              go_wp2
              go_step3
              go_wp2
              refine jump_ret ?_
              refine bodyPost_ret (v := .tuple #[scriptV ⟨0, 0, 0, 0, 0⟩ none 0 0, .int .i64 231]) ?_ rfl ⟨none, 0, ?_, ?_, ?_, ?_⟩
              · simp [results, Tryz.results5, go_sem, scriptV, hy]
              · rw [HG.out, HL.out, HE.out]; rfl
              · rw [HL.out]; exact C_none _
              · rw [HL.out]; exact Nat.le_refl 0
              · iterate 6 (refine Below.setCell ?_ (by simp) _)
                exact HB.out
    · have hR : readB b = false := by unfold readB; rw [decide_eq_false hl, Bool.false_and]
      go_wp2_with (go_at_call 12; refine (HG0.out _ (by omega)).mono ?_; rintro e w' ⟨rfl, rfl⟩)
      go_step3
      refine And.intro rfl ⟨hR, ⟨_, _, _, _, _, _, _, _, _, _, _, _, _, _, _, _, _, _, _, _, _, _, _, _, _, _, _, _, _, _, _, _, _, _, _, _, _, _, _, _, _, _, _, _, _, _, _, _, _, _, _, _, _, _, _, _, _, _, _, _, _, _, _, _, _, _, _, _, _, _, _, rfl⟩, two_0 w, two_below w⟩
end Go.Proofs.YtpgjilakcepilaaGreat.PV
