/- The contract of the reference's Read. -/
import Derived.Test.YtpgjilakcepilaaGreatVX
namespace Go.Proofs.YtpgjilakcepilaaGreat.PV
open Go.RowKit Go.Proofs.YtpgjilakcepilaaGreat.PScriptReads Go.Proofs.YtpgjilakcepilaaGreatW.PrintWords Go.Proofs.YtpgjilakcepilaaGreatW.PrintLast Go.Proofs.YtpgjilakcepilaaGreatW.PrintMore
set_option linter.unusedVariables false
set_option linter.unusedSimpArgs false
attribute [local go_sem] run_store_complex

theorem strOf_list (l : List Int) : (strOfNums l).toList = l.map (fun n => UInt8.ofNat n.toNat) := ByteArray.toList_eq _
theorem strOf_eq {l r : List Int} (hl : ∀ x ∈ l, byt x) (hr : ∀ x ∈ r, byt x) : ((strOfNums l).toList == (strOfNums r).toList) = decide (l = r) := by
  rw [strOf_list, strOf_list, Bool.eq_iff_iff, beq_iff_eq, decide_eq_true_eq]
  refine ⟨fun h => ?_, fun h => by rw [h]⟩
  have hlen : l.length = r.length := by simpa using congrArg List.length h
  refine List.ext_getElem hlen fun i h1 h2 => ?_
  have h3 := congrArg (fun m : List UInt8 => m[i]?) h
  simp only [List.getElem?_map, List.getElem?_eq_getElem h1, List.getElem?_eq_getElem h2, Option.map_some, Option.some.injEq] at h3
  have b1 := hl _ (List.getElem_mem h1)
  have b2 := hr _ (List.getElem_mem h2)
  unfold byt at b1 b2
  have h4 := congrArg UInt8.toNat h3
  simp only [UInt8.toNat_ofNat'] at h4
  omega
theorem tb_byt (n : Int) : (∀ x ∈ tb3 n, byt x) ∧ ∀ x ∈ tb8 n, byt x := by
  constructor <;> intro x hx <;> simp only [tb3, tb8, List.mem_cons, List.not_mem_nil, or_false] at hx <;> unfold byt <;> omega
theorem encN_byt (l : List Int) : ∀ x ∈ encN l, byt x := by
  intro x hx
  obtain ⟨n, _, hn⟩ := List.mem_flatMap.1 hx
  exact (tb_byt n).1 x hn
theorem encL_byt (g : Cfg) (l : List Stp) : ∀ x ∈ encL g l, byt x := by
  intro x hx
  unfold encL at hx
  rcases List.mem_append.1 hx with hx | hx
  · exact encN_byt _ x hx
  · obtain ⟨s, _, hs⟩ := List.mem_flatMap.1 hx
    unfold encS at hs
    rcases List.mem_append.1 hs with hs | hs
    · exact encN_byt _ x hs
    · rcases List.mem_append.1 hs with hs | hs
      · exact (tb_byt _).2 x hs
      · exact (tb_byt _).2 x hs
/-- the reference's Take where it takes nothing -/
theorem rtake_bad (A : Option Addr) (c : Nat) (l : List Int) (w : World) (hr : Kd.C (Kd.int .u8) w A l.length l) (hc : l.length ≤ c) (hb : ∀ x ∈ l, byt x) (hL : l.length ≤ 100000) (h : ¬ (16 ≤ l.length ∧ cleanB l = true)) :
    Calls Tryz.prog 16 #[.slice A l.length c] w fun e w' => e = .returned (.tuple #[.complex .f64 0 0, .slice none 0 0, .int .i64 21]) ∧ Below w.heap.size w w' := by
  by_cases hl : 16 ≤ l.length
  · have hcl : ¬ cleanB l = true := fun hc => h ⟨hl, hc⟩
    rw [clean_iff hb hl] at hcl
    by_cases h0 : ((formN (oct l 0).toNat : Nat) : Int) = oct l 0
    · exact rtake_no8 A c l w hr hc hb hl hL h0 (fun e => hcl ⟨h0, e.symm⟩)
    · exact rtake_no0 A c l w hr hc hb hl hL (fun e => h0 e.symm)
  · exact (rtake_short A c l w (by omega)).mono fun e w' ⟨h1, h2⟩ => ⟨h1, h2 ▸ Below.refl _ _⟩
theorem rtake_good (A : Option Addr) (c : Nat) (l : List Int) (w : World) (hr : Kd.C (Kd.int .u8) w A l.length l) (hc : l.length ≤ c) (hb : ∀ x ∈ l, byt x) (hL : l.length ≤ 100000) (hl : 16 ≤ l.length) (h : cleanB l = true) :
    Calls Tryz.prog 16 #[.slice A l.length c] w fun e w' => ∃ v1 : Value, e = .returned (.tuple #[.complex .f64 (oct l 0).toNat (oct l 8).toNat, v1, .int .i64 0]) ∧ Kd.R (Kd.int .u8) 5 w' w.heap.size (fun _ => True) v1 (l.drop 16) ∧ Below w.heap.size w w' := by
  rw [clean_iff hb hl] at h
  exact rtake_yes A c l w hr hc hb hl hL h.1 h.2
theorem R_i64_set {W : World} {base : Nat} {ok : Nat → Prop} {v : Value} {xs : List Int} {g : Nat} {cs : List Value} (h : Kd.R (Kd.int .i64) 3 W base ok v xs) (hb : isBlk W g 28 cs) (j : Nat) (u : Value) : Kd.R (Kd.int .i64) 3 (W.setCell ⟨g, j, none⟩ u) base ok v xs :=
  Kd.R_set h hb (by intro q hq; have : q = 3 := by simpa [Kd.int, Kd.scalar] using hq
                    omega) j u
theorem R_i64_stp {W : World} {base base' : Nat} {v v' : Value} {xs : List Int} {ys : List Stp} (h : Kd.R (Kd.int .i64) 3 W base (fun _ => True) v xs) (h' : Kd.R kStp 49 W base' (fun _ => True) v' ys) : Kd.R (Kd.int .i64) 3 W base (fun k => True ∧ some k ≠ v'.ownBlock) v xs :=
  R_types2 h h' (by intro q hq; have : q = 3 := by simpa [Kd.int, Kd.scalar] using hq
                    omega)
theorem R_cell {w : World} {base g n c : Nat} {l : List Int} (h : Kd.R (Kd.int .i64) 3 w base (fun _ => True) (.slice (some ⟨g, 0, none⟩) n c) l) (hn : l.length = n) (h0 : 0 < n) : ∀ i : Nat, i < n → w.cell? ⟨g, i, none⟩ = some (.int .i64 (l.getD i 0)) := by
  obtain ⟨g', c', hv, _, _, hx⟩ := R_ints h hn h0
  injection hv with h1 _ _
  injection h1 with h1
  injection h1 with h1 _ _
  subst h1
  exact hx
theorem after_append3 {w3 w5 : World} {v v3 v4 : Value} {g1 g0 base base' base4 : Nat} {cs1 cs0 : List Value} {xs : List Stp} {ys zs : List Int} (Z3 : isBlk w3 g1 28 cs1) (Q3 : isBlk w3 g0 28 cs0) (S3 : Kd.R kStp 49 w3 base (fun _ => True) v xs) (R3 : Kd.R (Kd.int .u8) 5 w3 base' (fun _ => True) v3 ys) (N3 : Kd.R (Kd.int .i64) 3 w3 base4 (fun _ => True) v4 zs) (hg : w3.grownBy w5 v.ownBlock) :
    isBlk w5 g1 28 cs1 ∧ isBlk w5 g0 28 cs0 ∧ Kd.R (Kd.int .u8) 5 w5 base' (fun _ => True) v3 ys ∧ Kd.R (Kd.int .i64) 3 w5 base4 (fun _ => True) v4 zs :=
  ⟨blk_grown Z3 hg (R_blk_ne S3 Z3 (by decide)), blk_grown Q3 hg (R_blk_ne S3 Q3 (by decide)), Kd.R_mono (Kd.R_grown (R_u8_stp R3 S3) hg (fun _ hk => hk.2)) (fun _ _ => trivial), Kd.R_mono (Kd.R_grown (R_i64_stp N3 S3) hg (fun _ hk => hk.2)) (fun _ _ => trivial)⟩
theorem manyR_lt {b : List Int} (hb : ∀ x ∈ b, byt x) {k : Nat} (hk : k < manyR b) : (k : Int) < num b 5 ∧ (k : Int) < 501 := by
  have := many_num hb
  unfold manyR at hk
  omega
theorem bad_at {b : List Int} (hb : ∀ x ∈ b, byt x) {k : Nat} (hk : k < manyR b) (h : stepOkR (b.drop (18 + 43 * k)) = false) : readB b = false := by
  cases hR : readB b with
  | false => rfl
  | true =>
    obtain ⟨hm, hok, _⟩ := law_yes hb hR
    rw [hm] at hk
    have := okR_mono (b.drop 18) (many b) (k + 1) (by omega) (by rw [okR_succ, List.drop_drop, h, Bool.and_false])
    rw [this] at hok
    cases hok
set_option maxHeartbeats 4000000 in
set_option maxRecDepth 100000 in
theorem rread_any (A : Option Addr) (c : Nat) (b : List Int) (w : World) (hr : Kd.C (Kd.int .u8) w A b.length b) (hc : b.length ≤ c) (hb : ∀ x ∈ b, byt x) (hL : b.length ≤ 8000) :
    Calls Tryz.prog 6 #[.slice A b.length c] w fun e w' => ∃ (A' : Option Addr) (c' : Nat), e = .returned (.tuple #[scriptV (readG b) A' (readL b).length c', .int .i64 (readE b)]) ∧ kStp.C w' A' (readL b).length (readL b) ∧ (readL b).length ≤ c' ∧ Below w.heap.size w w' := by
  have HR := Aside0.mk hr
  have HY := Aside0.mk hb
  have HC := Aside0.mk hc
  by_cases hl : 18 ≤ b.length
  · have HG := Aside0.mk (fun W hW => rget_yes A c b 6 W hW hc hb (by omega) (by omega) (by omega))
    clear hr hb hc
    go_enter Tryz.func6, Tryz.ntmps6
    go_wp2_with (go_at_call 15; refine (HG.out _ (Kd.C_alloc HR.out _)).mono ?_; rintro e w2 ⟨v0, v1, rfl, r0, r1, b2⟩; obtain ⟨g0, c0, rfl, hg0, hg1, hx⟩ := R_ints r0 (nums_length b 6) (by omega); obtain ⟨A1, c1, rfl, l1, k1⟩ := Kd.R_reads r1; rw [List.length_drop]; have HX := Aside0.mk hx; have B2 := Aside0.mk b2; have R1 := Aside0.mk r1; have R0 := Aside0.mk r0; clear hx r0 r1 l1 k1 b2)
    have hk2 : ∀ k, k < 6 → w2.drew.cell? ⟨g0, k, none⟩ = some (.int .i64 (num b k)) := fun k hk => by
      rw [World.cell?_drew, HX.out k hk, nums_getD b 6 k hk]
    have HK2 := Aside0.mk hk2
    clear hk2
    have HKA : Aside0 (∀ (o : Obj) (k : Nat), k < 6 → (w2.alloc o).drew.cell? ⟨g0, k, none⟩ = some (.int .i64 (num b k))) := ⟨fun o k hk => (((Below.refl w2.drew.heap.size w2.drew).alloc (Nat.le_refl _) o).cell (p := ⟨g0, k, none⟩) hg1).trans (HK2.out k hk)⟩
    refine start_ (n := 19) (S := fun w' => w'.cell? ⟨g0, 0, none⟩ = some (.int .i64 (num b 0)) ∧ w'.cell? ⟨g0, 1, none⟩ = some (.int .i64 (num b 1)) ∧ w'.cell? ⟨g0, 2, none⟩ = some (.int .i64 (num b 2)) ∧ w'.cell? ⟨g0, 3, none⟩ = some (.int .i64 (num b 3)) ∧ w'.cell? ⟨g0, 4, none⟩ = some (.int .i64 (num b 4))) (ds := [18]) #[false, false, false, false, false, false, false, false, false, false, false, false, false, false, false, false, false, false, false] (by kernel_rfl) rfl rfl ⟨HK2.out 0 (by omega), HK2.out 1 (by omega), HK2.out 2 (by omega), HK2.out 3 (by omega), HK2.out 4 (by omega)⟩ (fun hHeld => ?_)
    refine pure_ (i := 0) (N := some 26) (v := ?_) (a' := ?_) #[true, false, false, false, false, false, false, false, false, false, false, false, false, false, false, false, false, false, false] rfl rfl (by kernel_rfl) (fun _ _ _ h => h) (Or.inl ⟨by rfl, ?_⟩) ?_ ?_
    rotate_left
    · intro w'
      go_simp
      with_reducible rfl
    rotate_left
    · simp only [Act.put, List.setIfInBounds_toArray, List.set_cons_zero, List.set_cons_succ, i64_w, i32_w]
      rfl
    refine pure_ (i := 1) (N := some 27) (v := ?_) (a' := ?_) #[true, true, false, false, false, false, false, false, false, false, false, false, false, false, false, false, false, false, false] rfl rfl (by kernel_rfl) (fun _ _ _ h => h) (Or.inl ⟨by rfl, ?_⟩) ?_ ?_
    rotate_left
    · intro w'
      go_simp
      with_reducible rfl
    rotate_left
    · simp only [Act.put, List.setIfInBounds_toArray, List.set_cons_zero, List.set_cons_succ, i64_w, i32_w]
      rfl
    refine take_ (i := 2) (N := some 28) (v := ?_) (a' := ?_) #[true, true, true, false, false, false, false, false, false, false, false, false, false, false, false, false, false, false, false] rfl rfl (by kernel_rfl) (fun _ _ _ h => h) (Or.inl ⟨by rfl, ?_⟩) hHeld ?_ ?_
    rotate_left
    · rintro w' ⟨s0, s1, s2, s3, s4⟩
      go_simp
      with_reducible rfl
    rotate_left
    · simp only [Act.put, List.setIfInBounds_toArray, List.set_cons_zero, List.set_cons_succ, i64_w, i32_w]
      rfl
    refine pure_ (i := 3) (N := some 29) (v := ?_) (a' := ?_) #[true, true, true, true, false, false, false, false, false, false, false, false, false, false, false, false, false, false, false] rfl rfl (by kernel_rfl) (fun _ _ _ h => h) (Or.inl ⟨by rfl, ?_⟩) ?_ ?_
    rotate_left
    · intro w'
      go_simp
      with_reducible rfl
    rotate_left
    · simp only [Act.put, List.setIfInBounds_toArray, List.set_cons_zero, List.set_cons_succ, i64_w, i32_w]
      rfl
    refine pure_ (i := 4) (N := some 30) (v := ?_) (a' := ?_) #[true, true, true, true, true, false, false, false, false, false, false, false, false, false, false, false, false, false, false] rfl rfl (by kernel_rfl) (fun _ _ _ h => h) (Or.inl ⟨by rfl, ?_⟩) ?_ ?_
    rotate_left
    · intro w'
      go_simp
      with_reducible rfl
    rotate_left
    · simp only [Act.put, List.setIfInBounds_toArray, List.set_cons_zero, List.set_cons_succ, i64_w, i32_w]
      rfl
    refine take_ (i := 5) (N := some 31) (v := ?_) (a' := ?_) #[true, true, true, true, true, true, false, false, false, false, false, false, false, false, false, false, false, false, false] rfl rfl (by kernel_rfl) (fun _ _ _ h => h) (Or.inl ⟨by rfl, ?_⟩) hHeld ?_ ?_
    rotate_left
    · rintro w' ⟨s0, s1, s2, s3, s4⟩
      go_simp
      with_reducible rfl
    rotate_left
    · simp only [Act.put, List.setIfInBounds_toArray, List.set_cons_zero, List.set_cons_succ, i64_w, i32_w]
      rfl
    refine pure_ (i := 6) (N := some 32) (v := ?_) (a' := ?_) #[true, true, true, true, true, true, true, false, false, false, false, false, false, false, false, false, false, false, false] rfl rfl (by kernel_rfl) (fun _ _ _ h => h) (Or.inl ⟨by rfl, ?_⟩) ?_ ?_
    rotate_left
    · intro w'
      go_simp
      with_reducible rfl
    rotate_left
    · simp only [Act.put, List.setIfInBounds_toArray, List.set_cons_zero, List.set_cons_succ, i64_w, i32_w]
      rfl
    refine pure_ (i := 7) (N := some 33) (v := ?_) (a' := ?_) #[true, true, true, true, true, true, true, true, false, false, false, false, false, false, false, false, false, false, false] rfl rfl (by kernel_rfl) (fun _ _ _ h => h) (Or.inl ⟨by rfl, ?_⟩) ?_ ?_
    rotate_left
    · intro w'
      go_simp
      with_reducible rfl
    rotate_left
    · simp only [Act.put, List.setIfInBounds_toArray, List.set_cons_zero, List.set_cons_succ, i64_w, i32_w]
      rfl
    refine take_ (i := 8) (N := some 34) (v := ?_) (a' := ?_) #[true, true, true, true, true, true, true, true, true, false, false, false, false, false, false, false, false, false, false] rfl rfl (by kernel_rfl) (fun _ _ _ h => h) (Or.inl ⟨by rfl, ?_⟩) hHeld ?_ ?_
    rotate_left
    · rintro w' ⟨s0, s1, s2, s3, s4⟩
      go_simp
      with_reducible rfl
    rotate_left
    · simp only [Act.put, List.setIfInBounds_toArray, List.set_cons_zero, List.set_cons_succ, i64_w, i32_w]
      rfl
    refine pure_ (i := 9) (N := some 35) (v := ?_) (a' := ?_) #[true, true, true, true, true, true, true, true, true, true, false, false, false, false, false, false, false, false, false] rfl rfl (by kernel_rfl) (fun _ _ _ h => h) (Or.inl ⟨by rfl, ?_⟩) ?_ ?_
    rotate_left
    · intro w'
      go_simp
      with_reducible rfl
    rotate_left
    · simp only [Act.put, List.setIfInBounds_toArray, List.set_cons_zero, List.set_cons_succ, i64_w, i32_w]
      rfl
    refine pure_ (i := 10) (N := some 36) (v := ?_) (a' := ?_) #[true, true, true, true, true, true, true, true, true, true, true, false, false, false, false, false, false, false, false] rfl rfl (by kernel_rfl) (fun _ _ _ h => h) (Or.inl ⟨by rfl, ?_⟩) ?_ ?_
    rotate_left
    · intro w'
      go_simp
      with_reducible rfl
    rotate_left
    · simp only [Act.put, List.setIfInBounds_toArray, List.set_cons_zero, List.set_cons_succ, i64_w, i32_w]
      rfl
    refine take_ (i := 11) (N := some 37) (v := ?_) (a' := ?_) #[true, true, true, true, true, true, true, true, true, true, true, true, false, false, false, false, false, false, false] rfl rfl (by kernel_rfl) (fun _ _ _ h => h) (Or.inl ⟨by rfl, ?_⟩) hHeld ?_ ?_
    rotate_left
    · rintro w' ⟨s0, s1, s2, s3, s4⟩
      go_simp
      with_reducible rfl
    rotate_left
    · simp only [Act.put, List.setIfInBounds_toArray, List.set_cons_zero, List.set_cons_succ, i64_w, i32_w]
      rfl
    refine pure_ (i := 12) (N := some 38) (v := ?_) (a' := ?_) #[true, true, true, true, true, true, true, true, true, true, true, true, true, false, false, false, false, false, false] rfl rfl (by kernel_rfl) (fun _ _ _ h => h) (Or.inl ⟨by rfl, ?_⟩) ?_ ?_
    rotate_left
    · intro w'
      go_simp
      with_reducible rfl
    rotate_left
    · simp only [Act.put, List.setIfInBounds_toArray, List.set_cons_zero, List.set_cons_succ, i64_w, i32_w]
      rfl
    refine pure_ (i := 13) (N := some 39) (v := ?_) (a' := ?_) #[true, true, true, true, true, true, true, true, true, true, true, true, true, true, false, false, false, false, false] rfl rfl (by kernel_rfl) (fun _ _ _ h => h) (Or.inl ⟨by rfl, ?_⟩) ?_ ?_
    rotate_left
    · intro w'
      go_simp
      with_reducible rfl
    rotate_left
    · simp only [Act.put, List.setIfInBounds_toArray, List.set_cons_zero, List.set_cons_succ, i64_w, i32_w]
      rfl
    refine take_ (i := 14) (N := some 40) (v := ?_) (a' := ?_) #[true, true, true, true, true, true, true, true, true, true, true, true, true, true, true, false, false, false, false] rfl rfl (by kernel_rfl) (fun _ _ _ h => h) (Or.inl ⟨by rfl, ?_⟩) hHeld ?_ ?_
    rotate_left
    · rintro w' ⟨s0, s1, s2, s3, s4⟩
      go_simp
      with_reducible rfl
    rotate_left
    · simp only [Act.put, List.setIfInBounds_toArray, List.set_cons_zero, List.set_cons_succ, i64_w, i32_w]
      rfl
    refine pure_ (i := 15) (N := some 41) (v := ?_) (a' := ?_) #[true, true, true, true, true, true, true, true, true, true, true, true, true, true, true, true, false, false, false] rfl rfl (by kernel_rfl) (fun _ _ _ h => h) (Or.inl ⟨by rfl, ?_⟩) ?_ ?_
    rotate_left
    · intro w'
      go_simp
      with_reducible rfl
    rotate_left
    · simp only [Act.put, List.setIfInBounds_toArray, List.set_cons_zero, List.set_cons_succ, i64_w, i32_w]
      rfl
    refine pure_ (i := 16) (N := some 42) (v := ?_) (a' := ?_) #[true, true, true, true, true, true, true, true, true, true, true, true, true, true, true, true, true, false, false] rfl rfl (by kernel_rfl) (fun _ _ _ h => h) (Or.inl ⟨by rfl, ?_⟩) ?_ ?_
    rotate_left
    · intro w'
      go_simp
      with_reducible rfl
    rotate_left
    · simp only [Act.put, List.setIfInBounds_toArray, List.set_cons_zero, List.set_cons_succ, i64_w, i32_w]
      rfl
    refine one_ (i := 17) (N := some 7) #[true, true, true, true, true, true, true, true, true, true, true, true, true, true, true, true, true, true, false] rfl rfl (by kernel_rfl) (by decide) (fun K hK => ?_)
    refine value_ (v := ?_) (w1 := ?_) (by rfl) rfl ?_ ?_
    rotate_left 2
    · go_simp
      refine And.intro ?_ ?_
      · rfl
      · rfl
    refine hK.out _ _ ⟨HKA.out _ 0 (by omega), HKA.out _ 1 (by omega), HKA.out _ 2 (by omega), HKA.out _ 3 (by omega), HKA.out _ 4 (by omega)⟩ (fun hHeld => ?_)
    clear hK K
    refine norm_ (a' := ?_) ?_ ?_
    rotate_left
    · show Act.put _ (some 7) _ = _
      simp only [Act.put, List.setIfInBounds_toArray, List.set_cons_zero, List.set_cons_succ, i64_w, i32_w]
      rfl
    refine last_ (i := 18) (N := none) #[true, true, true, true, true, true, true, true, true, true, true, true, true, true, true, true, true, true, true] rfl rfl (by kernel_rfl) (by decide) (fun K hK => ?_)
    refine skip_ (w1 := ?_) (by rfl) rfl ?_ ?_
    rotate_left
    · go_simp
      rfl
    refine hK.out _ _ ?_
    clear hK K
    refine done_ (by kernel_rfl) ?_
    have hz4 : isBlk (w2.alloc (.cells #[.int .i64 (num b 0), .int .i64 (num b 1), .int .i64 (num b 2), .int .i64 (num b 3), .int .i64 (num b 4), .slice none 0 0] 28)).drew w2.heap.size 28 (cfgC (cfgOf b) (.slice none 0 0)) := blk_drew (blk_alloc w2 28 _)
    have hq4 : isBlk (w2.alloc (.cells #[.int .i64 (num b 0), .int .i64 (num b 1), .int .i64 (num b 2), .int .i64 (num b 3), .int .i64 (num b 4), .slice none 0 0] 28)).drew w.heap.size 28 zero6 := blk_drew (blk_below (blk_below (blk_alloc w 28 zero6) B2.out) ((Below.refl _ _).alloc (Nat.le_refl _) _))
    have hBw : Below w.heap.size w w2 := below_step ((Below.refl _ _).alloc (Nat.le_refl _) (.cells zero6.toArray 28)) B2.out
    have hR4 : Kd.R (Kd.int .u8) 5 (w2.alloc (.cells #[.int .i64 (num b 0), .int .i64 (num b 1), .int .i64 (num b 2), .int .i64 (num b 3), .int .i64 (num b 4), .slice none 0 0] 28)).drew w.heap.size (fun _ => True) (.slice A1 (List.drop (3 * 6) b).length c1) (List.drop (3 * 6) b) := Kd.R_drew (Kd.R_alloc (Kd.R_lower R1.out (below_size ((Below.refl w.heap.size w).alloc (Nat.le_refl _) _))) _)
    have hN4 : Kd.R (Kd.int .i64) 3 (w2.alloc (.cells #[.int .i64 (num b 0), .int .i64 (num b 1), .int .i64 (num b 2), .int .i64 (num b 3), .int .i64 (num b 4), .slice none 0 0] 28)).drew w.heap.size (fun _ => True) (.slice (some ⟨g0, 0, none⟩) 6 c0) (nums b 6) := Kd.R_drew (Kd.R_alloc (Kd.R_lower R0.out (below_size ((Below.refl w.heap.size w).alloc (Nat.le_refl _) _))) _)
    have hB4 : Below w.heap.size w (w2.alloc (.cells #[.int .i64 (num b 0), .int .i64 (num b 1), .int .i64 (num b 2), .int .i64 (num b 3), .int .i64 (num b 4), .slice none 0 0] 28)).drew := below_drew1 (hBw.alloc hBw.size _)
    have hgg : w.heap.size < w2.heap.size := blk_lt (blk_below (blk_alloc w 28 zero6) B2.out)
    rw [List.length_drop] at hR4
    generalize (w2.alloc (.cells #[.int .i64 (num b 0), .int .i64 (num b 1), .int .i64 (num b 2), .int .i64 (num b 3), .int .i64 (num b 4), .slice none 0 0] 28)).drew = w4 at hz4 hq4 hR4 hN4 hB4 ⊢
    have HZ4 := Aside0.mk hz4
    have HQ4 := Aside0.mk hq4
    have HR4 := Aside0.mk hR4
    have HN4 := Aside0.mk hN4
    have HB4 := Aside0.mk hB4
    clear hz4 hq4 hR4 hN4 hB4 hBw hHeld HK2 HKA R1 R0 hg0 hg1 HX B2 HG
    generalize w2.heap.size = g1 at HZ4 hgg ⊢
    go_wp2
    go_loopg [5, 8] (manyR b) (fun kq v5 v8 w' => ∃ (k : Nat) (v : Value), v8 = .int .i64 k ∧ Aside0 (k + kq = manyR b) ∧ Aside0 (Kd.R (Kd.int .u8) 5 w' w.heap.size (fun _ => True) v5 (b.drop (18 + 43 * k))) ∧ Aside0 (okR (b.drop 18) k = true) ∧ Aside0 (isBlk w' g1 28 (cfgC (cfgOf b) v)) ∧ Aside0 (isBlk w' w.heap.size 28 zero6) ∧ Aside0 (Kd.R kStp 49 w' w.heap.size (fun _ => True) v (stepsR (b.drop 18) k)) ∧ Aside0 (Kd.R (Kd.int .i64) 3 w' w.heap.size (fun _ => True) (.slice (some ⟨g0, 0, none⟩) 6 c0) (nums b 6)) ∧ Aside0 (Below w.heap.size w w'))
    case atStart => exact ⟨0, _, rfl, ⟨by omega⟩, ⟨HR4.out⟩, ⟨rfl⟩, HZ4, HQ4, ⟨Kd.R_nil _ _ _ _ _⟩, HN4, HB4⟩
    case round =>
      obtain ⟨k, v, rfl, HK, HRs, HOK, HZ, HQ, HS, HN, HB⟩ := hrel
      obtain ⟨A2, c2, rfl, l2, k2⟩ := Kd.R_reads HRs.out
      have hl2 := l2
      rw [List.length_drop] at k2
      have K2 := Aside0.mk k2
      rw [List.length_drop]
      have hn5 := R_cell HN.out (nums_length b 6) (by omega) 5 (by omega)
      rw [nums_getD b 6 5 (by omega)] at hn5
      have hyb := HY.out
      clear k2
      by_cases hk : k < manyR b
      · obtain ⟨hk1, hk2⟩ := manyR_lt hyb hk
        cases ho : stepOkR (b.drop (18 + 43 * k)) with
        | true =>
          have ho1 := ho
          unfold stepOkR at ho1
          rw [Bool.and_eq_true, decide_eq_true_eq] at ho1
          obtain ⟨h43, hcl⟩ := ho1
          have HGk := Aside0.mk (fun W hW => rget_yes A2 c2 (b.drop (18 + 43 * k)) 9 W hW l2 (byt_drop hyb _) (by omega) (by omega) (by rw [List.length_drop]; omega))
          rw [List.length_drop] at HGk
          have HO1 : Aside0 (okR (b.drop 18) (k + 1) = true) := ⟨by rw [okR_succ, HOK.out, List.drop_drop, ho]; rfl⟩
          have HSL : Hid (stepsR (b.drop 18) k ++ [stepR (b.drop (18 + 43 * k))] = stepsR (b.drop 18) (k + 1)) := Lib.hid (by rw [stepsR_succ, List.drop_drop])
          have hbn := num_bd (byt_drop hyb (18 + 43 * k))
          have e3 : IntKind.i64.wrap (num (b.drop (18 + 43 * k)) 3 - 1) = num (b.drop (18 + 43 * k)) 3 - 1 := by
            have := hbn 3
            rw [i64_w, w64 _ (by omega) (by omega)]
          have e4 : IntKind.i64.wrap (num (b.drop (18 + 43 * k)) 4 - 1) = num (b.drop (18 + 43 * k)) 4 - 1 := by
            have := hbn 4
            rw [i64_w, w64 _ (by omega) (by omega)]
          have e5 : IntKind.u16.wrap (num (b.drop (18 + 43 * k)) 5) = num (b.drop (18 + 43 * k)) 5 % 65536 := by
            have := hbn 5
            simp only [IntKind.wrap, IntKind.bits, IntKind.signed]
            simp
          have E3 := Lib.hid e3
          have E4 := Lib.hid e4
          have E5 := Lib.hid e5
          clear l2 hl2 ho hbn e3 e4 e5
          go_wp2_with fail
          refine (HGk.out _ K2.out).mono ?_
          rintro e w5 ⟨v0, v1, rfl, r0, r1, b5⟩
          have r1' : Kd.R (Kd.int .u8) 5 w5 wr.heap.size (fun _ => True) v1 ((b.drop (18 + 43 * k)).drop 27) := r1
          obtain ⟨A3, c3, rfl, l3, k3⟩ := Kd.R_reads r1'
          obtain ⟨g2, c9, rfl, _, _, _⟩ := R_ints r0 (nums_length _ 9) (by omega)
          have HTk := fun W hW => rtake_good A3 c3 ((b.drop (18 + 43 * k)).drop 27) W hW l3 (byt_drop (byt_drop hyb _) _) (by rw [List.length_drop, List.length_drop]; omega) (by rw [List.length_drop]; omega) hcl
          generalize ((b.drop (18 + 43 * k)).drop 27).length = n3 at k3 HTk ⊢
          have HTk := Aside0.mk HTk
          have K3 := Aside0.mk k3
          have B5 := Aside0.mk b5
          have R0 := Aside0.mk r0
          clear r0 r1 r1' k3 l3 b5 hcl h43
          go_wp2_with fail
          refine (HTk.out _ K3.out).mono ?_
          rintro e w6 ⟨v6, rfl, r6, b6⟩
          rw [List.drop_drop, List.drop_drop, show 18 + 43 * k + 27 + 16 = 18 + 43 * (k + 1) by omega] at r6
          have hn6 := R_cell (Kd.R_below R0.out b6) (nums_length _ 9) (by omega)
          have Q6 := Aside0.mk (blk_below (blk_below HQ.out B5.out) b6)
          have Z6 := Aside0.mk (blk_below (blk_below HZ.out B5.out) b6)
          have S6 := Aside0.mk (Kd.R_below (Kd.R_below HS.out B5.out) b6)
          have N6 := Aside0.mk (Kd.R_below (Kd.R_below HN.out B5.out) b6)
          have R6 := Aside0.mk (Kd.R_lower r6 (below_size (below_step HB.out B5.out)))
          have B6 := Aside0.mk (below_step (below_step HB.out B5.out) b6)
          have hg2 : g2 < w6.heap.size := by
            have h := Kd.R_lt (Kd.R_below R0.out b6) g2 rfl
            exact h
          have hg16 : g1 < w6.heap.size := blk_lt Z6.out
          have hk6 : ∀ j, j < 9 → w6.drew.cell? ⟨g2, j, none⟩ = some (.int .i64 (num (b.drop (18 + 43 * k)) j)) := fun j hj => by
            rw [World.cell?_drew, hn6 j hj, nums_getD _ 9 j hj]
          have hv6 : w6.drew.cell? ⟨g1, 5, none⟩ = some v := (blk_cell Z6.out 5).trans rfl
          have HKA : Aside0 (∀ (o : Obj) (j : Nat), j < 9 → (w6.alloc o).drew.cell? ⟨g2, j, none⟩ = some (.int .i64 (num (b.drop (18 + 43 * k)) j))) := ⟨fun o j hj => (((Below.refl w6.drew.heap.size w6.drew).alloc (Nat.le_refl _) o).cell (p := ⟨g2, j, none⟩) hg2).trans (hk6 j hj)⟩
          have HVA : Aside0 (∀ (o : Obj), (w6.alloc o).drew.cell? ⟨g1, 5, none⟩ = some v) := ⟨fun o => (((Below.refl w6.drew.heap.size w6.drew).alloc (Nat.le_refl _) o).cell (p := ⟨g1, 5, none⟩) hg16).trans hv6⟩
          have HK6 := Aside0.mk hk6
          have HV6 := Aside0.mk hv6
          have e3 := E3.out
          have e4 := E4.out
          have e5 := E5.out
          generalize hrr : b.drop (18 + 43 * k) = r at HKA HK6 e3 e4 e5 HSL ⊢
          clear hn6 hk6 hv6 r6 b6 HGk HTk
          go_wp2
          refine start_ (n := 39) (S := fun w' => w'.cell? ⟨g2, 0, none⟩ = some (.int .i64 (num r 0)) ∧ w'.cell? ⟨g2, 1, none⟩ = some (.int .i64 (num r 1)) ∧ w'.cell? ⟨g2, 2, none⟩ = some (.int .i64 (num r 2)) ∧ w'.cell? ⟨g2, 3, none⟩ = some (.int .i64 (num r 3)) ∧ w'.cell? ⟨g2, 4, none⟩ = some (.int .i64 (num r 4)) ∧ w'.cell? ⟨g2, 5, none⟩ = some (.int .i64 (num r 5)) ∧ w'.cell? ⟨g2, 6, none⟩ = some (.int .i64 (num r 6)) ∧ w'.cell? ⟨g2, 7, none⟩ = some (.int .i64 (num r 7)) ∧ w'.cell? ⟨g2, 8, none⟩ = some (.int .i64 (num r 8)) ∧ w'.cell? ⟨g1, 5, none⟩ = some v) (ds := [36, 38]) #[false, false, false, false, false, false, false, false, false, false, false, false, false, false, false, false, false, false, false, false, false, false, false, false, false, false, false, false, false, false, false, false, false, false, false, false, false, false, false] (by kernel_rfl) rfl rfl ⟨HK6.out 0 (by omega), HK6.out 1 (by omega), HK6.out 2 (by omega), HK6.out 3 (by omega), HK6.out 4 (by omega), HK6.out 5 (by omega), HK6.out 6 (by omega), HK6.out 7 (by omega), HK6.out 8 (by omega), HV6.out⟩ (fun hHeld => ?_)
          refine pure_ (i := 0) (N := some 73) (v := ?_) (a' := ?_) #[true, false, false, false, false, false, false, false, false, false, false, false, false, false, false, false, false, false, false, false, false, false, false, false, false, false, false, false, false, false, false, false, false, false, false, false, false, false, false] rfl rfl (by kernel_rfl) (fun _ _ _ h => h) (Or.inl ⟨by rfl, ?_⟩) ?_ ?_
          rotate_left
          · intro w'
            go_simp
            with_reducible rfl
          rotate_left
          · simp only [Act.put, List.setIfInBounds_toArray, List.set_cons_zero, List.set_cons_succ, i64_w, i32_w]
            rfl
          refine take_ (i := 1) (N := some 74) (v := ?_) (a' := ?_) #[true, true, false, false, false, false, false, false, false, false, false, false, false, false, false, false, false, false, false, false, false, false, false, false, false, false, false, false, false, false, false, false, false, false, false, false, false, false, false] rfl rfl (by kernel_rfl) (fun _ _ _ h => h) (Or.inl ⟨by rfl, ?_⟩) hHeld ?_ ?_
          rotate_left
          · rintro w' ⟨s0, s1, s2, s3, s4, s5, s6, s7, s8, s9⟩
            go_simp
            with_reducible rfl
          rotate_left
          · simp only [Act.put, List.setIfInBounds_toArray, List.set_cons_zero, List.set_cons_succ, i64_w, i32_w]
            rfl
          refine pure_ (i := 2) (N := some 75) (v := ?_) (a' := ?_) #[true, true, true, false, false, false, false, false, false, false, false, false, false, false, false, false, false, false, false, false, false, false, false, false, false, false, false, false, false, false, false, false, false, false, false, false, false, false, false] rfl rfl (by kernel_rfl) (fun _ _ _ h => h) (Or.inl ⟨by rfl, ?_⟩) ?_ ?_
          rotate_left
          · intro w'
            go_simp
            with_reducible rfl
          rotate_left
          · simp only [Act.put, List.setIfInBounds_toArray, List.set_cons_zero, List.set_cons_succ, i64_w, i32_w]
            rfl
          refine pure_ (i := 3) (N := some 76) (v := ?_) (a' := ?_) #[true, true, true, true, false, false, false, false, false, false, false, false, false, false, false, false, false, false, false, false, false, false, false, false, false, false, false, false, false, false, false, false, false, false, false, false, false, false, false] rfl rfl (by kernel_rfl) (fun _ _ _ h => h) (Or.inl ⟨by rfl, ?_⟩) ?_ ?_
          rotate_left
          · intro w'
            go_simp
            with_reducible rfl
          rotate_left
          · simp only [Act.put, List.setIfInBounds_toArray, List.set_cons_zero, List.set_cons_succ, i64_w, i32_w]
            rfl
          refine take_ (i := 4) (N := some 77) (v := ?_) (a' := ?_) #[true, true, true, true, true, false, false, false, false, false, false, false, false, false, false, false, false, false, false, false, false, false, false, false, false, false, false, false, false, false, false, false, false, false, false, false, false, false, false] rfl rfl (by kernel_rfl) (fun _ _ _ h => h) (Or.inl ⟨by rfl, ?_⟩) hHeld ?_ ?_
          rotate_left
          · rintro w' ⟨s0, s1, s2, s3, s4, s5, s6, s7, s8, s9⟩
            go_simp
            with_reducible rfl
          rotate_left
          · simp only [Act.put, List.setIfInBounds_toArray, List.set_cons_zero, List.set_cons_succ, i64_w, i32_w]
            rfl
          refine pure_ (i := 5) (N := some 78) (v := ?_) (a' := ?_) #[true, true, true, true, true, true, false, false, false, false, false, false, false, false, false, false, false, false, false, false, false, false, false, false, false, false, false, false, false, false, false, false, false, false, false, false, false, false, false] rfl rfl (by kernel_rfl) (fun _ _ _ h => h) (Or.inl ⟨by rfl, ?_⟩) ?_ ?_
          rotate_left
          · intro w'
            go_simp
            with_reducible rfl
          rotate_left
          · simp only [Act.put, List.setIfInBounds_toArray, List.set_cons_zero, List.set_cons_succ, i64_w, i32_w]
            rfl
          refine pure_ (i := 6) (N := some 79) (v := ?_) (a' := ?_) #[true, true, true, true, true, true, true, false, false, false, false, false, false, false, false, false, false, false, false, false, false, false, false, false, false, false, false, false, false, false, false, false, false, false, false, false, false, false, false] rfl rfl (by kernel_rfl) (fun _ _ _ h => h) (Or.inl ⟨by rfl, ?_⟩) ?_ ?_
          rotate_left
          · intro w'
            go_simp
            with_reducible rfl
          rotate_left
          · simp only [Act.put, List.setIfInBounds_toArray, List.set_cons_zero, List.set_cons_succ, i64_w, i32_w]
            rfl
          refine take_ (i := 7) (N := some 80) (v := ?_) (a' := ?_) #[true, true, true, true, true, true, true, true, false, false, false, false, false, false, false, false, false, false, false, false, false, false, false, false, false, false, false, false, false, false, false, false, false, false, false, false, false, false, false] rfl rfl (by kernel_rfl) (fun _ _ _ h => h) (Or.inl ⟨by rfl, ?_⟩) hHeld ?_ ?_
          rotate_left
          · rintro w' ⟨s0, s1, s2, s3, s4, s5, s6, s7, s8, s9⟩
            go_simp
            with_reducible rfl
          rotate_left
          · simp only [Act.put, List.setIfInBounds_toArray, List.set_cons_zero, List.set_cons_succ, i64_w, i32_w]
            rfl
          refine pure_ (i := 8) (N := some 81) (v := ?_) (a' := ?_) #[true, true, true, true, true, true, true, true, true, false, false, false, false, false, false, false, false, false, false, false, false, false, false, false, false, false, false, false, false, false, false, false, false, false, false, false, false, false, false] rfl rfl (by kernel_rfl) (fun _ _ _ h => h) (Or.inl ⟨by rfl, ?_⟩) ?_ ?_
          rotate_left
          · intro w'
            go_simp
            with_reducible rfl
          rotate_left
          · simp only [Act.put, List.setIfInBounds_toArray, List.set_cons_zero, List.set_cons_succ, i64_w, i32_w]
            rfl
          refine pure_ (i := 9) (N := some 82) (v := ?_) (a' := ?_) #[true, true, true, true, true, true, true, true, true, true, false, false, false, false, false, false, false, false, false, false, false, false, false, false, false, false, false, false, false, false, false, false, false, false, false, false, false, false, false] rfl rfl (by kernel_rfl) (fun _ _ _ h => h) (Or.inl ⟨by rfl, ?_⟩) ?_ ?_
          rotate_left
          · intro w'
            go_simp
            with_reducible rfl
          rotate_left
          · simp only [Act.put, List.setIfInBounds_toArray, List.set_cons_zero, List.set_cons_succ, i64_w, i32_w]
            rfl
          refine take_ (i := 10) (N := some 83) (v := ?_) (a' := ?_) #[true, true, true, true, true, true, true, true, true, true, true, false, false, false, false, false, false, false, false, false, false, false, false, false, false, false, false, false, false, false, false, false, false, false, false, false, false, false, false] rfl rfl (by kernel_rfl) (fun _ _ _ h => h) (Or.inl ⟨by rfl, ?_⟩) hHeld ?_ ?_
          rotate_left
          · rintro w' ⟨s0, s1, s2, s3, s4, s5, s6, s7, s8, s9⟩
            go_simp
            with_reducible rfl
          rotate_left
          · simp only [Act.put, List.setIfInBounds_toArray, List.set_cons_zero, List.set_cons_succ, i64_w, i32_w]
            rfl
          refine pure_ (i := 11) (N := some 84) (v := ?_) (a' := ?_) #[true, true, true, true, true, true, true, true, true, true, true, true, false, false, false, false, false, false, false, false, false, false, false, false, false, false, false, false, false, false, false, false, false, false, false, false, false, false, false] rfl rfl (by kernel_rfl) (fun _ _ _ h => h) (Or.inl ⟨by rfl, ?_⟩) ?_ ?_
          rotate_left
          · intro w'
            go_simp
            with_reducible rfl
          rotate_left
          · simp only [Act.put, List.setIfInBounds_toArray, List.set_cons_zero, List.set_cons_succ, i64_w, i32_w]
            rfl
          refine pure_ (i := 12) (N := some 85) (v := ?_) (a' := ?_) #[true, true, true, true, true, true, true, true, true, true, true, true, true, false, false, false, false, false, false, false, false, false, false, false, false, false, false, false, false, false, false, false, false, false, false, false, false, false, false] rfl rfl (by kernel_rfl) (fun _ _ _ h => h) (Or.inl ⟨by rfl, ?_⟩) ?_ ?_
          rotate_left
          · intro w'
            go_simp
            with_reducible rfl
          rotate_left
          · simp only [Act.put, List.setIfInBounds_toArray, List.set_cons_zero, List.set_cons_succ, i64_w, i32_w]
            rfl
          refine take_ (i := 13) (N := some 86) (v := ?_) (a' := ?_) #[true, true, true, true, true, true, true, true, true, true, true, true, true, true, false, false, false, false, false, false, false, false, false, false, false, false, false, false, false, false, false, false, false, false, false, false, false, false, false] rfl rfl (by kernel_rfl) (fun _ _ _ h => h) (Or.inl ⟨by rfl, ?_⟩) hHeld ?_ ?_
          rotate_left
          · rintro w' ⟨s0, s1, s2, s3, s4, s5, s6, s7, s8, s9⟩
            go_simp
            with_reducible rfl
          rotate_left
          · simp only [Act.put, List.setIfInBounds_toArray, List.set_cons_zero, List.set_cons_succ, i64_w, i32_w]
            rfl
          refine pure_ (i := 14) (N := some 87) (v := ?_) (a' := ?_) #[true, true, true, true, true, true, true, true, true, true, true, true, true, true, true, false, false, false, false, false, false, false, false, false, false, false, false, false, false, false, false, false, false, false, false, false, false, false, false] rfl rfl (by kernel_rfl) (fun _ _ _ h => h) (Or.inl ⟨by rfl, ?_⟩) ?_ ?_
          rotate_left
          · intro w'
            go_simp
            with_reducible rfl
          rotate_left
          · simp only [Act.put, List.setIfInBounds_toArray, List.set_cons_zero, List.set_cons_succ, i64_w, i32_w]
            rfl
          refine pure_ (i := 15) (N := some 88) (v := ?_) (a' := ?_) #[true, true, true, true, true, true, true, true, true, true, true, true, true, true, true, true, false, false, false, false, false, false, false, false, false, false, false, false, false, false, false, false, false, false, false, false, false, false, false] rfl rfl (by kernel_rfl) (fun _ _ _ h => h) (Or.inl ⟨by rfl, ?_⟩) ?_ ?_
          rotate_left
          · intro w'
            go_simp
            with_reducible rfl
          rotate_left
          · simp only [Act.put, List.setIfInBounds_toArray, List.set_cons_zero, List.set_cons_succ, i64_w, i32_w]
            rfl
          refine pure_ (i := 16) (N := some 89) (v := ?_) (a' := ?_) #[true, true, true, true, true, true, true, true, true, true, true, true, true, true, true, true, true, false, false, false, false, false, false, false, false, false, false, false, false, false, false, false, false, false, false, false, false, false, false] rfl rfl (by kernel_rfl) (fun _ _ _ h => h) (Or.inl ⟨by rfl, ?_⟩) ?_ ?_
          rotate_left
          · intro w'
            go_simp
            with_reducible rfl
          rotate_left
          · simp only [Act.put, List.setIfInBounds_toArray, List.set_cons_zero, List.set_cons_succ, i64_w, i32_w]
            rfl
          refine take_ (i := 17) (N := some 90) (v := ?_) (a' := ?_) #[true, true, true, true, true, true, true, true, true, true, true, true, true, true, true, true, true, true, false, false, false, false, false, false, false, false, false, false, false, false, false, false, false, false, false, false, false, false, false] rfl rfl (by kernel_rfl) (fun _ _ _ h => h) (Or.inl ⟨by rfl, ?_⟩) hHeld ?_ ?_
          rotate_left
          · rintro w' ⟨s0, s1, s2, s3, s4, s5, s6, s7, s8, s9⟩
            go_simp
            with_reducible rfl
          rotate_left
          · simp only [Act.put, List.setIfInBounds_toArray, List.set_cons_zero, List.set_cons_succ, i64_w, i32_w]
            rfl
          refine pure_ (i := 18) (N := some 91) (v := ?_) (a' := ?_) #[true, true, true, true, true, true, true, true, true, true, true, true, true, true, true, true, true, true, true, false, false, false, false, false, false, false, false, false, false, false, false, false, false, false, false, false, false, false, false] rfl rfl (by kernel_rfl) (fun _ _ _ h => h) (Or.inl ⟨by rfl, ?_⟩) ?_ ?_
          rotate_left
          · intro w'
            go_simp
            with_reducible rfl
          rotate_left
          · simp only [Act.put, List.setIfInBounds_toArray, List.set_cons_zero, List.set_cons_succ, i64_w, i32_w]
            rfl
          refine pure_ (i := 19) (N := some 92) (v := ?_) (a' := ?_) #[true, true, true, true, true, true, true, true, true, true, true, true, true, true, true, true, true, true, true, true, false, false, false, false, false, false, false, false, false, false, false, false, false, false, false, false, false, false, false] rfl rfl (by kernel_rfl) (fun _ _ _ h => h) (Or.inl ⟨by rfl, ?_⟩) ?_ ?_
          rotate_left
          · intro w'
            go_simp
            with_reducible rfl
          rotate_left
          · simp only [Act.put, List.setIfInBounds_toArray, List.set_cons_zero, List.set_cons_succ, i64_w, i32_w]
            rfl
          refine pure_ (i := 20) (N := some 93) (v := ?_) (a' := ?_) #[true, true, true, true, true, true, true, true, true, true, true, true, true, true, true, true, true, true, true, true, true, false, false, false, false, false, false, false, false, false, false, false, false, false, false, false, false, false, false] rfl rfl (by kernel_rfl) (fun _ _ _ h => h) (Or.inl ⟨by rfl, ?_⟩) ?_ ?_
          rotate_left
          · intro w'
            go_simp
            with_reducible rfl
          rotate_left
          · simp only [Act.put, List.setIfInBounds_toArray, List.set_cons_zero, List.set_cons_succ, i64_w, i32_w]
            rfl
          refine take_ (i := 21) (N := some 94) (v := ?_) (a' := ?_) #[true, true, true, true, true, true, true, true, true, true, true, true, true, true, true, true, true, true, true, true, true, true, false, false, false, false, false, false, false, false, false, false, false, false, false, false, false, false, false] rfl rfl (by kernel_rfl) (fun _ _ _ h => h) (Or.inl ⟨by rfl, ?_⟩) hHeld ?_ ?_
          rotate_left
          · rintro w' ⟨s0, s1, s2, s3, s4, s5, s6, s7, s8, s9⟩
            go_simp
            with_reducible rfl
          rotate_left
          · simp only [Act.put, List.setIfInBounds_toArray, List.set_cons_zero, List.set_cons_succ, i64_w, i32_w]
            rfl
          refine pure_ (i := 22) (N := some 95) (v := ?_) (a' := ?_) #[true, true, true, true, true, true, true, true, true, true, true, true, true, true, true, true, true, true, true, true, true, true, true, false, false, false, false, false, false, false, false, false, false, false, false, false, false, false, false] rfl rfl (by kernel_rfl) (fun _ _ _ h => h) (Or.inl ⟨by rfl, ?_⟩) ?_ ?_
          rotate_left
          · intro w'
            go_simp
            with_reducible rfl
          rotate_left
          · simp only [Act.put, List.setIfInBounds_toArray, List.set_cons_zero, List.set_cons_succ, i64_w, i32_w]
            rfl
          refine pure_ (i := 23) (N := some 96) (v := ?_) (a' := ?_) #[true, true, true, true, true, true, true, true, true, true, true, true, true, true, true, true, true, true, true, true, true, true, true, true, false, false, false, false, false, false, false, false, false, false, false, false, false, false, false] rfl rfl (by kernel_rfl) (fun _ _ _ h => h) (Or.inl ⟨by rfl, ?_⟩) ?_ ?_
          rotate_left
          · intro w'
            go_simp
            with_reducible rfl
          rotate_left
          · simp only [Act.put, List.setIfInBounds_toArray, List.set_cons_zero, List.set_cons_succ, i64_w, i32_w]
            rfl
          refine pure_ (i := 24) (N := some 97) (v := ?_) (a' := ?_) #[true, true, true, true, true, true, true, true, true, true, true, true, true, true, true, true, true, true, true, true, true, true, true, true, true, false, false, false, false, false, false, false, false, false, false, false, false, false, false] rfl rfl (by kernel_rfl) (fun _ _ _ h => h) (Or.inl ⟨by rfl, ?_⟩) ?_ ?_
          rotate_left
          · intro w'
            go_simp
            with_reducible rfl
          rotate_left
          · simp only [Act.put, List.setIfInBounds_toArray, List.set_cons_zero, List.set_cons_succ, i64_w, i32_w]
            rfl
          refine take_ (i := 25) (N := some 98) (v := ?_) (a' := ?_) #[true, true, true, true, true, true, true, true, true, true, true, true, true, true, true, true, true, true, true, true, true, true, true, true, true, true, false, false, false, false, false, false, false, false, false, false, false, false, false] rfl rfl (by kernel_rfl) (fun _ _ _ h => h) (Or.inl ⟨by rfl, ?_⟩) hHeld ?_ ?_
          rotate_left
          · rintro w' ⟨s0, s1, s2, s3, s4, s5, s6, s7, s8, s9⟩
            go_simp
            with_reducible rfl
          rotate_left
          · simp only [Act.put, List.setIfInBounds_toArray, List.set_cons_zero, List.set_cons_succ, i64_w, i32_w]
            rfl
          refine pure_ (i := 26) (N := some 99) (v := ?_) (a' := ?_) #[true, true, true, true, true, true, true, true, true, true, true, true, true, true, true, true, true, true, true, true, true, true, true, true, true, true, true, false, false, false, false, false, false, false, false, false, false, false, false] rfl rfl (by kernel_rfl) (fun _ _ _ h => h) (Or.inl ⟨by rfl, ?_⟩) ?_ ?_
          rotate_left
          · intro w'
            go_simp
            with_reducible rfl
          rotate_left
          · simp only [Act.put, List.setIfInBounds_toArray, List.set_cons_zero, List.set_cons_succ, i64_w, i32_w]
            rfl
          refine pure_ (i := 27) (N := some 100) (v := ?_) (a' := ?_) #[true, true, true, true, true, true, true, true, true, true, true, true, true, true, true, true, true, true, true, true, true, true, true, true, true, true, true, true, false, false, false, false, false, false, false, false, false, false, false] rfl rfl (by kernel_rfl) (fun _ _ _ h => h) (Or.inl ⟨by rfl, ?_⟩) ?_ ?_
          rotate_left
          · intro w'
            go_simp
            with_reducible rfl
          rotate_left
          · simp only [Act.put, List.setIfInBounds_toArray, List.set_cons_zero, List.set_cons_succ, i64_w, i32_w]
            rfl
          refine take_ (i := 28) (N := some 101) (v := ?_) (a' := ?_) #[true, true, true, true, true, true, true, true, true, true, true, true, true, true, true, true, true, true, true, true, true, true, true, true, true, true, true, true, true, false, false, false, false, false, false, false, false, false, false] rfl rfl (by kernel_rfl) (fun _ _ _ h => h) (Or.inl ⟨by rfl, ?_⟩) hHeld ?_ ?_
          rotate_left
          · rintro w' ⟨s0, s1, s2, s3, s4, s5, s6, s7, s8, s9⟩
            go_simp
            with_reducible rfl
          rotate_left
          · simp only [Act.put, List.setIfInBounds_toArray, List.set_cons_zero, List.set_cons_succ, i64_w, i32_w]
            rfl
          refine pure_ (i := 29) (N := some 102) (v := ?_) (a' := ?_) #[true, true, true, true, true, true, true, true, true, true, true, true, true, true, true, true, true, true, true, true, true, true, true, true, true, true, true, true, true, true, false, false, false, false, false, false, false, false, false] rfl rfl (by kernel_rfl) (fun _ _ _ h => h) (Or.inl ⟨by rfl, ?_⟩) ?_ ?_
          rotate_left
          · intro w'
            go_simp
            with_reducible rfl
          rotate_left
          · simp only [Act.put, List.setIfInBounds_toArray, List.set_cons_zero, List.set_cons_succ, i64_w, i32_w]
            rfl
          refine pure_ (i := 30) (N := some 103) (v := ?_) (a' := ?_) #[true, true, true, true, true, true, true, true, true, true, true, true, true, true, true, true, true, true, true, true, true, true, true, true, true, true, true, true, true, true, true, false, false, false, false, false, false, false, false] rfl rfl (by kernel_rfl) (fun _ _ _ h => h) (Or.inl ⟨by rfl, ?_⟩) ?_ ?_
          rotate_left
          · intro w'
            go_simp
            with_reducible rfl
          rotate_left
          · simp only [Act.put, List.setIfInBounds_toArray, List.set_cons_zero, List.set_cons_succ, i64_w, i32_w]
            rfl
          refine take_ (i := 31) (N := some 104) (v := ?_) (a' := ?_) #[true, true, true, true, true, true, true, true, true, true, true, true, true, true, true, true, true, true, true, true, true, true, true, true, true, true, true, true, true, true, true, true, false, false, false, false, false, false, false] rfl rfl (by kernel_rfl) (fun _ _ _ h => h) (Or.inl ⟨by rfl, ?_⟩) hHeld ?_ ?_
          rotate_left
          · rintro w' ⟨s0, s1, s2, s3, s4, s5, s6, s7, s8, s9⟩
            go_simp
            with_reducible rfl
          rotate_left
          · simp only [Act.put, List.setIfInBounds_toArray, List.set_cons_zero, List.set_cons_succ, i64_w, i32_w]
            rfl
          refine pure_ (i := 32) (N := some 105) (v := ?_) (a' := ?_) #[true, true, true, true, true, true, true, true, true, true, true, true, true, true, true, true, true, true, true, true, true, true, true, true, true, true, true, true, true, true, true, true, true, false, false, false, false, false, false] rfl rfl (by kernel_rfl) (fun _ _ _ h => h) (Or.inl ⟨by rfl, ?_⟩) ?_ ?_
          rotate_left
          · intro w'
            go_simp
            with_reducible rfl
          rotate_left
          · simp only [Act.put, List.setIfInBounds_toArray, List.set_cons_zero, List.set_cons_succ, i64_w, i32_w]
            rfl
          refine pure_ (i := 33) (N := some 106) (v := ?_) (a' := ?_) #[true, true, true, true, true, true, true, true, true, true, true, true, true, true, true, true, true, true, true, true, true, true, true, true, true, true, true, true, true, true, true, true, true, true, false, false, false, false, false] rfl rfl (by kernel_rfl) (fun _ _ _ h => h) (Or.inl ⟨by rfl, ?_⟩) ?_ ?_
          rotate_left
          · intro w'
            go_simp
            with_reducible rfl
          rotate_left
          · simp only [Act.put, List.setIfInBounds_toArray, List.set_cons_zero, List.set_cons_succ, i64_w, i32_w]
            rfl
          refine pure_ (i := 34) (N := some 107) (v := ?_) (a' := ?_) #[true, true, true, true, true, true, true, true, true, true, true, true, true, true, true, true, true, true, true, true, true, true, true, true, true, true, true, true, true, true, true, true, true, true, true, false, false, false, false] rfl rfl (by kernel_rfl) (fun _ _ _ h => h) (Or.inl ⟨by rfl, ?_⟩) ?_ ?_
          rotate_left
          · intro w'
            go_simp
            with_reducible rfl
          rotate_left
          · simp only [Act.put, List.setIfInBounds_toArray, List.set_cons_zero, List.set_cons_succ, i64_w, i32_w]
            rfl
          refine one_ (i := 35) (N := some 108) #[true, true, true, true, true, true, true, true, true, true, true, true, true, true, true, true, true, true, true, true, true, true, true, true, true, true, true, true, true, true, true, true, true, true, true, true, false, false, false] rfl rfl (by kernel_rfl) (by decide) (fun K hK => ?_)
          refine value_ (v := ?_) (w1 := ?_) (by rfl) rfl ?_ ?_
          rotate_left 2
          · go_simp
            refine And.intro ?_ ?_
            · rfl
            · rfl
          refine hK.out _ _ ⟨HKA.out _ 0 (by omega), HKA.out _ 1 (by omega), HKA.out _ 2 (by omega), HKA.out _ 3 (by omega), HKA.out _ 4 (by omega), HKA.out _ 5 (by omega), HKA.out _ 6 (by omega), HKA.out _ 7 (by omega), HKA.out _ 8 (by omega), HVA.out _⟩ (fun hHeld => ?_)
          clear hK K
          refine norm_ (a' := ?_) ?_ ?_
          rotate_left
          · show Act.put _ (some 108) _ = _
            simp only [Act.put, List.setIfInBounds_toArray, List.set_cons_zero, List.set_cons_succ, i64_w, i32_w]
            rfl
          refine last_ (i := 36) (N := some 109) #[true, true, true, true, true, true, true, true, true, true, true, true, true, true, true, true, true, true, true, true, true, true, true, true, true, true, true, true, true, true, true, true, true, true, true, true, true, false, false] rfl rfl (by kernel_rfl) (by decide) (fun K hK => ?_)
          refine Kd.R_append_step kStp (w0 := w) (W := w6.drew) w.heap.size (by rfl) (.tmp 74) (.tmp 108) 26 49 _ 88 rfl Tryz.underlying26 info49 rfl (by decide) (by omega) v (stepsR (b.drop 18) k) (stepR r) (stepC (stepR r)) (fun _ => True) (fun _ => False) rfl rfl ?aP (fun _ hk => hk.elim) (fun _ _ => trivial) ?aO ?aB ?aS ?aL ?_
          case aP => exact rfl
          case aO => exact Kd.R_drew S6.out
          case aB => exact below_drew1 B6.out
          case aS => exact below_size (below_drew1 B6.out)
          case aL => rw [stepsR_length]; have := HK.out; unfold manyR at this; omega
          intro v8 w8 ho8 hb8 hg8 hat8
          rw [HSL.out] at ho8
          obtain ⟨A8, c8, rfl⟩ := Kd.R_slice ho8
          obtain ⟨hz8, hq8, hr8, hm8⟩ := after_append3 (blk_drew Z6.out) (blk_drew Q6.out) (Kd.R_drew S6.out) (Kd.R_drew R6.out) (Kd.R_drew N6.out) hg8
          have S8 := Aside0.mk ho8
          have B8 := Aside0.mk hb8
          have Z8 := Aside0.mk hz8
          have Q8 := Aside0.mk hq8
          have R8 := Aside0.mk hr8
          have N8 := Aside0.mk hm8
          have hy8 := blk_cell hz8
          have hyf8 := blk_frozen hz8
          unfold cfgC at hy8
          clear ho8 hb8 hg8 hat8 hz8 hq8 hr8 hm8
          refine hK.out _ _ ?_
          clear hK K
          refine norm_ (a' := ?_) ?_ ?_
          rotate_left
          · show Act.put _ (some 109) _ = _
            simp only [Act.put, List.setIfInBounds_toArray, List.set_cons_zero, List.set_cons_succ, i64_w, i32_w]
            rfl
          refine pure_ (i := 37) (N := some 110) (v := ?_) (a' := ?_) #[true, true, true, true, true, true, true, true, true, true, true, true, true, true, true, true, true, true, true, true, true, true, true, true, true, true, true, true, true, true, true, true, true, true, true, true, true, true, false] rfl rfl (by kernel_rfl) (fun _ _ _ h => h) (Or.inl ⟨by rfl, ?_⟩) ?_ ?_
          rotate_left
          · intro w'
            go_simp
            with_reducible rfl
          rotate_left
          · simp only [Act.put, List.setIfInBounds_toArray, List.set_cons_zero, List.set_cons_succ, i64_w, i32_w]
            rfl
          refine last_ (i := 38) (N := none) #[true, true, true, true, true, true, true, true, true, true, true, true, true, true, true, true, true, true, true, true, true, true, true, true, true, true, true, true, true, true, true, true, true, true, true, true, true, true, true] rfl rfl (by kernel_rfl) (by decide) (fun K hK => ?_)
          refine skip_ (w1 := ?_) (by rfl) rfl ?_ ?_
          rotate_left
          · go_simp
            rfl
          refine hK.out _ _ ?_
          clear hK K
          refine done_ (by kernel_rfl) ?_
          go_wp2
          go_roundg (gk - 1)
          case measure => have := HK.out; omega
          case rel =>
            refine ⟨k + 1, .slice A8 (stepsR (b.drop 18) (k + 1)).length c8, by go_num, ⟨by have := HK.out; omega⟩, ⟨?_⟩, HO1, ⟨?_⟩, ⟨?_⟩, ⟨?_⟩, ⟨?_⟩, ⟨?_⟩⟩
            · exact R_u8_set R8.out Z8.out 5 _
            · exact blk_set Z8.out 5 _
            · exact blk_other Q8.out (Nat.ne_of_lt hgg)
            · exact R_stp_set S8.out Z8.out 5 _
            · exact R_i64_set N8.out Z8.out 5 _
            · exact Below.setCell B8.out (Nat.le_of_lt hgg) _
        | false =>
          have hR := bad_at hyb hk ho
          have hG : readG b = ⟨0, 0, 0, 0, 0⟩ := by unfold readG; rw [hR]; rfl
          have hLL : readL b = [] := by unfold readL; rw [hR]; rfl
          have hE : readE b = 231 := by unfold readE; rw [hR]; rfl
          have HGG := Aside0.mk hG
          have HL := Aside0.mk hLL
          have HE := Aside0.mk hE
          clear hR hG hLL hE
          by_cases h27 : 27 ≤ (b.drop (18 + 43 * k)).length
          · have HGk := Aside0.mk (fun W hW => rget_yes A2 c2 (b.drop (18 + 43 * k)) 9 W hW l2 (byt_drop hyb _) (by omega) (by omega) (by rw [List.length_drop]; omega))
            rw [List.length_drop] at HGk
            have hnc : ¬ (16 ≤ ((b.drop (18 + 43 * k)).drop 27).length ∧ cleanB ((b.drop (18 + 43 * k)).drop 27) = true) := by
              intro h
              rw [List.length_drop] at h
              unfold stepOkR at ho
              rw [decide_eq_true (by omega), h.2] at ho
              cases ho
            clear l2 hl2
            go_wp2_with fail
            refine (HGk.out _ K2.out).mono ?_
            rintro e w5 ⟨v0, v1, rfl, r0, r1, b5⟩
            have r1' : Kd.R (Kd.int .u8) 5 w5 wr.heap.size (fun _ => True) v1 ((b.drop (18 + 43 * k)).drop 27) := r1
            obtain ⟨A3, c3, rfl, l3, k3⟩ := Kd.R_reads r1'
            have HTk := fun W hW => rtake_bad A3 c3 ((b.drop (18 + 43 * k)).drop 27) W hW l3 (byt_drop (byt_drop hyb _) _) (by rw [List.length_drop, List.length_drop]; omega) hnc
            generalize ((b.drop (18 + 43 * k)).drop 27).length = n3 at k3 HTk ⊢
            have HTk := Aside0.mk HTk
            have K3 := Aside0.mk k3
            have B5 := Aside0.mk b5
            clear r0 r1 r1' k3 l3 b5 hnc
            go_wp2_with fail
            refine (HTk.out _ K3.out).mono ?_
            rintro e w6 ⟨rfl, b6⟩
            have Q6 := Aside0.mk (blk_below (blk_below HQ.out B5.out) b6)
            have B6 := Aside0.mk (below_step (below_step HB.out B5.out) b6)
            have hy := blk_cell Q6.out
            have hyf := blk_frozen Q6.out
            unfold zero6 at hy
            clear b6
            go_wp2
            refine bodyPost_ret (v := .tuple #[scriptV ⟨0, 0, 0, 0, 0⟩ none 0 0, .int .i64 231]) ?_ rfl ⟨none, 0, ?_, ?_, ?_, ?_⟩
            · simp [results, Tryz.results6, go_sem, scriptV, hy]
            · rw [HGG.out, HL.out, HE.out]; rfl
            · rw [HL.out]; exact C_none _
            · rw [HL.out]; exact Nat.le_refl 0
            · iterate 6 (refine Below.setCell ?_ (by simp) _)
              exact B6.out
          · have HGk := Aside0.mk (fun W hW => rget_short A2 c2 (b.drop (18 + 43 * k)) 9 W hW l2 (byt_drop hyb _) (by omega) (by omega) (by rw [List.length_drop]; omega))
            rw [List.length_drop] at HGk
            clear l2 hl2
            go_wp2_with fail
            refine (HGk.out _ K2.out).mono ?_
            rintro e w6 ⟨v0, v1, rfl, r0, r1, b6⟩
            have Q6 := Aside0.mk (blk_below HQ.out b6)
            have B6 := Aside0.mk (below_step HB.out b6)
            have hy := blk_cell Q6.out
            have hyf := blk_frozen Q6.out
            unfold zero6 at hy
            clear b6 r0 r1
            go_wp2
            refine bodyPost_ret (v := .tuple #[scriptV ⟨0, 0, 0, 0, 0⟩ none 0 0, .int .i64 231]) ?_ rfl ⟨none, 0, ?_, ?_, ?_, ?_⟩
            · simp [results, Tryz.results6, go_sem, scriptV, hy]
            · rw [HGG.out, HL.out, HE.out]; rfl
            · rw [HL.out]; exact C_none _
            · rw [HL.out]; exact Nat.le_refl 0
            · iterate 6 (refine Below.setCell ?_ (by simp) _)
              exact B6.out
      · obtain rfl : k = manyR b := by have := HK.out; omega
        have hz := blk_cell HZ.out
        have hzf := blk_frozen HZ.out
        obtain ⟨A3, c3, rfl, l3, k3⟩ := Kd.R_reads HS.out
        have L3 := Aside0.mk l3
        have K3 := Aside0.mk k3
        have hfit := stepsR_fit (byt_drop hyb 18) (manyR b)
        have hlm : (stepsR (b.drop 18) (manyR b)).length ≤ 1000 := by
          rw [stepsR_length]
          unfold manyR
          omega
        have hmn := many_num hyb
        unfold cfgC at hz
        clear l3 k3 l2 hl2
        by_cases h501 : many b < 501
        · have hc1 : ¬ (((manyR b : Nat) : Int) < num b 5) := by
            unfold manyR
            omega
          cases hs : scriptB (cfgOf b) (stepsR (b.drop 18) (manyR b)) with
          | false =>
            have hR : readB b = false := by
              cases hR : readB b with
              | false => rfl
              | true =>
                obtain ⟨hm, _, _, h, _⟩ := law_yes hyb hR
                rw [hm] at hs
                rw [hs] at h
                cases h
            have hG : readG b = ⟨0, 0, 0, 0, 0⟩ := by unfold readG; rw [hR]; rfl
            have hLL : readL b = [] := by unfold readL; rw [hR]; rfl
            have hE : readE b = 231 := by unfold readE; rw [hR]; rfl
            have HGG := Aside0.mk hG
            have HL := Aside0.mk hLL
            have HE := Aside0.mk hE
            clear hR hG hLL hE
            have HBY := Aside0.mk (fun W hW => rbytes_bad (cfgOf b) A3 c3 (stepsR (b.drop 18) (manyR b)) W hW hlm (fun s h => (hfit s h).1) hs)
            unfold scriptV at HBY
            clear hs hfit
            go_wp2_with fail
            refine (HBY.out _ K3.out).mono ?_
            rintro e w6 ⟨rfl, b6⟩
            have Q6 := Aside0.mk (blk_below HQ.out b6)
            have B6 := Aside0.mk (below_step HB.out b6)
            have hy := blk_cell Q6.out
            have hyf := blk_frozen Q6.out
            unfold zero6 at hy
            clear b6
            go_wp2
            refine bodyPost_ret (v := .tuple #[scriptV ⟨0, 0, 0, 0, 0⟩ none 0 0, .int .i64 231]) ?_ rfl ⟨none, 0, ?_, ?_, ?_, ?_⟩
            · simp [results, Tryz.results6, go_sem, scriptV, hy]
            · rw [HGG.out, HL.out, HE.out]; rfl
            · rw [HL.out]; exact C_none _
            · rw [HL.out]; exact Nat.le_refl 0
            · iterate 6 (refine Below.setCell ?_ (by simp) _)
              exact B6.out
          | true =>
            have HBY := Aside0.mk (fun W hW => rbytes_good (cfgOf b) A3 c3 (stepsR (b.drop 18) (manyR b)) W hW hlm hfit hs)
            unfold scriptV at HBY
            have HSB := Aside0.mk hs
            clear hs hfit
            go_wp2_with fail
            refine (HBY.out _ K3.out).mono ?_
            rintro e w6 ⟨v6, rfl, r6, b6⟩
            obtain ⟨A6, c6, rfl, l6, k6⟩ := Kd.R_reads r6
            have Q6 := Aside0.mk (blk_below HQ.out b6)
            have Z6 := Aside0.mk (blk_below HZ.out b6)
            have B6 := Aside0.mk b6
            have HB6 := Aside0.mk (below_step HB.out b6)
            have hy := blk_cell Q6.out
            have hyf := blk_frozen Q6.out
            have hx := blk_cell Z6.out
            have hxf := blk_frozen Z6.out
            have hs1 := Kd.C_string (P := Tryz.prog) (src := 22) (dst := 9) (c := c6) Tryz.underlying22 Tryz.underlying5 Tryz.underlying9 k6
            have hs2 := Kd.C_string (P := Tryz.prog) (src := 22) (dst := 9) (c := c) Tryz.underlying22 Tryz.underlying5 Tryz.underlying9 (Kd.C_below HR.out HB6.out)
            have hse := strOf_eq (encL_byt (cfgOf b) (stepsR (b.drop 18) (manyR b))) hyb
            unfold zero6 at hy
            unfold cfgC at hx
            clear b6 r6 k6 l6 hz hzf
            by_cases he : encL (cfgOf b) (stepsR (b.drop 18) (manyR b)) = b
            · have hR : readB b = true := law_back hyb hl HOK.out HSB.out he
              have hG : readG b = cfgOf b := by unfold readG; rw [hR]; rfl
              have hLL : readL b = stepsR (b.drop 18) (manyR b) := by
                obtain ⟨hm, _, hst, _⟩ := law_yes hyb hR
                unfold readL
                rw [hR, hm, hst]
                rfl
              have hE : readE b = 0 := by unfold readE; rw [hR]; rfl
              have HGG := Aside0.mk hG
              have HL := Aside0.mk hLL
              have HE := Aside0.mk hE
              clear hR hG hLL hE
              rw [decide_eq_true he] at hse
              clear he
              go_wp2
              refine bodyPost_ret (v := .tuple #[scriptV (cfgOf b) A3 (stepsR (b.drop 18) (manyR b)).length c3, .int .i64 0]) ?_ rfl ⟨A3, c3, ?_, ?_, ?_, ?_⟩
              · simp [results, Tryz.results6, go_sem, scriptV, hy]
              · rw [HGG.out, HL.out, HE.out]
              · rw [HL.out]
                exact (Kd.R_reads' (R_stp_set (R_stp_set (R_stp_set (R_stp_set (R_stp_set (R_stp_set (Kd.R_below HS.out B6.out) Q6.out 0 _) (blk_set Q6.out 0 _) 1 _) (blk_set (blk_set Q6.out 0 _) 1 _) 2 _) (blk_set (blk_set (blk_set Q6.out 0 _) 1 _) 2 _) 3 _) (blk_set (blk_set (blk_set (blk_set Q6.out 0 _) 1 _) 2 _) 3 _) 4 _) (blk_set (blk_set (blk_set (blk_set (blk_set Q6.out 0 _) 1 _) 2 _) 3 _) 4 _) 5 _)).2.2
              · rw [HL.out]; exact L3.out
              · iterate 6 (refine Below.setCell ?_ (by simp) _)
                exact HB6.out
            · have hR : readB b = false := by
                cases hR : readB b with
                | false => rfl
                | true =>
                  obtain ⟨hm, _, _, _, h⟩ := law_yes hyb hR
                  rw [hm] at he
                  exact absurd h he
              have hG : readG b = ⟨0, 0, 0, 0, 0⟩ := by unfold readG; rw [hR]; rfl
              have hLL : readL b = [] := by unfold readL; rw [hR]; rfl
              have hE : readE b = 231 := by unfold readE; rw [hR]; rfl
              have HGG := Aside0.mk hG
              have HL := Aside0.mk hLL
              have HE := Aside0.mk hE
              clear hR hG hLL hE
              rw [decide_eq_false he] at hse
              clear he
              go_wp2
              refine bodyPost_ret (v := .tuple #[scriptV ⟨0, 0, 0, 0, 0⟩ none 0 0, .int .i64 231]) ?_ rfl ⟨none, 0, ?_, ?_, ?_, ?_⟩
              · simp [results, Tryz.results6, go_sem, scriptV, hy]
              · rw [HGG.out, HL.out, HE.out]; rfl
              · rw [HL.out]; exact C_none _
              · rw [HL.out]; exact Nat.le_refl 0
              · iterate 6 (refine Below.setCell ?_ (by simp) _)
                exact HB6.out
        · have hc1 : ((manyR b : Nat) : Int) < num b 5 ∨ ((manyR b : Nat) : Int) = num b 5 := by
            unfold manyR
            omega
          have hc2 : ¬ (((manyR b : Nat) : Int) < 501) := by
            unfold manyR
            omega
          rcases hc1 with hc1 | hc1
          · cases hs : scriptB (cfgOf b) (stepsR (b.drop 18) (manyR b)) with
            | false =>
              have hR : readB b = false := by
                cases hR : readB b with
                | false => rfl
                | true =>
                  obtain ⟨hm, _, _, h, _⟩ := law_yes hyb hR
                  rw [hm] at hs
                  rw [hs] at h
                  cases h
              have hG : readG b = ⟨0, 0, 0, 0, 0⟩ := by unfold readG; rw [hR]; rfl
              have hLL : readL b = [] := by unfold readL; rw [hR]; rfl
              have hE : readE b = 231 := by unfold readE; rw [hR]; rfl
              have HGG := Aside0.mk hG
              have HL := Aside0.mk hLL
              have HE := Aside0.mk hE
              clear hR hG hLL hE
              have HBY := Aside0.mk (fun W hW => rbytes_bad (cfgOf b) A3 c3 (stepsR (b.drop 18) (manyR b)) W hW hlm (fun s h => (hfit s h).1) hs)
              unfold scriptV at HBY
              clear hs hfit
              go_wp2_with fail
              refine (HBY.out _ K3.out).mono ?_
              rintro e w6 ⟨rfl, b6⟩
              have Q6 := Aside0.mk (blk_below HQ.out b6)
              have B6 := Aside0.mk (below_step HB.out b6)
              have hy := blk_cell Q6.out
              have hyf := blk_frozen Q6.out
              unfold zero6 at hy
              clear b6
              go_wp2
              refine bodyPost_ret (v := .tuple #[scriptV ⟨0, 0, 0, 0, 0⟩ none 0 0, .int .i64 231]) ?_ rfl ⟨none, 0, ?_, ?_, ?_, ?_⟩
              · simp [results, Tryz.results6, go_sem, scriptV, hy]
              · rw [HGG.out, HL.out, HE.out]; rfl
              · rw [HL.out]; exact C_none _
              · rw [HL.out]; exact Nat.le_refl 0
              · iterate 6 (refine Below.setCell ?_ (by simp) _)
                exact B6.out
            | true =>
              have HBY := Aside0.mk (fun W hW => rbytes_good (cfgOf b) A3 c3 (stepsR (b.drop 18) (manyR b)) W hW hlm hfit hs)
              unfold scriptV at HBY
              have HSB := Aside0.mk hs
              clear hs hfit
              go_wp2_with fail
              refine (HBY.out _ K3.out).mono ?_
              rintro e w6 ⟨v6, rfl, r6, b6⟩
              obtain ⟨A6, c6, rfl, l6, k6⟩ := Kd.R_reads r6
              have Q6 := Aside0.mk (blk_below HQ.out b6)
              have Z6 := Aside0.mk (blk_below HZ.out b6)
              have B6 := Aside0.mk b6
              have HB6 := Aside0.mk (below_step HB.out b6)
              have hy := blk_cell Q6.out
              have hyf := blk_frozen Q6.out
              have hx := blk_cell Z6.out
              have hxf := blk_frozen Z6.out
              have hs1 := Kd.C_string (P := Tryz.prog) (src := 22) (dst := 9) (c := c6) Tryz.underlying22 Tryz.underlying5 Tryz.underlying9 k6
              have hs2 := Kd.C_string (P := Tryz.prog) (src := 22) (dst := 9) (c := c) Tryz.underlying22 Tryz.underlying5 Tryz.underlying9 (Kd.C_below HR.out HB6.out)
              have hse := strOf_eq (encL_byt (cfgOf b) (stepsR (b.drop 18) (manyR b))) hyb
              unfold zero6 at hy
              unfold cfgC at hx
              clear b6 r6 k6 l6 hz hzf
              by_cases he : encL (cfgOf b) (stepsR (b.drop 18) (manyR b)) = b
              · have hR : readB b = true := law_back hyb hl HOK.out HSB.out he
                have hG : readG b = cfgOf b := by unfold readG; rw [hR]; rfl
                have hLL : readL b = stepsR (b.drop 18) (manyR b) := by
                  obtain ⟨hm, _, hst, _⟩ := law_yes hyb hR
                  unfold readL
                  rw [hR, hm, hst]
                  rfl
                have hE : readE b = 0 := by unfold readE; rw [hR]; rfl
                have HGG := Aside0.mk hG
                have HL := Aside0.mk hLL
                have HE := Aside0.mk hE
                clear hR hG hLL hE
                rw [decide_eq_true he] at hse
                clear he
                go_wp2
                refine bodyPost_ret (v := .tuple #[scriptV (cfgOf b) A3 (stepsR (b.drop 18) (manyR b)).length c3, .int .i64 0]) ?_ rfl ⟨A3, c3, ?_, ?_, ?_, ?_⟩
                · simp [results, Tryz.results6, go_sem, scriptV, hy]
                · rw [HGG.out, HL.out, HE.out]
                · rw [HL.out]
                  exact (Kd.R_reads' (R_stp_set (R_stp_set (R_stp_set (R_stp_set (R_stp_set (R_stp_set (Kd.R_below HS.out B6.out) Q6.out 0 _) (blk_set Q6.out 0 _) 1 _) (blk_set (blk_set Q6.out 0 _) 1 _) 2 _) (blk_set (blk_set (blk_set Q6.out 0 _) 1 _) 2 _) 3 _) (blk_set (blk_set (blk_set (blk_set Q6.out 0 _) 1 _) 2 _) 3 _) 4 _) (blk_set (blk_set (blk_set (blk_set (blk_set Q6.out 0 _) 1 _) 2 _) 3 _) 4 _) 5 _)).2.2
                · rw [HL.out]; exact L3.out
                · iterate 6 (refine Below.setCell ?_ (by simp) _)
                  exact HB6.out
              · have hR : readB b = false := by
                  cases hR : readB b with
                  | false => rfl
                  | true =>
                    obtain ⟨hm, _, _, _, h⟩ := law_yes hyb hR
                    rw [hm] at he
                    exact absurd h he
                have hG : readG b = ⟨0, 0, 0, 0, 0⟩ := by unfold readG; rw [hR]; rfl
                have hLL : readL b = [] := by unfold readL; rw [hR]; rfl
                have hE : readE b = 231 := by unfold readE; rw [hR]; rfl
                have HGG := Aside0.mk hG
                have HL := Aside0.mk hLL
                have HE := Aside0.mk hE
                clear hR hG hLL hE
                rw [decide_eq_false he] at hse
                clear he
                go_wp2
                refine bodyPost_ret (v := .tuple #[scriptV ⟨0, 0, 0, 0, 0⟩ none 0 0, .int .i64 231]) ?_ rfl ⟨none, 0, ?_, ?_, ?_, ?_⟩
                · simp [results, Tryz.results6, go_sem, scriptV, hy]
                · rw [HGG.out, HL.out, HE.out]; rfl
                · rw [HL.out]; exact C_none _
                · rw [HL.out]; exact Nat.le_refl 0
                · iterate 6 (refine Below.setCell ?_ (by simp) _)
                  exact HB6.out
          · have hc1 : ¬ (((manyR b : Nat) : Int) < num b 5) := by omega
            cases hs : scriptB (cfgOf b) (stepsR (b.drop 18) (manyR b)) with
            | false =>
              have hR : readB b = false := by
                cases hR : readB b with
                | false => rfl
                | true =>
                  obtain ⟨hm, _, _, h, _⟩ := law_yes hyb hR
                  rw [hm] at hs
                  rw [hs] at h
                  cases h
              have hG : readG b = ⟨0, 0, 0, 0, 0⟩ := by unfold readG; rw [hR]; rfl
              have hLL : readL b = [] := by unfold readL; rw [hR]; rfl
              have hE : readE b = 231 := by unfold readE; rw [hR]; rfl
              have HGG := Aside0.mk hG
              have HL := Aside0.mk hLL
              have HE := Aside0.mk hE
              clear hR hG hLL hE
              have HBY := Aside0.mk (fun W hW => rbytes_bad (cfgOf b) A3 c3 (stepsR (b.drop 18) (manyR b)) W hW hlm (fun s h => (hfit s h).1) hs)
              unfold scriptV at HBY
              clear hs hfit
              go_wp2_with fail
              refine (HBY.out _ K3.out).mono ?_
              rintro e w6 ⟨rfl, b6⟩
              have Q6 := Aside0.mk (blk_below HQ.out b6)
              have B6 := Aside0.mk (below_step HB.out b6)
              have hy := blk_cell Q6.out
              have hyf := blk_frozen Q6.out
              unfold zero6 at hy
              clear b6
              go_wp2
              refine bodyPost_ret (v := .tuple #[scriptV ⟨0, 0, 0, 0, 0⟩ none 0 0, .int .i64 231]) ?_ rfl ⟨none, 0, ?_, ?_, ?_, ?_⟩
              · simp [results, Tryz.results6, go_sem, scriptV, hy]
              · rw [HGG.out, HL.out, HE.out]; rfl
              · rw [HL.out]; exact C_none _
              · rw [HL.out]; exact Nat.le_refl 0
              · iterate 6 (refine Below.setCell ?_ (by simp) _)
                exact B6.out
            | true =>
              have HBY := Aside0.mk (fun W hW => rbytes_good (cfgOf b) A3 c3 (stepsR (b.drop 18) (manyR b)) W hW hlm hfit hs)
              unfold scriptV at HBY
              have HSB := Aside0.mk hs
              clear hs hfit
              go_wp2_with fail
              refine (HBY.out _ K3.out).mono ?_
              rintro e w6 ⟨v6, rfl, r6, b6⟩
              obtain ⟨A6, c6, rfl, l6, k6⟩ := Kd.R_reads r6
              have Q6 := Aside0.mk (blk_below HQ.out b6)
              have Z6 := Aside0.mk (blk_below HZ.out b6)
              have B6 := Aside0.mk b6
              have HB6 := Aside0.mk (below_step HB.out b6)
              have hy := blk_cell Q6.out
              have hyf := blk_frozen Q6.out
              have hx := blk_cell Z6.out
              have hxf := blk_frozen Z6.out
              have hs1 := Kd.C_string (P := Tryz.prog) (src := 22) (dst := 9) (c := c6) Tryz.underlying22 Tryz.underlying5 Tryz.underlying9 k6
              have hs2 := Kd.C_string (P := Tryz.prog) (src := 22) (dst := 9) (c := c) Tryz.underlying22 Tryz.underlying5 Tryz.underlying9 (Kd.C_below HR.out HB6.out)
              have hse := strOf_eq (encL_byt (cfgOf b) (stepsR (b.drop 18) (manyR b))) hyb
              unfold zero6 at hy
              unfold cfgC at hx
              clear b6 r6 k6 l6 hz hzf
              by_cases he : encL (cfgOf b) (stepsR (b.drop 18) (manyR b)) = b
              · have hR : readB b = true := law_back hyb hl HOK.out HSB.out he
                have hG : readG b = cfgOf b := by unfold readG; rw [hR]; rfl
                have hLL : readL b = stepsR (b.drop 18) (manyR b) := by
                  obtain ⟨hm, _, hst, _⟩ := law_yes hyb hR
                  unfold readL
                  rw [hR, hm, hst]
                  rfl
                have hE : readE b = 0 := by unfold readE; rw [hR]; rfl
                have HGG := Aside0.mk hG
                have HL := Aside0.mk hLL
                have HE := Aside0.mk hE
                clear hR hG hLL hE
                rw [decide_eq_true he] at hse
                clear he
                go_wp2
                refine bodyPost_ret (v := .tuple #[scriptV (cfgOf b) A3 (stepsR (b.drop 18) (manyR b)).length c3, .int .i64 0]) ?_ rfl ⟨A3, c3, ?_, ?_, ?_, ?_⟩
                · simp [results, Tryz.results6, go_sem, scriptV, hy]
                · rw [HGG.out, HL.out, HE.out]
                · rw [HL.out]
                  exact (Kd.R_reads' (R_stp_set (R_stp_set (R_stp_set (R_stp_set (R_stp_set (R_stp_set (Kd.R_below HS.out B6.out) Q6.out 0 _) (blk_set Q6.out 0 _) 1 _) (blk_set (blk_set Q6.out 0 _) 1 _) 2 _) (blk_set (blk_set (blk_set Q6.out 0 _) 1 _) 2 _) 3 _) (blk_set (blk_set (blk_set (blk_set Q6.out 0 _) 1 _) 2 _) 3 _) 4 _) (blk_set (blk_set (blk_set (blk_set (blk_set Q6.out 0 _) 1 _) 2 _) 3 _) 4 _) 5 _)).2.2
                · rw [HL.out]; exact L3.out
                · iterate 6 (refine Below.setCell ?_ (by simp) _)
                  exact HB6.out
              · have hR : readB b = false := by
                  cases hR : readB b with
                  | false => rfl
                  | true =>
                    obtain ⟨hm, _, _, _, h⟩ := law_yes hyb hR
                    rw [hm] at he
                    exact absurd h he
                have hG : readG b = ⟨0, 0, 0, 0, 0⟩ := by unfold readG; rw [hR]; rfl
                have hLL : readL b = [] := by unfold readL; rw [hR]; rfl
                have hE : readE b = 231 := by unfold readE; rw [hR]; rfl
                have HGG := Aside0.mk hG
                have HL := Aside0.mk hLL
                have HE := Aside0.mk hE
                clear hR hG hLL hE
                rw [decide_eq_false he] at hse
                clear he
                go_wp2
                refine bodyPost_ret (v := .tuple #[scriptV ⟨0, 0, 0, 0, 0⟩ none 0 0, .int .i64 231]) ?_ rfl ⟨none, 0, ?_, ?_, ?_, ?_⟩
                · simp [results, Tryz.results6, go_sem, scriptV, hy]
                · rw [HGG.out, HL.out, HE.out]; rfl
                · rw [HL.out]; exact C_none _
                · rw [HL.out]; exact Nat.le_refl 0
                · iterate 6 (refine Below.setCell ?_ (by simp) _)
                  exact HB6.out
  · have HG := Aside0.mk (fun W hW => rget_short A c b 6 W hW hc hb (by omega) (by omega) (by omega))
    have hR : readB b = false := by unfold readB; rw [decide_eq_false hl, Bool.false_and]
    have hG : readG b = ⟨0, 0, 0, 0, 0⟩ := by unfold readG; rw [hR]; rfl
    have hL : readL b = [] := by unfold readL; rw [hR]; rfl
    have hE : readE b = 231 := by unfold readE; rw [hR]; rfl
    have HGG := Aside0.mk hG
    have HL := Aside0.mk hL
    have HE := Aside0.mk hE
    clear hr hb hc hR hG hL hE
    go_enter Tryz.func6, Tryz.ntmps6
    go_wp2_with (go_at_call 15; refine (HG.out _ (Kd.C_alloc HR.out _)).mono ?_; rintro e w2 ⟨v0, v1, rfl, r0, r1, b2⟩; have B2 := Aside0.mk b2; have Q2 := Aside0.mk (blk_below (blk_alloc w 28 zero6) b2); have hy := blk_cell Q2.out; have hyf := blk_frozen Q2.out; unfold zero6 at hy; clear r0 r1 b2)
    refine bodyPost_ret (v := .tuple #[scriptV ⟨0, 0, 0, 0, 0⟩ none 0 0, .int .i64 231]) ?_ rfl ⟨none, 0, ?_, ?_, ?_, ?_⟩
    · simp [results, Tryz.results6, go_sem, scriptV, hy]
    · rw [HGG.out, HL.out, HE.out]; rfl
    · rw [HL.out]; exact C_none _
    · rw [HL.out]; exact Nat.le_refl 0
    · iterate 6 (refine Below.setCell ?_ (by simp) _)
      exact below_step ((Below.refl _ _).alloc (Nat.le_refl _) _) B2.out
end Go.Proofs.YtpgjilakcepilaaGreat.PV
