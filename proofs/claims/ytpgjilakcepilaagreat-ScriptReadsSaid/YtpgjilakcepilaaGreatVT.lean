/- The contract of the reference's Bytes. -/
import Derived.Test.YtpgjilakcepilaaGreatVS
import Derived.Test.YtpgjilakcepilaaGreatVU
namespace Go.Proofs.YtpgjilakcepilaaGreat.PV
open Go.RowKit Go.Proofs.YtpgjilakcepilaaGreat.PScriptReads Go.Proofs.YtpgjilakcepilaaGreatW.PrintWords Go.Proofs.YtpgjilakcepilaaGreatW.PrintLast Go.Proofs.YtpgjilakcepilaaGreatW.PrintMore
set_option linter.unusedVariables false
set_option linter.unusedSimpArgs false
attribute [local go_sem] run_store_complex

theorem lit_C (W : World) (b : Nat) (xs : List Int) (T : TypeId) (hb : b = W.heap.size) (hl : xs.length ≤ 1000) : Kd.C (Kd.int .i64) (W.alloc (.cells (xs.map (Value.int .i64)).toArray T)) (some ⟨b, 0, none⟩) xs.length xs := by
  subst hb
  refine ⟨rfl, by omega, fun _ => ⟨_, rfl, fun j p hj => ⟨[.int .i64 p], rfl, rfl, fun i u hu => ?_⟩⟩⟩
  have hz := blk_cell (blk_alloc W T (xs.map (Value.int .i64))) j
  obtain ⟨hj1, rfl⟩ := List.getElem?_eq_some_iff.1 hj
  cases i with
  | zero =>
    have e : (⟨W.heap.size, 0, none⟩ : Addr).add (j * 1 + 0) = ⟨W.heap.size, j, none⟩ := by
      cases j <;> simp [Addr.add]
    show (W.alloc _).cell? ((⟨W.heap.size, 0, none⟩ : Addr).add (j * 1 + 0)) = some u
    rw [e, hz]
    simp at hu
    rw [← hu, List.getElem?_map, List.getElem?_eq_getElem hj1]
    rfl
  | succ i => simp at hu
/-- the call of Nums with its numbers written out -/
theorem rnums_lit (W : World) (b : Nat) (xs : List Int) (n : Nat) (cs : Array Value) (hb : b = W.heap.size) (hn : xs.length = n) (hcs : cs = (xs.map (Value.int .i64)).toArray) (hl : n ≤ 9) (hx : ∀ x ∈ xs, 0 ≤ x ∧ x ≤ 16777215) :
    Calls Tryz.prog 36 #[.slice (some ⟨b, 0, none⟩) n n] (W.alloc (.cells cs 3)) fun e w' => ∃ v0 : Value, e = .returned (.tuple #[v0, .int .i64 0]) ∧ Kd.R (Kd.int .u8) 5 w' W.heap.size (fun _ => True) v0 (encN xs) ∧ Below W.heap.size W w' := by
  subst hn
  subst hcs
  have ha : Below W.heap.size W (W.alloc (.cells (xs.map (Value.int .i64)).toArray 3)) := (Below.refl _ _).alloc (Nat.le_refl _) _
  refine (rnums_any _ _ xs _ (lit_C W b xs 3 hb (by omega)) (Nat.le_refl _) hl hx).mono ?_
  rintro e w' ⟨v0, rfl, r, bl⟩
  exact ⟨v0, rfl, Kd.R_lower r (below_size ha), below_step ha bl⟩
/-- a step's numbers -/
def numsS (s : Stp) : List Int := [s.kind, s.client, s.lane, s.n + 1, s.at_ + 1, s.mask, s.opk, s.page, s.obj]
def encS (s : Stp) : List Int := encN (numsS s) ++ (tb8 (formN s.re) ++ tb8 (formN s.im))
def headS (g : Cfg) (n : Nat) : List Int := [g.clients, g.frames, g.many, g.patience, g.room, (n : Int)]
def encL (g : Cfg) (l : List Stp) : List Int := encN (headS g l.length) ++ l.flatMap encS
def fit2 (s : Stp) : Prop := fitS s ∧ 0 ≤ s.mask ∧ s.mask ≤ 65535
theorem numsS_bd (s : Stp) (h : rightB s = true) (hf : fit2 s) : ∀ x ∈ numsS s, 0 ≤ x ∧ x ≤ 16777215 := by
  obtain ⟨_, h0, h1⟩ := hf
  unfold rightB placesB opB btw at h
  simp only [Bool.and_eq_true, decide_eq_true_eq] at h
  intro x hx
  simp only [numsS, List.mem_cons, List.not_mem_nil, or_false] at hx
  omega
theorem headS_bd (g : Cfg) (n : Nat) (h : cfgB g = true) (hn : n ≤ 500) : ∀ x ∈ headS g n, 0 ≤ x ∧ x ≤ 16777215 := by
  unfold cfgB btw at h
  simp only [Bool.and_eq_true, decide_eq_true_eq] at h
  intro x hx
  simp only [headS, List.mem_cons, List.not_mem_nil, or_false] at hx
  omega
theorem encN_length (l : List Int) : (encN l).length = 3 * l.length := by
  induction l with
  | nil => rfl
  | cons x l ih => rw [encN, List.flatMap_cons, List.length_append, ← encN, ih]; simp [tb3]; omega
theorem encS_length (s : Stp) : (encS s).length = 43 := by
  rw [encS, List.length_append, encN_length]
  rfl
theorem encs_length (l : List Stp) : (l.flatMap encS).length = 43 * l.length := by
  induction l with
  | nil => rfl
  | cons x l ih => rw [List.flatMap_cons, List.length_append, ih, encS_length]; simp; omega
theorem encL_length (g : Cfg) (l : List Stp) : (encL g l).length = 18 + 43 * l.length := by
  rw [encL, List.length_append, encs_length, encN_length]
  rfl

set_option maxHeartbeats 4000000 in
set_option maxRecDepth 100000 in
theorem rbytes_bad (g : Cfg) (A : Option Addr) (c : Nat) (l : List Stp) (w : World) (hr : kStp.C w A l.length l) (hL : l.length ≤ 1000) (hf : ∀ s ∈ l, fitS s) (hs : scriptB g l = false) :
    Calls Tryz.prog 17 #[scriptV g A l.length c] w fun e w' => e = .returned (.tuple #[.slice none 0 0, .int .i64 231]) ∧ Below w.heap.size w w' := by
  have HR := Aside0.mk hr
  have HN := Aside0.mk (fun W hW => rRight_any g A c l W hW hL hf)
  rw [hs] at HN
  unfold scriptV at HN ⊢
  clear hr hf hs
  go_enter Tryz.func17, Tryz.ntmps17
  go_wp2_with (go_at_call 35; refine (HN.out _ (Kd.C_alloc HR.out _)).mono ?_; rintro e w2 ⟨rfl, b2⟩; have B2 := Aside0.mk b2; clear b2)
  go_ret2
  exact ⟨rfl, below_step ((Below.refl _ _).alloc (Nat.le_refl _) _) B2.out⟩
set_option maxHeartbeats 4000000 in
set_option maxRecDepth 100000 in
theorem rbytes_good (g : Cfg) (A : Option Addr) (c : Nat) (l : List Stp) (w : World) (hr : kStp.C w A l.length l) (hL : l.length ≤ 1000) (hf : ∀ s ∈ l, fit2 s) (hs : scriptB g l = true) :
    Calls Tryz.prog 17 #[scriptV g A l.length c] w fun e w' => ∃ v : Value, e = .returned (.tuple #[v, .int .i64 0]) ∧ Kd.R (Kd.int .u8) 5 w' w.heap.size (fun _ => True) v (encL g l) ∧ Below w.heap.size w w' := by
  have HR := Aside0.mk hr
  have HN := Aside0.mk (fun W hW => rRight_any g A c l W hW hL (fun s h => (hf s h).1))
  have hs1 := hs
  unfold scriptB at hs1
  rw [Bool.and_eq_true, Bool.and_eq_true, decide_eq_true_eq, List.all_eq_true] at hs1
  have HH := Aside0.mk (headS_bd g l.length hs1.2.2 hs1.1)
  have HT := Aside0.mk (fun s h => numsS_bd s (hs1.2.1 s h) (hf s h))
  have HF := Aside0.mk hf
  have hl5 := hs1.1
  rw [hs] at HN
  unfold scriptV at HN ⊢
  clear hr hf hs hs1
  go_enter Tryz.func17, Tryz.ntmps17
  go_wp2_with (first | (go_at_call 35; refine (HN.out _ (Kd.C_alloc HR.out _)).mono ?_; rintro e w2 ⟨rfl, b2⟩; have B2 := Aside0.mk b2; have Z2 := Aside0.mk (blk_below (blk_alloc w 28 (cfgC g (.slice A l.length c))) b2); have hlt := blk_lt Z2.out; have hy := blk_cell Z2.out; have hyf := blk_frozen Z2.out; unfold cfgC at hy; clear b2) | (go_at_call 36; refine (rnums_lit (w2.alloc (.cells #[.int .i64 g.clients, .int .i64 g.frames, .int .i64 g.many, .int .i64 g.patience, .int .i64 g.room] 25)) _ (headS g l.length) 6 _ ?hb ?hn ?hcs (by omega) HH.out).mono ?_; (case hb => exact (Array.size_push _).symm); (case hn => exact rfl); (case hcs => exact rfl); rintro e w3 ⟨v3, rfl, r3, b3⟩; have B3 := Aside0.mk b3; have R3 := Aside0.mk r3; have Z3 := Aside0.mk (blk_below (blk_below Z2.out ((Below.refl _ _).alloc (Nat.le_refl _) _)) b3); have hy3 := blk_cell Z3.out; have hyf3 := blk_frozen Z3.out; unfold cfgC at hy3; clear r3 b3 hy hyf))
  have HB3 : Aside0 (Below w.heap.size w w3) := ⟨below_step ((below_step ((Below.refl _ _).alloc (Nat.le_refl _) _) B2.out).alloc (by have := blk_lt Z2.out; omega) _) B3.out⟩
  go_loopg [5, 37] l.length (fun kq v5 v37 w' => ∃ k : Nat, v37 = .int .i64 k ∧ Aside0 (k + kq = l.length) ∧ Aside0 (Kd.R (Kd.int .u8) 5 w' w.heap.size (fun _ => True) v5 (encN (headS g l.length) ++ (l.take k).flatMap encS)) ∧ Aside0 (Below w.heap.size w w'))
  case atStart => exact ⟨0, rfl, ⟨by omega⟩, ⟨by simpa using Kd.R_lower R3.out (below_size (below_step ((Below.refl _ _).alloc (Nat.le_refl _) _) B2.out |>.alloc (by have := blk_lt Z2.out; omega) _))⟩, HB3⟩
  case round =>
    obtain ⟨k, rfl, HK, HO, HB⟩ := hrel
    by_cases hk : k < l.length
    · have hk1 := hk
      obtain ⟨ad, s, rfl, hs, c0, c1, c2, c3, c4, c5, c6, c7, c8, c9⟩ := at_stp' (Kd.C_below HR.out HB.out) k hk
      have HS := Aside0.mk hs
      have hsm := List.mem_of_getElem? hs
      have HNB := Aside0.mk (HT.out s hsm)
      obtain ⟨⟨hf1, hf2⟩, hm0, hm1⟩ := HF.out s hsm
      have HV := Aside0.mk (fun W => rvalue_any s.re s.im W hf1 hf2)
      have hnb := HNB.out
      have e3 : IntKind.i64.wrap (s.n + 1) = s.n + 1 := by
        have := hnb (s.n + 1) (by simp [numsS])
        rw [i64_w, w64 _ (by omega) (by omega)]
      have e4 : IntKind.i64.wrap (s.at_ + 1) = s.at_ + 1 := by
        have := hnb (s.at_ + 1) (by simp [numsS])
        rw [i64_w, w64 _ (by omega) (by omega)]
      have e5 : IntKind.i64.wrap s.mask = s.mask := by
        rw [i64_w, w64 _ (by omega) (by omega)]
      have HLen : Aside0 ((encN (headS g l.length) ++ (l.take k).flatMap encS).length ≤ 100000) := ⟨by
        rw [List.length_append, encs_length, encN_length, List.length_take]
        simp [headS]
        omega⟩
      clear hs hsm hf1 hf2 hm0 hm1 hnb
      generalize hacc : encN (headS g l.length) ++ (l.take k).flatMap encS = acc at HO HLen
      go_wp2_with fail
      refine (rnums_lit (wr.alloc (.cells #[.int .i64 s.kind, .int .i64 s.client, .int .i64 s.lane, .int .i64 s.n, .int .i64 s.at_, .int .u16 s.mask, .int .i64 s.opk, .int .i64 s.page, .int .i64 s.obj, .complex .f64 s.re s.im] 49)) _ (numsS s) 9 _ ?hb ?hn ?hcs (by omega) HNB.out).mono ?_
      case hb => exact (Array.size_push _).symm
      case hn => exact rfl
      case hcs => exact rfl
      rintro e w4 ⟨v4, rfl, r4, b4⟩
      obtain ⟨A4, c4', rfl, l4, k4⟩ := Kd.R_reads r4
      have K4 := Aside0.mk k4
      have HBa := Aside0.mk (HB.out.alloc (below_size HB.out) (.cells #[.int .i64 s.kind, .int .i64 s.client, .int .i64 s.lane, .int .i64 s.n, .int .i64 s.at_, .int .u16 s.mask, .int .i64 s.opk, .int .i64 s.page, .int .i64 s.obj, .complex .f64 s.re s.im] 49))
      have X4 := Aside0.mk (blk_below (blk_alloc wr 49 (stepC s)) b4)
      have O4 := Aside0.mk (Kd.R_below (Kd.R_alloc HO.out _) b4)
      have B4 := Aside0.mk (below_step HBa.out b4)
      clear r4 k4 l4 b4 HO HB c0 c1 c2 c3 c4 c5 c6 c7 c8 c9 e3 e4 e5
      go_wp2_with ((with_reducible refine gate_builtin (b := .append) (xs := #[.tmp 70, .tmp 71]) rfl ?_); at_builtin; refine Kd.R_append_rows (Kd.int .u8) (w0 := w) w.heap.size rfl (.tmp 70) (.tmp 71) 22 5 (.int .u8 0) 1 rfl Tryz.underlying22 info5 rfl (by decide) (by omega) u5 acc (encN (numsS s)) _ _ _ (fun _ => True) (fun _ => False) rfl rfl ?aO ?aR (fun _ _ h => h) (fun _ h => h.elim) (fun _ _ => trivial) ?aB ?aS ?aL ?_; (case aR => exact K4.out); (case aB => exact B4.out); (case aO => exact O4.out); (case aS => exact (below_size B4.out)); (case aL => have h1 := HLen.out; have h2 : (encN (numsS s)).length = 27 := encN_length _; omega); intro v5 w5 ho hb hg hat; have O5 := Aside0.mk ho; have B5 := Aside0.mk hb; have X5 := Aside0.mk (blk_grown X4.out hg (R_blk_ne O4.out X4.out (by decide))); have hx := blk_cell X5.out; have hxf := blk_frozen X5.out; unfold stepC at hx; clear ho hb hg hat)
      refine (HV.out _).mono ?_
      rintro e w6 ⟨v6, rfl, r6, b6⟩
      obtain ⟨A6, c6', rfl, l6, k6⟩ := Kd.R_reads r6
      have K6 := Aside0.mk k6
      have O6 := Aside0.mk (Kd.R_below O5.out b6)
      have B6 := Aside0.mk (below_step B5.out b6)
      clear r6 k6 l6 b6 hx hxf
      go_wp2_with ((with_reducible refine gate_builtin (b := .append) (xs := #[.tmp 73, .tmp 77]) rfl ?_); at_builtin; refine Kd.R_append_rows (Kd.int .u8) (w0 := w) w.heap.size rfl (.tmp 73) (.tmp 77) 22 5 (.int .u8 0) 1 rfl Tryz.underlying22 info5 rfl (by decide) (by omega) v5 (acc ++ encN (numsS s)) (tb8 (formN s.re) ++ tb8 (formN s.im)) _ _ _ (fun _ => True) (fun _ => False) rfl rfl ?aO ?aR (fun _ _ h => h) (fun _ h => h.elim) (fun _ _ => trivial) ?aB ?aS ?aL ?_; (case aR => exact K6.out); (case aB => exact B6.out); (case aO => exact O6.out); (case aS => exact (below_size B6.out)); (case aL => have h1 := HLen.out; have h2 : (encN (numsS s)).length = 27 := encN_length _; rw [List.length_append]; simp [tb8]; omega); intro v7 w7 ho hb hg hat; have O7 := Aside0.mk ho; have B7 := Aside0.mk hb; clear ho hb hg hat)
      go_roundg (gk - 1)
      case measure => have := HK.out; omega
      case rel =>
        refine ⟨k + 1, by go_num, ⟨by have := HK.out; omega⟩, ⟨?_⟩, B7⟩
        have h := O7.out
        rw [List.append_assoc, ← hacc, List.append_assoc] at h
        rw [List.take_add_one, HS.out, List.flatMap_append]
        exact h
    · obtain rfl : k = l.length := by have := HK.out; omega
      go_wp2
      go_ret2
      refine ⟨_, rfl, ?_, HB.out⟩
      have h := HO.out
      rw [List.take_length] at h
      exact h
end Go.Proofs.YtpgjilakcepilaaGreat.PV
