/- The contracts of slices.Clone at bytes, and of package pack's Get and Take. -/
import Derived.Test.YtpgjilakcepilaaGreatVA
import Derived.Test.YtpgjilakcepilaaGreatVP
import Derived.WalkSpells
namespace Go.Proofs.YtpgjilakcepilaaGreat.PV
open Go.RowKit Go.Proofs.YtpgjilakcepilaaGreat.PScriptReads Go.Proofs.YtpgjilakcepilaaGreatW.PrintWords Go.Proofs.YtpgjilakcepilaaGreatW.PrintLast Go.Proofs.YtpgjilakcepilaaGreatW.PrintMore

set_option maxHeartbeats 1000000 in
set_option maxRecDepth 100000 in
theorem clone_any (A : Option Addr) (c : Nat) (l : List Int) (w : World) (hr : Kd.C (Kd.int .u8) w A l.length l) (hc : l.length ≤ c) (hl : l.length < 140737488355328) :
    Calls Tryz.prog 27 #[.slice A l.length c] w fun e w' => ∃ v : Value, e = .returned v ∧ Kd.R (Kd.int .u8) 5 w' w.heap.size (fun _ => True) v l ∧ Below w.heap.size w w' := by
  have hn := fun (w : World) => Lib.run_eql_slice_nil (P := Tryz.prog) w 22 5 A l.length c 0 0 Tryz.underlying22
  cases A with
  | none =>
    have hl0 : l = [] := by
      cases l with
      | nil => rfl
      | cons x t =>
        obtain ⟨ad, e, _⟩ := hr.2.2 (by simp)
        cases e
    subst hl0
    clear hr hc hl
    simp only [List.length_nil, Option.isNone_none] at hn ⊢
    go_enter Tryz.func27, Tryz.ntmps27
    go_wp2
    go_ret
    exact ⟨_, rfl, Kd.R_nil _ _ _ _ _, Below.refl _ _⟩
  | some A =>
    have HR := Aside0.mk hr
    have HC := Aside0.mk hc
    have HL := Aside0.mk hl
    clear hr hc hl
    have HB := Aside0.mk (Below.refl w.heap.size w)
    go_enter Tryz.func27, Tryz.ntmps27
    go_wp2_with (first | ((with_reducible refine gate_dst (N := 5) rfl ?_); refine Kd.R_lit (Kd.int .u8) _ 5 ?hg (N := 5) ?hd (xs := ([] : List Int)) (inner := []) (ok := fun _ => True) (okp := fun _ => True) ?hr ?hp (fun _ hk => hk) trivial (Below.refl _ _) (Nat.le_refl _) (by simp) ?_; (case hd => rfl); (case hg => rfl); (case hr => first | (go_simp; done) | (go_simp; rfl)); (case hp => exact (Reps.none _ _)); intro v1 w1 ho1 hb1 hg_ hnew_; clear hg_ hnew_; have O1 := Aside0.mk ho1; have B1 := Aside0.mk hb1; clear ho1 hb1 HB) | ((with_reducible refine gate_builtin (b := .append) (xs := #[.tmp 5, .tmp 6]) rfl ?_); at_builtin; refine Kd.R_append_rows (Kd.int .u8) (w0 := w) w.heap.size rfl (.tmp 5) (.tmp 6) 22 5 (.int .u8 0) 1 rfl Tryz.underlying22 info5 rfl (by decide) (by omega) v1 ([] : List Int) l _ _ _ (fun _ => True) (fun _ => False) rfl rfl ?aO ?aR (fun _ _ h => h) (fun _ h => h.elim) ?aF ?aB ?aS ?aL ?_; (case aR => exact Kd.C_below HR.out B1.out); (case aB => exact B1.out); (case aF => exact (fun _ _ => trivial)); (case aO => exact O1.out); (case aS => exact (below_size B1.out)); (case aL => have := HL.out; simp only [List.length_nil]; omega); intro v2 w2 ho hb hg hat; rw [List.nil_append] at ho; have O2 := Aside0.mk ho; have B2 := Aside0.mk hb; clear ho hb hg hat O1 B1))
    go_ret
    exact ⟨v2, rfl, O2.out, B2.out⟩
theorem clone_n (n : Nat) (A : Option Addr) (c : Nat) (l : List Int) (w : World) (hn : l.length = n) (hr : Kd.C (Kd.int .u8) w A n l) (hc : n ≤ c) (hl : n < 140737488355328) :
    Calls Tryz.prog 27 #[.slice A n c] w fun e w' => ∃ v : Value, e = .returned v ∧ Kd.R (Kd.int .u8) 5 w' w.heap.size (fun _ => True) v l ∧ Below w.heap.size w w' := by
  subst hn
  exact clone_any A c l w hr hc hl
/-- the k-th number of bytes -/
def num (l : List Int) (k : Nat) : Int := be3 (l.getD (3 * k) 0) (l.getD (3 * k + 1) 0) (l.getD (3 * k + 2) 0)
def nums (l : List Int) (m : Nat) : List Int := (List.range m).map (num l)
theorem nums_succ (l : List Int) (m : Nat) : nums l (m + 1) = nums l m ++ [num l m] := by simp [nums, List.range_succ]
theorem nums_length (l : List Int) (m : Nat) : (nums l m).length = m := by simp [nums]
theorem byt_getD {l : List Int} (hb : ∀ x ∈ l, byt x) (i : Nat) : byt (l.getD i 0) := by
  rw [List.getD_eq_getElem?_getD]
  rcases h : l[i]? with _ | x
  · exact ⟨by simp, by simp⟩
  · exact hb x (List.mem_of_getElem? h)
theorem num_bd {l : List Int} (hb : ∀ x ∈ l, byt x) (k : Nat) : 0 ≤ num l k ∧ num l k ≤ 16777215 := by
  have h0 := byt_getD hb (3 * k)
  have h1 := byt_getD hb (3 * k + 1)
  have h2 := byt_getD hb (3 * k + 2)
  unfold byt at h0 h1 h2
  unfold num be3
  omega
theorem drop_getD (l : List Int) (i : Nat) (h : i < l.length) : l.drop i = l.getD i 0 :: l.drop (i + 1) := by
  rw [List.drop_eq_getElem_cons h, List.getD_eq_getElem?_getD, List.getElem?_eq_getElem h]
  rfl
theorem mid3 (l : List Int) (k : Nat) (h : 3 * k + 3 ≤ l.length) : (l.take (3 * k + 3)).drop (3 * k) = [l.getD (3 * k) 0, l.getD (3 * k + 1) 0, l.getD (3 * k + 2) 0] := by
  rw [List.drop_take, drop_getD l _ (by omega), drop_getD l _ (by omega), drop_getD l _ (by omega), show 3 * k + 3 - 3 * k = 3 by omega]
  rfl
theorem slice3 (A : Option Addr) (c : Nat) (l : List Int) (k : Nat) (h : 3 * k + 3 ≤ l.length) (hc : l.length ≤ c) : ∃ (A' : Option Addr) (c' : Nat), (∀ W : World, (Instr.slice 22 (.slice A l.length c) (some (.int .i64 (3 * (k : Int)))) (some (.int .i64 (3 * (k : Int) + 3))) none).run Tryz.prog W = .ok (.slice A' 3 c') W) ∧
    (∀ w : World, Kd.C (Kd.int .u8) w A l.length l → Kd.C (Kd.int .u8) w A' [l.getD (3 * k) 0, l.getD (3 * k + 1) 0, l.getD (3 * k + 2) 0].length [l.getD (3 * k) 0, l.getD (3 * k + 1) 0, l.getD (3 * k + 2) 0]) ∧ 3 ≤ c' := by
  obtain ⟨i0, hi0, _, hsz, _⟩ := info_parts info5
  obtain ⟨A', h1, h2, h3⟩ := print_mid_of (P := Tryz.prog) (Value.int .u8) 0 22 5 .i64 .i64 Tryz.underlying22 hi0 hsz A c l (3 * (k : Int)) (3 * (k : Int) + 3) (by omega) (by omega) (by omega) hc
  have e1 : (3 * (k : Int) + 3).toNat = 3 * k + 3 := by omega
  have e2 : (3 * (k : Int)).toNat = 3 * k := by omega
  rw [e1, e2, mid3 l k h] at h1 h2 h3
  exact ⟨A', _, h1, fun w hw => Kd.C_of_reads (h1 := fun _ => rfl) (h2 w (Kd.reads_of_C hw)), h3⟩
theorem drop3 (A : Option Addr) (c : Nat) (l : List Int) (m : Nat) (h : m ≤ l.length) (hc : l.length ≤ c) : ∃ (A' : Option Addr) (c' : Nat), (∀ W : World, (Instr.slice 22 (.slice A l.length c) (some (.int .i64 (m : Int))) none none).run Tryz.prog W = .ok (.slice A' (l.length - m) c') W) ∧
    (∀ w : World, Kd.C (Kd.int .u8) w A l.length l → Kd.C (Kd.int .u8) w A' (l.length - m) (l.drop m)) ∧ (l.length - m) ≤ c' := by
  obtain ⟨i0, hi0, _, hsz, _⟩ := info_parts info5
  obtain ⟨A', h1, h2, h3⟩ := print_drop_of (P := Tryz.prog) (Value.int .u8) 0 22 5 .i64 Tryz.underlying22 hi0 hsz A c l (m : Int) (by omega) (by omega) hc
  rw [Int.toNat_natCast, List.length_drop] at h1 h2 h3
  exact ⟨A', _, h1, fun w hw => Kd.C_of_reads (h1 := fun _ => rfl) (h2 w (Kd.reads_of_C hw)), h3⟩

set_option maxHeartbeats 4000000 in
set_option maxRecDepth 100000 in
theorem get_short (A : Option Addr) (c : Nat) (l : List Int) (m : Nat) (w : World) (hl : l.length < 3 * m) (hm : m ≤ 9) :
    Calls Tryz.prog 12 #[.slice A l.length c, .int .i64 m] w fun e w' => e = .returned (.tuple #[.slice none 0 0, .slice none 0 0, .int .i64 21]) ∧ w = w' := by
  have h1 : (l.length : Int) < 3 * (m : Int) := by omega
  have h2 : (m : Int) ≤ 9 := by omega
  go_enter Tryz.func12, Tryz.ntmps12
  go_wp2
  go_ret3
  exact ⟨rfl, rfl⟩
set_option maxHeartbeats 4000000 in
set_option maxRecDepth 100000 in
theorem get_any (A : Option Addr) (c : Nat) (l : List Int) (m : Nat) (w : World) (hr : Kd.C (Kd.int .u8) w A l.length l) (hc : l.length ≤ c) (hb : ∀ x ∈ l, byt x) (hl : 3 * m ≤ l.length) (hm : m ≤ 9) (hL : l.length ≤ 100000) :
    Calls Tryz.prog 12 #[.slice A l.length c, .int .i64 m] w fun e w' => ∃ v0 v1 : Value, e = .returned (.tuple #[v0, v1, .int .i64 0]) ∧ Kd.R (Kd.int .i64) 3 w' w.heap.size (fun _ => True) v0 (nums l m) ∧ Kd.R (Kd.int .u8) 5 w' w.heap.size (fun _ => True) v1 (l.drop (3 * m)) ∧ Below w.heap.size w w' := by
  have HR := Aside0.mk hr
  have HC := Aside0.mk hc
  have HY := Aside0.mk hb
  have HL := Aside0.mk hL
  have HB := Aside0.mk (Below.refl w.heap.size w)
  have h1 : 3 * (m : Int) ≤ (l.length : Int) := by omega
  have h2 : (m : Int) ≤ 9 := by omega
  clear hr hc hb hL
  go_enter Tryz.func12, Tryz.ntmps12
  go_wp2
  go_loopg [7, 23] m (fun kq v7 v23 w' => ∃ k : Nat, v23 = .int .i64 k ∧ Aside0 (k + kq = m) ∧ Aside0 (Kd.R (Kd.int .i64) 3 w' w.heap.size (fun _ => True) v7 (nums l k)) ∧ Aside0 (Below w.heap.size w w'))
  case atStart => exact ⟨0, rfl, ⟨by omega⟩, ⟨Kd.R_nil _ _ _ _ _⟩, HB⟩
  case round =>
    obtain ⟨k, rfl, HK, HO, HB⟩ := hrel
    by_cases hk : k < m
    · have hk1 := hk
      obtain ⟨A', c', hs1, hs2, hs3⟩ := slice3 A c l k (by omega) HC.out
      have HS2 := Aside0.mk hs2
      have HS3 := Aside0.mk hs3
      clear hs2 hs3
      have hn := num_bd HY.out k
      obtain ⟨hn0, hn1⟩ := hn
      have HG : Aside0 (pack_get.f 9 [l.getD (3 * k) 0, l.getD (3 * k + 1) 0, l.getD (3 * k + 2) 0] = some (num l k)) := Aside0.mk (get3 _ _ _ (byt_getD HY.out (3 * k)) (byt_getD HY.out (3 * k + 1)) (byt_getD HY.out (3 * k + 2)))
      go_wp2_with (first | (go_at_call 26; refine (pack_get.calls 9 A' c' _ _ _ (Kd.C_below (HS2.out _ HR.out) HB.out) HS3.out HG.out).mono ?_; rintro e w' ⟨rfl, ⟨n, rfl⟩⟩) | ((with_reducible refine gate_builtin (b := .append) (xs := #[.tmp 26, .tmp 36]) rfl ?_); at_builtin; refine Kd.R_append (Kd.int .i64) (w0 := w) w.heap.size rfl (.tmp 26) (.tmp 36) 53 3 (.int .i64 0) 8 rfl Tryz.underlying53 info3 rfl (by decide) (by omega) u7 (nums l k) (num l k) [.int .i64 (num l k)] (fun _ => True) (fun _ => False) rfl rfl ?aP (fun _ hk => hk.elim) ?aF ?aO ?aB ?aS ?aL ?_; (case aP => exact rfl); (case aB => exact (by repeat (first | (with_reducible first | exact HB.out | apply below_alloc | apply pw_below_drewN | apply below_drew1) | exact HB.out))); (case aF => exact (fun _ _ => trivial)); (case aO => exact (by (with_reducible repeat (first | apply Kd.R_alloc | apply Kd.R_drewN | apply Kd.R_drew)); exact HO.out)); (case aS => exact (below_size (by repeat (first | (with_reducible first | exact HB.out | apply below_alloc | apply pw_below_drewN | apply below_drew1) | exact HB.out)))); (case aL => have := nums_length l k; omega); intro v2 w2 ho hb hg hat; rw [← nums_succ] at ho; have O2 := Aside0.mk ho; have B2 := Aside0.mk hb; clear ho hb hg hat HO HB))
      go_roundg (gk - 1)
      case measure => have := HK.out; omega
      case rel => exact ⟨k + 1, by go_num, ⟨by have := HK.out; omega⟩, O2, B2⟩
    · obtain rfl : k = m := by have := HK.out; omega
      obtain ⟨A', c', hs1, hs2, hs3⟩ := drop3 A c l (3 * k) hl HC.out
      rw [show ((3 * k : Nat) : Int) = 3 * (k : Int) by omega] at hs1
      have HS2 := Aside0.mk hs2
      have HS3 := Aside0.mk hs3
      clear hs2 hs3
      go_wp2_with (go_at_call 27; refine (clone_n _ A' c' (l.drop (3 * k)) _ List.length_drop (Kd.C_below (HS2.out _ HR.out) HB.out) HS3.out (by have := HL.out; omega)).mono ?_; rintro e w' ⟨v2, rfl, r2, b2⟩; have R2 := Aside0.mk r2; have B2 := Aside0.mk b2; clear r2 b2)
      go_ret3
      exact ⟨_, v2, rfl, Kd.R_below HO.out B2.out, Kd.R_lower R2.out (below_size HB.out), below_step HB.out B2.out⟩
end Go.Proofs.YtpgjilakcepilaaGreat.PV
