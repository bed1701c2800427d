/- The contract of the reference's Same, where both scripts are the same. -/
import Derived.Test.YtpgjilakcepilaaGreatVV
namespace Go.Proofs.YtpgjilakcepilaaGreat.PV
open Go.RowKit Go.Proofs.YtpgjilakcepilaaGreat.PScriptReads Go.Proofs.YtpgjilakcepilaaGreatW.PrintWords Go.Proofs.YtpgjilakcepilaaGreatW.PrintLast Go.Proofs.YtpgjilakcepilaaGreatW.PrintMore
set_option linter.unusedVariables false
set_option linter.unusedSimpArgs false
attribute [local go_sem] run_store_complex

theorem stp_at {w : World} {ad : Addr} {n : Nat} {xs : List Stp} (h : kStp.C w (some ad) n xs) (i : Nat) {s : Stp} (hs : xs[i]? = some s) : w.cell? (ad.add (i * 10)) = some (.int .i64 s.kind) ∧ w.cell? ⟨(ad.add (i * 10)).block, (ad.add (i * 10)).off + 1, none⟩ = some (.int .i64 s.client) ∧ w.cell? ⟨(ad.add (i * 10)).block, (ad.add (i * 10)).off + 2, none⟩ = some (.int .i64 s.lane) ∧ w.cell? ⟨(ad.add (i * 10)).block, (ad.add (i * 10)).off + 3, none⟩ = some (.int .i64 s.n) ∧ w.cell? ⟨(ad.add (i * 10)).block, (ad.add (i * 10)).off + 4, none⟩ = some (.int .i64 s.at_) ∧ w.cell? ⟨(ad.add (i * 10)).block, (ad.add (i * 10)).off + 5, none⟩ = some (.int .u16 s.mask) ∧ w.cell? ⟨(ad.add (i * 10)).block, (ad.add (i * 10)).off + 6, none⟩ = some (.int .i64 s.opk) ∧ w.cell? ⟨(ad.add (i * 10)).block, (ad.add (i * 10)).off + 7, none⟩ = some (.int .i64 s.page) ∧ w.cell? ⟨(ad.add (i * 10)).block, (ad.add (i * 10)).off + 8, none⟩ = some (.int .i64 s.obj) ∧ w.cell? ⟨(ad.add (i * 10)).block, (ad.add (i * 10)).off + 9, none⟩ = some (.complex .f64 s.re s.im) := by
  have hl : i < xs.length := (List.getElem?_eq_some_iff.1 hs).1
  obtain ⟨ad', s', e, hs', hc⟩ := at_stp' h i (by have := h.1; omega)
  injection e with e
  subst e
  rw [hs] at hs'
  injection hs' with hs'
  subst hs'
  exact hc
theorem two_s0 (w : World) (s : Stp) : isBlk ((w.alloc (.cells (stepC s).toArray 49)).alloc (.cells (stepC s).toArray 49)).drew w.heap.size 49 (stepC s) := blk_drew (blk_keep (blk_alloc w 49 (stepC s)) ((Below.refl (w.heap.size + 1) _).alloc (Nat.le_of_eq (Array.size_push _).symm) _) (by omega))
theorem two_s1 (w : World) (s : Stp) : isBlk ((w.alloc (.cells (stepC s).toArray 49)).alloc (.cells (stepC s).toArray 49)).drew (w.heap.size + 1) 49 (stepC s) := by
  have h := blk_alloc (w.alloc (.cells (stepC s).toArray 49)) 49 (stepC s)
  rw [show (w.alloc (.cells (stepC s).toArray 49)).heap.size = w.heap.size + 1 from Array.size_push _] at h
  exact h
theorem sameO_self (s : Stp) : sameO s s = true := by simp [sameO, sameC]
set_option maxHeartbeats 4000000 in
set_option maxRecDepth 100000 in
theorem rSame_any (g : Cfg) (A A' : Option Addr) (c c' : Nat) (l : List Stp) (w : World) (hr : kStp.C w A l.length l) (hr' : kStp.C w A' l.length l) (hL : l.length ≤ 1000) (hf : ∀ s ∈ l, fitS s) :
    Calls Tryz.prog 7 #[scriptV g A l.length c, scriptV g A' l.length c'] w fun e w' => e = .returned (.bool true) ∧ Below w.heap.size w w' := by
  have HR := Aside0.mk hr
  have HR' := Aside0.mk hr'
  have HF := Aside0.mk hf
  unfold scriptV
  clear hr hr' hf
  go_enter Tryz.func7, Tryz.ntmps7
  go_wp2
  go_loopg [25] l.length (fun kq v25 w' => ∃ k : Nat, v25 = .int .i64 k ∧ Aside0 (k + kq = l.length) ∧ Aside0 (isBlk w' w.heap.size 28 (cfgC g (.slice A l.length c))) ∧ Aside0 (isBlk w' (w.heap.size + 1) 28 (cfgC g (.slice A' l.length c'))) ∧ Aside0 (Below w.heap.size w w'))
  case atStart =>
    refine ⟨0, rfl, ⟨by omega⟩, ⟨?_⟩, ⟨?_⟩, ⟨?_⟩⟩
    · exact blk_keep (blk_alloc w 28 (cfgC g (.slice A l.length c))) ((Below.refl (w.heap.size + 1) _).alloc (Nat.le_of_eq (Array.size_push _).symm) _) (by omega)
    · have h := blk_alloc (w.alloc (.cells (cfgC g (.slice A l.length c)).toArray 28)) 28 (cfgC g (.slice A' l.length c'))
      rw [show (w.alloc (.cells (cfgC g (.slice A l.length c)).toArray 28)).heap.size = w.heap.size + 1 from Array.size_push _] at h
      exact h
    · exact ((Below.refl _ _).alloc (Nat.le_refl _) _).alloc (by simp) _
  case round =>
    obtain ⟨k, rfl, HK, HZ, HZ', HB⟩ := hrel
    by_cases hk : k < l.length
    · have hk1 := hk
      obtain ⟨ad, s, rfl, hs, _⟩ := at_stp (Kd.C_below HR.out HB.out) k hk
      obtain ⟨ad', s', rfl, hs', _⟩ := at_stp (Kd.C_below HR'.out HB.out) k hk
      have HS := Aside0.mk hs
      have HFS := Aside0.mk (HF.out s (List.mem_of_getElem? hs))
      have HSO := Aside0.mk (fun W => sameOp_any s s W HFS.out HFS.out)
      rw [sameO_self] at HSO
      unfold opvV at HSO
      clear hs hs'
      go_upto_region 6 with (fail)
      go_cut [6, 7] (fun v6 v7 wc => ∃ p q : Nat, v6 = .pointer (some ⟨p, 0, none⟩) ∧ v7 = .pointer (some ⟨q, 0, none⟩) ∧ isBlk wc p 49 (stepC s) ∧ isBlk wc q 49 (stepC s) ∧ Below wr.heap.size wr wc)
      case first =>
        refine start_ (n := 14) (S := fun w' => Below wr.heap.size wr w') (ds := []) #[false, false, false, false, false, false, false, false, false, false, false, false, false, false] (by kernel_rfl) rfl rfl (below_drew1 (Below.refl _ _)) (fun hHeld => ?_)
        refine pure_ (i := 0) (N := some 28) (v := ?_) (a' := ?_) #[true, false, false, false, false, false, false, false, false, false, false, false, false, false] rfl rfl (by kernel_rfl) (fun _ _ _ h => h) (Or.inl ⟨by rfl, ?_⟩) ?_ ?_
        rotate_left
        · intro w'
          go_simp
          with_reducible rfl
        rotate_left
        · simp only [Act.put, List.setIfInBounds_toArray, List.set_cons_zero, List.set_cons_succ, i64_w, i32_w]
          rfl
        refine take_ (i := 1) (N := some 29) (v := ?_) (a' := ?_) #[true, true, false, false, false, false, false, false, false, false, false, false, false, false] rfl rfl (by kernel_rfl) (fun _ _ _ h => h) (Or.inl ⟨by rfl, ?_⟩) hHeld ?_ ?_
        rotate_left
        · intro w' s0
          have hz := blk_cell (blk_below HZ.out s0)
          unfold cfgC at hz
          go_simp
          with_reducible rfl
        rotate_left
        · simp only [Act.put, List.setIfInBounds_toArray, List.set_cons_zero, List.set_cons_succ, i64_w, i32_w]
          rfl
        refine pure_ (i := 2) (N := some 30) (v := ?_) (a' := ?_) #[true, true, true, false, false, false, false, false, false, false, false, false, false, false] rfl rfl (by kernel_rfl) (fun _ _ _ h => h) (Or.inl ⟨by rfl, ?_⟩) ?_ ?_
        rotate_left
        · intro w'
          go_simp
          with_reducible rfl
        rotate_left
        · simp only [Act.put, List.setIfInBounds_toArray, List.set_cons_zero, List.set_cons_succ, i64_w, i32_w]
          rfl
        refine pure_ (i := 3) (N := some 31) (v := ?_) (a' := ?_) #[true, true, true, true, false, false, false, false, false, false, false, false, false, false] rfl rfl (by kernel_rfl) (fun _ _ _ h => h) (Or.inl ⟨by rfl, ?_⟩) ?_ ?_
        rotate_left
        · intro w'
          go_simp
          with_reducible rfl
        rotate_left
        · simp only [Act.put, List.setIfInBounds_toArray, List.set_cons_zero, List.set_cons_succ, i64_w, i32_w]
          rfl
        refine take_ (i := 4) (N := some 32) (v := ?_) (a' := ?_) #[true, true, true, true, true, false, false, false, false, false, false, false, false, false] rfl rfl (by kernel_rfl) (fun _ _ _ h => h) (Or.inl ⟨by rfl, ?_⟩) hHeld ?_ ?_
        rotate_left
        · intro w' s0
          obtain ⟨c0, c1, c2, c3, c4, c5, c6, c7, c8, c9⟩ := stp_at (Kd.C_below HR.out (below_step HB.out s0)) k HS.out
          go_simp
          with_reducible rfl
        rotate_left
        · simp only [Act.put, List.setIfInBounds_toArray, List.set_cons_zero, List.set_cons_succ, i64_w, i32_w]
          rfl
        refine pure_ (i := 5) (N := some 33) (v := ?_) (a' := ?_) #[true, true, true, true, true, true, false, false, false, false, false, false, false, false] rfl rfl (by kernel_rfl) (fun _ _ _ h => h) (Or.inl ⟨by rfl, ?_⟩) ?_ ?_
        rotate_left
        · intro w'
          go_simp
          with_reducible rfl
        rotate_left
        · simp only [Act.put, List.setIfInBounds_toArray, List.set_cons_zero, List.set_cons_succ, i64_w, i32_w]
          rfl
        refine take_ (i := 6) (N := some 34) (v := ?_) (a' := ?_) #[true, true, true, true, true, true, true, false, false, false, false, false, false, false] rfl rfl (by kernel_rfl) (fun _ _ _ h => h) (Or.inl ⟨by rfl, ?_⟩) hHeld ?_ ?_
        rotate_left
        · intro w' s0
          have hz := blk_cell (blk_below HZ'.out s0)
          unfold cfgC at hz
          go_simp
          with_reducible rfl
        rotate_left
        · simp only [Act.put, List.setIfInBounds_toArray, List.set_cons_zero, List.set_cons_succ, i64_w, i32_w]
          rfl
        refine pure_ (i := 7) (N := some 35) (v := ?_) (a' := ?_) #[true, true, true, true, true, true, true, true, false, false, false, false, false, false] rfl rfl (by kernel_rfl) (fun _ _ _ h => h) (Or.inl ⟨by rfl, ?_⟩) ?_ ?_
        rotate_left
        · intro w'
          go_simp
          with_reducible rfl
        rotate_left
        · simp only [Act.put, List.setIfInBounds_toArray, List.set_cons_zero, List.set_cons_succ, i64_w, i32_w]
          rfl
        refine pure_ (i := 8) (N := some 36) (v := ?_) (a' := ?_) #[true, true, true, true, true, true, true, true, true, false, false, false, false, false] rfl rfl (by kernel_rfl) (fun _ _ _ h => h) (Or.inl ⟨by rfl, ?_⟩) ?_ ?_
        rotate_left
        · intro w'
          go_simp
          with_reducible rfl
        rotate_left
        · simp only [Act.put, List.setIfInBounds_toArray, List.set_cons_zero, List.set_cons_succ, i64_w, i32_w]
          rfl
        refine take_ (i := 9) (N := some 37) (v := ?_) (a' := ?_) #[true, true, true, true, true, true, true, true, true, true, false, false, false, false] rfl rfl (by kernel_rfl) (fun _ _ _ h => h) (Or.inl ⟨by rfl, ?_⟩) hHeld ?_ ?_
        rotate_left
        · intro w' s0
          obtain ⟨c0, c1, c2, c3, c4, c5, c6, c7, c8, c9⟩ := stp_at (Kd.C_below HR'.out (below_step HB.out s0)) k HS.out
          go_simp
          with_reducible rfl
        rotate_left
        · simp only [Act.put, List.setIfInBounds_toArray, List.set_cons_zero, List.set_cons_succ, i64_w, i32_w]
          rfl
        refine two_ (i := 10) (j := 11) (Ni := some 6) (Nj := some 7) #[true, true, true, true, true, true, true, true, true, true, true, false, false, false] #[true, true, true, true, true, true, true, true, true, true, false, true, false, false] rfl rfl rfl rfl (by kernel_rfl) (by decide) (by decide) (fun K hK => ?_) (fun K hK => ?_)
        · refine value_ (v := ?_) (w1 := ?_) (by rfl) rfl ?_ ?_
          rotate_left 2
          · go_simp
            refine And.intro ?_ ?_
            · rfl
            · rfl
          refine hK.out _ _ (by repeat (first | (with_reducible exact Below.refl _ _) | (with_reducible refine below_drew1 ?_) | (refine Below.alloc ?_ (by first | (simp; done) | (simp; omega)) _) | (refine Below.setCell ?_ (by first | (simp; done) | (simp; omega)) _))) (fun hHeld => ?_)
          clear hK K
          refine norm_ (a' := ?_) ?_ ?_
          rotate_left
          · show Act.put _ (some 6) _ = _
            simp only [Act.put, List.setIfInBounds_toArray, List.set_cons_zero, List.set_cons_succ, i64_w, i32_w]
            rfl
          refine one_ (i := 11) (N := some 7) #[true, true, true, true, true, true, true, true, true, true, true, true, false, false] rfl rfl (by kernel_rfl) (by decide) (fun K hK => ?_)
          refine value_ (v := ?_) (w1 := ?_) (by rfl) rfl ?_ ?_
          rotate_left 2
          · go_simp
            refine And.intro ?_ ?_
            · rfl
            · rfl
          refine hK.out _ _ (by repeat (first | (with_reducible exact Below.refl _ _) | (with_reducible refine below_drew1 ?_) | (refine Below.alloc ?_ (by first | (simp; done) | (simp; omega)) _) | (refine Below.setCell ?_ (by first | (simp; done) | (simp; omega)) _))) (fun hHeld => ?_)
          clear hK K
          refine norm_ (a' := ?_) ?_ ?_
          rotate_left
          · show Act.put _ (some 7) _ = _
            simp only [Act.put, List.setIfInBounds_toArray, List.set_cons_zero, List.set_cons_succ, i64_w, i32_w]
            rfl
          refine one_ (i := 12) (N := none) #[true, true, true, true, true, true, true, true, true, true, true, true, true, false] rfl rfl (by kernel_rfl) (by decide) (fun K hK => ?_)
          refine skip_ (w1 := ?_) (by rfl) rfl ?_ ?_
          rotate_left
          · go_simp
            rfl
          refine hK.out _ _ (by repeat (first | (with_reducible exact Below.refl _ _) | (with_reducible refine below_drew1 ?_) | (refine Below.alloc ?_ (by first | (simp; done) | (simp; omega)) _) | (refine Below.setCell ?_ (by first | (simp; done) | (simp; omega)) _))) (fun hHeld => ?_)
          clear hK K
          refine one_ (i := 13) (N := none) #[true, true, true, true, true, true, true, true, true, true, true, true, true, true] rfl rfl (by kernel_rfl) (by decide) (fun K hK => ?_)
          refine skip_ (w1 := ?_) (by rfl) rfl ?_ ?_
          rotate_left
          · go_simp
            rfl
          refine hK.out _ _ (by repeat (first | (with_reducible exact Below.refl _ _) | (with_reducible refine below_drew1 ?_) | (refine Below.alloc ?_ (by first | (simp; done) | (simp; omega)) _) | (refine Below.setCell ?_ (by first | (simp; done) | (simp; omega)) _))) (fun hHeld => ?_)
          clear hK K
          refine done_ (by kernel_rfl) ?_
          go_wp2
          go_meet
          case rel => exact ⟨_, _, rfl, rfl, two_s0 wr s, two_s1 wr s, Below.alloc (Below.alloc (below_drew1 (Below.refl _ _)) (Nat.le_refl _) _) (by simp) _⟩
        · refine value_ (v := ?_) (w1 := ?_) (by rfl) rfl ?_ ?_
          rotate_left 2
          · go_simp
            refine And.intro ?_ ?_
            · rfl
            · rfl
          refine hK.out _ _ (by repeat (first | (with_reducible exact Below.refl _ _) | (with_reducible refine below_drew1 ?_) | (refine Below.alloc ?_ (by first | (simp; done) | (simp; omega)) _) | (refine Below.setCell ?_ (by first | (simp; done) | (simp; omega)) _))) (fun hHeld => ?_)
          clear hK K
          refine norm_ (a' := ?_) ?_ ?_
          rotate_left
          · show Act.put _ (some 7) _ = _
            simp only [Act.put, List.setIfInBounds_toArray, List.set_cons_zero, List.set_cons_succ, i64_w, i32_w]
            rfl
          refine one_ (i := 10) (N := some 6) #[true, true, true, true, true, true, true, true, true, true, true, true, false, false] rfl rfl (by kernel_rfl) (by decide) (fun K hK => ?_)
          refine value_ (v := ?_) (w1 := ?_) (by rfl) rfl ?_ ?_
          rotate_left 2
          · go_simp
            refine And.intro ?_ ?_
            · rfl
            · rfl
          refine hK.out _ _ (by repeat (first | (with_reducible exact Below.refl _ _) | (with_reducible refine below_drew1 ?_) | (refine Below.alloc ?_ (by first | (simp; done) | (simp; omega)) _) | (refine Below.setCell ?_ (by first | (simp; done) | (simp; omega)) _))) (fun hHeld => ?_)
          clear hK K
          refine norm_ (a' := ?_) ?_ ?_
          rotate_left
          · show Act.put _ (some 6) _ = _
            simp only [Act.put, List.setIfInBounds_toArray, List.set_cons_zero, List.set_cons_succ, i64_w, i32_w]
            rfl
          refine one_ (i := 12) (N := none) #[true, true, true, true, true, true, true, true, true, true, true, true, true, false] rfl rfl (by kernel_rfl) (by decide) (fun K hK => ?_)
          refine skip_ (w1 := ?_) (by rfl) rfl ?_ ?_
          rotate_left
          · go_simp
            rfl
          refine hK.out _ _ (by repeat (first | (with_reducible exact Below.refl _ _) | (with_reducible refine below_drew1 ?_) | (refine Below.alloc ?_ (by first | (simp; done) | (simp; omega)) _) | (refine Below.setCell ?_ (by first | (simp; done) | (simp; omega)) _))) (fun hHeld => ?_)
          clear hK K
          refine one_ (i := 13) (N := none) #[true, true, true, true, true, true, true, true, true, true, true, true, true, true] rfl rfl (by kernel_rfl) (by decide) (fun K hK => ?_)
          refine skip_ (w1 := ?_) (by rfl) rfl ?_ ?_
          rotate_left
          · go_simp
            rfl
          refine hK.out _ _ (by repeat (first | (with_reducible exact Below.refl _ _) | (with_reducible refine below_drew1 ?_) | (refine Below.alloc ?_ (by first | (simp; done) | (simp; omega)) _) | (refine Below.setCell ?_ (by first | (simp; done) | (simp; omega)) _))) (fun hHeld => ?_)
          clear hK K
          refine done_ (by kernel_rfl) ?_
          go_wp2
          go_meet
          case rel => exact ⟨_, _, rfl, rfl, two_s1 wr s, two_s0 wr s, Below.alloc (Below.alloc (below_drew1 (Below.refl _ _)) (Nat.le_refl _) _) (by simp) _⟩
      case rest =>
        obtain ⟨p, q, rfl, rfl, hp, hq, hb⟩ := hcut
        have hx := blk_cell hp
        have hxf := blk_frozen hp
        have hy := blk_cell hq
        have hyf := blk_frozen hq
        have B5 := Aside0.mk hb
        unfold stepC at hx hy
        clear hp hq hb
        go_wp2_with (go_at_call 18; refine (HSO.out _).mono ?_; rintro e w6 ⟨rfl, b6⟩; have B6 := Aside0.mk (below_step B5.out b6); clear b6)
        go_roundg (gk - 1)
        case measure => have := HK.out; omega
        case rel => exact ⟨k + 1, by go_num, ⟨by have := HK.out; omega⟩, ⟨blk_below HZ.out B6.out⟩, ⟨blk_below HZ'.out B6.out⟩, ⟨below_step HB.out B6.out⟩⟩
    · obtain rfl : k = l.length := by have := HK.out; omega
      go_wp2
      go_ret
      exact ⟨rfl, HB.out⟩
end Go.Proofs.YtpgjilakcepilaaGreat.PV
