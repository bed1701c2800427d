/- The contracts of slices.IndexFunc and ContainsFunc at steps, with script.Right's own test. -/
import Derived.Test.YtpgjilakcepilaaGreatVH
namespace Go.Proofs.YtpgjilakcepilaaGreat.PV
open Go.RowKit Go.Proofs.YtpgjilakcepilaaGreat.PScriptReads Go.Proofs.YtpgjilakcepilaaGreatW.PrintWords Go.Proofs.YtpgjilakcepilaaGreatW.PrintLast Go.Proofs.YtpgjilakcepilaaGreatW.PrintMore
set_option linter.unusedVariables false
set_option linter.unusedSimpArgs false
attribute [local go_sem] run_store_complex

set_option maxHeartbeats 1000000 in
set_option maxRecDepth 100000 in
theorem wrong_any (s : Stp) (w : World) : Calls Tryz.prog 30 #[stepV s] w fun e w' => e = .returned (.bool (!rightB s)) ∧ Below w.heap.size w w' := by
  have HR := Aside0.mk (right_any s)
  unfold stepV at HR ⊢
  go_enter Tryz.func30, Tryz.ntmps30
  go_wp2_with (go_at_call 31; refine (HR.out _).mono ?_; rintro e w' ⟨rfl, b1⟩; have B1 := Aside0.mk b1; clear b1)
  go_ret
  exact ⟨rfl, below_step ((Below.refl _ _).alloc (Nat.le_refl _) _) B1.out⟩
theorem stepC_one (s : Stp) : ∀ u ∈ stepC s, u.oneCell' = true := by
  intro u hu
  simp only [stepC, List.mem_cons, List.not_mem_nil, or_false] at hu
  rcases hu with rfl | rfl | rfl | rfl | rfl | rfl | rfl | rfl | rfl | rfl <;> rfl
/-- steps as elements of a slice -/
def kStp : Kd Stp where
  sz := 10
  E := []
  K := fun _ x cs => cs = stepC x
  M := fun _ _ _ x cs => cs = stepC x
  K_len := fun h => by rw [h]; rfl
  K_one := fun h u hu => by rw [h] at hu; exact stepC_one _ u hu
  K_below := fun _ h => h
  K_of_M := fun h => h
  M_mono := fun _ h => h
  M_bound := fun h => h
  M_move := fun _ h => h
  M_lower := fun _ h => h
theorem at_stp {w : World} {A : Option Addr} {n : Nat} {xs : List Stp} (h : kStp.C w A n xs) (i : Nat) (hi : i < n) : ∃ (ad : Addr) (s : Stp), A = some ad ∧ xs[i]? = some s ∧ ∀ j u, (stepC s)[j]? = some u → w.cell? (ad.add (i * 10 + j)) = some u := by
  obtain ⟨ad, e, hc⟩ := h.2.2 (by omega)
  have hl : i < xs.length := by have := h.1; omega
  obtain ⟨c, _, hK, hcell⟩ := hc i _ (List.getElem?_eq_getElem hl)
  have hK' : c = stepC xs[i] := hK
  subst hK'
  exact ⟨ad, xs[i], e, List.getElem?_eq_getElem hl, hcell⟩
theorem at_stp' {w : World} {A : Option Addr} {n : Nat} {xs : List Stp} (h : kStp.C w A n xs) (i : Nat) (hi : i < n) : ∃ (ad : Addr) (s : Stp), A = some ad ∧ xs[i]? = some s ∧ w.cell? (ad.add (i * 10)) = some (.int .i64 s.kind) ∧ w.cell? ⟨(ad.add (i * 10)).block, (ad.add (i * 10)).off + 1, none⟩ = some (.int .i64 s.client) ∧ w.cell? ⟨(ad.add (i * 10)).block, (ad.add (i * 10)).off + 2, none⟩ = some (.int .i64 s.lane) ∧ w.cell? ⟨(ad.add (i * 10)).block, (ad.add (i * 10)).off + 3, none⟩ = some (.int .i64 s.n) ∧ w.cell? ⟨(ad.add (i * 10)).block, (ad.add (i * 10)).off + 4, none⟩ = some (.int .i64 s.at_) ∧ w.cell? ⟨(ad.add (i * 10)).block, (ad.add (i * 10)).off + 5, none⟩ = some (.int .u16 s.mask) ∧ w.cell? ⟨(ad.add (i * 10)).block, (ad.add (i * 10)).off + 6, none⟩ = some (.int .i64 s.opk) ∧ w.cell? ⟨(ad.add (i * 10)).block, (ad.add (i * 10)).off + 7, none⟩ = some (.int .i64 s.page) ∧ w.cell? ⟨(ad.add (i * 10)).block, (ad.add (i * 10)).off + 8, none⟩ = some (.int .i64 s.obj) ∧ w.cell? ⟨(ad.add (i * 10)).block, (ad.add (i * 10)).off + 9, none⟩ = some (.complex .f64 s.re s.im) := by
  obtain ⟨ad, s, e, hs, hcell⟩ := at_stp h i hi
  exact ⟨ad, s, e, hs, by have hq := hcell 0 _ rfl; rwa [Nat.add_zero] at hq, by rw [← add_field _ _ 1 (by omega)]; exact hcell 1 _ rfl, by rw [← add_field _ _ 2 (by omega)]; exact hcell 2 _ rfl, by rw [← add_field _ _ 3 (by omega)]; exact hcell 3 _ rfl, by rw [← add_field _ _ 4 (by omega)]; exact hcell 4 _ rfl, by rw [← add_field _ _ 5 (by omega)]; exact hcell 5 _ rfl, by rw [← add_field _ _ 6 (by omega)]; exact hcell 6 _ rfl, by rw [← add_field _ _ 7 (by omega)]; exact hcell 7 _ rfl, by rw [← add_field _ _ 8 (by omega)]; exact hcell 8 _ rfl, by rw [← add_field _ _ 9 (by omega)]; exact hcell 9 _ rfl⟩
set_option maxHeartbeats 1000000 in
set_option maxRecDepth 100000 in
theorem index_any (A : Option Addr) (c : Nat) (l : List Stp) (w : World) (hr : kStp.C w A l.length l) (hL : l.length ≤ 1000) (fv : Value) (hf : fv = .func (.func 30) #[] #[]) :
    Calls Tryz.prog 63 #[.slice A l.length c, fv] w fun e w' => ∃ r : Int, e = .returned (.int .i64 r) ∧ decide (0 ≤ r) = l.any (fun s => !rightB s) ∧ Below w.heap.size w w' := by
  subst hf
  have HR := Aside0.mk hr
  have HB := Aside0.mk (Below.refl w.heap.size w)
  clear hr
  go_enter Tryz.func63, Tryz.ntmps63
  go_wp2
  go_loopg [8] l.length (fun kq v8 w' => ∃ k : Nat, v8 = .int .i64 k ∧ Aside0 (k + kq = l.length) ∧ Aside0 (∀ s ∈ l.take k, rightB s = true) ∧ Aside0 (Below w.heap.size w w'))
  case atStart => exact ⟨0, rfl, ⟨by omega⟩, ⟨by simp⟩, HB⟩
  case round =>
    obtain ⟨k, rfl, HK, HA, HB⟩ := hrel
    by_cases hk : k < l.length
    · have hk1 := hk
      obtain ⟨ad, s, rfl, hs, c0, c1, c2, c3, c4, c5, c6, c7, c8, c9⟩ := at_stp' (Kd.C_below HR.out HB.out) k hk
      have HS := Aside0.mk hs
      have HWR := Aside0.mk (wrong_any s)
      clear hs
      unfold stepV at HWR
      cases hrs : rightB s with
      | true =>
        have HRS := Aside0.mk hrs
        clear hrs
        go_wp2_with (go_at_call 30; refine (HWR.out _).mono ?_; rw [HRS.out]; rintro e w' ⟨rfl, b1⟩; have B1 := Aside0.mk b1; clear b1)
        go_roundg (gk - 1)
        case measure => have := HK.out; omega
        case rel => exact ⟨k + 1, by go_num, ⟨by have := HK.out; omega⟩, ⟨fun x hx => by
          rw [List.take_add_one, HS.out] at hx
          rcases List.mem_append.1 hx with hx | hx
          · exact HA.out x hx
          · simp at hx
            rw [hx]
            exact HRS.out⟩, ⟨below_step HB.out B1.out⟩⟩
      | false =>
        have HRS := Aside0.mk hrs
        clear hrs
        go_wp2_with (go_at_call 30; refine (HWR.out _).mono ?_; rw [HRS.out]; rintro e w' ⟨rfl, b1⟩; have B1 := Aside0.mk b1; clear b1)
        go_ret
        refine ⟨k, rfl, ?_, below_step HB.out B1.out⟩
        rw [decide_eq_true (by omega : (0 : Int) ≤ (k : Int))]
        exact (List.any_eq_true.2 ⟨s, List.mem_of_getElem? HS.out, by rw [HRS.out]; rfl⟩).symm
    · obtain rfl : k = l.length := by have := HK.out; omega
      go_wp2
      go_ret
      refine ⟨-1, rfl, ?_, HB.out⟩
      rw [decide_eq_false (by omega : ¬ (0 : Int) ≤ -1)]
      have h := HA.out
      rw [List.take_length] at h
      refine (List.any_eq_false.2 fun x hx => ?_).symm
      rw [h x hx]
      simp
set_option maxHeartbeats 1000000 in
set_option maxRecDepth 100000 in
theorem contains_any (A : Option Addr) (c : Nat) (l : List Stp) (w : World) (hr : kStp.C w A l.length l) (hL : l.length ≤ 1000) :
    Calls Tryz.prog 29 #[.slice A l.length c, .func (.func 30) #[] #[]] w fun e w' => e = .returned (.bool (l.any (fun s => !rightB s))) ∧ Below w.heap.size w w' := by
  have HX := Aside0.mk (index_any A c l w hr hL _ rfl)
  clear hr
  go_enter Tryz.func29, Tryz.ntmps29
  go_wp2_with (go_at_call 63; refine HX.out.mono ?_; rintro e w' ⟨r, rfl, hd, b1⟩; have B1 := Aside0.mk b1; have HD := Aside0.mk hd; clear b1 hd)
  go_ret
  exact ⟨ret_bool HD.out, B1.out⟩
end Go.Proofs.YtpgjilakcepilaaGreat.PV
