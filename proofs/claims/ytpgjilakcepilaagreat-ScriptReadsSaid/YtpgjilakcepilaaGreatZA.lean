/- What scriptAlive and house.New say; no condition. -/
import Derived.Test.YtpgjilakcepilaaGreatZP
import Derived.Test.YtpgjilakcepilaaGreatZN
import Derived.Test.YtpgjilakcepilaaGreatVY
namespace Go.Proofs.YtpgjilakcepilaaGreat.alive
open Go.RowKit Go.Proofs.YtpgjilakcepilaaGreat.PScriptReads Go.Proofs.YtpgjilakcepilaaGreat.PV Go.Proofs.YtpgjilakcepilaaGreatW.PrintWords Go.Proofs.YtpgjilakcepilaaGreatW.PrintLast Go.Proofs.YtpgjilakcepilaaGreatW.PrintMore
open Ab hiding plain
set_option linter.unusedSectionVars false
set_option linter.unusedVariables false
section
variable [Tok]
theorem s95 : ∀ p ∈ l95, SumOk Tryz.prog p := List.forall_mem_cons.2 ⟨crcOk, List.forall_mem_nil _⟩
theorem q95 : CutOk Tryz.prog c95 := cut_ok tabOk (sums_ok s95) k95
theorem s234 : ∀ p ∈ l234, SumOk Tryz.prog p := List.forall_mem_cons.2 ⟨crcOk, List.forall_mem_nil _⟩
theorem q234 : CutOk Tryz.prog c234 := cut_ok tabOk (sums_ok s234) k234
theorem s233 : ∀ p ∈ l233, SumOk Tryz.prog p := List.forall_mem_cons.2 ⟨crcOk, List.forall_mem_cons.2 ⟨cutSum_ok (List.forall_mem_cons.2 ⟨⟨rfl, q234⟩, List.forall_mem_nil _⟩), List.forall_mem_nil _⟩⟩
theorem q233 : CutOk Tryz.prog c233 := cut_ok tabOk (sums_ok s233) k233
theorem sLast : ∀ p ∈ lLast, SumOk Tryz.prog p := List.forall_mem_cons.2 ⟨crcOk, List.forall_mem_cons.2 ⟨cutSum_ok (List.forall_mem_cons.2 ⟨⟨rfl, q95⟩, List.forall_mem_nil _⟩), List.forall_mem_cons.2 ⟨cutSum_ok (List.forall_mem_cons.2 ⟨⟨rfl, q233⟩, List.forall_mem_nil _⟩), List.forall_mem_nil _⟩⟩⟩
theorem walk (w : World) : Calls Tryz.prog 4 #[] w fun e w' => e = .returned (.bool true) ∧ Below w.heap.size w w' := closedP_true tabOk (sums_ok sLast) (by kernel_rfl) run w
end
def extV (m p r : Nat) (k : Nat) : Value :=
  if k = 0 then .slice none 0 0 else if k = 1 then .int .i64 (.ofNat 0) else if k = 3 then .int .i64 (.ofNat 101) else if k = 4 then .slice none 101 101
  else if k = 10 then .int .i64 (.ofNat m) else if k = 11 then .int .i64 (.ofNat p) else if k = 12 then .int .i64 (.ofNat r) else .int .i64 (.ofNat 0)
theorem extV_plain (m p r k : Nat) : (∃ n, extV m p r k = .int .i64 n) ∨ (∃ n c, extV m p r k = .slice none n c) := by
  unfold extV
  repeat' split
  all_goals first | exact .inl ⟨_, rfl⟩ | exact .inr ⟨_, _, rfl⟩
@[reducible] def newTok (m p r : Nat) (hm : 1 ≤ m ∧ m ≤ 6) (hp : 1 ≤ p ∧ p ≤ 100) (hr : r ≤ 20000) : Tok where
  cnt := 0
  num := fun _ => 0
  inj := fun i _ h => absurd h (Nat.not_lt_zero i)
  lt := fun i h => absurd h (Nat.not_lt_zero i)
  ext := extV m p r
  extOne := fun k xs h => by rcases extV_plain m p r k with ⟨n, e⟩ | ⟨n, c, e⟩ <;> rw [e] at h <;> cases h
  extBool := fun k b h => by rcases extV_plain m p r k with ⟨n, e⟩ | ⟨n, c, e⟩ <;> rw [e] at h <;> cases h
  extTup := fun k xs h => by rcases extV_plain m p r k with ⟨n, e⟩ | ⟨n, c, e⟩ <;> rw [e] at h <;> cases h
  short := ⟨none, 0, 0, rfl, rfl, by decide⟩
  long := ⟨none, 101, 101, rfl, rfl, by decide⟩
  rng := fun k hk => by
    have h : k = 0 ∨ k = 1 ∨ k = 2 := by omega
    rcases h with rfl | rfl | rfl
    · exact ⟨m, rfl, hm.1, hm.2⟩
    · exact ⟨p, rfl, hp.1, hp.2⟩
    · exact ⟨r, rfl, Nat.zero_le _, hr⟩
theorem alive_says : AliveSays := fun w => by
  letI : Tok := newTok 1 1 1 ⟨by decide, by decide⟩ ⟨by decide, by decide⟩ (by decide)
  exact walk w
theorem isNew_some {r : Option (Value × St)} (h : isNew r = true) : ∃ (p : Value) (s : St), r = some (.tuple #[p, .int .i64 0], s) := by
  unfold isNew at h
  split at h
  · rename_i xs s
    split at h
    · rename_i p n hl
      obtain ⟨xs⟩ := xs
      cases hl
      have h := Nat.eq_of_beq_eq_true h
      subst h
      exact ⟨p, s, rfl⟩
    · cases h
  · cases h
theorem new_at (c f m p r : Nat) (hm : 1 ≤ m ∧ m ≤ 6) (hp : 1 ≤ p ∧ p ≤ 100) (hr : r ≤ 20000) (h : ∀ [Tok], isNew (aCallP tab (sumsOf []) 1000000 200 19 (newArgs c f) ⟨.leaf, 0⟩) = true) (w : World) :
    Calls Tryz.prog 19 #[.agg #[.int .i64 (.ofNat c), .int .i64 (.ofNat f), .int .i64 (.ofNat m), .int .i64 (.ofNat p), .int .i64 (.ofNat r)]] w fun e w' => ∃ v : Value, e = .returned (.tuple #[v, .int .i64 0]) ∧ Below w.heap.size w w' := by
  letI : Tok := newTok m p r hm hp hr
  obtain ⟨v, s, hs⟩ := isNew_some h
  have hS := sums_ok (P := Tryz.prog) (l := []) (List.forall_mem_nil _)
  have hrel : LRel (fun _ => none) (newArgs c f) [.agg #[.int .i64 (.ofNat c), .int .i64 (.ofNat f), .int .i64 (.ofNat m), .int .i64 (.ofNat p), .int .i64 (.ofNat r)]] := by
    refine .cons (.agg rfl fun i h1 h2 => ?_) .nil
    have hi : i = 0 ∨ i = 1 ∨ i = 2 ∨ i = 3 ∨ i = 4 := by
      have : i < 5 := h1
      omega
    rcases hi with rfl | rfl | rfl | rfl | rfl
    · exact .int _ _
    · exact .int _ _
    · exact .ext 10
    · exact .ext 11
    · exact .ext 12
  obtain ⟨_, _, hc⟩ := (aCallP_sound tabOk (hS w.heap.size w) 1000000 200 19 (newArgs c f) _ _ _ hs (fun _ => none) w #[_] (inv_start w) hrel).1 (by decide)
  refine (callsIn_wide.1 (hc Fence.wide 0 free_wide)).mono ?_
  rintro e w' ⟨σ', v', he, _, hI, hv⟩
  cases hv with
  | @tuple xs xs' h1 h3 =>
  obtain ⟨xs'⟩ := xs'
  match xs', h1, h3 with
  | [a, b], h1, h3 =>
    have h4 := h3 1 (Nat.lt_succ_self 1) (Nat.lt_succ_self 1)
    cases h4
    exact ⟨a, he, hI.below⟩
theorem between_f (a lo hi : Int) : house_between.f a lo hi = some (btw a lo hi) := by
  unfold house_between.f btw
  split
  · rename_i h
    rw [decide_eq_true h, Bool.true_and]
  · rename_i h
    rw [decide_eq_false h, Bool.false_and]
theorem right_f (g : Cfg) : house_right.f g.clients g.frames g.many g.patience g.room = some (cfgB g) := by
  unfold house_right.f cfgB
  simp only [between_f, Option.bind_some]
  cases btw g.clients 1 4 <;> cases btw g.frames 1 6 <;> cases btw g.many 1 6 <;> cases btw g.patience 1 100 <;> cases btw g.room 0 20000 <;> rfl
set_option maxHeartbeats 1000000 in
set_option maxRecDepth 100000 in
theorem new_bad (g : Cfg) (h : cfgB g = false) (w : World) : Calls Tryz.prog 19 #[cfgV g] w fun e w' => e = .returned (.tuple #[.pointer none, .int .i64 211]) ∧ Below w.heap.size w w' := by
  have HN := Aside0.mk (fun W => house_right.calls _ _ _ _ _ _ W (right_f g))
  rw [h] at HN
  unfold cfgV
  clear h
  go_enter Tryz.func19, Tryz.ntmps19
  go_wp2_with (go_at_call 39; refine (HN.out _).mono ?_; rintro e w2 ⟨rfl, b2⟩; have B2 := Aside0.mk b2; clear b2)
  go_ret2
  exact ⟨rfl, below_step ((Below.refl _ _).alloc (Nat.le_refl _) _) B2.out⟩
theorem new_says : NewSays := by
  intro g w
  cases h : cfgB g with
  | false => exact (new_bad g h w).mono fun e w' ⟨h1, h2⟩ => ⟨_, h1, h2⟩
  | true =>
    obtain ⟨clients, frames, many, patience, room⟩ := g
    unfold cfgB btw at h
    simp only [Bool.and_eq_true, decide_eq_true_eq] at h
    obtain ⟨⟨h1, h2⟩, ⟨h3, h4⟩, ⟨h5, h6⟩, ⟨h7, h8⟩, h9, h10⟩ := h
    obtain ⟨m, rfl⟩ := Int.eq_ofNat_of_zero_le (show 0 ≤ many by omega)
    obtain ⟨p, rfl⟩ := Int.eq_ofNat_of_zero_le (show 0 ≤ patience by omega)
    obtain ⟨r, rfl⟩ := Int.eq_ofNat_of_zero_le (show 0 ≤ room by omega)
    have hm : 1 ≤ m ∧ m ≤ 6 := by omega
    have hp : 1 ≤ p ∧ p ≤ 100 := by omega
    have hr : r ≤ 20000 := by omega
    have hc : clients = 1 ∨ clients = 2 ∨ clients = 3 ∨ clients = 4 := by omega
    have hf : frames = 1 ∨ frames = 2 ∨ frames = 3 ∨ frames = 4 ∨ frames = 5 ∨ frames = 6 := by omega
    rcases hc with rfl | rfl | rfl | rfl
    · rcases hf with rfl | rfl | rfl | rfl | rfl | rfl
      · exact new_at 1 1 m p r hm hp hr n11 w
      · exact new_at 1 2 m p r hm hp hr n12 w
      · exact new_at 1 3 m p r hm hp hr n13 w
      · exact new_at 1 4 m p r hm hp hr n14 w
      · exact new_at 1 5 m p r hm hp hr n15 w
      · exact new_at 1 6 m p r hm hp hr n16 w
    · rcases hf with rfl | rfl | rfl | rfl | rfl | rfl
      · exact new_at 2 1 m p r hm hp hr n21 w
      · exact new_at 2 2 m p r hm hp hr n22 w
      · exact new_at 2 3 m p r hm hp hr n23 w
      · exact new_at 2 4 m p r hm hp hr n24 w
      · exact new_at 2 5 m p r hm hp hr n25 w
      · exact new_at 2 6 m p r hm hp hr n26 w
    · rcases hf with rfl | rfl | rfl | rfl | rfl | rfl
      · exact new_at 3 1 m p r hm hp hr n31 w
      · exact new_at 3 2 m p r hm hp hr n32 w
      · exact new_at 3 3 m p r hm hp hr n33 w
      · exact new_at 3 4 m p r hm hp hr n34 w
      · exact new_at 3 5 m p r hm hp hr n35 w
      · exact new_at 3 6 m p r hm hp hr n36 w
    · rcases hf with rfl | rfl | rfl | rfl | rfl | rfl
      · exact new_at 4 1 m p r hm hp hr n41 w
      · exact new_at 4 2 m p r hm hp hr n42 w
      · exact new_at 4 3 m p r hm hp hr n43 w
      · exact new_at 4 4 m p r hm hp hr n44 w
      · exact new_at 4 5 m p r hm hp hr n45 w
      · exact new_at 4 6 m p r hm hp hr n46 w
end Go.Proofs.YtpgjilakcepilaaGreat.alive
