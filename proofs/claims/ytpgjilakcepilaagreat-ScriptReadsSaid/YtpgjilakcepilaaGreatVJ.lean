/- The contract of package script's Right, from that of house.New. -/
import Derived.Test.YtpgjilakcepilaaGreatVI
namespace Go.Proofs.YtpgjilakcepilaaGreat.PV
open Go.RowKit Go.Proofs.YtpgjilakcepilaaGreat.PScriptReads Go.Proofs.YtpgjilakcepilaaGreatW.PrintWords Go.Proofs.YtpgjilakcepilaaGreatW.PrintLast Go.Proofs.YtpgjilakcepilaaGreatW.PrintMore
set_option linter.unusedVariables false
set_option linter.unusedSimpArgs false
attribute [local go_sem] run_store_complex

/-- a world -/
structure Cfg where
  clients : Int
  frames : Int
  many : Int
  patience : Int
  room : Int
def cfgV (g : Cfg) : Value := .agg #[.int .i64 g.clients, .int .i64 g.frames, .int .i64 g.many, .int .i64 g.patience, .int .i64 g.room]
def cfgB (g : Cfg) : Bool := btw g.clients 1 4 && (btw g.frames 1 6 && (btw g.many 1 6 && (btw g.patience 1 100 && btw g.room 0 20000)))
def errN (b : Bool) : Int := if b = true then 0 else 211
/-- what house.New says -/
def NewSays : Prop := ∀ (g : Cfg) (w : World), Calls Tryz.prog 19 #[cfgV g] w fun e w' => ∃ p : Value, e = .returned (.tuple #[p, .int .i64 (errN (cfgB g))]) ∧ Below w.heap.size w w'
/-- can a script be? -/
def scriptB (g : Cfg) (l : List Stp) : Bool := decide (l.length ≤ 500) && (l.all rightB && cfgB g)
def scriptV (g : Cfg) (A : Option Addr) (n c : Nat) : Value := .agg #[.int .i64 g.clients, .int .i64 g.frames, .int .i64 g.many, .int .i64 g.patience, .int .i64 g.room, .slice A n c]
set_option maxHeartbeats 1000000 in
set_option maxRecDepth 100000 in
theorem script_any (hN : NewSays) (g : Cfg) (A : Option Addr) (c : Nat) (l : List Stp) (w : World) (hr : kStp.C w A l.length l) (hL : l.length ≤ 1000) :
    Calls Tryz.prog 14 #[scriptV g A l.length c] w fun e w' => e = .returned (.bool (scriptB g l)) ∧ Below w.heap.size w w' := by
  have HR := Aside0.mk hr
  have HL := Aside0.mk hL
  have HN := Aside0.mk (hN g)
  unfold cfgV at HN
  unfold scriptV
  clear hr
  by_cases h5 : l.length ≤ 500
  · cases ha : l.any (fun s => !rightB s) with
    | true =>
      have hall : l.all rightB = false := by
        rw [← Bool.not_eq_true]
        intro h
        obtain ⟨x, hx, h1⟩ := List.any_eq_true.1 ha
        rw [List.all_eq_true.1 h x hx] at h1
        cases h1
      have HA := Aside0.mk ha
      have HE : Hid (scriptB g l = false) := Lib.hid (by unfold scriptB; rw [hall, Bool.false_and, Bool.and_false])
      clear ha hall
      go_enter Tryz.func14, Tryz.ntmps14
      go_wp2_with (first | (go_at_call 29; refine (contains_any A c l _ (Kd.C_alloc HR.out _) HL.out).mono ?_; rw [HA.out]; rintro e w2 ⟨rfl, b2⟩; have B2 := Aside0.mk b2; clear b2))
      go_ret
      exact ⟨ret_bool (by rw [HE.out]), below_step ((Below.refl _ _).alloc (Nat.le_refl _) _) B2.out⟩
    | false =>
      have hall : l.all rightB = true := by
        rw [List.all_eq_true]
        intro x hx
        have := List.any_eq_false.1 ha x hx
        simpa using this
      have HA := Aside0.mk ha
      have HE : Hid (scriptB g l = cfgB g) := Lib.hid (by unfold scriptB; rw [hall, Bool.true_and, decide_eq_true h5, Bool.true_and])
      clear ha hall
      go_enter Tryz.func14, Tryz.ntmps14
      go_wp2_with (first | (go_at_call 29; refine (contains_any A c l _ (Kd.C_alloc HR.out _) HL.out).mono ?_; rw [HA.out]; rintro e w2 ⟨rfl, b2⟩; have B2 := Aside0.mk b2; obtain ⟨hc2, hf2⟩ := bcell b2; clear b2) | (go_at_call 19; refine (HN.out _).mono ?_; rintro e w3 ⟨p, rfl, b3⟩; have B3 := Aside0.mk b3; clear b3))
      go_ret
      refine ⟨ret_bool ?_, below_step (below_step ((Below.refl _ _).alloc (Nat.le_refl _) _) B2.out) B3.out⟩
      rw [HE.out]
      show (errN (cfgB g) == 0) = cfgB g
      cases cfgB g <;> rfl
  · have HE : Hid (scriptB g l = false) := Lib.hid (by unfold scriptB; rw [decide_eq_false h5, Bool.false_and])
    have h6 : 500 < (l.length : Int) := by omega
    clear h5
    go_enter Tryz.func14, Tryz.ntmps14
    go_wp2
    go_ret
    exact ⟨ret_bool (by rw [HE.out]), (Below.refl _ _).alloc (Nat.le_refl _) _⟩
end Go.Proofs.YtpgjilakcepilaaGreat.PV
