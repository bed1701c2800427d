/- The short run is sound over the model: a part of the proof. -/
import Derived.Test.YtijfafacddefhaaXS17
namespace Go.Proofs.Ytijfafacddefhaa.Ab
open Go.RowKit

theorem argsE_get : ∀ (args : List Value) (i : Nat) (e : Tree Value) (t : Nat), (argsE args i e).get t = if i ≤ t ∧ t < i + args.length then args[t - i]? else e.get t
  | [], i, e, t => by simp [argsE]; omega
  | v :: r, i, e, t => by
    simp only [argsE]
    rw [argsE_get r (i + 1) _ t, Tree.get_set]
    simp only [List.length_cons]
    by_cases h1 : i + 1 ≤ t ∧ t < i + 1 + r.length
    · rw [if_pos h1, if_pos (by omega), show t - i = (t - (i + 1)) + 1 by omega]
      simp
    · rw [if_neg h1]
      by_cases h2 : t = i
      · subst h2
        rw [if_pos rfl, if_pos (by omega)]
        simp
      · rw [if_neg h2, if_neg (by omega)]
theorem args_env {σ : Inj} {args : List Value} {args' : Array Value} {n : Nat} (h : LRel σ args args'.toList) (hn : args.length ≤ n) :
    EnvRel σ n (argsE args 0 .leaf) (args' ++ Array.replicate (n - args'.size) undef) := by
  have hl : args'.size = args.length := by simpa using h.length
  refine ⟨by simp; omega, fun t ht => ?_, fun t ht => ?_⟩
  · rw [argsE_get]
    by_cases h1 : t < args.length
    · rw [if_pos (by omega)]
      obtain ⟨v', hv', hr⟩ := h.get t args[t] (by simp [h1])
      have hlt : t < args'.size := by omega
      rw [Array.getElem_append_left hlt]
      have e1 : args'[t] = v' := by
        have : args'.toList[t]? = some args'[t] := by simp [hlt]
        rw [hv'] at this
        cases this; rfl
      rw [e1]
      simpa [h1] using hr
    · rw [if_neg (by omega)]
      rw [Array.getElem_append_right (by omega)]
      simpa [Tree.get] using undef_rel
  · rw [argsE_get, if_neg (by omega)]; rfl

section
variable {T : Tab} {P : Program} (hT : T.Ok P) {B0 : Nat} {w0 : World}
def resSem (tmps : Array Value) (r : ResultVar) : Sem Value :=
  match r with
  | .tmp t => Pure.pure (tmps.getD t undef)
  | .cell a t => do loadVar t (← asAddr (tmps.getD a undef))
include hT
theorem aResult_sound {σ : Inj} {s : St} {w : World} {n : Nat} {e : Tree Value} {a : Act} (hI : Inv B0 w0 σ s w) (he : EnvRel σ n e a.tmps) {r : ResultVar} {v : Value} (h : aResult T e s r = some v) :
    ∃ v', VRel σ v v' ∧ (resSem a.tmps r).run P w = .ok v' w := by
  cases r with
  | tmp t => exact ⟨_, aOpd_sound he (x := .tmp t) h, rfl⟩
  | cell p t =>
    obtain ⟨u, hu, h⟩ := obnd_some h
    have hr := aOpd_sound he hu
    obtain ⟨v', h1, h2⟩ := aLoad_sound hT hI hr h
    refine ⟨v', h1, ?_⟩
    obtain ⟨g, hg, h⟩ := obnd_some h
    obtain ⟨b, o, rfl, h⟩ := onPtr_some h
    have hev : a.eval (.tmp p) = a.tmps.getD p undef := rfl
    rw [hev] at hr h2
    generalize hx : a.tmps.getD p undef = x at *
    cases hr with
    | ptr hb =>
      simp only [resSem, hx, asAddr]
      simpa [Instr.loadAt, Instr.sureAddr] using h2
theorem aResults_sound {σ : Inj} {s : St} {w : World} {n : Nat} {e : Tree Value} {a : Act} (hI : Inv B0 w0 σ s w) (he : EnvRel σ n e a.tmps) : ∀ {rs : List ResultVar} {l : List Value}, aResults T e s rs = some l →
    ∃ l', LRel σ l l' ∧ (rs.mapM (resSem a.tmps)).run P w = .ok l' w
  | [], l, h => by cases h; exact ⟨[], .nil, by simp⟩
  | r :: rs, l, h => by
    obtain ⟨v, hv, h⟩ := obnd_some h
    obtain ⟨l1, hl, rfl⟩ := consO_some h
    obtain ⟨v', h1, h2⟩ := aResult_sound hT hI he hv
    obtain ⟨l', h3, h4⟩ := aResults_sound hI he hl
    exact ⟨v' :: l', .cons h1 h3, by simp [List.mapM_cons, h2, h4]⟩
theorem results_sound {σ : Inj} {s : St} {w : World} {n : Nat} {e : Tree Value} {a : Act} (hI : Inv B0 w0 σ s w) (he : EnvRel σ n e a.tmps) {fn : Func} {l : List Value} (h : aResults T e s fn.results.toList = some l) :
    ∃ v', VRel σ (tupleOf l) v' ∧ (results fn a.tmps).run P w = .ok v' w := by
  obtain ⟨l', h1, h2⟩ := aResults_sound hT hI he h
  have hres : (results fn a.tmps).run P w = .ok (if h : l'.toArray.size = 1 then l'.toArray[0] else .tuple l'.toArray) w := by
    have e0 : results fn a.tmps = (do
        let vs ← fn.results.mapM (resSem a.tmps)
        Pure.pure (if h : vs.size = 1 then vs[0] else .tuple vs)) := by
      unfold results
      congr 1
    rw [e0, Array.mapM_eq_mapM_toList, Sem.run_bind, Sem.run_map, h2]
    rfl
  rw [hres]
  refine ⟨_, ?_, rfl⟩
  cases h1 with
  | nil => exact VRel.tuple' .nil
  | cons hv ht =>
    cases ht with
    | nil => simpa [tupleOf] using hv
    | cons hv2 ht => simpa [tupleOf] using VRel.tuple' (.cons hv (.cons hv2 ht))

omit hT in
theorem callOk_none : CallOk P B0 w0 fun _ _ _ => none := fun f args s v s' h => by cases h
theorem enter_ok {call : CallF} (hC : CallOk P B0 w0 call) (lf : Nat) : CallOk P B0 w0 fun f args s => obnd (T.fn f) (aEnter T call lf args s) :=
  fun f args s v s' h σ w args' hI hr => by
    obtain ⟨fn, hfn, h⟩ := obnd_some (show obnd (T.fn f) _ = some (v, s') from h)
    obtain ⟨hlen, h⟩ := cond_some h
    have hlen := ble_true hlen
    obtain ⟨c, hbody, h⟩ := obnd_some h
    obtain ⟨r, hcode, h⟩ := obnd_some h
    obtain ⟨hends, h⟩ := cond_some h
    obtain ⟨l, hl, h⟩ := obnd_some h
    cases h
    obtain ⟨hpf, hcall⟩ := hT.fn f fn hfn
    have henv := args_env hr hlen
    have main : ∀ (F : Fence) (m : Nat), Free F → F.round = none → CallsIn F m P f args' w (Ret B0 w0 σ s (tupleOf l) r.s) ∧ True := by
      intro F m hF hro
      refine ⟨callsIn_of_wp hpf hbody (hF.1 f) ?_ hro, trivial⟩
      refine (aCode_sound hT hC lf none c _ s r hcode σ { tmps := args' ++ Array.replicate (fn.ntmps - args'.size) undef, defers := [] } w F m _ hI henv hF ?_).1
      intro σ' a' w' x1 x2 x3 x4 x5
      obtain ⟨v', h1, h2⟩ := results_sound hT x3 x4 hl
      have : a'.defers = [] ∧ ∃ v, (results fn a'.tmps).run P w' = .ok v w' ∧ Ret B0 w0 σ s (tupleOf l) r.s (.returned v) w' :=
        ⟨x5, v', h2, σ', v', rfl, x1, x3, h1⟩
      cases hx : r.x with
      | normal => exact this
      | ret => exact this
      | exit id => rw [hx] at hends; cases hends
      | goto l => rw [hx] at hends; cases hends
    refine ⟨?_, hcall args' w, fun F m hF => (main F.plain m hF rfl).1⟩
    have hnext := (aCode_sound hT hC lf none c _ s r hcode σ { tmps := args' ++ Array.replicate (fn.ntmps - args'.size) undef, defers := [] } w Fence.wide 0 (fun _ _ _ => s.next ≤ r.s.next) hI henv free_wide
      (fun _ _ _ _ x2 _ _ _ => x2)).1 default [] [] rfl trivial (room_wide _)
    obtain ⟨_, _, _, hq, _⟩ := hnext
    exact hq
theorem aCall_sound (lf : Nat) : ∀ d, CallOk P B0 w0 (aCall T lf d)
  | 0 => callOk_none
  | d + 1 => enter_ok hT (aCall_sound lf d) lf
end
end Go.Proofs.Ytijfafacddefhaa.Ab
