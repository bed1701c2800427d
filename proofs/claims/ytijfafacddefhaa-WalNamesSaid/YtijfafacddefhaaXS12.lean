/- The short run is sound over the model: a part of the proof. -/
import Derived.Test.YtijfafacddefhaaXS11
import Derived.Laws.BytesString
namespace Go.Proofs.Ytijfafacddefhaa.Ab
open Go.RowKit
section
variable {T : Tab} {P : Program} (hT : T.Ok P) {B0 : Nat} {w0 : World} {σ : Inj} {s : St} {w : World}

theorem pureArgs_sound {f : Array Value → Sem Value} {ts : List Nat} {args : List Value} {args' : Array Value} {r : AR} (hr : LRel σ args args'.toList) (h : pureArgs f T ts args s = some r) (w : World) :
    ∃ v, r = .val v s ∧ plain1 v = true ∧ (f args').run P w = .ok v w := by
  obtain ⟨hp, h⟩ := cond_some h
  obtain ⟨v, h1, h2, h3⟩ := pure_sound h w
  have he := hr.eq_of_plain1 hp
  refine ⟨v, h1, h2, ?_⟩
  have : args' = args.toArray := by rw [← he]
  rw [this]
  exact h3 P

def notIface : Value → Bool
  | .nilIface | .agg _ => false
  | _ => true
theorem eqGuard_run {op : BinOp} {t : TypeId} {x y : Operand} {a b : Value} (ha : notIface a = true) (P : Program) (w : World) : (eqGuard op t x y a b).run P w = .ok () w := by
  unfold eqGuard
  cases op <;> first | rfl | (cases a <;> first | (simp [notIface] at ha; done) | (cases b <;> rfl))
include hT
theorem eqAs_sound {n t : Nat} {d : TypeDesc} {x y x' y' : Value} {b : Bool} (hd : T.ty t = some d) (hx : VRel σ x x') (hy : VRel σ y y') (h : eqAs d x y = some b) (w : World) :
    (Op.equalIn (n + 1) t x' y').run P w = .ok b w ∧ notIface x' = true := by
  have hu := hT.ty _ _ hd
  unfold eqAs at h
  cases d <;> simp only at h
  case bool =>
    unfold eqBool at h
    split at h
    · cases h; cases hx; cases hy
      refine ⟨?_, rfl⟩
      simp only [Op.equalIn, Sem.run_bind, run_underlying hu, Result.andThen_ok]; rfl
    · cases h
  case pointer e =>
    unfold eqPtr at h
    split at h
    · cases h
      cases hx
      cases hy <;> exact ⟨by simp only [Op.equalIn, Sem.run_bind, run_underlying hu, Result.andThen_ok]; rfl, rfl⟩
    · cases h
      cases hx
      cases hy
      exact ⟨by simp only [Op.equalIn, Sem.run_bind, run_underlying hu, Result.andThen_ok]; rfl, rfl⟩
    · cases h
  case slice e =>
    unfold eqSl at h
    split at h
    · cases h
      cases hx
      cases hy <;> exact ⟨by simp only [Op.equalIn, Sem.run_bind, run_underlying hu, Result.andThen_ok]; rfl, rfl⟩
    · cases h
      cases hy
      cases hx <;> exact ⟨by simp only [Op.equalIn, Sem.run_bind, run_underlying hu, Result.andThen_ok]; rfl, rfl⟩
    · cases h
  case map k e =>
    unfold eqMap at h
    split at h
    · cases h
      cases hx
      cases hy <;> exact ⟨by simp only [Op.equalIn, Sem.run_bind, run_underlying hu, Result.andThen_ok]; rfl, rfl⟩
    · cases h
      cases hy
      cases hx
      exact ⟨by simp only [Op.equalIn, Sem.run_bind, run_underlying hu, Result.andThen_ok]; rfl, rfl⟩
    · cases h
  case func a b c =>
    unfold eqFn at h
    split at h
    · cases h
      cases hx
      cases hy
      exact ⟨by simp only [Op.equalIn, Sem.run_bind, run_underlying hu, Result.andThen_ok]; rfl, rfl⟩
    · cases h
      cases hx
      cases hy <;> exact ⟨by simp only [Op.equalIn, Sem.run_bind, run_underlying hu, Result.andThen_ok]; rfl, rfl⟩
    · cases h
      cases hy
      cases hx <;> exact ⟨by simp only [Op.equalIn, Sem.run_bind, run_underlying hu, Result.andThen_ok]; rfl, rfl⟩
    · cases h
  all_goals cases h
theorem eqOther {t : Nat} {x y x' y' : Value} {b : Bool} (hx : VRel σ x x') (hy : VRel σ y y') (h : aEq T t x y = some b) (w : World) : (Op.equal t x' y').run P w = .ok b w ∧ notIface x' = true := by
  obtain ⟨d, hd, h⟩ := obnd_some h
  have e : Op.maxDepth = 9999 + 1 := rfl
  unfold Op.equal
  rw [e]
  exact eqAs_sound hT hd hx hy h w
def scalar : Value → Bool
  | .int .. | .float .. | .complex .. | .string _ => true
  | _ => false
omit hT in
theorem binOp_other {op : BinOp} {t : TypeId} {x y : Value} (hx : ∀ k n, x ≠ .int k n) (h1 : ∀ k n, x ≠ .float k n) (h2 : ∀ k a b, x ≠ .complex k a b) (h3 : ∀ y, x ≠ .string y) (hop : op = .eql ∨ op = .neq) :
    binOp op t x y = (match op with | .eql => do pure (.bool (← Op.equal t x y)) | _ => do pure (.bool (!(← Op.equal t x y)))) := by
  rcases hop with rfl | rfl
  · cases x <;> first | rfl | exact absurd rfl (hx _ _) | exact absurd rfl (h1 _ _) | exact absurd rfl (h2 _ _ _) | exact absurd rfl (h3 _)
  · cases x <;> first | rfl | exact absurd rfl (hx _ _) | exact absurd rfl (h1 _ _) | exact absurd rfl (h2 _ _ _) | exact absurd rfl (h3 _)
theorem aBin_sound {op : BinOp} {t : Nat} {x y x' y' : Value} {r : AR} (hx : VRel σ x x') (hy : VRel σ y y') (h : aBin T op t x s y = some r) (w : World) :
    ∃ v, r = .val v s ∧ plain1 v = true ∧ (binOp op t x' y').run P w = .ok v w ∧ notIface x' = true := by
  unfold aBin at h
  split at h
  · rename_i k a
    cases hx
    unfold binInt at h
    split at h
    · rename_i k' b
      cases hy
      obtain ⟨hc, h⟩ := cond_some h
      obtain ⟨v, hv, h⟩ := obnd_some h
      cases h
      cases hs : isShift op with
      | true =>
        obtain ⟨h1, h2⟩ := aShift_sound (P := P) (k' := k') hs hv t w
        exact ⟨v, rfl, h2, h1, rfl⟩
      | false =>
        rw [hs, Bool.or_false] at hc
        obtain rfl := keq_eq hc
        obtain ⟨h1, h2⟩ := aInt_sound (P := P) hs hv t w
        exact ⟨v, rfl, h2, h1, rfl⟩
    · cases h
  · cases hx
    obtain ⟨hp, h⟩ := cond_some h
    obtain ⟨v, h1, h2, h3⟩ := pure_sound h w
    rw [VRel.eq_of_plain1 hp hy]
    exact ⟨v, h1, h2, h3 P, rfl⟩
  · cases hx
    obtain ⟨hp, h⟩ := cond_some h
    obtain ⟨v, h1, h2, h3⟩ := pure_sound h w
    rw [VRel.eq_of_plain1 hp hy]
    exact ⟨v, h1, h2, h3 P, rfl⟩
  · cases hx
    obtain ⟨hp, h⟩ := cond_some h
    obtain ⟨v, h1, h2, h3⟩ := pure_sound h w
    rw [VRel.eq_of_plain1 hp hy]
    exact ⟨v, h1, h2, h3 P, rfl⟩
  · rename_i n1 n2 n3 n4
    obtain ⟨b, hb, h⟩ := obnd_some h
    cases h
    have m1 : ∀ k n, x' ≠ .int k n := fun k n e => by subst e; cases hx; exact n1 _ _ rfl
    have m2 : ∀ k n, x' ≠ .float k n := fun k n e => by subst e; cases hx; exact n2 _ _ rfl
    have m3 : ∀ k a b, x' ≠ .complex k a b := fun k a b e => by subst e; cases hx; exact n3 _ _ _ rfl
    have m4 : ∀ y, x' ≠ .string y := fun y e => by subst e; cases hx; exact n4 _ rfl
    unfold binOther at hb
    split at hb
    · obtain ⟨h1, h2⟩ := eqOther hT hx hy hb w
      refine ⟨_, rfl, rfl, ?_, h2⟩
      rw [binOp_other m1 m2 m3 m4 (.inl rfl)]
      simp [h1]
    · obtain ⟨b', hb', hb⟩ := obnd_some hb
      cases hb
      obtain ⟨h1, h2⟩ := eqOther hT hx hy hb' w
      refine ⟨_, rfl, rfl, ?_, h2⟩
      rw [binOp_other m1 m2 m3 m4 (.inr rfl)]
      simp [h1]
    · cases hb
omit hT in
theorem byteL_spec : ∀ {l : List Value} {bs : List UInt8}, byteL l = some bs → ∃ ns : List Int, l = ns.map (Value.int .u8) ∧
    ∀ r : ByteArray, ns.foldl (fun r n => r.push (UInt8.ofNat n.toNat)) r = ⟨r.data ++ bs.toArray⟩
  | [], bs, h => by cases h; exact ⟨[], rfl, fun r => by simp⟩
  | v :: l, bs, h => by
    unfold byteL at h
    split at h
    · rename_i n
      obtain ⟨r, hr, h⟩ := obnd_some h
      cases h
      obtain ⟨ns, h1, h2⟩ := byteL_spec hr
      refine ⟨(n : Int) :: ns, by rw [h1]; rfl, fun q => ?_⟩
      simp only [List.foldl_cons]
      rw [h2]
      have e : (q.push (UInt8.ofNat ((n : Int).toNat))).data = q.data.push (UInt8.ofNat n) := rfl
      rw [e]
      simp
    · cases h
theorem aConvert_sound (hI : Inv B0 w0 σ s w) {src dst : Nat} {x x' : Value} {r : AR} (hx : VRel σ x x') (h : aConvert T src dst s x = some r) :
    ∃ v, r = .val v s ∧ plain1 v = true ∧ (convert src dst x').run P w = .ok v w := by
  obtain ⟨sd, hs, h⟩ := obnd_some h
  obtain ⟨dd, hd, h⟩ := obnd_some h
  have hsu := hT.ty _ _ hs
  have hdu := hT.ty _ _ hd
  cases dd with
  | int k =>
    have h : convInt k s x = some r := h
    unfold convInt at h
    split at h
    · cases h
      cases hx
      refine ⟨_, rfl, rfl, ?_⟩
      simp only [convert, Sem.run_bind, run_underlying hsu, run_underlying hdu, Result.andThen_ok, Conv.intToInt, Sem.run_pure, fwrap_eq]
    · cases h
  | float k =>
    have h : convFloat k s x = some r := h
    unfold convFloat at h
    split at h
    · obtain ⟨v, h1, h2, h3⟩ := pure_sound h w
      cases hx
      refine ⟨v, h1, h2, ?_⟩
      have := h3 P
      simp only [convert, Sem.run_bind, run_underlying hsu, run_underlying hdu, Result.andThen_ok]
      cases sd <;> exact this
    · cases h
  | string =>
    cases sd with
    | slice el =>
      obtain ⟨ed, he, h⟩ := obnd_some (show obnd (T.ty el) _ = some r from h)
      obtain ⟨hb, h⟩ := cond_some h
      have hbe : ed = .int .u8 := by
        unfold isByte at hb
        split at hb
        · rfl
        · cases hb
      obtain ⟨a, n, c, rfl, h⟩ := onSlice_some h
      obtain ⟨l, hl, h⟩ := obnd_some h
      obtain ⟨bs, hbs, h⟩ := obnd_some h
      cases h
      have heu := hT.ty _ _ he
      rw [hbe] at heu
      obtain ⟨ns, hns, hfold⟩ := byteL_spec hbs
      obtain ⟨cs', hrel, hf, _⟩ := aCells_sound (P := P) hI hl hx rfl (Nat.le_refl _)
      have hcs : cs' = l := hrel.eq_of_plain1 (by rw [hns]; simp [plain1])
      refine ⟨_, rfl, rfl, ?_⟩
      have hsh : ∃ a' c', x' = .slice a' n c' := by cases hx <;> exact ⟨_, _, rfl⟩
      obtain ⟨a', c', rfl⟩ := hsh
      have hstep : (convert src dst (.slice a' n c')).run P w = (Conv.bytesToString (.slice a' n c')).run P w := by
        simp only [convert, Sem.run_bind, run_underlying hsu, run_underlying hdu, Result.andThen_ok, run_underlying heu]
      rw [hstep]
      cases a' with
      | none =>
        have : l = [] := by
          simp only [Builtin.firstCells, Sem.run_pure] at hf
          have e : (#[] : Array Value) = cs'.toArray := by injection hf
          rw [← hcs]
          have := congrArg Array.toList e
          simpa using this.symm
        rw [this] at hbs
        cases hbs
        rfl
      | some a =>
        have hload : (loadCells a n).run P w = .ok (ns.map (Value.int .u8)).toArray w := by
          have := hf
          simp only [Builtin.firstCells, Nat.mul_one] at this
          rw [this, hcs, hns]
        rw [run_bytesToString w a n c' ns hload, hfold]
        simp
    | string =>
      obtain ⟨y, rfl, h⟩ := onStr_some (show onStr x _ = some r from h)
      cases h
      cases hx
      refine ⟨_, rfl, rfl, ?_⟩
      simp only [convert, Sem.run_bind, run_underlying hsu, run_underlying hdu, Result.andThen_ok]
      rfl
    | _ => cases h
  | _ => cases h
end
end Go.Proofs.Ytijfafacddefhaa.Ab
