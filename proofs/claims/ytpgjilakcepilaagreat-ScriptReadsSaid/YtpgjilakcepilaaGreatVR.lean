/- What the printed Get and Nums of the reference say, in plain Lean. -/
import Derived.Test.YtpgjilakcepilaaGreatVJ
namespace Go.Proofs.YtpgjilakcepilaaGreat.PV
open Go.RowKit Go.Proofs.YtpgjilakcepilaaGreat.PScriptReads Go.Proofs.YtpgjilakcepilaaGreatW.PrintWords Go.Proofs.YtpgjilakcepilaaGreatW.PrintLast Go.Proofs.YtpgjilakcepilaaGreatW.PrintMore

theorem rd_nat (l : List Int) (i : Nat) : rd l ((i : Nat) : Int) = l.getD i 0 := by
  simp [rd]
theorem rget_go (l : List Int) (m : Nat) (hm : m ≤ 9) (hl : 3 * m ≤ l.length) (hb : ∀ x ∈ l, byt x) (hL : l.length ≤ 100000) : ∀ (d i k : Nat), i + d = m → d < k →
    cloakroomref02_Get.l0 k l m (nums l i) i = some (nums l m, l.drop (3 * m), 0)
  | 0, i, k, hd, hk => by
    obtain ⟨k, rfl⟩ : ∃ n, k = n + 1 := ⟨k - 1, by omega⟩
    obtain rfl : i = m := by omega
    simp only [cloakroomref02_Get.l0]
    rw [if_neg (by omega)]
    have e : wrap64 (3 * ((i : Nat) : Int)) = ((3 * i : Nat) : Int) := by rw [w64 _ (by omega) (by omega)]; omega
    simp only [e]
    simp only [Option.bind_some, Int.toNat_natCast, List.nil_append]
    rw [if_pos (by omega), if_pos (by omega), if_pos (by rw [List.length_drop]; simp; omega)]
  | d + 1, i, k, hd, hk => by
    obtain ⟨k, rfl⟩ : ∃ n, k = n + 1 := ⟨k - 1, by omega⟩
    have h0 := byt_getD hb (3 * i)
    have h1 := byt_getD hb (3 * i + 1)
    have h2 := byt_getD hb (3 * i + 2)
    unfold byt at h0 h1 h2
    simp only [cloakroomref02_Get.l0]
    have e0 : wrap64 (3 * ((i : Nat) : Int)) = ((3 * i : Nat) : Int) := by rw [w64 _ (by omega) (by omega)]; omega
    have e1 : wrap64 (((3 * i : Nat) : Int) + 1) = ((3 * i + 1 : Nat) : Int) := by rw [w64 _ (by omega) (by omega)]; omega
    have e2 : wrap64 (((3 * i : Nat) : Int) + 2) = ((3 * i + 2 : Nat) : Int) := by rw [w64 _ (by omega) (by omega)]; omega
    simp only [e0, e1, e2, rd_nat]
    rw [if_pos (by omega), if_pos (by omega), if_pos (by omega), if_pos (by omega), if_pos (by omega), if_pos (by omega), if_pos (by omega), if_pos (by rw [nums_length]; omega)]
    have e3 : wrap64 (wrap64 (wrap64 (65536 * wrap64 (l.getD (3 * i) 0)) + wrap64 (256 * wrap64 (l.getD (3 * i + 1) 0))) + wrap64 (l.getD (3 * i + 2) 0)) = num l i := by
      unfold num be3
      rw [w64 (l.getD (3 * i) 0) (by omega) (by omega), w64 (l.getD (3 * i + 1) 0) (by omega) (by omega), w64 (l.getD (3 * i + 2) 0) (by omega) (by omega), w64 (65536 * _) (by omega) (by omega), w64 (256 * _) (by omega) (by omega), w64 (_ + 256 * _) (by omega) (by omega), w64 _ (by omega) (by omega)]
    rw [e3, ← nums_succ, show ((i : Nat) : Int) + 1 = ((i + 1 : Nat) : Int) by omega, w64 _ (by omega) (by omega)]
    exact rget_go l m hm hl hb hL d (i + 1) k (by omega) (by omega)
theorem rget_all (l : List Int) (m : Nat) (hm : m ≤ 9) (hb : ∀ x ∈ l, byt x) (hL : l.length ≤ 100000) : cloakroomref02_Get.f 20 l m = if 3 * m ≤ l.length then some (nums l m, l.drop (3 * m), 0) else some ([], [], 21) := by
  unfold cloakroomref02_Get.f
  rw [if_neg (by omega), if_neg (by omega)]
  simp only [cloakroomref02_Get.j0]
  have e : wrap64 (3 * ((m : Nat) : Int)) = ((3 * m : Nat) : Int) := by rw [w64 _ (by omega) (by omega)]; omega
  rw [e]
  by_cases h : 3 * m ≤ l.length
  · rw [if_pos h, if_neg (by rw [decide_eq_true_eq]; omega)]
    exact rget_go l m hm h hb hL m 0 19 (by omega) (by omega)
  · rw [if_neg h, if_pos (by rw [decide_eq_true_eq]; omega)]

theorem rnums_step (k : Nat) (acc l : List Int) (i : Nat) (hi : i < l.length) (hl : l.length < 100000) (ha : acc.length < 100000) (h0 : 0 ≤ l.getD i 0) (h1 : l.getD i 0 ≤ 16777215) :
    cloakroomref02_Nums.l0 (k + 1) acc l l.length i = cloakroomref02_Nums.l0 k (acc ++ tb3 (l.getD i 0)) l l.length ((i + 1 : Nat) : Int) := by
  generalize hx : l.getD i 0 = x at h0 h1
  have e : rd l ((i : Nat) : Int) = x := by rw [rd_nat, hx]
  simp only [cloakroomref02_Nums.l0, e]
  rw [if_pos (by omega), if_pos (by omega), if_pos (by omega), if_neg (by omega), if_neg (by omega)]
  simp only [Option.bind_some]
  rw [if_pos (by simp; omega)]
  have h2 : (wrap64 (Int.tdiv x 65536)) % 256 = x / 65536 % 256 := by rw [Int.tdiv_eq_ediv_of_nonneg h0, w64 _ (by omega) (by omega)]
  have h3 : (Int.tmod (wrap64 (Int.tdiv x 256)) 256) % 256 = x / 256 % 256 := by
    rw [Int.tdiv_eq_ediv_of_nonneg h0, w64 _ (by omega) (by omega), Int.tmod_eq_emod_of_nonneg (by omega)]
    omega
  have h4 : (Int.tmod x 256) % 256 = x % 256 := by
    rw [Int.tmod_eq_emod_of_nonneg h0]
    omega
  rw [h2, h3, h4, show ((i : Nat) : Int) + 1 = ((i + 1 : Nat) : Int) by omega, w64 _ (by omega) (by omega)]
  rfl
theorem rnums_end (k : Nat) (acc l : List Int) : cloakroomref02_Nums.l0 (k + 1) acc l l.length ((l.length : Nat) : Int) = some (acc, 0) := by
  simp only [cloakroomref02_Nums.l0]
  rw [if_neg (by omega)]
/-- numbers as bytes -/
def encN (l : List Int) : List Int := l.flatMap tb3
theorem rnums_go (l : List Int) (hl : l.length ≤ 9) (hb : ∀ x ∈ l, 0 ≤ x ∧ x ≤ 16777215) : ∀ (d i k : Nat) (acc : List Int), i + d = l.length → d < k → acc.length ≤ 3 * i → cloakroomref02_Nums.l0 k acc l l.length i = some (acc ++ encN (l.drop i), 0)
  | 0, i, k, acc, hd, hk, ha => by
    obtain ⟨k, rfl⟩ : ∃ n, k = n + 1 := ⟨k - 1, by omega⟩
    obtain rfl : i = l.length := by omega
    rw [rnums_end]
    simp [encN]
  | d + 1, i, k, acc, hd, hk, ha => by
    obtain ⟨k, rfl⟩ : ∃ n, k = n + 1 := ⟨k - 1, by omega⟩
    have hi : i < l.length := by omega
    have hx := hb (l.getD i 0) (by rw [List.getD_eq_getElem?_getD, List.getElem?_eq_getElem hi]; exact List.getElem_mem _)
    rw [rnums_step k acc l i hi (by omega) (by omega) hx.1 hx.2, rnums_go l hl hb d (i + 1) k _ (by omega) (by omega) (by simp [tb3]; omega), drop_getD l i hi]
    simp [encN]
theorem rnums_all (l : List Int) (hl : l.length ≤ 9) (hb : ∀ x ∈ l, 0 ≤ x ∧ x ≤ 16777215) : cloakroomref02_Nums.f 20 l = some (encN l, 0) := by
  unfold cloakroomref02_Nums.f
  have := rnums_go l hl hb l.length 0 20 [] (by omega) (by omega) (by simp)
  simpa using this
theorem cfg_all (g : Cfg) : cloakroomref21_Right.f g.clients g.frames g.many g.patience g.room = some (cfgB g) := by
  unfold cloakroomref21_Right.f cfgB btw
  repeat' split
  all_goals rw [Option.some.injEq, Bool.eq_iff_iff]
  all_goals simp only [Bool.and_eq_true, decide_eq_true_eq, Bool.false_eq_true, false_iff]
  all_goals omega
theorem rget_yes (A : Option Addr) (c : Nat) (l : List Int) (m : Nat) (w : World) (hr : Kd.C (Kd.int .u8) w A l.length l) (hc : l.length ≤ c) (hb : ∀ x ∈ l, byt x) (hl : 3 * m ≤ l.length) (hm : m ≤ 9) (hL : l.length ≤ 100000) :
    Calls Tryz.prog 15 #[.slice A l.length c, .int .i64 m] w fun e w' => ∃ v0 v1 : Value, e = .returned (.tuple #[v0, v1, .int .i64 0]) ∧ Kd.R (Kd.int .i64) 3 w' w.heap.size (fun _ => True) v0 (nums l m) ∧ Kd.R (Kd.int .u8) 5 w' w.heap.size (fun _ => True) v1 (l.drop (3 * m)) ∧ Below w.heap.size w w' :=
  cloakroomref02_Get.calls 20 A c l m _ _ _ w hr hc (by rw [rget_all l m hm hb hL, if_pos hl])
theorem rget_short (A : Option Addr) (c : Nat) (l : List Int) (m : Nat) (w : World) (hr : Kd.C (Kd.int .u8) w A l.length l) (hc : l.length ≤ c) (hb : ∀ x ∈ l, byt x) (hl : l.length < 3 * m) (hm : m ≤ 9) (hL : l.length ≤ 100000) :
    Calls Tryz.prog 15 #[.slice A l.length c, .int .i64 m] w fun e w' => ∃ v0 v1 : Value, e = .returned (.tuple #[v0, v1, .int .i64 21]) ∧ Kd.R (Kd.int .i64) 3 w' w.heap.size (fun _ => True) v0 [] ∧ Kd.R (Kd.int .u8) 5 w' w.heap.size (fun _ => True) v1 [] ∧ Below w.heap.size w w' :=
  cloakroomref02_Get.calls 20 A c l m _ _ _ w hr hc (by rw [rget_all l m hm hb hL, if_neg (by omega)])
theorem rnums_any (A : Option Addr) (c : Nat) (l : List Int) (w : World) (hr : Kd.C (Kd.int .i64) w A l.length l) (hc : l.length ≤ c) (hl : l.length ≤ 9) (hb : ∀ x ∈ l, 0 ≤ x ∧ x ≤ 16777215) :
    Calls Tryz.prog 36 #[.slice A l.length c] w fun e w' => ∃ v0 : Value, e = .returned (.tuple #[v0, .int .i64 0]) ∧ Kd.R (Kd.int .u8) 5 w' w.heap.size (fun _ => True) v0 (encN l) ∧ Below w.heap.size w w' :=
  cloakroomref02_Nums.calls 20 A c l _ _ w hr hc (rnums_all l hl hb)
theorem rcfg_any (g : Cfg) (w : World) : Calls Tryz.prog 67 #[cfgV g] w fun e w' => e = .returned (.bool (cfgB g)) ∧ Below w.heap.size w w' :=
  cloakroomref21_Right.calls _ _ _ _ _ _ w (cfg_all g)
end Go.Proofs.YtpgjilakcepilaaGreat.PV
