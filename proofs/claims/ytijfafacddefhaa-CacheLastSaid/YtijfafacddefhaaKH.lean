/- Facts of the run of 'cloakroom/cloakroomlaw16.CacheLast', piece by piece, by the names of the pages; each run by the kernel; no condition. -/
import Derived.Test.YtijfafacddefhaaKTab
import Derived.Test.YtijfafacddefhaaKF
import Derived.KernelRfl
namespace Go.Proofs.Ytijfafacddefhaa.cacheLast
open Ab
set_option maxRecDepth 100000
noncomputable def cc : Code := match Try.f4.body with
  | some c => c
  | none => .skip
noncomputable def ca : CallF := aCallP tab (fun _ => none) 1000000 60
noncomputable def A1 : Code := codeL cc
noncomputable def A2 : Code := codeL (codeR cc)
noncomputable def A3 : Code := codeL (codeR (codeR cc))
noncomputable def q3 : Code := codeR (codeR (codeR cc))
noncomputable def A4 : Code := codeL q3
noncomputable def A5 : Code := codeL (codeR q3)
noncomputable def A6 : Code := codeL (codeR (codeR q3))
noncomputable def q6 : Code := codeR (codeR (codeR q3))
noncomputable def pre : List Code := [A1, A2, A3, A4, A5, A6]
noncomputable def r8 : Code := codeL (codeL q6)
noncomputable def post : Code := codeR q6
noncomputable def lb : Code := codeO (codeB (codeR (codeL q6)))
noncomputable def r9 : Code := codeL lb
noncomputable def b1 : Code := codeB (codeL (codeR (codeR lb)))
noncomputable def r25 : Code := codeR (codeR (codeR lb))
noncomputable def r10 : Code := codeL b1
noncomputable def r11 : Code := codeL (codeL (codeR b1))
noncomputable def rest : Code := codeR (codeR b1)
theorem shape1 : Try.f4.body = some cc := by kernel_rfl
theorem shape2 : cc = seqs pre (.seq (.seq r8 (.block 0 (.loop lb))) post) := by kernel_rfl
theorem shape3 : lb = .seq r9 (.seq (.cond (.tmp 48) .skip (.exit 0)) (.seq (.block 1 b1) r25)) := by kernel_rfl
theorem shape4 : b1 = .seq r10 (.seq (.seq r11 (.cond (.tmp 61) (.exit 1) .skip)) rest) := by kernel_rfl
noncomputable def opsOf (c : Code) : Array Oper := match c with
  | .region _ ops _ => ops
  | _ => #[]
noncomputable def idOf (c : Code) : Nat := match c with
  | .region i _ _ => i
  | _ => 0
theorem shape5 : r10 = .region (idOf r10) (opsOf r10) false := by kernel_rfl
theorem size10 : (opsOf r10).size = 3 := by kernel_rfl
theorem op10a : ((opsOf r10)[0]?.map fun o => (o.op, o.dst, o.guard)) = some (.indexAddr 31 (.tmp 45) (.tmp 47), some 49, none) := by kernel_rfl
theorem op10b : ((opsOf r10)[1]?.map fun o => (o.op, o.dst, o.guard)) = some (.load 3 (.tmp 49), some 50, none) := by kernel_rfl
theorem op10c : ((opsOf r10)[2]?.map fun o => (o.op, o.dst, o.guard)) = some (.assign (.tmp 50), some 10, none) := by kernel_rfl
theorem ty31 : tab.ty 31 = some (.slice 3) := by kernel_rfl
theorem ty3 : tab.ty 3 = some (.int .i64) := by kernel_rfl
theorem size3 : tab.size 3 = some 1 := by kernel_rfl
theorem agg3 : tab.isAgg 3 = some false := by kernel_rfl
theorem ntmps4 : Try.f4.ntmps = 118 := by kernel_rfl
theorem results4 : Try.f4.results = #[.tmp 6] := by kernel_rfl
noncomputable def resOf (r : Option Res) : Res := match r with
  | some r => r
  | none => ⟨.normal, .leaf, ⟨.leaf, 0⟩⟩
/-- a part that goes through and leaves memory as it is -/
structure Goes (r : Option Res) (s : St) : Prop where
  run : r = some ⟨.normal, (resOf r).e, s⟩
  marks : noMarks (resOf r).e = true
/-- what stands in a frame -/
def Has (r : Option Res) (t : Nat) (v : Value) : Prop := (resOf r).e.get t = some v
noncomputable def run9 (L i : Nat) (j : Nat → Value) (s : St) : Option Res := aCode tab ca 118 true 1000 none r9 (envOf [(46, iv L), (47, iv i)] j) s
noncomputable def run11 (pv : Value) (keep : Nat) (j : Nat → Value) (s : St) : Option Res := aCode tab ca 118 true 1000 none r11 (envOf [(2, iv keep), (10, pv)] j) s
noncomputable def run25 (i : Nat) (j : Nat → Value) (s : St) : Option Res := aCode tab ca 118 true 1000 none r25 (envOf [(47, iv i)] j) s

theorem s9_run (L i : Nat) (j : Nat → Value) (s : St) : Goes (run9 L i j s) s := ⟨by kernel_rfl, by kernel_rfl⟩
theorem s9_t48 (L i : Nat) (j : Nat → Value) (s : St) : Has (run9 L i j s) 48 (.bool (ilt (.ofNat i) (.ofNat L))) := by unfold Has; kernel_rfl
theorem s9_t46 (L i : Nat) (j : Nat → Value) (s : St) : Has (run9 L i j s) 46 (iv L) := by unfold Has; kernel_rfl
theorem s9_t47 (L i : Nat) (j : Nat → Value) (s : St) : Has (run9 L i j s) 47 (iv i) := by unfold Has; kernel_rfl
theorem s9_k0 (L i : Nat) (j : Nat → Value) (s : St) : Has (run9 L i j s) 0 (j 0) := by unfold Has; kernel_rfl
theorem s9_k1 (L i : Nat) (j : Nat → Value) (s : St) : Has (run9 L i j s) 1 (j 1) := by unfold Has; kernel_rfl
theorem s9_k2 (L i : Nat) (j : Nat → Value) (s : St) : Has (run9 L i j s) 2 (j 2) := by unfold Has; kernel_rfl
theorem s9_k6 (L i : Nat) (j : Nat → Value) (s : St) : Has (run9 L i j s) 6 (j 6) := by unfold Has; kernel_rfl
theorem s9_k7 (L i : Nat) (j : Nat → Value) (s : St) : Has (run9 L i j s) 7 (j 7) := by unfold Has; kernel_rfl
theorem s9_k8 (L i : Nat) (j : Nat → Value) (s : St) : Has (run9 L i j s) 8 (j 8) := by unfold Has; kernel_rfl
theorem s9_k45 (L i : Nat) (j : Nat → Value) (s : St) : Has (run9 L i j s) 45 (j 45) := by unfold Has; kernel_rfl
theorem s25_run (i : Nat) (j : Nat → Value) (s : St) : Goes (run25 i j s) s := ⟨by kernel_rfl, by kernel_rfl⟩
theorem s25_t47 (i : Nat) (j : Nat → Value) (s : St) : Has (run25 i j s) 47 (.int .i64 (fwrap .i64 (.ofNat (i + 1)))) := by unfold Has; kernel_rfl
theorem s25_k0 (i : Nat) (j : Nat → Value) (s : St) : Has (run25 i j s) 0 (j 0) := by unfold Has; kernel_rfl
theorem s25_k1 (i : Nat) (j : Nat → Value) (s : St) : Has (run25 i j s) 1 (j 1) := by unfold Has; kernel_rfl
theorem s25_k2 (i : Nat) (j : Nat → Value) (s : St) : Has (run25 i j s) 2 (j 2) := by unfold Has; kernel_rfl
theorem s25_k6 (i : Nat) (j : Nat → Value) (s : St) : Has (run25 i j s) 6 (j 6) := by unfold Has; kernel_rfl
theorem s25_k7 (i : Nat) (j : Nat → Value) (s : St) : Has (run25 i j s) 7 (j 7) := by unfold Has; kernel_rfl
theorem s25_k8 (i : Nat) (j : Nat → Value) (s : St) : Has (run25 i j s) 8 (j 8) := by unfold Has; kernel_rfl
theorem s25_k45 (i : Nat) (j : Nat → Value) (s : St) : Has (run25 i j s) 45 (j 45) := by unfold Has; kernel_rfl
theorem s25_k46 (i : Nat) (j : Nat → Value) (s : St) : Has (run25 i j s) 46 (j 46) := by unfold Has; kernel_rfl
theorem neg_run (n keep : Nat) (j : Nat → Value) (s : St) : Goes (run11 (.int .i64 (.negSucc n)) keep j s) s := ⟨by kernel_rfl, by kernel_rfl⟩
theorem neg_t61 (n keep : Nat) (j : Nat → Value) (s : St) : Has (run11 (.int .i64 (.negSucc n)) keep j s) 61 (.bool true) := by unfold Has; kernel_rfl
theorem neg_t2 (n keep : Nat) (j : Nat → Value) (s : St) : Has (run11 (.int .i64 (.negSucc n)) keep j s) 2 (iv keep) := by unfold Has; kernel_rfl
theorem neg_t10 (n keep : Nat) (j : Nat → Value) (s : St) : Has (run11 (.int .i64 (.negSucc n)) keep j s) 10 (.int .i64 (.negSucc n)) := by unfold Has; kernel_rfl
theorem neg_k0 (n keep : Nat) (j : Nat → Value) (s : St) : Has (run11 (.int .i64 (.negSucc n)) keep j s) 0 (j 0) := by unfold Has; kernel_rfl
theorem neg_k1 (n keep : Nat) (j : Nat → Value) (s : St) : Has (run11 (.int .i64 (.negSucc n)) keep j s) 1 (j 1) := by unfold Has; kernel_rfl
theorem neg_k6 (n keep : Nat) (j : Nat → Value) (s : St) : Has (run11 (.int .i64 (.negSucc n)) keep j s) 6 (j 6) := by unfold Has; kernel_rfl
theorem neg_k7 (n keep : Nat) (j : Nat → Value) (s : St) : Has (run11 (.int .i64 (.negSucc n)) keep j s) 7 (j 7) := by unfold Has; kernel_rfl
theorem neg_k8 (n keep : Nat) (j : Nat → Value) (s : St) : Has (run11 (.int .i64 (.negSucc n)) keep j s) 8 (j 8) := by unfold Has; kernel_rfl
theorem neg_k45 (n keep : Nat) (j : Nat → Value) (s : St) : Has (run11 (.int .i64 (.negSucc n)) keep j s) 45 (j 45) := by unfold Has; kernel_rfl
theorem neg_k46 (n keep : Nat) (j : Nat → Value) (s : St) : Has (run11 (.int .i64 (.negSucc n)) keep j s) 46 (j 46) := by unfold Has; kernel_rfl
theorem neg_k47 (n keep : Nat) (j : Nat → Value) (s : St) : Has (run11 (.int .i64 (.negSucc n)) keep j s) 47 (j 47) := by unfold Has; kernel_rfl
theorem big_run (n keep : Nat) (j : Nat → Value) (s : St) : Goes (run11 (.int .i64 (.ofNat (n + 6))) keep j s) s := ⟨by kernel_rfl, by kernel_rfl⟩
theorem big_t61 (n keep : Nat) (j : Nat → Value) (s : St) : Has (run11 (.int .i64 (.ofNat (n + 6))) keep j s) 61 (.bool true) := by unfold Has; kernel_rfl
theorem big_t2 (n keep : Nat) (j : Nat → Value) (s : St) : Has (run11 (.int .i64 (.ofNat (n + 6))) keep j s) 2 (iv keep) := by unfold Has; kernel_rfl
theorem big_t10 (n keep : Nat) (j : Nat → Value) (s : St) : Has (run11 (.int .i64 (.ofNat (n + 6))) keep j s) 10 (.int .i64 (.ofNat (n + 6))) := by unfold Has; kernel_rfl
theorem big_k0 (n keep : Nat) (j : Nat → Value) (s : St) : Has (run11 (.int .i64 (.ofNat (n + 6))) keep j s) 0 (j 0) := by unfold Has; kernel_rfl
theorem big_k1 (n keep : Nat) (j : Nat → Value) (s : St) : Has (run11 (.int .i64 (.ofNat (n + 6))) keep j s) 1 (j 1) := by unfold Has; kernel_rfl
theorem big_k6 (n keep : Nat) (j : Nat → Value) (s : St) : Has (run11 (.int .i64 (.ofNat (n + 6))) keep j s) 6 (j 6) := by unfold Has; kernel_rfl
theorem big_k7 (n keep : Nat) (j : Nat → Value) (s : St) : Has (run11 (.int .i64 (.ofNat (n + 6))) keep j s) 7 (j 7) := by unfold Has; kernel_rfl
theorem big_k8 (n keep : Nat) (j : Nat → Value) (s : St) : Has (run11 (.int .i64 (.ofNat (n + 6))) keep j s) 8 (j 8) := by unfold Has; kernel_rfl
theorem big_k45 (n keep : Nat) (j : Nat → Value) (s : St) : Has (run11 (.int .i64 (.ofNat (n + 6))) keep j s) 45 (j 45) := by unfold Has; kernel_rfl
theorem big_k46 (n keep : Nat) (j : Nat → Value) (s : St) : Has (run11 (.int .i64 (.ofNat (n + 6))) keep j s) 46 (j 46) := by unfold Has; kernel_rfl
theorem big_k47 (n keep : Nat) (j : Nat → Value) (s : St) : Has (run11 (.int .i64 (.ofNat (n + 6))) keep j s) 47 (j 47) := by unfold Has; kernel_rfl
theorem pg00_run (j : Nat → Value) (s : St) : Goes (run11 (iv 0) 0 j s) s := ⟨by kernel_rfl, by kernel_rfl⟩
theorem pg00_t61 (j : Nat → Value) (s : St) : Has (run11 (iv 0) 0 j s) 61 (.bool true) := by unfold Has; kernel_rfl
theorem pg00_t2 (j : Nat → Value) (s : St) : Has (run11 (iv 0) 0 j s) 2 (iv 0) := by unfold Has; kernel_rfl
theorem pg00_t10 (j : Nat → Value) (s : St) : Has (run11 (iv 0) 0 j s) 10 (iv 0) := by unfold Has; kernel_rfl
theorem pg00_k0 (j : Nat → Value) (s : St) : Has (run11 (iv 0) 0 j s) 0 (j 0) := by unfold Has; kernel_rfl
theorem pg00_k1 (j : Nat → Value) (s : St) : Has (run11 (iv 0) 0 j s) 1 (j 1) := by unfold Has; kernel_rfl
theorem pg00_k6 (j : Nat → Value) (s : St) : Has (run11 (iv 0) 0 j s) 6 (j 6) := by unfold Has; kernel_rfl
theorem pg00_k7 (j : Nat → Value) (s : St) : Has (run11 (iv 0) 0 j s) 7 (j 7) := by unfold Has; kernel_rfl
theorem pg00_k8 (j : Nat → Value) (s : St) : Has (run11 (iv 0) 0 j s) 8 (j 8) := by unfold Has; kernel_rfl
theorem pg00_k45 (j : Nat → Value) (s : St) : Has (run11 (iv 0) 0 j s) 45 (j 45) := by unfold Has; kernel_rfl
theorem pg00_k46 (j : Nat → Value) (s : St) : Has (run11 (iv 0) 0 j s) 46 (j 46) := by unfold Has; kernel_rfl
theorem pg00_k47 (j : Nat → Value) (s : St) : Has (run11 (iv 0) 0 j s) 47 (j 47) := by unfold Has; kernel_rfl
theorem pg01_run (j : Nat → Value) (s : St) : Goes (run11 (iv 0) 1 j s) s := ⟨by kernel_rfl, by kernel_rfl⟩
theorem pg01_t61 (j : Nat → Value) (s : St) : Has (run11 (iv 0) 1 j s) 61 (.bool false) := by unfold Has; kernel_rfl
theorem pg01_t2 (j : Nat → Value) (s : St) : Has (run11 (iv 0) 1 j s) 2 (iv 1) := by unfold Has; kernel_rfl
theorem pg01_t10 (j : Nat → Value) (s : St) : Has (run11 (iv 0) 1 j s) 10 (iv 0) := by unfold Has; kernel_rfl
theorem pg01_k0 (j : Nat → Value) (s : St) : Has (run11 (iv 0) 1 j s) 0 (j 0) := by unfold Has; kernel_rfl
theorem pg01_k1 (j : Nat → Value) (s : St) : Has (run11 (iv 0) 1 j s) 1 (j 1) := by unfold Has; kernel_rfl
theorem pg01_k6 (j : Nat → Value) (s : St) : Has (run11 (iv 0) 1 j s) 6 (j 6) := by unfold Has; kernel_rfl
theorem pg01_k7 (j : Nat → Value) (s : St) : Has (run11 (iv 0) 1 j s) 7 (j 7) := by unfold Has; kernel_rfl
theorem pg01_k8 (j : Nat → Value) (s : St) : Has (run11 (iv 0) 1 j s) 8 (j 8) := by unfold Has; kernel_rfl
theorem pg01_k45 (j : Nat → Value) (s : St) : Has (run11 (iv 0) 1 j s) 45 (j 45) := by unfold Has; kernel_rfl
theorem pg01_k46 (j : Nat → Value) (s : St) : Has (run11 (iv 0) 1 j s) 46 (j 46) := by unfold Has; kernel_rfl
theorem pg01_k47 (j : Nat → Value) (s : St) : Has (run11 (iv 0) 1 j s) 47 (j 47) := by unfold Has; kernel_rfl
theorem pg02_run (j : Nat → Value) (s : St) : Goes (run11 (iv 0) 2 j s) s := ⟨by kernel_rfl, by kernel_rfl⟩
theorem pg02_t61 (j : Nat → Value) (s : St) : Has (run11 (iv 0) 2 j s) 61 (.bool false) := by unfold Has; kernel_rfl
theorem pg02_t2 (j : Nat → Value) (s : St) : Has (run11 (iv 0) 2 j s) 2 (iv 2) := by unfold Has; kernel_rfl
theorem pg02_t10 (j : Nat → Value) (s : St) : Has (run11 (iv 0) 2 j s) 10 (iv 0) := by unfold Has; kernel_rfl
theorem pg02_k0 (j : Nat → Value) (s : St) : Has (run11 (iv 0) 2 j s) 0 (j 0) := by unfold Has; kernel_rfl
theorem pg02_k1 (j : Nat → Value) (s : St) : Has (run11 (iv 0) 2 j s) 1 (j 1) := by unfold Has; kernel_rfl
theorem pg02_k6 (j : Nat → Value) (s : St) : Has (run11 (iv 0) 2 j s) 6 (j 6) := by unfold Has; kernel_rfl
theorem pg02_k7 (j : Nat → Value) (s : St) : Has (run11 (iv 0) 2 j s) 7 (j 7) := by unfold Has; kernel_rfl
theorem pg02_k8 (j : Nat → Value) (s : St) : Has (run11 (iv 0) 2 j s) 8 (j 8) := by unfold Has; kernel_rfl
theorem pg02_k45 (j : Nat → Value) (s : St) : Has (run11 (iv 0) 2 j s) 45 (j 45) := by unfold Has; kernel_rfl
theorem pg02_k46 (j : Nat → Value) (s : St) : Has (run11 (iv 0) 2 j s) 46 (j 46) := by unfold Has; kernel_rfl
theorem pg02_k47 (j : Nat → Value) (s : St) : Has (run11 (iv 0) 2 j s) 47 (j 47) := by unfold Has; kernel_rfl
theorem pg03_run (j : Nat → Value) (s : St) : Goes (run11 (iv 0) 3 j s) s := ⟨by kernel_rfl, by kernel_rfl⟩
theorem pg03_t61 (j : Nat → Value) (s : St) : Has (run11 (iv 0) 3 j s) 61 (.bool false) := by unfold Has; kernel_rfl
theorem pg03_t2 (j : Nat → Value) (s : St) : Has (run11 (iv 0) 3 j s) 2 (iv 3) := by unfold Has; kernel_rfl
theorem pg03_t10 (j : Nat → Value) (s : St) : Has (run11 (iv 0) 3 j s) 10 (iv 0) := by unfold Has; kernel_rfl
theorem pg03_k0 (j : Nat → Value) (s : St) : Has (run11 (iv 0) 3 j s) 0 (j 0) := by unfold Has; kernel_rfl
theorem pg03_k1 (j : Nat → Value) (s : St) : Has (run11 (iv 0) 3 j s) 1 (j 1) := by unfold Has; kernel_rfl
theorem pg03_k6 (j : Nat → Value) (s : St) : Has (run11 (iv 0) 3 j s) 6 (j 6) := by unfold Has; kernel_rfl
theorem pg03_k7 (j : Nat → Value) (s : St) : Has (run11 (iv 0) 3 j s) 7 (j 7) := by unfold Has; kernel_rfl
theorem pg03_k8 (j : Nat → Value) (s : St) : Has (run11 (iv 0) 3 j s) 8 (j 8) := by unfold Has; kernel_rfl
theorem pg03_k45 (j : Nat → Value) (s : St) : Has (run11 (iv 0) 3 j s) 45 (j 45) := by unfold Has; kernel_rfl
theorem pg03_k46 (j : Nat → Value) (s : St) : Has (run11 (iv 0) 3 j s) 46 (j 46) := by unfold Has; kernel_rfl
theorem pg03_k47 (j : Nat → Value) (s : St) : Has (run11 (iv 0) 3 j s) 47 (j 47) := by unfold Has; kernel_rfl
theorem pg04_run (j : Nat → Value) (s : St) : Goes (run11 (iv 0) 4 j s) s := ⟨by kernel_rfl, by kernel_rfl⟩
theorem pg04_t61 (j : Nat → Value) (s : St) : Has (run11 (iv 0) 4 j s) 61 (.bool false) := by unfold Has; kernel_rfl
theorem pg04_t2 (j : Nat → Value) (s : St) : Has (run11 (iv 0) 4 j s) 2 (iv 4) := by unfold Has; kernel_rfl
theorem pg04_t10 (j : Nat → Value) (s : St) : Has (run11 (iv 0) 4 j s) 10 (iv 0) := by unfold Has; kernel_rfl
theorem pg04_k0 (j : Nat → Value) (s : St) : Has (run11 (iv 0) 4 j s) 0 (j 0) := by unfold Has; kernel_rfl
theorem pg04_k1 (j : Nat → Value) (s : St) : Has (run11 (iv 0) 4 j s) 1 (j 1) := by unfold Has; kernel_rfl
theorem pg04_k6 (j : Nat → Value) (s : St) : Has (run11 (iv 0) 4 j s) 6 (j 6) := by unfold Has; kernel_rfl
theorem pg04_k7 (j : Nat → Value) (s : St) : Has (run11 (iv 0) 4 j s) 7 (j 7) := by unfold Has; kernel_rfl
theorem pg04_k8 (j : Nat → Value) (s : St) : Has (run11 (iv 0) 4 j s) 8 (j 8) := by unfold Has; kernel_rfl
theorem pg04_k45 (j : Nat → Value) (s : St) : Has (run11 (iv 0) 4 j s) 45 (j 45) := by unfold Has; kernel_rfl
theorem pg04_k46 (j : Nat → Value) (s : St) : Has (run11 (iv 0) 4 j s) 46 (j 46) := by unfold Has; kernel_rfl
theorem pg04_k47 (j : Nat → Value) (s : St) : Has (run11 (iv 0) 4 j s) 47 (j 47) := by unfold Has; kernel_rfl
theorem pg05_run (j : Nat → Value) (s : St) : Goes (run11 (iv 0) 5 j s) s := ⟨by kernel_rfl, by kernel_rfl⟩
theorem pg05_t61 (j : Nat → Value) (s : St) : Has (run11 (iv 0) 5 j s) 61 (.bool false) := by unfold Has; kernel_rfl
theorem pg05_t2 (j : Nat → Value) (s : St) : Has (run11 (iv 0) 5 j s) 2 (iv 5) := by unfold Has; kernel_rfl
theorem pg05_t10 (j : Nat → Value) (s : St) : Has (run11 (iv 0) 5 j s) 10 (iv 0) := by unfold Has; kernel_rfl
theorem pg05_k0 (j : Nat → Value) (s : St) : Has (run11 (iv 0) 5 j s) 0 (j 0) := by unfold Has; kernel_rfl
theorem pg05_k1 (j : Nat → Value) (s : St) : Has (run11 (iv 0) 5 j s) 1 (j 1) := by unfold Has; kernel_rfl
theorem pg05_k6 (j : Nat → Value) (s : St) : Has (run11 (iv 0) 5 j s) 6 (j 6) := by unfold Has; kernel_rfl
theorem pg05_k7 (j : Nat → Value) (s : St) : Has (run11 (iv 0) 5 j s) 7 (j 7) := by unfold Has; kernel_rfl
theorem pg05_k8 (j : Nat → Value) (s : St) : Has (run11 (iv 0) 5 j s) 8 (j 8) := by unfold Has; kernel_rfl
theorem pg05_k45 (j : Nat → Value) (s : St) : Has (run11 (iv 0) 5 j s) 45 (j 45) := by unfold Has; kernel_rfl
theorem pg05_k46 (j : Nat → Value) (s : St) : Has (run11 (iv 0) 5 j s) 46 (j 46) := by unfold Has; kernel_rfl
theorem pg05_k47 (j : Nat → Value) (s : St) : Has (run11 (iv 0) 5 j s) 47 (j 47) := by unfold Has; kernel_rfl
theorem pg10_run (j : Nat → Value) (s : St) : Goes (run11 (iv 1) 0 j s) s := ⟨by kernel_rfl, by kernel_rfl⟩
theorem pg10_t61 (j : Nat → Value) (s : St) : Has (run11 (iv 1) 0 j s) 61 (.bool false) := by unfold Has; kernel_rfl
theorem pg10_t2 (j : Nat → Value) (s : St) : Has (run11 (iv 1) 0 j s) 2 (iv 0) := by unfold Has; kernel_rfl
theorem pg10_t10 (j : Nat → Value) (s : St) : Has (run11 (iv 1) 0 j s) 10 (iv 1) := by unfold Has; kernel_rfl
theorem pg10_k0 (j : Nat → Value) (s : St) : Has (run11 (iv 1) 0 j s) 0 (j 0) := by unfold Has; kernel_rfl
theorem pg10_k1 (j : Nat → Value) (s : St) : Has (run11 (iv 1) 0 j s) 1 (j 1) := by unfold Has; kernel_rfl
theorem pg10_k6 (j : Nat → Value) (s : St) : Has (run11 (iv 1) 0 j s) 6 (j 6) := by unfold Has; kernel_rfl
theorem pg10_k7 (j : Nat → Value) (s : St) : Has (run11 (iv 1) 0 j s) 7 (j 7) := by unfold Has; kernel_rfl
theorem pg10_k8 (j : Nat → Value) (s : St) : Has (run11 (iv 1) 0 j s) 8 (j 8) := by unfold Has; kernel_rfl
theorem pg10_k45 (j : Nat → Value) (s : St) : Has (run11 (iv 1) 0 j s) 45 (j 45) := by unfold Has; kernel_rfl
theorem pg10_k46 (j : Nat → Value) (s : St) : Has (run11 (iv 1) 0 j s) 46 (j 46) := by unfold Has; kernel_rfl
theorem pg10_k47 (j : Nat → Value) (s : St) : Has (run11 (iv 1) 0 j s) 47 (j 47) := by unfold Has; kernel_rfl
theorem pg11_run (j : Nat → Value) (s : St) : Goes (run11 (iv 1) 1 j s) s := ⟨by kernel_rfl, by kernel_rfl⟩
theorem pg11_t61 (j : Nat → Value) (s : St) : Has (run11 (iv 1) 1 j s) 61 (.bool true) := by unfold Has; kernel_rfl
theorem pg11_t2 (j : Nat → Value) (s : St) : Has (run11 (iv 1) 1 j s) 2 (iv 1) := by unfold Has; kernel_rfl
theorem pg11_t10 (j : Nat → Value) (s : St) : Has (run11 (iv 1) 1 j s) 10 (iv 1) := by unfold Has; kernel_rfl
theorem pg11_k0 (j : Nat → Value) (s : St) : Has (run11 (iv 1) 1 j s) 0 (j 0) := by unfold Has; kernel_rfl
theorem pg11_k1 (j : Nat → Value) (s : St) : Has (run11 (iv 1) 1 j s) 1 (j 1) := by unfold Has; kernel_rfl
theorem pg11_k6 (j : Nat → Value) (s : St) : Has (run11 (iv 1) 1 j s) 6 (j 6) := by unfold Has; kernel_rfl
theorem pg11_k7 (j : Nat → Value) (s : St) : Has (run11 (iv 1) 1 j s) 7 (j 7) := by unfold Has; kernel_rfl
theorem pg11_k8 (j : Nat → Value) (s : St) : Has (run11 (iv 1) 1 j s) 8 (j 8) := by unfold Has; kernel_rfl
theorem pg11_k45 (j : Nat → Value) (s : St) : Has (run11 (iv 1) 1 j s) 45 (j 45) := by unfold Has; kernel_rfl
theorem pg11_k46 (j : Nat → Value) (s : St) : Has (run11 (iv 1) 1 j s) 46 (j 46) := by unfold Has; kernel_rfl
theorem pg11_k47 (j : Nat → Value) (s : St) : Has (run11 (iv 1) 1 j s) 47 (j 47) := by unfold Has; kernel_rfl
theorem pg12_run (j : Nat → Value) (s : St) : Goes (run11 (iv 1) 2 j s) s := ⟨by kernel_rfl, by kernel_rfl⟩
theorem pg12_t61 (j : Nat → Value) (s : St) : Has (run11 (iv 1) 2 j s) 61 (.bool false) := by unfold Has; kernel_rfl
theorem pg12_t2 (j : Nat → Value) (s : St) : Has (run11 (iv 1) 2 j s) 2 (iv 2) := by unfold Has; kernel_rfl
theorem pg12_t10 (j : Nat → Value) (s : St) : Has (run11 (iv 1) 2 j s) 10 (iv 1) := by unfold Has; kernel_rfl
theorem pg12_k0 (j : Nat → Value) (s : St) : Has (run11 (iv 1) 2 j s) 0 (j 0) := by unfold Has; kernel_rfl
theorem pg12_k1 (j : Nat → Value) (s : St) : Has (run11 (iv 1) 2 j s) 1 (j 1) := by unfold Has; kernel_rfl
theorem pg12_k6 (j : Nat → Value) (s : St) : Has (run11 (iv 1) 2 j s) 6 (j 6) := by unfold Has; kernel_rfl
theorem pg12_k7 (j : Nat → Value) (s : St) : Has (run11 (iv 1) 2 j s) 7 (j 7) := by unfold Has; kernel_rfl
theorem pg12_k8 (j : Nat → Value) (s : St) : Has (run11 (iv 1) 2 j s) 8 (j 8) := by unfold Has; kernel_rfl
theorem pg12_k45 (j : Nat → Value) (s : St) : Has (run11 (iv 1) 2 j s) 45 (j 45) := by unfold Has; kernel_rfl
theorem pg12_k46 (j : Nat → Value) (s : St) : Has (run11 (iv 1) 2 j s) 46 (j 46) := by unfold Has; kernel_rfl
theorem pg12_k47 (j : Nat → Value) (s : St) : Has (run11 (iv 1) 2 j s) 47 (j 47) := by unfold Has; kernel_rfl
theorem pg13_run (j : Nat → Value) (s : St) : Goes (run11 (iv 1) 3 j s) s := ⟨by kernel_rfl, by kernel_rfl⟩
theorem pg13_t61 (j : Nat → Value) (s : St) : Has (run11 (iv 1) 3 j s) 61 (.bool false) := by unfold Has; kernel_rfl
theorem pg13_t2 (j : Nat → Value) (s : St) : Has (run11 (iv 1) 3 j s) 2 (iv 3) := by unfold Has; kernel_rfl
theorem pg13_t10 (j : Nat → Value) (s : St) : Has (run11 (iv 1) 3 j s) 10 (iv 1) := by unfold Has; kernel_rfl
theorem pg13_k0 (j : Nat → Value) (s : St) : Has (run11 (iv 1) 3 j s) 0 (j 0) := by unfold Has; kernel_rfl
theorem pg13_k1 (j : Nat → Value) (s : St) : Has (run11 (iv 1) 3 j s) 1 (j 1) := by unfold Has; kernel_rfl
theorem pg13_k6 (j : Nat → Value) (s : St) : Has (run11 (iv 1) 3 j s) 6 (j 6) := by unfold Has; kernel_rfl
theorem pg13_k7 (j : Nat → Value) (s : St) : Has (run11 (iv 1) 3 j s) 7 (j 7) := by unfold Has; kernel_rfl
theorem pg13_k8 (j : Nat → Value) (s : St) : Has (run11 (iv 1) 3 j s) 8 (j 8) := by unfold Has; kernel_rfl
theorem pg13_k45 (j : Nat → Value) (s : St) : Has (run11 (iv 1) 3 j s) 45 (j 45) := by unfold Has; kernel_rfl
theorem pg13_k46 (j : Nat → Value) (s : St) : Has (run11 (iv 1) 3 j s) 46 (j 46) := by unfold Has; kernel_rfl
theorem pg13_k47 (j : Nat → Value) (s : St) : Has (run11 (iv 1) 3 j s) 47 (j 47) := by unfold Has; kernel_rfl
theorem pg14_run (j : Nat → Value) (s : St) : Goes (run11 (iv 1) 4 j s) s := ⟨by kernel_rfl, by kernel_rfl⟩
theorem pg14_t61 (j : Nat → Value) (s : St) : Has (run11 (iv 1) 4 j s) 61 (.bool false) := by unfold Has; kernel_rfl
theorem pg14_t2 (j : Nat → Value) (s : St) : Has (run11 (iv 1) 4 j s) 2 (iv 4) := by unfold Has; kernel_rfl
theorem pg14_t10 (j : Nat → Value) (s : St) : Has (run11 (iv 1) 4 j s) 10 (iv 1) := by unfold Has; kernel_rfl
theorem pg14_k0 (j : Nat → Value) (s : St) : Has (run11 (iv 1) 4 j s) 0 (j 0) := by unfold Has; kernel_rfl
theorem pg14_k1 (j : Nat → Value) (s : St) : Has (run11 (iv 1) 4 j s) 1 (j 1) := by unfold Has; kernel_rfl
theorem pg14_k6 (j : Nat → Value) (s : St) : Has (run11 (iv 1) 4 j s) 6 (j 6) := by unfold Has; kernel_rfl
theorem pg14_k7 (j : Nat → Value) (s : St) : Has (run11 (iv 1) 4 j s) 7 (j 7) := by unfold Has; kernel_rfl
theorem pg14_k8 (j : Nat → Value) (s : St) : Has (run11 (iv 1) 4 j s) 8 (j 8) := by unfold Has; kernel_rfl
theorem pg14_k45 (j : Nat → Value) (s : St) : Has (run11 (iv 1) 4 j s) 45 (j 45) := by unfold Has; kernel_rfl
theorem pg14_k46 (j : Nat → Value) (s : St) : Has (run11 (iv 1) 4 j s) 46 (j 46) := by unfold Has; kernel_rfl
theorem pg14_k47 (j : Nat → Value) (s : St) : Has (run11 (iv 1) 4 j s) 47 (j 47) := by unfold Has; kernel_rfl
theorem pg15_run (j : Nat → Value) (s : St) : Goes (run11 (iv 1) 5 j s) s := ⟨by kernel_rfl, by kernel_rfl⟩
theorem pg15_t61 (j : Nat → Value) (s : St) : Has (run11 (iv 1) 5 j s) 61 (.bool false) := by unfold Has; kernel_rfl
theorem pg15_t2 (j : Nat → Value) (s : St) : Has (run11 (iv 1) 5 j s) 2 (iv 5) := by unfold Has; kernel_rfl
theorem pg15_t10 (j : Nat → Value) (s : St) : Has (run11 (iv 1) 5 j s) 10 (iv 1) := by unfold Has; kernel_rfl
theorem pg15_k0 (j : Nat → Value) (s : St) : Has (run11 (iv 1) 5 j s) 0 (j 0) := by unfold Has; kernel_rfl
theorem pg15_k1 (j : Nat → Value) (s : St) : Has (run11 (iv 1) 5 j s) 1 (j 1) := by unfold Has; kernel_rfl
theorem pg15_k6 (j : Nat → Value) (s : St) : Has (run11 (iv 1) 5 j s) 6 (j 6) := by unfold Has; kernel_rfl
theorem pg15_k7 (j : Nat → Value) (s : St) : Has (run11 (iv 1) 5 j s) 7 (j 7) := by unfold Has; kernel_rfl
theorem pg15_k8 (j : Nat → Value) (s : St) : Has (run11 (iv 1) 5 j s) 8 (j 8) := by unfold Has; kernel_rfl
theorem pg15_k45 (j : Nat → Value) (s : St) : Has (run11 (iv 1) 5 j s) 45 (j 45) := by unfold Has; kernel_rfl
theorem pg15_k46 (j : Nat → Value) (s : St) : Has (run11 (iv 1) 5 j s) 46 (j 46) := by unfold Has; kernel_rfl
theorem pg15_k47 (j : Nat → Value) (s : St) : Has (run11 (iv 1) 5 j s) 47 (j 47) := by unfold Has; kernel_rfl
theorem pg20_run (j : Nat → Value) (s : St) : Goes (run11 (iv 2) 0 j s) s := ⟨by kernel_rfl, by kernel_rfl⟩
theorem pg20_t61 (j : Nat → Value) (s : St) : Has (run11 (iv 2) 0 j s) 61 (.bool false) := by unfold Has; kernel_rfl
theorem pg20_t2 (j : Nat → Value) (s : St) : Has (run11 (iv 2) 0 j s) 2 (iv 0) := by unfold Has; kernel_rfl
theorem pg20_t10 (j : Nat → Value) (s : St) : Has (run11 (iv 2) 0 j s) 10 (iv 2) := by unfold Has; kernel_rfl
theorem pg20_k0 (j : Nat → Value) (s : St) : Has (run11 (iv 2) 0 j s) 0 (j 0) := by unfold Has; kernel_rfl
theorem pg20_k1 (j : Nat → Value) (s : St) : Has (run11 (iv 2) 0 j s) 1 (j 1) := by unfold Has; kernel_rfl
theorem pg20_k6 (j : Nat → Value) (s : St) : Has (run11 (iv 2) 0 j s) 6 (j 6) := by unfold Has; kernel_rfl
theorem pg20_k7 (j : Nat → Value) (s : St) : Has (run11 (iv 2) 0 j s) 7 (j 7) := by unfold Has; kernel_rfl
theorem pg20_k8 (j : Nat → Value) (s : St) : Has (run11 (iv 2) 0 j s) 8 (j 8) := by unfold Has; kernel_rfl
theorem pg20_k45 (j : Nat → Value) (s : St) : Has (run11 (iv 2) 0 j s) 45 (j 45) := by unfold Has; kernel_rfl
theorem pg20_k46 (j : Nat → Value) (s : St) : Has (run11 (iv 2) 0 j s) 46 (j 46) := by unfold Has; kernel_rfl
theorem pg20_k47 (j : Nat → Value) (s : St) : Has (run11 (iv 2) 0 j s) 47 (j 47) := by unfold Has; kernel_rfl
theorem pg21_run (j : Nat → Value) (s : St) : Goes (run11 (iv 2) 1 j s) s := ⟨by kernel_rfl, by kernel_rfl⟩
theorem pg21_t61 (j : Nat → Value) (s : St) : Has (run11 (iv 2) 1 j s) 61 (.bool false) := by unfold Has; kernel_rfl
theorem pg21_t2 (j : Nat → Value) (s : St) : Has (run11 (iv 2) 1 j s) 2 (iv 1) := by unfold Has; kernel_rfl
theorem pg21_t10 (j : Nat → Value) (s : St) : Has (run11 (iv 2) 1 j s) 10 (iv 2) := by unfold Has; kernel_rfl
theorem pg21_k0 (j : Nat → Value) (s : St) : Has (run11 (iv 2) 1 j s) 0 (j 0) := by unfold Has; kernel_rfl
theorem pg21_k1 (j : Nat → Value) (s : St) : Has (run11 (iv 2) 1 j s) 1 (j 1) := by unfold Has; kernel_rfl
theorem pg21_k6 (j : Nat → Value) (s : St) : Has (run11 (iv 2) 1 j s) 6 (j 6) := by unfold Has; kernel_rfl
theorem pg21_k7 (j : Nat → Value) (s : St) : Has (run11 (iv 2) 1 j s) 7 (j 7) := by unfold Has; kernel_rfl
theorem pg21_k8 (j : Nat → Value) (s : St) : Has (run11 (iv 2) 1 j s) 8 (j 8) := by unfold Has; kernel_rfl
theorem pg21_k45 (j : Nat → Value) (s : St) : Has (run11 (iv 2) 1 j s) 45 (j 45) := by unfold Has; kernel_rfl
theorem pg21_k46 (j : Nat → Value) (s : St) : Has (run11 (iv 2) 1 j s) 46 (j 46) := by unfold Has; kernel_rfl
theorem pg21_k47 (j : Nat → Value) (s : St) : Has (run11 (iv 2) 1 j s) 47 (j 47) := by unfold Has; kernel_rfl
theorem pg22_run (j : Nat → Value) (s : St) : Goes (run11 (iv 2) 2 j s) s := ⟨by kernel_rfl, by kernel_rfl⟩
theorem pg22_t61 (j : Nat → Value) (s : St) : Has (run11 (iv 2) 2 j s) 61 (.bool true) := by unfold Has; kernel_rfl
theorem pg22_t2 (j : Nat → Value) (s : St) : Has (run11 (iv 2) 2 j s) 2 (iv 2) := by unfold Has; kernel_rfl
theorem pg22_t10 (j : Nat → Value) (s : St) : Has (run11 (iv 2) 2 j s) 10 (iv 2) := by unfold Has; kernel_rfl
theorem pg22_k0 (j : Nat → Value) (s : St) : Has (run11 (iv 2) 2 j s) 0 (j 0) := by unfold Has; kernel_rfl
theorem pg22_k1 (j : Nat → Value) (s : St) : Has (run11 (iv 2) 2 j s) 1 (j 1) := by unfold Has; kernel_rfl
theorem pg22_k6 (j : Nat → Value) (s : St) : Has (run11 (iv 2) 2 j s) 6 (j 6) := by unfold Has; kernel_rfl
theorem pg22_k7 (j : Nat → Value) (s : St) : Has (run11 (iv 2) 2 j s) 7 (j 7) := by unfold Has; kernel_rfl
theorem pg22_k8 (j : Nat → Value) (s : St) : Has (run11 (iv 2) 2 j s) 8 (j 8) := by unfold Has; kernel_rfl
theorem pg22_k45 (j : Nat → Value) (s : St) : Has (run11 (iv 2) 2 j s) 45 (j 45) := by unfold Has; kernel_rfl
theorem pg22_k46 (j : Nat → Value) (s : St) : Has (run11 (iv 2) 2 j s) 46 (j 46) := by unfold Has; kernel_rfl
theorem pg22_k47 (j : Nat → Value) (s : St) : Has (run11 (iv 2) 2 j s) 47 (j 47) := by unfold Has; kernel_rfl
theorem pg23_run (j : Nat → Value) (s : St) : Goes (run11 (iv 2) 3 j s) s := ⟨by kernel_rfl, by kernel_rfl⟩
theorem pg23_t61 (j : Nat → Value) (s : St) : Has (run11 (iv 2) 3 j s) 61 (.bool false) := by unfold Has; kernel_rfl
theorem pg23_t2 (j : Nat → Value) (s : St) : Has (run11 (iv 2) 3 j s) 2 (iv 3) := by unfold Has; kernel_rfl
theorem pg23_t10 (j : Nat → Value) (s : St) : Has (run11 (iv 2) 3 j s) 10 (iv 2) := by unfold Has; kernel_rfl
theorem pg23_k0 (j : Nat → Value) (s : St) : Has (run11 (iv 2) 3 j s) 0 (j 0) := by unfold Has; kernel_rfl
theorem pg23_k1 (j : Nat → Value) (s : St) : Has (run11 (iv 2) 3 j s) 1 (j 1) := by unfold Has; kernel_rfl
theorem pg23_k6 (j : Nat → Value) (s : St) : Has (run11 (iv 2) 3 j s) 6 (j 6) := by unfold Has; kernel_rfl
theorem pg23_k7 (j : Nat → Value) (s : St) : Has (run11 (iv 2) 3 j s) 7 (j 7) := by unfold Has; kernel_rfl
theorem pg23_k8 (j : Nat → Value) (s : St) : Has (run11 (iv 2) 3 j s) 8 (j 8) := by unfold Has; kernel_rfl
theorem pg23_k45 (j : Nat → Value) (s : St) : Has (run11 (iv 2) 3 j s) 45 (j 45) := by unfold Has; kernel_rfl
theorem pg23_k46 (j : Nat → Value) (s : St) : Has (run11 (iv 2) 3 j s) 46 (j 46) := by unfold Has; kernel_rfl
theorem pg23_k47 (j : Nat → Value) (s : St) : Has (run11 (iv 2) 3 j s) 47 (j 47) := by unfold Has; kernel_rfl
theorem pg24_run (j : Nat → Value) (s : St) : Goes (run11 (iv 2) 4 j s) s := ⟨by kernel_rfl, by kernel_rfl⟩
theorem pg24_t61 (j : Nat → Value) (s : St) : Has (run11 (iv 2) 4 j s) 61 (.bool false) := by unfold Has; kernel_rfl
theorem pg24_t2 (j : Nat → Value) (s : St) : Has (run11 (iv 2) 4 j s) 2 (iv 4) := by unfold Has; kernel_rfl
theorem pg24_t10 (j : Nat → Value) (s : St) : Has (run11 (iv 2) 4 j s) 10 (iv 2) := by unfold Has; kernel_rfl
theorem pg24_k0 (j : Nat → Value) (s : St) : Has (run11 (iv 2) 4 j s) 0 (j 0) := by unfold Has; kernel_rfl
theorem pg24_k1 (j : Nat → Value) (s : St) : Has (run11 (iv 2) 4 j s) 1 (j 1) := by unfold Has; kernel_rfl
theorem pg24_k6 (j : Nat → Value) (s : St) : Has (run11 (iv 2) 4 j s) 6 (j 6) := by unfold Has; kernel_rfl
theorem pg24_k7 (j : Nat → Value) (s : St) : Has (run11 (iv 2) 4 j s) 7 (j 7) := by unfold Has; kernel_rfl
theorem pg24_k8 (j : Nat → Value) (s : St) : Has (run11 (iv 2) 4 j s) 8 (j 8) := by unfold Has; kernel_rfl
theorem pg24_k45 (j : Nat → Value) (s : St) : Has (run11 (iv 2) 4 j s) 45 (j 45) := by unfold Has; kernel_rfl
theorem pg24_k46 (j : Nat → Value) (s : St) : Has (run11 (iv 2) 4 j s) 46 (j 46) := by unfold Has; kernel_rfl
theorem pg24_k47 (j : Nat → Value) (s : St) : Has (run11 (iv 2) 4 j s) 47 (j 47) := by unfold Has; kernel_rfl
theorem pg25_run (j : Nat → Value) (s : St) : Goes (run11 (iv 2) 5 j s) s := ⟨by kernel_rfl, by kernel_rfl⟩
theorem pg25_t61 (j : Nat → Value) (s : St) : Has (run11 (iv 2) 5 j s) 61 (.bool false) := by unfold Has; kernel_rfl
theorem pg25_t2 (j : Nat → Value) (s : St) : Has (run11 (iv 2) 5 j s) 2 (iv 5) := by unfold Has; kernel_rfl
theorem pg25_t10 (j : Nat → Value) (s : St) : Has (run11 (iv 2) 5 j s) 10 (iv 2) := by unfold Has; kernel_rfl
theorem pg25_k0 (j : Nat → Value) (s : St) : Has (run11 (iv 2) 5 j s) 0 (j 0) := by unfold Has; kernel_rfl
theorem pg25_k1 (j : Nat → Value) (s : St) : Has (run11 (iv 2) 5 j s) 1 (j 1) := by unfold Has; kernel_rfl
theorem pg25_k6 (j : Nat → Value) (s : St) : Has (run11 (iv 2) 5 j s) 6 (j 6) := by unfold Has; kernel_rfl
theorem pg25_k7 (j : Nat → Value) (s : St) : Has (run11 (iv 2) 5 j s) 7 (j 7) := by unfold Has; kernel_rfl
theorem pg25_k8 (j : Nat → Value) (s : St) : Has (run11 (iv 2) 5 j s) 8 (j 8) := by unfold Has; kernel_rfl
theorem pg25_k45 (j : Nat → Value) (s : St) : Has (run11 (iv 2) 5 j s) 45 (j 45) := by unfold Has; kernel_rfl
theorem pg25_k46 (j : Nat → Value) (s : St) : Has (run11 (iv 2) 5 j s) 46 (j 46) := by unfold Has; kernel_rfl
theorem pg25_k47 (j : Nat → Value) (s : St) : Has (run11 (iv 2) 5 j s) 47 (j 47) := by unfold Has; kernel_rfl
theorem pg30_run (j : Nat → Value) (s : St) : Goes (run11 (iv 3) 0 j s) s := ⟨by kernel_rfl, by kernel_rfl⟩
theorem pg30_t61 (j : Nat → Value) (s : St) : Has (run11 (iv 3) 0 j s) 61 (.bool false) := by unfold Has; kernel_rfl
theorem pg30_t2 (j : Nat → Value) (s : St) : Has (run11 (iv 3) 0 j s) 2 (iv 0) := by unfold Has; kernel_rfl
theorem pg30_t10 (j : Nat → Value) (s : St) : Has (run11 (iv 3) 0 j s) 10 (iv 3) := by unfold Has; kernel_rfl
theorem pg30_k0 (j : Nat → Value) (s : St) : Has (run11 (iv 3) 0 j s) 0 (j 0) := by unfold Has; kernel_rfl
theorem pg30_k1 (j : Nat → Value) (s : St) : Has (run11 (iv 3) 0 j s) 1 (j 1) := by unfold Has; kernel_rfl
theorem pg30_k6 (j : Nat → Value) (s : St) : Has (run11 (iv 3) 0 j s) 6 (j 6) := by unfold Has; kernel_rfl
theorem pg30_k7 (j : Nat → Value) (s : St) : Has (run11 (iv 3) 0 j s) 7 (j 7) := by unfold Has; kernel_rfl
theorem pg30_k8 (j : Nat → Value) (s : St) : Has (run11 (iv 3) 0 j s) 8 (j 8) := by unfold Has; kernel_rfl
theorem pg30_k45 (j : Nat → Value) (s : St) : Has (run11 (iv 3) 0 j s) 45 (j 45) := by unfold Has; kernel_rfl
theorem pg30_k46 (j : Nat → Value) (s : St) : Has (run11 (iv 3) 0 j s) 46 (j 46) := by unfold Has; kernel_rfl
theorem pg30_k47 (j : Nat → Value) (s : St) : Has (run11 (iv 3) 0 j s) 47 (j 47) := by unfold Has; kernel_rfl
theorem pg31_run (j : Nat → Value) (s : St) : Goes (run11 (iv 3) 1 j s) s := ⟨by kernel_rfl, by kernel_rfl⟩
theorem pg31_t61 (j : Nat → Value) (s : St) : Has (run11 (iv 3) 1 j s) 61 (.bool false) := by unfold Has; kernel_rfl
theorem pg31_t2 (j : Nat → Value) (s : St) : Has (run11 (iv 3) 1 j s) 2 (iv 1) := by unfold Has; kernel_rfl
theorem pg31_t10 (j : Nat → Value) (s : St) : Has (run11 (iv 3) 1 j s) 10 (iv 3) := by unfold Has; kernel_rfl
theorem pg31_k0 (j : Nat → Value) (s : St) : Has (run11 (iv 3) 1 j s) 0 (j 0) := by unfold Has; kernel_rfl
theorem pg31_k1 (j : Nat → Value) (s : St) : Has (run11 (iv 3) 1 j s) 1 (j 1) := by unfold Has; kernel_rfl
theorem pg31_k6 (j : Nat → Value) (s : St) : Has (run11 (iv 3) 1 j s) 6 (j 6) := by unfold Has; kernel_rfl
theorem pg31_k7 (j : Nat → Value) (s : St) : Has (run11 (iv 3) 1 j s) 7 (j 7) := by unfold Has; kernel_rfl
theorem pg31_k8 (j : Nat → Value) (s : St) : Has (run11 (iv 3) 1 j s) 8 (j 8) := by unfold Has; kernel_rfl
theorem pg31_k45 (j : Nat → Value) (s : St) : Has (run11 (iv 3) 1 j s) 45 (j 45) := by unfold Has; kernel_rfl
theorem pg31_k46 (j : Nat → Value) (s : St) : Has (run11 (iv 3) 1 j s) 46 (j 46) := by unfold Has; kernel_rfl
theorem pg31_k47 (j : Nat → Value) (s : St) : Has (run11 (iv 3) 1 j s) 47 (j 47) := by unfold Has; kernel_rfl
theorem pg32_run (j : Nat → Value) (s : St) : Goes (run11 (iv 3) 2 j s) s := ⟨by kernel_rfl, by kernel_rfl⟩
theorem pg32_t61 (j : Nat → Value) (s : St) : Has (run11 (iv 3) 2 j s) 61 (.bool false) := by unfold Has; kernel_rfl
theorem pg32_t2 (j : Nat → Value) (s : St) : Has (run11 (iv 3) 2 j s) 2 (iv 2) := by unfold Has; kernel_rfl
theorem pg32_t10 (j : Nat → Value) (s : St) : Has (run11 (iv 3) 2 j s) 10 (iv 3) := by unfold Has; kernel_rfl
theorem pg32_k0 (j : Nat → Value) (s : St) : Has (run11 (iv 3) 2 j s) 0 (j 0) := by unfold Has; kernel_rfl
theorem pg32_k1 (j : Nat → Value) (s : St) : Has (run11 (iv 3) 2 j s) 1 (j 1) := by unfold Has; kernel_rfl
theorem pg32_k6 (j : Nat → Value) (s : St) : Has (run11 (iv 3) 2 j s) 6 (j 6) := by unfold Has; kernel_rfl
theorem pg32_k7 (j : Nat → Value) (s : St) : Has (run11 (iv 3) 2 j s) 7 (j 7) := by unfold Has; kernel_rfl
theorem pg32_k8 (j : Nat → Value) (s : St) : Has (run11 (iv 3) 2 j s) 8 (j 8) := by unfold Has; kernel_rfl
theorem pg32_k45 (j : Nat → Value) (s : St) : Has (run11 (iv 3) 2 j s) 45 (j 45) := by unfold Has; kernel_rfl
theorem pg32_k46 (j : Nat → Value) (s : St) : Has (run11 (iv 3) 2 j s) 46 (j 46) := by unfold Has; kernel_rfl
theorem pg32_k47 (j : Nat → Value) (s : St) : Has (run11 (iv 3) 2 j s) 47 (j 47) := by unfold Has; kernel_rfl
theorem pg33_run (j : Nat → Value) (s : St) : Goes (run11 (iv 3) 3 j s) s := ⟨by kernel_rfl, by kernel_rfl⟩
theorem pg33_t61 (j : Nat → Value) (s : St) : Has (run11 (iv 3) 3 j s) 61 (.bool true) := by unfold Has; kernel_rfl
theorem pg33_t2 (j : Nat → Value) (s : St) : Has (run11 (iv 3) 3 j s) 2 (iv 3) := by unfold Has; kernel_rfl
theorem pg33_t10 (j : Nat → Value) (s : St) : Has (run11 (iv 3) 3 j s) 10 (iv 3) := by unfold Has; kernel_rfl
theorem pg33_k0 (j : Nat → Value) (s : St) : Has (run11 (iv 3) 3 j s) 0 (j 0) := by unfold Has; kernel_rfl
theorem pg33_k1 (j : Nat → Value) (s : St) : Has (run11 (iv 3) 3 j s) 1 (j 1) := by unfold Has; kernel_rfl
theorem pg33_k6 (j : Nat → Value) (s : St) : Has (run11 (iv 3) 3 j s) 6 (j 6) := by unfold Has; kernel_rfl
theorem pg33_k7 (j : Nat → Value) (s : St) : Has (run11 (iv 3) 3 j s) 7 (j 7) := by unfold Has; kernel_rfl
theorem pg33_k8 (j : Nat → Value) (s : St) : Has (run11 (iv 3) 3 j s) 8 (j 8) := by unfold Has; kernel_rfl
theorem pg33_k45 (j : Nat → Value) (s : St) : Has (run11 (iv 3) 3 j s) 45 (j 45) := by unfold Has; kernel_rfl
theorem pg33_k46 (j : Nat → Value) (s : St) : Has (run11 (iv 3) 3 j s) 46 (j 46) := by unfold Has; kernel_rfl
theorem pg33_k47 (j : Nat → Value) (s : St) : Has (run11 (iv 3) 3 j s) 47 (j 47) := by unfold Has; kernel_rfl
theorem pg34_run (j : Nat → Value) (s : St) : Goes (run11 (iv 3) 4 j s) s := ⟨by kernel_rfl, by kernel_rfl⟩
theorem pg34_t61 (j : Nat → Value) (s : St) : Has (run11 (iv 3) 4 j s) 61 (.bool false) := by unfold Has; kernel_rfl
theorem pg34_t2 (j : Nat → Value) (s : St) : Has (run11 (iv 3) 4 j s) 2 (iv 4) := by unfold Has; kernel_rfl
theorem pg34_t10 (j : Nat → Value) (s : St) : Has (run11 (iv 3) 4 j s) 10 (iv 3) := by unfold Has; kernel_rfl
theorem pg34_k0 (j : Nat → Value) (s : St) : Has (run11 (iv 3) 4 j s) 0 (j 0) := by unfold Has; kernel_rfl
theorem pg34_k1 (j : Nat → Value) (s : St) : Has (run11 (iv 3) 4 j s) 1 (j 1) := by unfold Has; kernel_rfl
theorem pg34_k6 (j : Nat → Value) (s : St) : Has (run11 (iv 3) 4 j s) 6 (j 6) := by unfold Has; kernel_rfl
theorem pg34_k7 (j : Nat → Value) (s : St) : Has (run11 (iv 3) 4 j s) 7 (j 7) := by unfold Has; kernel_rfl
theorem pg34_k8 (j : Nat → Value) (s : St) : Has (run11 (iv 3) 4 j s) 8 (j 8) := by unfold Has; kernel_rfl
theorem pg34_k45 (j : Nat → Value) (s : St) : Has (run11 (iv 3) 4 j s) 45 (j 45) := by unfold Has; kernel_rfl
theorem pg34_k46 (j : Nat → Value) (s : St) : Has (run11 (iv 3) 4 j s) 46 (j 46) := by unfold Has; kernel_rfl
theorem pg34_k47 (j : Nat → Value) (s : St) : Has (run11 (iv 3) 4 j s) 47 (j 47) := by unfold Has; kernel_rfl
theorem pg35_run (j : Nat → Value) (s : St) : Goes (run11 (iv 3) 5 j s) s := ⟨by kernel_rfl, by kernel_rfl⟩
theorem pg35_t61 (j : Nat → Value) (s : St) : Has (run11 (iv 3) 5 j s) 61 (.bool false) := by unfold Has; kernel_rfl
theorem pg35_t2 (j : Nat → Value) (s : St) : Has (run11 (iv 3) 5 j s) 2 (iv 5) := by unfold Has; kernel_rfl
theorem pg35_t10 (j : Nat → Value) (s : St) : Has (run11 (iv 3) 5 j s) 10 (iv 3) := by unfold Has; kernel_rfl
theorem pg35_k0 (j : Nat → Value) (s : St) : Has (run11 (iv 3) 5 j s) 0 (j 0) := by unfold Has; kernel_rfl
theorem pg35_k1 (j : Nat → Value) (s : St) : Has (run11 (iv 3) 5 j s) 1 (j 1) := by unfold Has; kernel_rfl
theorem pg35_k6 (j : Nat → Value) (s : St) : Has (run11 (iv 3) 5 j s) 6 (j 6) := by unfold Has; kernel_rfl
theorem pg35_k7 (j : Nat → Value) (s : St) : Has (run11 (iv 3) 5 j s) 7 (j 7) := by unfold Has; kernel_rfl
theorem pg35_k8 (j : Nat → Value) (s : St) : Has (run11 (iv 3) 5 j s) 8 (j 8) := by unfold Has; kernel_rfl
theorem pg35_k45 (j : Nat → Value) (s : St) : Has (run11 (iv 3) 5 j s) 45 (j 45) := by unfold Has; kernel_rfl
theorem pg35_k46 (j : Nat → Value) (s : St) : Has (run11 (iv 3) 5 j s) 46 (j 46) := by unfold Has; kernel_rfl
theorem pg35_k47 (j : Nat → Value) (s : St) : Has (run11 (iv 3) 5 j s) 47 (j 47) := by unfold Has; kernel_rfl
theorem pg40_run (j : Nat → Value) (s : St) : Goes (run11 (iv 4) 0 j s) s := ⟨by kernel_rfl, by kernel_rfl⟩
theorem pg40_t61 (j : Nat → Value) (s : St) : Has (run11 (iv 4) 0 j s) 61 (.bool false) := by unfold Has; kernel_rfl
theorem pg40_t2 (j : Nat → Value) (s : St) : Has (run11 (iv 4) 0 j s) 2 (iv 0) := by unfold Has; kernel_rfl
theorem pg40_t10 (j : Nat → Value) (s : St) : Has (run11 (iv 4) 0 j s) 10 (iv 4) := by unfold Has; kernel_rfl
theorem pg40_k0 (j : Nat → Value) (s : St) : Has (run11 (iv 4) 0 j s) 0 (j 0) := by unfold Has; kernel_rfl
theorem pg40_k1 (j : Nat → Value) (s : St) : Has (run11 (iv 4) 0 j s) 1 (j 1) := by unfold Has; kernel_rfl
theorem pg40_k6 (j : Nat → Value) (s : St) : Has (run11 (iv 4) 0 j s) 6 (j 6) := by unfold Has; kernel_rfl
theorem pg40_k7 (j : Nat → Value) (s : St) : Has (run11 (iv 4) 0 j s) 7 (j 7) := by unfold Has; kernel_rfl
theorem pg40_k8 (j : Nat → Value) (s : St) : Has (run11 (iv 4) 0 j s) 8 (j 8) := by unfold Has; kernel_rfl
theorem pg40_k45 (j : Nat → Value) (s : St) : Has (run11 (iv 4) 0 j s) 45 (j 45) := by unfold Has; kernel_rfl
theorem pg40_k46 (j : Nat → Value) (s : St) : Has (run11 (iv 4) 0 j s) 46 (j 46) := by unfold Has; kernel_rfl
theorem pg40_k47 (j : Nat → Value) (s : St) : Has (run11 (iv 4) 0 j s) 47 (j 47) := by unfold Has; kernel_rfl
theorem pg41_run (j : Nat → Value) (s : St) : Goes (run11 (iv 4) 1 j s) s := ⟨by kernel_rfl, by kernel_rfl⟩
theorem pg41_t61 (j : Nat → Value) (s : St) : Has (run11 (iv 4) 1 j s) 61 (.bool false) := by unfold Has; kernel_rfl
theorem pg41_t2 (j : Nat → Value) (s : St) : Has (run11 (iv 4) 1 j s) 2 (iv 1) := by unfold Has; kernel_rfl
theorem pg41_t10 (j : Nat → Value) (s : St) : Has (run11 (iv 4) 1 j s) 10 (iv 4) := by unfold Has; kernel_rfl
theorem pg41_k0 (j : Nat → Value) (s : St) : Has (run11 (iv 4) 1 j s) 0 (j 0) := by unfold Has; kernel_rfl
theorem pg41_k1 (j : Nat → Value) (s : St) : Has (run11 (iv 4) 1 j s) 1 (j 1) := by unfold Has; kernel_rfl
theorem pg41_k6 (j : Nat → Value) (s : St) : Has (run11 (iv 4) 1 j s) 6 (j 6) := by unfold Has; kernel_rfl
theorem pg41_k7 (j : Nat → Value) (s : St) : Has (run11 (iv 4) 1 j s) 7 (j 7) := by unfold Has; kernel_rfl
theorem pg41_k8 (j : Nat → Value) (s : St) : Has (run11 (iv 4) 1 j s) 8 (j 8) := by unfold Has; kernel_rfl
theorem pg41_k45 (j : Nat → Value) (s : St) : Has (run11 (iv 4) 1 j s) 45 (j 45) := by unfold Has; kernel_rfl
theorem pg41_k46 (j : Nat → Value) (s : St) : Has (run11 (iv 4) 1 j s) 46 (j 46) := by unfold Has; kernel_rfl
theorem pg41_k47 (j : Nat → Value) (s : St) : Has (run11 (iv 4) 1 j s) 47 (j 47) := by unfold Has; kernel_rfl
theorem pg42_run (j : Nat → Value) (s : St) : Goes (run11 (iv 4) 2 j s) s := ⟨by kernel_rfl, by kernel_rfl⟩
theorem pg42_t61 (j : Nat → Value) (s : St) : Has (run11 (iv 4) 2 j s) 61 (.bool false) := by unfold Has; kernel_rfl
theorem pg42_t2 (j : Nat → Value) (s : St) : Has (run11 (iv 4) 2 j s) 2 (iv 2) := by unfold Has; kernel_rfl
theorem pg42_t10 (j : Nat → Value) (s : St) : Has (run11 (iv 4) 2 j s) 10 (iv 4) := by unfold Has; kernel_rfl
theorem pg42_k0 (j : Nat → Value) (s : St) : Has (run11 (iv 4) 2 j s) 0 (j 0) := by unfold Has; kernel_rfl
theorem pg42_k1 (j : Nat → Value) (s : St) : Has (run11 (iv 4) 2 j s) 1 (j 1) := by unfold Has; kernel_rfl
theorem pg42_k6 (j : Nat → Value) (s : St) : Has (run11 (iv 4) 2 j s) 6 (j 6) := by unfold Has; kernel_rfl
theorem pg42_k7 (j : Nat → Value) (s : St) : Has (run11 (iv 4) 2 j s) 7 (j 7) := by unfold Has; kernel_rfl
theorem pg42_k8 (j : Nat → Value) (s : St) : Has (run11 (iv 4) 2 j s) 8 (j 8) := by unfold Has; kernel_rfl
theorem pg42_k45 (j : Nat → Value) (s : St) : Has (run11 (iv 4) 2 j s) 45 (j 45) := by unfold Has; kernel_rfl
theorem pg42_k46 (j : Nat → Value) (s : St) : Has (run11 (iv 4) 2 j s) 46 (j 46) := by unfold Has; kernel_rfl
theorem pg42_k47 (j : Nat → Value) (s : St) : Has (run11 (iv 4) 2 j s) 47 (j 47) := by unfold Has; kernel_rfl
theorem pg43_run (j : Nat → Value) (s : St) : Goes (run11 (iv 4) 3 j s) s := ⟨by kernel_rfl, by kernel_rfl⟩
theorem pg43_t61 (j : Nat → Value) (s : St) : Has (run11 (iv 4) 3 j s) 61 (.bool false) := by unfold Has; kernel_rfl
theorem pg43_t2 (j : Nat → Value) (s : St) : Has (run11 (iv 4) 3 j s) 2 (iv 3) := by unfold Has; kernel_rfl
theorem pg43_t10 (j : Nat → Value) (s : St) : Has (run11 (iv 4) 3 j s) 10 (iv 4) := by unfold Has; kernel_rfl
theorem pg43_k0 (j : Nat → Value) (s : St) : Has (run11 (iv 4) 3 j s) 0 (j 0) := by unfold Has; kernel_rfl
theorem pg43_k1 (j : Nat → Value) (s : St) : Has (run11 (iv 4) 3 j s) 1 (j 1) := by unfold Has; kernel_rfl
theorem pg43_k6 (j : Nat → Value) (s : St) : Has (run11 (iv 4) 3 j s) 6 (j 6) := by unfold Has; kernel_rfl
theorem pg43_k7 (j : Nat → Value) (s : St) : Has (run11 (iv 4) 3 j s) 7 (j 7) := by unfold Has; kernel_rfl
theorem pg43_k8 (j : Nat → Value) (s : St) : Has (run11 (iv 4) 3 j s) 8 (j 8) := by unfold Has; kernel_rfl
theorem pg43_k45 (j : Nat → Value) (s : St) : Has (run11 (iv 4) 3 j s) 45 (j 45) := by unfold Has; kernel_rfl
theorem pg43_k46 (j : Nat → Value) (s : St) : Has (run11 (iv 4) 3 j s) 46 (j 46) := by unfold Has; kernel_rfl
theorem pg43_k47 (j : Nat → Value) (s : St) : Has (run11 (iv 4) 3 j s) 47 (j 47) := by unfold Has; kernel_rfl
theorem pg44_run (j : Nat → Value) (s : St) : Goes (run11 (iv 4) 4 j s) s := ⟨by kernel_rfl, by kernel_rfl⟩
theorem pg44_t61 (j : Nat → Value) (s : St) : Has (run11 (iv 4) 4 j s) 61 (.bool true) := by unfold Has; kernel_rfl
theorem pg44_t2 (j : Nat → Value) (s : St) : Has (run11 (iv 4) 4 j s) 2 (iv 4) := by unfold Has; kernel_rfl
theorem pg44_t10 (j : Nat → Value) (s : St) : Has (run11 (iv 4) 4 j s) 10 (iv 4) := by unfold Has; kernel_rfl
theorem pg44_k0 (j : Nat → Value) (s : St) : Has (run11 (iv 4) 4 j s) 0 (j 0) := by unfold Has; kernel_rfl
theorem pg44_k1 (j : Nat → Value) (s : St) : Has (run11 (iv 4) 4 j s) 1 (j 1) := by unfold Has; kernel_rfl
theorem pg44_k6 (j : Nat → Value) (s : St) : Has (run11 (iv 4) 4 j s) 6 (j 6) := by unfold Has; kernel_rfl
theorem pg44_k7 (j : Nat → Value) (s : St) : Has (run11 (iv 4) 4 j s) 7 (j 7) := by unfold Has; kernel_rfl
theorem pg44_k8 (j : Nat → Value) (s : St) : Has (run11 (iv 4) 4 j s) 8 (j 8) := by unfold Has; kernel_rfl
theorem pg44_k45 (j : Nat → Value) (s : St) : Has (run11 (iv 4) 4 j s) 45 (j 45) := by unfold Has; kernel_rfl
theorem pg44_k46 (j : Nat → Value) (s : St) : Has (run11 (iv 4) 4 j s) 46 (j 46) := by unfold Has; kernel_rfl
theorem pg44_k47 (j : Nat → Value) (s : St) : Has (run11 (iv 4) 4 j s) 47 (j 47) := by unfold Has; kernel_rfl
theorem pg45_run (j : Nat → Value) (s : St) : Goes (run11 (iv 4) 5 j s) s := ⟨by kernel_rfl, by kernel_rfl⟩
theorem pg45_t61 (j : Nat → Value) (s : St) : Has (run11 (iv 4) 5 j s) 61 (.bool false) := by unfold Has; kernel_rfl
theorem pg45_t2 (j : Nat → Value) (s : St) : Has (run11 (iv 4) 5 j s) 2 (iv 5) := by unfold Has; kernel_rfl
theorem pg45_t10 (j : Nat → Value) (s : St) : Has (run11 (iv 4) 5 j s) 10 (iv 4) := by unfold Has; kernel_rfl
theorem pg45_k0 (j : Nat → Value) (s : St) : Has (run11 (iv 4) 5 j s) 0 (j 0) := by unfold Has; kernel_rfl
theorem pg45_k1 (j : Nat → Value) (s : St) : Has (run11 (iv 4) 5 j s) 1 (j 1) := by unfold Has; kernel_rfl
theorem pg45_k6 (j : Nat → Value) (s : St) : Has (run11 (iv 4) 5 j s) 6 (j 6) := by unfold Has; kernel_rfl
theorem pg45_k7 (j : Nat → Value) (s : St) : Has (run11 (iv 4) 5 j s) 7 (j 7) := by unfold Has; kernel_rfl
theorem pg45_k8 (j : Nat → Value) (s : St) : Has (run11 (iv 4) 5 j s) 8 (j 8) := by unfold Has; kernel_rfl
theorem pg45_k45 (j : Nat → Value) (s : St) : Has (run11 (iv 4) 5 j s) 45 (j 45) := by unfold Has; kernel_rfl
theorem pg45_k46 (j : Nat → Value) (s : St) : Has (run11 (iv 4) 5 j s) 46 (j 46) := by unfold Has; kernel_rfl
theorem pg45_k47 (j : Nat → Value) (s : St) : Has (run11 (iv 4) 5 j s) 47 (j 47) := by unfold Has; kernel_rfl
theorem pg50_run (j : Nat → Value) (s : St) : Goes (run11 (iv 5) 0 j s) s := ⟨by kernel_rfl, by kernel_rfl⟩
theorem pg50_t61 (j : Nat → Value) (s : St) : Has (run11 (iv 5) 0 j s) 61 (.bool false) := by unfold Has; kernel_rfl
theorem pg50_t2 (j : Nat → Value) (s : St) : Has (run11 (iv 5) 0 j s) 2 (iv 0) := by unfold Has; kernel_rfl
theorem pg50_t10 (j : Nat → Value) (s : St) : Has (run11 (iv 5) 0 j s) 10 (iv 5) := by unfold Has; kernel_rfl
theorem pg50_k0 (j : Nat → Value) (s : St) : Has (run11 (iv 5) 0 j s) 0 (j 0) := by unfold Has; kernel_rfl
theorem pg50_k1 (j : Nat → Value) (s : St) : Has (run11 (iv 5) 0 j s) 1 (j 1) := by unfold Has; kernel_rfl
theorem pg50_k6 (j : Nat → Value) (s : St) : Has (run11 (iv 5) 0 j s) 6 (j 6) := by unfold Has; kernel_rfl
theorem pg50_k7 (j : Nat → Value) (s : St) : Has (run11 (iv 5) 0 j s) 7 (j 7) := by unfold Has; kernel_rfl
theorem pg50_k8 (j : Nat → Value) (s : St) : Has (run11 (iv 5) 0 j s) 8 (j 8) := by unfold Has; kernel_rfl
theorem pg50_k45 (j : Nat → Value) (s : St) : Has (run11 (iv 5) 0 j s) 45 (j 45) := by unfold Has; kernel_rfl
theorem pg50_k46 (j : Nat → Value) (s : St) : Has (run11 (iv 5) 0 j s) 46 (j 46) := by unfold Has; kernel_rfl
theorem pg50_k47 (j : Nat → Value) (s : St) : Has (run11 (iv 5) 0 j s) 47 (j 47) := by unfold Has; kernel_rfl
theorem pg51_run (j : Nat → Value) (s : St) : Goes (run11 (iv 5) 1 j s) s := ⟨by kernel_rfl, by kernel_rfl⟩
theorem pg51_t61 (j : Nat → Value) (s : St) : Has (run11 (iv 5) 1 j s) 61 (.bool false) := by unfold Has; kernel_rfl
theorem pg51_t2 (j : Nat → Value) (s : St) : Has (run11 (iv 5) 1 j s) 2 (iv 1) := by unfold Has; kernel_rfl
theorem pg51_t10 (j : Nat → Value) (s : St) : Has (run11 (iv 5) 1 j s) 10 (iv 5) := by unfold Has; kernel_rfl
theorem pg51_k0 (j : Nat → Value) (s : St) : Has (run11 (iv 5) 1 j s) 0 (j 0) := by unfold Has; kernel_rfl
theorem pg51_k1 (j : Nat → Value) (s : St) : Has (run11 (iv 5) 1 j s) 1 (j 1) := by unfold Has; kernel_rfl
theorem pg51_k6 (j : Nat → Value) (s : St) : Has (run11 (iv 5) 1 j s) 6 (j 6) := by unfold Has; kernel_rfl
theorem pg51_k7 (j : Nat → Value) (s : St) : Has (run11 (iv 5) 1 j s) 7 (j 7) := by unfold Has; kernel_rfl
theorem pg51_k8 (j : Nat → Value) (s : St) : Has (run11 (iv 5) 1 j s) 8 (j 8) := by unfold Has; kernel_rfl
theorem pg51_k45 (j : Nat → Value) (s : St) : Has (run11 (iv 5) 1 j s) 45 (j 45) := by unfold Has; kernel_rfl
theorem pg51_k46 (j : Nat → Value) (s : St) : Has (run11 (iv 5) 1 j s) 46 (j 46) := by unfold Has; kernel_rfl
theorem pg51_k47 (j : Nat → Value) (s : St) : Has (run11 (iv 5) 1 j s) 47 (j 47) := by unfold Has; kernel_rfl
theorem pg52_run (j : Nat → Value) (s : St) : Goes (run11 (iv 5) 2 j s) s := ⟨by kernel_rfl, by kernel_rfl⟩
theorem pg52_t61 (j : Nat → Value) (s : St) : Has (run11 (iv 5) 2 j s) 61 (.bool false) := by unfold Has; kernel_rfl
theorem pg52_t2 (j : Nat → Value) (s : St) : Has (run11 (iv 5) 2 j s) 2 (iv 2) := by unfold Has; kernel_rfl
theorem pg52_t10 (j : Nat → Value) (s : St) : Has (run11 (iv 5) 2 j s) 10 (iv 5) := by unfold Has; kernel_rfl
theorem pg52_k0 (j : Nat → Value) (s : St) : Has (run11 (iv 5) 2 j s) 0 (j 0) := by unfold Has; kernel_rfl
theorem pg52_k1 (j : Nat → Value) (s : St) : Has (run11 (iv 5) 2 j s) 1 (j 1) := by unfold Has; kernel_rfl
theorem pg52_k6 (j : Nat → Value) (s : St) : Has (run11 (iv 5) 2 j s) 6 (j 6) := by unfold Has; kernel_rfl
theorem pg52_k7 (j : Nat → Value) (s : St) : Has (run11 (iv 5) 2 j s) 7 (j 7) := by unfold Has; kernel_rfl
theorem pg52_k8 (j : Nat → Value) (s : St) : Has (run11 (iv 5) 2 j s) 8 (j 8) := by unfold Has; kernel_rfl
theorem pg52_k45 (j : Nat → Value) (s : St) : Has (run11 (iv 5) 2 j s) 45 (j 45) := by unfold Has; kernel_rfl
theorem pg52_k46 (j : Nat → Value) (s : St) : Has (run11 (iv 5) 2 j s) 46 (j 46) := by unfold Has; kernel_rfl
theorem pg52_k47 (j : Nat → Value) (s : St) : Has (run11 (iv 5) 2 j s) 47 (j 47) := by unfold Has; kernel_rfl
theorem pg53_run (j : Nat → Value) (s : St) : Goes (run11 (iv 5) 3 j s) s := ⟨by kernel_rfl, by kernel_rfl⟩
theorem pg53_t61 (j : Nat → Value) (s : St) : Has (run11 (iv 5) 3 j s) 61 (.bool false) := by unfold Has; kernel_rfl
theorem pg53_t2 (j : Nat → Value) (s : St) : Has (run11 (iv 5) 3 j s) 2 (iv 3) := by unfold Has; kernel_rfl
theorem pg53_t10 (j : Nat → Value) (s : St) : Has (run11 (iv 5) 3 j s) 10 (iv 5) := by unfold Has; kernel_rfl
theorem pg53_k0 (j : Nat → Value) (s : St) : Has (run11 (iv 5) 3 j s) 0 (j 0) := by unfold Has; kernel_rfl
theorem pg53_k1 (j : Nat → Value) (s : St) : Has (run11 (iv 5) 3 j s) 1 (j 1) := by unfold Has; kernel_rfl
theorem pg53_k6 (j : Nat → Value) (s : St) : Has (run11 (iv 5) 3 j s) 6 (j 6) := by unfold Has; kernel_rfl
theorem pg53_k7 (j : Nat → Value) (s : St) : Has (run11 (iv 5) 3 j s) 7 (j 7) := by unfold Has; kernel_rfl
theorem pg53_k8 (j : Nat → Value) (s : St) : Has (run11 (iv 5) 3 j s) 8 (j 8) := by unfold Has; kernel_rfl
theorem pg53_k45 (j : Nat → Value) (s : St) : Has (run11 (iv 5) 3 j s) 45 (j 45) := by unfold Has; kernel_rfl
theorem pg53_k46 (j : Nat → Value) (s : St) : Has (run11 (iv 5) 3 j s) 46 (j 46) := by unfold Has; kernel_rfl
theorem pg53_k47 (j : Nat → Value) (s : St) : Has (run11 (iv 5) 3 j s) 47 (j 47) := by unfold Has; kernel_rfl
theorem pg54_run (j : Nat → Value) (s : St) : Goes (run11 (iv 5) 4 j s) s := ⟨by kernel_rfl, by kernel_rfl⟩
theorem pg54_t61 (j : Nat → Value) (s : St) : Has (run11 (iv 5) 4 j s) 61 (.bool false) := by unfold Has; kernel_rfl
theorem pg54_t2 (j : Nat → Value) (s : St) : Has (run11 (iv 5) 4 j s) 2 (iv 4) := by unfold Has; kernel_rfl
theorem pg54_t10 (j : Nat → Value) (s : St) : Has (run11 (iv 5) 4 j s) 10 (iv 5) := by unfold Has; kernel_rfl
theorem pg54_k0 (j : Nat → Value) (s : St) : Has (run11 (iv 5) 4 j s) 0 (j 0) := by unfold Has; kernel_rfl
theorem pg54_k1 (j : Nat → Value) (s : St) : Has (run11 (iv 5) 4 j s) 1 (j 1) := by unfold Has; kernel_rfl
theorem pg54_k6 (j : Nat → Value) (s : St) : Has (run11 (iv 5) 4 j s) 6 (j 6) := by unfold Has; kernel_rfl
theorem pg54_k7 (j : Nat → Value) (s : St) : Has (run11 (iv 5) 4 j s) 7 (j 7) := by unfold Has; kernel_rfl
theorem pg54_k8 (j : Nat → Value) (s : St) : Has (run11 (iv 5) 4 j s) 8 (j 8) := by unfold Has; kernel_rfl
theorem pg54_k45 (j : Nat → Value) (s : St) : Has (run11 (iv 5) 4 j s) 45 (j 45) := by unfold Has; kernel_rfl
theorem pg54_k46 (j : Nat → Value) (s : St) : Has (run11 (iv 5) 4 j s) 46 (j 46) := by unfold Has; kernel_rfl
theorem pg54_k47 (j : Nat → Value) (s : St) : Has (run11 (iv 5) 4 j s) 47 (j 47) := by unfold Has; kernel_rfl
theorem pg55_run (j : Nat → Value) (s : St) : Goes (run11 (iv 5) 5 j s) s := ⟨by kernel_rfl, by kernel_rfl⟩
theorem pg55_t61 (j : Nat → Value) (s : St) : Has (run11 (iv 5) 5 j s) 61 (.bool true) := by unfold Has; kernel_rfl
theorem pg55_t2 (j : Nat → Value) (s : St) : Has (run11 (iv 5) 5 j s) 2 (iv 5) := by unfold Has; kernel_rfl
theorem pg55_t10 (j : Nat → Value) (s : St) : Has (run11 (iv 5) 5 j s) 10 (iv 5) := by unfold Has; kernel_rfl
theorem pg55_k0 (j : Nat → Value) (s : St) : Has (run11 (iv 5) 5 j s) 0 (j 0) := by unfold Has; kernel_rfl
theorem pg55_k1 (j : Nat → Value) (s : St) : Has (run11 (iv 5) 5 j s) 1 (j 1) := by unfold Has; kernel_rfl
theorem pg55_k6 (j : Nat → Value) (s : St) : Has (run11 (iv 5) 5 j s) 6 (j 6) := by unfold Has; kernel_rfl
theorem pg55_k7 (j : Nat → Value) (s : St) : Has (run11 (iv 5) 5 j s) 7 (j 7) := by unfold Has; kernel_rfl
theorem pg55_k8 (j : Nat → Value) (s : St) : Has (run11 (iv 5) 5 j s) 8 (j 8) := by unfold Has; kernel_rfl
theorem pg55_k45 (j : Nat → Value) (s : St) : Has (run11 (iv 5) 5 j s) 45 (j 45) := by unfold Has; kernel_rfl
theorem pg55_k46 (j : Nat → Value) (s : St) : Has (run11 (iv 5) 5 j s) 46 (j 46) := by unfold Has; kernel_rfl
theorem pg55_k47 (j : Nat → Value) (s : St) : Has (run11 (iv 5) 5 j s) 47 (j 47) := by unfold Has; kernel_rfl
/-- what is checked of a round -/
structure TrOk (many k q : Nat) : Prop where
  go : ∀ j, trans tab ca 100000 rest many k q j = true
  nd : (nextP many k q).Nodup
  pos : ∀ x ∈ nextP many k q, 1 ≤ x ∧ x ≤ max k q
  len : (nextP many k q).length < many

theorem go201 (j : Nat → Value) : trans tab ca 100000 rest 2 0 1 j = true := by kernel_rfl
theorem tr201 : TrOk 2 0 1 := ⟨go201, by decide, by decide, by decide⟩
theorem go211 (j : Nat → Value) : trans tab ca 100000 rest 2 1 1 j = true := by kernel_rfl
theorem tr211 : TrOk 2 1 1 := ⟨go211, by decide, by decide, by decide⟩
theorem go212 (j : Nat → Value) : trans tab ca 100000 rest 2 1 2 j = true := by kernel_rfl
theorem tr212 : TrOk 2 1 2 := ⟨go212, by decide, by decide, by decide⟩
theorem go301 (j : Nat → Value) : trans tab ca 100000 rest 3 0 1 j = true := by kernel_rfl
theorem tr301 : TrOk 3 0 1 := ⟨go301, by decide, by decide, by decide⟩
theorem go311 (j : Nat → Value) : trans tab ca 100000 rest 3 1 1 j = true := by kernel_rfl
theorem tr311 : TrOk 3 1 1 := ⟨go311, by decide, by decide, by decide⟩
theorem go312 (j : Nat → Value) : trans tab ca 100000 rest 3 1 2 j = true := by kernel_rfl
theorem tr312 : TrOk 3 1 2 := ⟨go312, by decide, by decide, by decide⟩
theorem go321 (j : Nat → Value) : trans tab ca 100000 rest 3 2 1 j = true := by kernel_rfl
theorem tr321 : TrOk 3 2 1 := ⟨go321, by decide, by decide, by decide⟩
theorem go322 (j : Nat → Value) : trans tab ca 100000 rest 3 2 2 j = true := by kernel_rfl
theorem tr322 : TrOk 3 2 2 := ⟨go322, by decide, by decide, by decide⟩
theorem go323 (j : Nat → Value) : trans tab ca 100000 rest 3 2 3 j = true := by kernel_rfl
theorem tr323 : TrOk 3 2 3 := ⟨go323, by decide, by decide, by decide⟩
theorem go401 (j : Nat → Value) : trans tab ca 100000 rest 4 0 1 j = true := by kernel_rfl
theorem tr401 : TrOk 4 0 1 := ⟨go401, by decide, by decide, by decide⟩
theorem go411 (j : Nat → Value) : trans tab ca 100000 rest 4 1 1 j = true := by kernel_rfl
theorem tr411 : TrOk 4 1 1 := ⟨go411, by decide, by decide, by decide⟩
theorem go412 (j : Nat → Value) : trans tab ca 100000 rest 4 1 2 j = true := by kernel_rfl
theorem tr412 : TrOk 4 1 2 := ⟨go412, by decide, by decide, by decide⟩
theorem go421 (j : Nat → Value) : trans tab ca 100000 rest 4 2 1 j = true := by kernel_rfl
theorem tr421 : TrOk 4 2 1 := ⟨go421, by decide, by decide, by decide⟩
theorem go422 (j : Nat → Value) : trans tab ca 100000 rest 4 2 2 j = true := by kernel_rfl
theorem tr422 : TrOk 4 2 2 := ⟨go422, by decide, by decide, by decide⟩
theorem go423 (j : Nat → Value) : trans tab ca 100000 rest 4 2 3 j = true := by kernel_rfl
theorem tr423 : TrOk 4 2 3 := ⟨go423, by decide, by decide, by decide⟩
theorem go431 (j : Nat → Value) : trans tab ca 100000 rest 4 3 1 j = true := by kernel_rfl
theorem tr431 : TrOk 4 3 1 := ⟨go431, by decide, by decide, by decide⟩
theorem go432 (j : Nat → Value) : trans tab ca 100000 rest 4 3 2 j = true := by kernel_rfl
theorem tr432 : TrOk 4 3 2 := ⟨go432, by decide, by decide, by decide⟩
theorem go433 (j : Nat → Value) : trans tab ca 100000 rest 4 3 3 j = true := by kernel_rfl
theorem tr433 : TrOk 4 3 3 := ⟨go433, by decide, by decide, by decide⟩
theorem go434 (j : Nat → Value) : trans tab ca 100000 rest 4 3 4 j = true := by kernel_rfl
theorem tr434 : TrOk 4 3 4 := ⟨go434, by decide, by decide, by decide⟩
theorem go501 (j : Nat → Value) : trans tab ca 100000 rest 5 0 1 j = true := by kernel_rfl
theorem tr501 : TrOk 5 0 1 := ⟨go501, by decide, by decide, by decide⟩
theorem go511 (j : Nat → Value) : trans tab ca 100000 rest 5 1 1 j = true := by kernel_rfl
theorem tr511 : TrOk 5 1 1 := ⟨go511, by decide, by decide, by decide⟩
theorem go512 (j : Nat → Value) : trans tab ca 100000 rest 5 1 2 j = true := by kernel_rfl
theorem tr512 : TrOk 5 1 2 := ⟨go512, by decide, by decide, by decide⟩
theorem go521 (j : Nat → Value) : trans tab ca 100000 rest 5 2 1 j = true := by kernel_rfl
theorem tr521 : TrOk 5 2 1 := ⟨go521, by decide, by decide, by decide⟩
theorem go522 (j : Nat → Value) : trans tab ca 100000 rest 5 2 2 j = true := by kernel_rfl
theorem tr522 : TrOk 5 2 2 := ⟨go522, by decide, by decide, by decide⟩
theorem go523 (j : Nat → Value) : trans tab ca 100000 rest 5 2 3 j = true := by kernel_rfl
theorem tr523 : TrOk 5 2 3 := ⟨go523, by decide, by decide, by decide⟩
theorem go531 (j : Nat → Value) : trans tab ca 100000 rest 5 3 1 j = true := by kernel_rfl
theorem tr531 : TrOk 5 3 1 := ⟨go531, by decide, by decide, by decide⟩
theorem go532 (j : Nat → Value) : trans tab ca 100000 rest 5 3 2 j = true := by kernel_rfl
theorem tr532 : TrOk 5 3 2 := ⟨go532, by decide, by decide, by decide⟩
theorem go533 (j : Nat → Value) : trans tab ca 100000 rest 5 3 3 j = true := by kernel_rfl
theorem tr533 : TrOk 5 3 3 := ⟨go533, by decide, by decide, by decide⟩
theorem go534 (j : Nat → Value) : trans tab ca 100000 rest 5 3 4 j = true := by kernel_rfl
theorem tr534 : TrOk 5 3 4 := ⟨go534, by decide, by decide, by decide⟩
theorem go541 (j : Nat → Value) : trans tab ca 100000 rest 5 4 1 j = true := by kernel_rfl
theorem tr541 : TrOk 5 4 1 := ⟨go541, by decide, by decide, by decide⟩
theorem go542 (j : Nat → Value) : trans tab ca 100000 rest 5 4 2 j = true := by kernel_rfl
theorem tr542 : TrOk 5 4 2 := ⟨go542, by decide, by decide, by decide⟩
theorem go543 (j : Nat → Value) : trans tab ca 100000 rest 5 4 3 j = true := by kernel_rfl
theorem tr543 : TrOk 5 4 3 := ⟨go543, by decide, by decide, by decide⟩
theorem go544 (j : Nat → Value) : trans tab ca 100000 rest 5 4 4 j = true := by kernel_rfl
theorem tr544 : TrOk 5 4 4 := ⟨go544, by decide, by decide, by decide⟩
theorem go545 (j : Nat → Value) : trans tab ca 100000 rest 5 4 5 j = true := by kernel_rfl
theorem tr545 : TrOk 5 4 5 := ⟨go545, by decide, by decide, by decide⟩
theorem go601 (j : Nat → Value) : trans tab ca 100000 rest 6 0 1 j = true := by kernel_rfl
theorem tr601 : TrOk 6 0 1 := ⟨go601, by decide, by decide, by decide⟩
theorem go611 (j : Nat → Value) : trans tab ca 100000 rest 6 1 1 j = true := by kernel_rfl
theorem tr611 : TrOk 6 1 1 := ⟨go611, by decide, by decide, by decide⟩
theorem go612 (j : Nat → Value) : trans tab ca 100000 rest 6 1 2 j = true := by kernel_rfl
theorem tr612 : TrOk 6 1 2 := ⟨go612, by decide, by decide, by decide⟩
theorem go621 (j : Nat → Value) : trans tab ca 100000 rest 6 2 1 j = true := by kernel_rfl
theorem tr621 : TrOk 6 2 1 := ⟨go621, by decide, by decide, by decide⟩
theorem go622 (j : Nat → Value) : trans tab ca 100000 rest 6 2 2 j = true := by kernel_rfl
theorem tr622 : TrOk 6 2 2 := ⟨go622, by decide, by decide, by decide⟩
theorem go623 (j : Nat → Value) : trans tab ca 100000 rest 6 2 3 j = true := by kernel_rfl
theorem tr623 : TrOk 6 2 3 := ⟨go623, by decide, by decide, by decide⟩
theorem go631 (j : Nat → Value) : trans tab ca 100000 rest 6 3 1 j = true := by kernel_rfl
theorem tr631 : TrOk 6 3 1 := ⟨go631, by decide, by decide, by decide⟩
theorem go632 (j : Nat → Value) : trans tab ca 100000 rest 6 3 2 j = true := by kernel_rfl
theorem tr632 : TrOk 6 3 2 := ⟨go632, by decide, by decide, by decide⟩
theorem go633 (j : Nat → Value) : trans tab ca 100000 rest 6 3 3 j = true := by kernel_rfl
theorem tr633 : TrOk 6 3 3 := ⟨go633, by decide, by decide, by decide⟩
theorem go634 (j : Nat → Value) : trans tab ca 100000 rest 6 3 4 j = true := by kernel_rfl
theorem tr634 : TrOk 6 3 4 := ⟨go634, by decide, by decide, by decide⟩
theorem go641 (j : Nat → Value) : trans tab ca 100000 rest 6 4 1 j = true := by kernel_rfl
theorem tr641 : TrOk 6 4 1 := ⟨go641, by decide, by decide, by decide⟩
theorem go642 (j : Nat → Value) : trans tab ca 100000 rest 6 4 2 j = true := by kernel_rfl
theorem tr642 : TrOk 6 4 2 := ⟨go642, by decide, by decide, by decide⟩
theorem go643 (j : Nat → Value) : trans tab ca 100000 rest 6 4 3 j = true := by kernel_rfl
theorem tr643 : TrOk 6 4 3 := ⟨go643, by decide, by decide, by decide⟩
theorem go644 (j : Nat → Value) : trans tab ca 100000 rest 6 4 4 j = true := by kernel_rfl
theorem tr644 : TrOk 6 4 4 := ⟨go644, by decide, by decide, by decide⟩
theorem go645 (j : Nat → Value) : trans tab ca 100000 rest 6 4 5 j = true := by kernel_rfl
theorem tr645 : TrOk 6 4 5 := ⟨go645, by decide, by decide, by decide⟩
theorem go651 (j : Nat → Value) : trans tab ca 100000 rest 6 5 1 j = true := by kernel_rfl
theorem tr651 : TrOk 6 5 1 := ⟨go651, by decide, by decide, by decide⟩
theorem go652 (j : Nat → Value) : trans tab ca 100000 rest 6 5 2 j = true := by kernel_rfl
theorem tr652 : TrOk 6 5 2 := ⟨go652, by decide, by decide, by decide⟩
theorem go653 (j : Nat → Value) : trans tab ca 100000 rest 6 5 3 j = true := by kernel_rfl
theorem tr653 : TrOk 6 5 3 := ⟨go653, by decide, by decide, by decide⟩
theorem go654 (j : Nat → Value) : trans tab ca 100000 rest 6 5 4 j = true := by kernel_rfl
theorem tr654 : TrOk 6 5 4 := ⟨go654, by decide, by decide, by decide⟩
theorem go655 (j : Nat → Value) : trans tab ca 100000 rest 6 5 5 j = true := by kernel_rfl
theorem tr655 : TrOk 6 5 5 := ⟨go655, by decide, by decide, by decide⟩
theorem fin20 (j : Nat → Value) : final tab ca 100000 post 2 0 j = true := by kernel_rfl
theorem fin21 (j : Nat → Value) : final tab ca 100000 post 2 1 j = true := by kernel_rfl
theorem fin30 (j : Nat → Value) : final tab ca 100000 post 3 0 j = true := by kernel_rfl
theorem fin31 (j : Nat → Value) : final tab ca 100000 post 3 1 j = true := by kernel_rfl
theorem fin32 (j : Nat → Value) : final tab ca 100000 post 3 2 j = true := by kernel_rfl
theorem fin40 (j : Nat → Value) : final tab ca 100000 post 4 0 j = true := by kernel_rfl
theorem fin41 (j : Nat → Value) : final tab ca 100000 post 4 1 j = true := by kernel_rfl
theorem fin42 (j : Nat → Value) : final tab ca 100000 post 4 2 j = true := by kernel_rfl
theorem fin43 (j : Nat → Value) : final tab ca 100000 post 4 3 j = true := by kernel_rfl
theorem fin50 (j : Nat → Value) : final tab ca 100000 post 5 0 j = true := by kernel_rfl
theorem fin51 (j : Nat → Value) : final tab ca 100000 post 5 1 j = true := by kernel_rfl
theorem fin52 (j : Nat → Value) : final tab ca 100000 post 5 2 j = true := by kernel_rfl
theorem fin53 (j : Nat → Value) : final tab ca 100000 post 5 3 j = true := by kernel_rfl
theorem fin54 (j : Nat → Value) : final tab ca 100000 post 5 4 j = true := by kernel_rfl
theorem fin60 (j : Nat → Value) : final tab ca 100000 post 6 0 j = true := by kernel_rfl
theorem fin61 (j : Nat → Value) : final tab ca 100000 post 6 1 j = true := by kernel_rfl
theorem fin62 (j : Nat → Value) : final tab ca 100000 post 6 2 j = true := by kernel_rfl
theorem fin63 (j : Nat → Value) : final tab ca 100000 post 6 3 j = true := by kernel_rfl
theorem fin64 (j : Nat → Value) : final tab ca 100000 post 6 4 j = true := by kernel_rfl
theorem fin65 (j : Nat → Value) : final tab ca 100000 post 6 5 j = true := by kernel_rfl
theorem st2 : Ab.start tab ca 100000 pre r8 2 = true := by kernel_rfl
theorem st3 : Ab.start tab ca 100000 pre r8 3 = true := by kernel_rfl
theorem st4 : Ab.start tab ca 100000 pre r8 4 = true := by kernel_rfl
theorem st5 : Ab.start tab ca 100000 pre r8 5 = true := by kernel_rfl
theorem st6 : Ab.start tab ca 100000 pre r8 6 = true := by kernel_rfl
theorem ga (m n : Int) : isTrue (ca 4 [.int .i64 m, xt 4, .int .i64 n] ⟨.leaf, 0⟩) = true := by kernel_rfl
theorem gb (m : Nat) (n : Int) : isTrue (ca 4 [.int .i64 (.negSucc m), xt 0, .int .i64 n] ⟨.leaf, 0⟩) = true := by kernel_rfl
theorem gc (n : Int) : isTrue (ca 4 [iv 0, xt 0, .int .i64 n] ⟨.leaf, 0⟩) = true := by kernel_rfl
theorem gd (n : Int) : isTrue (ca 4 [iv 1, xt 0, .int .i64 n] ⟨.leaf, 0⟩) = true := by kernel_rfl
theorem ge (m : Nat) (n : Int) : isTrue (ca 4 [.int .i64 (.ofNat (m + 7)), xt 0, .int .i64 n] ⟨.leaf, 0⟩) = true := by kernel_rfl
theorem gf2 (n : Nat) : isTrue (ca 4 [iv 2, xt 0, .int .i64 (.negSucc n)] ⟨.leaf, 0⟩) = true := by kernel_rfl
theorem gg2 (n : Nat) : isTrue (ca 4 [iv 2, xt 0, .int .i64 (.ofNat (n + 6))] ⟨.leaf, 0⟩) = true := by kernel_rfl
theorem gf3 (n : Nat) : isTrue (ca 4 [iv 3, xt 0, .int .i64 (.negSucc n)] ⟨.leaf, 0⟩) = true := by kernel_rfl
theorem gg3 (n : Nat) : isTrue (ca 4 [iv 3, xt 0, .int .i64 (.ofNat (n + 6))] ⟨.leaf, 0⟩) = true := by kernel_rfl
theorem gf4 (n : Nat) : isTrue (ca 4 [iv 4, xt 0, .int .i64 (.negSucc n)] ⟨.leaf, 0⟩) = true := by kernel_rfl
theorem gg4 (n : Nat) : isTrue (ca 4 [iv 4, xt 0, .int .i64 (.ofNat (n + 6))] ⟨.leaf, 0⟩) = true := by kernel_rfl
theorem gf5 (n : Nat) : isTrue (ca 4 [iv 5, xt 0, .int .i64 (.negSucc n)] ⟨.leaf, 0⟩) = true := by kernel_rfl
theorem gg5 (n : Nat) : isTrue (ca 4 [iv 5, xt 0, .int .i64 (.ofNat (n + 6))] ⟨.leaf, 0⟩) = true := by kernel_rfl
theorem gf6 (n : Nat) : isTrue (ca 4 [iv 6, xt 0, .int .i64 (.negSucc n)] ⟨.leaf, 0⟩) = true := by kernel_rfl
theorem gg6 (n : Nat) : isTrue (ca 4 [iv 6, xt 0, .int .i64 (.ofNat (n + 6))] ⟨.leaf, 0⟩) = true := by kernel_rfl
theorem trAll {many k q : Nat} (h1 : 2 ≤ many) (h2 : many ≤ 6) (h3 : k < many) (h4 : 1 ≤ q) (h5 : q ≤ k + 1) (h6 : k = 5 → q ≤ 5) : TrOk many k q := by
  rcases (by omega : many = 2 ∨ many = 3 ∨ many = 4 ∨ many = 5 ∨ many = 6) with rfl | rfl | rfl | rfl | rfl
  · rcases (by omega : k = 0 ∨ k = 1) with rfl | rfl
    · obtain rfl : q = 1 := by omega
      exact tr201
    · rcases (by omega : q = 1 ∨ q = 2) with rfl | rfl
      · exact tr211
      · exact tr212
  · rcases (by omega : k = 0 ∨ k = 1 ∨ k = 2) with rfl | rfl | rfl
    · obtain rfl : q = 1 := by omega
      exact tr301
    · rcases (by omega : q = 1 ∨ q = 2) with rfl | rfl
      · exact tr311
      · exact tr312
    · rcases (by omega : q = 1 ∨ q = 2 ∨ q = 3) with rfl | rfl | rfl
      · exact tr321
      · exact tr322
      · exact tr323
  · rcases (by omega : k = 0 ∨ k = 1 ∨ k = 2 ∨ k = 3) with rfl | rfl | rfl | rfl
    · obtain rfl : q = 1 := by omega
      exact tr401
    · rcases (by omega : q = 1 ∨ q = 2) with rfl | rfl
      · exact tr411
      · exact tr412
    · rcases (by omega : q = 1 ∨ q = 2 ∨ q = 3) with rfl | rfl | rfl
      · exact tr421
      · exact tr422
      · exact tr423
    · rcases (by omega : q = 1 ∨ q = 2 ∨ q = 3 ∨ q = 4) with rfl | rfl | rfl | rfl
      · exact tr431
      · exact tr432
      · exact tr433
      · exact tr434
  · rcases (by omega : k = 0 ∨ k = 1 ∨ k = 2 ∨ k = 3 ∨ k = 4) with rfl | rfl | rfl | rfl | rfl
    · obtain rfl : q = 1 := by omega
      exact tr501
    · rcases (by omega : q = 1 ∨ q = 2) with rfl | rfl
      · exact tr511
      · exact tr512
    · rcases (by omega : q = 1 ∨ q = 2 ∨ q = 3) with rfl | rfl | rfl
      · exact tr521
      · exact tr522
      · exact tr523
    · rcases (by omega : q = 1 ∨ q = 2 ∨ q = 3 ∨ q = 4) with rfl | rfl | rfl | rfl
      · exact tr531
      · exact tr532
      · exact tr533
      · exact tr534
    · rcases (by omega : q = 1 ∨ q = 2 ∨ q = 3 ∨ q = 4 ∨ q = 5) with rfl | rfl | rfl | rfl | rfl
      · exact tr541
      · exact tr542
      · exact tr543
      · exact tr544
      · exact tr545
  · rcases (by omega : k = 0 ∨ k = 1 ∨ k = 2 ∨ k = 3 ∨ k = 4 ∨ k = 5) with rfl | rfl | rfl | rfl | rfl | rfl
    · obtain rfl : q = 1 := by omega
      exact tr601
    · rcases (by omega : q = 1 ∨ q = 2) with rfl | rfl
      · exact tr611
      · exact tr612
    · rcases (by omega : q = 1 ∨ q = 2 ∨ q = 3) with rfl | rfl | rfl
      · exact tr621
      · exact tr622
      · exact tr623
    · rcases (by omega : q = 1 ∨ q = 2 ∨ q = 3 ∨ q = 4) with rfl | rfl | rfl | rfl
      · exact tr631
      · exact tr632
      · exact tr633
      · exact tr634
    · rcases (by omega : q = 1 ∨ q = 2 ∨ q = 3 ∨ q = 4 ∨ q = 5) with rfl | rfl | rfl | rfl | rfl
      · exact tr641
      · exact tr642
      · exact tr643
      · exact tr644
      · exact tr645
    · rcases (by omega : q = 1 ∨ q = 2 ∨ q = 3 ∨ q = 4 ∨ q = 5) with rfl | rfl | rfl | rfl | rfl
      · exact tr651
      · exact tr652
      · exact tr653
      · exact tr654
      · exact tr655

theorem finAll {many k : Nat} (h1 : 2 ≤ many) (h2 : many ≤ 6) (h3 : k < many) (j : Nat → Value) : final tab ca 100000 post many k j = true := by
  rcases (by omega : many = 2 ∨ many = 3 ∨ many = 4 ∨ many = 5 ∨ many = 6) with rfl | rfl | rfl | rfl | rfl
  · rcases (by omega : k = 0 ∨ k = 1) with rfl | rfl
    · exact fin20 j
    · exact fin21 j
  · rcases (by omega : k = 0 ∨ k = 1 ∨ k = 2) with rfl | rfl | rfl
    · exact fin30 j
    · exact fin31 j
    · exact fin32 j
  · rcases (by omega : k = 0 ∨ k = 1 ∨ k = 2 ∨ k = 3) with rfl | rfl | rfl | rfl
    · exact fin40 j
    · exact fin41 j
    · exact fin42 j
    · exact fin43 j
  · rcases (by omega : k = 0 ∨ k = 1 ∨ k = 2 ∨ k = 3 ∨ k = 4) with rfl | rfl | rfl | rfl | rfl
    · exact fin50 j
    · exact fin51 j
    · exact fin52 j
    · exact fin53 j
    · exact fin54 j
  · rcases (by omega : k = 0 ∨ k = 1 ∨ k = 2 ∨ k = 3 ∨ k = 4 ∨ k = 5) with rfl | rfl | rfl | rfl | rfl | rfl
    · exact fin60 j
    · exact fin61 j
    · exact fin62 j
    · exact fin63 j
    · exact fin64 j
    · exact fin65 j

theorem stAll {many : Nat} (h1 : 2 ≤ many) (h2 : many ≤ 6) : Ab.start tab ca 100000 pre r8 many = true := by
  rcases (by omega : many = 2 ∨ many = 3 ∨ many = 4 ∨ many = 5 ∨ many = 6) with rfl | rfl | rfl | rfl | rfl
  · exact st2
  · exact st3
  · exact st4
  · exact st5
  · exact st6

end Go.Proofs.Ytijfafacddefhaa.cacheLast
