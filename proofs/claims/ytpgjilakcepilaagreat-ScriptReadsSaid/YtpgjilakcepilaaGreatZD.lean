/- The states at which the run of scriptAlive is cut: literal data; no condition. -/
import Derived.Test.YtpgjilakcepilaaGreatXTab
namespace Go.Proofs.YtpgjilakcepilaaGreat.alive
open Ab
set_option linter.unusedSectionVars false
variable [Tok]
noncomputable section
def y (n : Nat) : Value := .int .u8 (.ofNat n)
def i (n : Nat) : Value := .int .i64 (.ofNat n)
def p (b o : Nat) : Value := .pointer (some ⟨b, o, none⟩)
def s (b o n c : Nat) : Value := .slice (some ⟨b, o, none⟩) n c
def ys : List Nat → List Value
  | [] => []
  | n :: l => y n :: ys l
noncomputable def o0 : AObj := (.cells [(.slice none 0 0), (.slice none 0 0), (.slice none 0 0)] 1 false)
noncomputable def o1 : AObj := (.cells [(i 1), (i 0), (i 0), (i 0), (i 0), (.int .u16 (.ofNat 0)), (i 0), (i 0), (i 0), (.complex .f64 0 0), (i 1), (i 3), (i 0), (i 0), (i 0), (.int .u16 (.ofNat 0)), (i 0), (i 0), (i 0), (.complex .f64 0 0)] 10 false)
noncomputable def h0 : Tree AObj := .node (some o0) .leaf .leaf
noncomputable def h1 : Tree AObj := .node none .leaf h0
noncomputable def h2 : Tree AObj := .node none .leaf h1
noncomputable def h3 : Tree AObj := .node none .leaf h2
noncomputable def h4 : Tree AObj := .node none .leaf h3
noncomputable def h5 : Tree AObj := .node (some o1) .leaf .leaf
noncomputable def h6 : Tree AObj := .node none h5 .leaf
noncomputable def h7 : Tree AObj := .node none h6 .leaf
noncomputable def h8 : Tree AObj := .node none h7 .leaf
noncomputable def h9 : Tree AObj := .node none h8 .leaf
noncomputable def h10 : Tree AObj := .node none h9 .leaf
noncomputable def h11 : Tree AObj := .node none h4 h10
noncomputable def o2 : AObj := (.cells (ys [0, 0, 1, 0, 0, 1, 0, 0, 1, 0, 0, 1, 0, 0, 100, 0, 0, 2, 0, 0, 1, 0, 0, 0, 0, 0, 0, 0, 0, 1, 0, 0, 1, 0, 0, 0, 0, 0, 0, 0, 0, 0, 0, 0, 0, 0, 0, 0, 0, 0, 0, 0, 0, 0, 0, 0, 0, 0, 0, 0, 0, 0, 0, 1, 0, 0, 3, 0, 0, 0, 0, 0, 1, 0, 0, 1, 0, 0, 0, 0, 0, 0, 0, 0, 0, 0, 0, 0, 0, 0, 0, 0, 0, 0, 0, 0, 0, 0, 0, 0, 0, 0, 0, 0]) 1 true)
noncomputable def h12 : Tree AObj := .node (some o2) .leaf .leaf
noncomputable def h13 : Tree AObj := .node none h12 .leaf
noncomputable def h14 : Tree AObj := .node none .leaf h13
noncomputable def h15 : Tree AObj := .node none h14 .leaf
noncomputable def h16 : Tree AObj := .node none h15 .leaf
noncomputable def h17 : Tree AObj := .node none h16 .leaf
noncomputable def h18 : Tree AObj := .node none .leaf h17
noncomputable def h19 : Tree AObj := .node none .leaf h18
noncomputable def h20 : Tree AObj := .node none h4 h19
noncomputable def c95 : Cut := ⟨10, [(.agg #[(i 1), (i 1), (i 1), (i 1), (i 100), (s 64 0 2 2)])], ⟨h11, 65⟩, (.tuple #[(s 326 0 104 (OPEN + 104)), (i 0)]), ⟨h20, 327⟩⟩
noncomputable def h21 : Tree AObj := .node none h0 .leaf
noncomputable def h22 : Tree AObj := .node none .leaf h21
noncomputable def h23 : Tree AObj := .node none h22 .leaf
noncomputable def h24 : Tree AObj := .node none h23 .leaf
noncomputable def h25 : Tree AObj := .node none .leaf h24
noncomputable def h26 : Tree AObj := .node none h25 .leaf
noncomputable def h27 : Tree AObj := .node none h26 h3
noncomputable def h28 : Tree AObj := .node none h27 h19
noncomputable def o3 : AObj := (.cells [(i 1), (i 0), (i 0), (i 0), (i 0), (.int .u16 (.ofNat 0)), (i 0), (i 0), (i 0), (.complex .f64 0 0), (i 1), (i 3), (i 0), (i 0), (i 0), (.int .u16 (.ofNat 0)), (i 0), (i 0), (i 0), (.complex .f64 0 0)] 10 true)
noncomputable def h29 : Tree AObj := .node (some o3) .leaf .leaf
noncomputable def h30 : Tree AObj := .node none .leaf h29
noncomputable def h31 : Tree AObj := .node none .leaf h30
noncomputable def h32 : Tree AObj := .node none h31 .leaf
noncomputable def h33 : Tree AObj := .node none h32 .leaf
noncomputable def h34 : Tree AObj := .node none .leaf h33
noncomputable def h35 : Tree AObj := .node none h34 .leaf
noncomputable def h36 : Tree AObj := .node none .leaf h35
noncomputable def h37 : Tree AObj := .node none h27 h36
noncomputable def c234 : Cut := ⟨5, [(s 326 0 104 (OPEN + 104))], ⟨h28, 328⟩, (.tuple #[(.agg #[(i 1), (i 1), (i 1), (i 1), (i 100), (s 458 0 2 (OPEN + 2))]), (i 0)]), ⟨h37, 502⟩⟩
noncomputable def o4 : AObj := (.cells [(.bool true), (.bool false)] 1 true)
noncomputable def h38 : Tree AObj := .node (some o4) .leaf .leaf
noncomputable def h39 : Tree AObj := .node none h38 .leaf
noncomputable def h40 : Tree AObj := .node none h39 .leaf
noncomputable def h41 : Tree AObj := .node none .leaf h40
noncomputable def h42 : Tree AObj := .node none .leaf h41
noncomputable def h43 : Tree AObj := .node none .leaf h42
noncomputable def h44 : Tree AObj := .node none .leaf h43
noncomputable def h45 : Tree AObj := .node none .leaf h44
noncomputable def h46 : Tree AObj := .node none .leaf h45
noncomputable def h47 : Tree AObj := .node none h4 h46
noncomputable def c233 : Cut := ⟨11, [(s 326 0 104 (OPEN + 104))], ⟨h20, 327⟩, (.tuple #[(.agg #[(s 638 0 2 (OPEN + 2)), (.slice none 0 0), (.slice none 0 0)]), (i 0)]), ⟨h47, 639⟩⟩
noncomputable def l95 : List (Nat × Sum) := [(215, crcH)]
noncomputable def l234 : List (Nat × Sum) := [(215, crcH)]
noncomputable def l233 : List (Nat × Sum) := [(215, crcH), (5, cutSum [c234])]
noncomputable def lLast : List (Nat × Sum) := [(215, crcH), (10, cutSum [c95]), (11, cutSum [c233])]
end
end Go.Proofs.YtpgjilakcepilaaGreat.alive
