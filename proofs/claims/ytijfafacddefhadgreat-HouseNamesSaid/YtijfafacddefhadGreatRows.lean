/-
  No cell of these rows narrows 'for every input' (looked for: loops, veiled, ifaces, maps, wideKeys, modest, calm, conditions, laid).
  DERIVED. THE GIVEN ROWS OF THIS SEAT. 7 by the template 'for every input the law returns true; each argument reads behind the call as it read before'; 0 by the template 'total and deterministic' (their statements: YtijfafacddefhadGreatTotals.lean).
  GIVEN WITH THE SEED: the statements are not yours to turn. If you find one false, say at which input.
  Laid BY PROGRAM, IN A SANDBOX (cutbox-rows.mjs): the forced cells as the released guide's own fill.sh prints them over the translation 6cd3dc0a8d1fadbc… (all of the seat's roots in one cut). By AI agents, Wed Nov 11 2026. No macro, syntax, notation, axiom, sorry.
-/
import Derived.Test.YtijfafacddefhadGreatChecked
import GoSem.Claim
import GoSem.ClaimJoined
import GoSem.ClaimMapViews
import Derived.JoinedTies
import Derived.KernelRfl
namespace Go.Proofs.YtijfafacddefhadGreat
/- THE CELL 'sum', in the pinned program and in every row, IS THE sha256 OF THE DUMP (.gsa) THAT YtijfafacddefhadGreatProg.lean LOADS. Nothing in Lean hashes anything: it is a label: what it is worth is what the hold of that sum in a sandbox is worth. -/
noncomputable def Tryz.pinned : Pinned := { name := "ytijfafacddefhadgreat", sum := "6cd3dc0a8d1fadbc134ccf0f74ea5cdaf15f3e0e5c04dac4c034330c7d58210c", checked := Tryz.checked }
namespace Rows
def none {H : Type} : Left H := { results := [], args := [] }

/-- 'cloakroomlaw19.HostAlone': WHATEVER THE INPUT: true; the input reads as it did. -/
def hostAloneSpec : ChangeSpec := { name := "hostAlone", fn := fun _ => fun
  | [d1, d2, d3] => { results := [.lit (.bool true)], args := [d1, d2, d3] }
  | _ => none }
def hostAloneRow : OpenClaim := { program := "ytijfafacddefhadgreat", sum := "6cd3dc0a8d1fadbc134ccf0f74ea5cdaf15f3e0e5c04dac4c034330c7d58210c", func := "cloakroom/cloakroomlaw19.HostAlone", spec := "hostAlone", inPlace := ["math.Float64frombits", "math.Float64bits"], unfollowed := true, recurses := true, plainKeys := false, apart := false }
def HostAloneSaid : Prop := hostAloneRow.holds Tryz.pinned (OpenSpec.ofChange hostAloneSpec)

/-- ITS FALSE NEIGHBOUR: 'it returns false'. Refute it at one input. -/
def hostAloneWrong : ChangeSpec := { name := "hostAlone", fn := fun _ => fun
  | [d1, d2, d3] => { results := [.lit (.bool false)], args := [d1, d2, d3] }
  | _ => none }
def HostAloneWrongFalsely : Prop := hostAloneRow.holds Tryz.pinned (OpenSpec.ofChange hostAloneWrong)

/-- 'cloakroomlaw19.HostDone': WHATEVER THE INPUT: true; the input reads as it did. -/
def hostDoneSpec : ChangeSpec := { name := "hostDone", fn := fun _ => fun
  | [d1, d2, d3] => { results := [.lit (.bool true)], args := [d1, d2, d3] }
  | _ => none }
def hostDoneRow : OpenClaim := { program := "ytijfafacddefhadgreat", sum := "6cd3dc0a8d1fadbc134ccf0f74ea5cdaf15f3e0e5c04dac4c034330c7d58210c", func := "cloakroom/cloakroomlaw19.HostDone", spec := "hostDone", inPlace := ["math.Float64frombits", "math.Float64bits"], unfollowed := true, recurses := true, plainKeys := false, apart := false }
def HostDoneSaid : Prop := hostDoneRow.holds Tryz.pinned (OpenSpec.ofChange hostDoneSpec)

/-- ITS FALSE NEIGHBOUR: 'it returns false'. Refute it at one input. -/
def hostDoneWrong : ChangeSpec := { name := "hostDone", fn := fun _ => fun
  | [d1, d2, d3] => { results := [.lit (.bool false)], args := [d1, d2, d3] }
  | _ => none }
def HostDoneWrongFalsely : Prop := hostDoneRow.holds Tryz.pinned (OpenSpec.ofChange hostDoneWrong)

/-- 'cloakroomlaw19.HostSilent': WHATEVER THE INPUT: true; the input reads as it did. -/
def hostSilentSpec : ChangeSpec := { name := "hostSilent", fn := fun _ => fun
  | [d1, d2, d3] => { results := [.lit (.bool true)], args := [d1, d2, d3] }
  | _ => none }
def hostSilentRow : OpenClaim := { program := "ytijfafacddefhadgreat", sum := "6cd3dc0a8d1fadbc134ccf0f74ea5cdaf15f3e0e5c04dac4c034330c7d58210c", func := "cloakroom/cloakroomlaw19.HostSilent", spec := "hostSilent", inPlace := ["math.Float64frombits", "math.Float64bits"], unfollowed := true, recurses := true, plainKeys := false, apart := false }
def HostSilentSaid : Prop := hostSilentRow.holds Tryz.pinned (OpenSpec.ofChange hostSilentSpec)

/-- ITS FALSE NEIGHBOUR: 'it returns false'. Refute it at one input. -/
def hostSilentWrong : ChangeSpec := { name := "hostSilent", fn := fun _ => fun
  | [d1, d2, d3] => { results := [.lit (.bool false)], args := [d1, d2, d3] }
  | _ => none }
def HostSilentWrongFalsely : Prop := hostSilentRow.holds Tryz.pinned (OpenSpec.ofChange hostSilentWrong)

/-- 'cloakroomlaw19.HostRuns': WHATEVER THE INPUT: true; the input reads as it did. -/
def hostRunsSpec : ChangeSpec := { name := "hostRuns", fn := fun _ => fun
  | [d1, d2, d3] => { results := [.lit (.bool true)], args := [d1, d2, d3] }
  | _ => none }
def hostRunsRow : OpenClaim := { program := "ytijfafacddefhadgreat", sum := "6cd3dc0a8d1fadbc134ccf0f74ea5cdaf15f3e0e5c04dac4c034330c7d58210c", func := "cloakroom/cloakroomlaw19.HostRuns", spec := "hostRuns", inPlace := ["math.Float64frombits", "math.Float64bits"], unfollowed := true, recurses := true, plainKeys := false, apart := false }
def HostRunsSaid : Prop := hostRunsRow.holds Tryz.pinned (OpenSpec.ofChange hostRunsSpec)

/-- ITS FALSE NEIGHBOUR: 'it returns false'. Refute it at one input. -/
def hostRunsWrong : ChangeSpec := { name := "hostRuns", fn := fun _ => fun
  | [d1, d2, d3] => { results := [.lit (.bool false)], args := [d1, d2, d3] }
  | _ => none }
def HostRunsWrongFalsely : Prop := hostRunsRow.holds Tryz.pinned (OpenSpec.ofChange hostRunsWrong)

/-- 'cloakroomlaw19.HostAgain': WHATEVER THE INPUT: true; the input reads as it did. -/
def hostAgainSpec : ChangeSpec := { name := "hostAgain", fn := fun _ => fun
  | [d1, d2, d3] => { results := [.lit (.bool true)], args := [d1, d2, d3] }
  | _ => none }
def hostAgainRow : OpenClaim := { program := "ytijfafacddefhadgreat", sum := "6cd3dc0a8d1fadbc134ccf0f74ea5cdaf15f3e0e5c04dac4c034330c7d58210c", func := "cloakroom/cloakroomlaw19.HostAgain", spec := "hostAgain", inPlace := ["math.Float64frombits", "math.Float64bits"], unfollowed := true, recurses := true, plainKeys := false, apart := false }
def HostAgainSaid : Prop := hostAgainRow.holds Tryz.pinned (OpenSpec.ofChange hostAgainSpec)

/-- ITS FALSE NEIGHBOUR: 'it returns false'. Refute it at one input. -/
def hostAgainWrong : ChangeSpec := { name := "hostAgain", fn := fun _ => fun
  | [d1, d2, d3] => { results := [.lit (.bool false)], args := [d1, d2, d3] }
  | _ => none }
def HostAgainWrongFalsely : Prop := hostAgainRow.holds Tryz.pinned (OpenSpec.ofChange hostAgainWrong)

/-- 'cloakroomlaw21.HouseNames': WHATEVER THE INPUT: true; the input reads as it did. -/
def houseNamesSpec : ChangeSpec := { name := "houseNames", fn := fun _ => fun
  | [] => { results := [.lit (.bool true)], args := [] }
  | _ => none }
def houseNamesRow : OpenClaim := { program := "ytijfafacddefhadgreat", sum := "6cd3dc0a8d1fadbc134ccf0f74ea5cdaf15f3e0e5c04dac4c034330c7d58210c", func := "cloakroom/cloakroomlaw21.HouseNames", spec := "houseNames", inPlace := ["math.Float64frombits", "math.Float64bits"], unfollowed := true, recurses := true, plainKeys := false, apart := false }
def HouseNamesSaid : Prop := houseNamesRow.holds Tryz.pinned (OpenSpec.ofChange houseNamesSpec)

/-- ITS FALSE NEIGHBOUR: 'it returns false'. Refute it at one input. -/
def houseNamesWrong : ChangeSpec := { name := "houseNames", fn := fun _ => fun
  | [] => { results := [.lit (.bool false)], args := [] }
  | _ => none }
def HouseNamesWrongFalsely : Prop := houseNamesRow.holds Tryz.pinned (OpenSpec.ofChange houseNamesWrong)

/-- 'cloakroomlaw23.ScriptNames': WHATEVER THE INPUT: true; the input reads as it did. -/
def scriptNamesSpec : ChangeSpec := { name := "scriptNames", fn := fun _ => fun
  | [] => { results := [.lit (.bool true)], args := [] }
  | _ => none }
def scriptNamesRow : OpenClaim := { program := "ytijfafacddefhadgreat", sum := "6cd3dc0a8d1fadbc134ccf0f74ea5cdaf15f3e0e5c04dac4c034330c7d58210c", func := "cloakroom/cloakroomlaw23.ScriptNames", spec := "scriptNames", inPlace := ["math.Float64bits", "math.Float64frombits"], unfollowed := true, recurses := true, plainKeys := false, apart := false }
def ScriptNamesSaid : Prop := scriptNamesRow.holds Tryz.pinned (OpenSpec.ofChange scriptNamesSpec)

/-- ITS FALSE NEIGHBOUR: 'it returns false'. Refute it at one input. -/
def scriptNamesWrong : ChangeSpec := { name := "scriptNames", fn := fun _ => fun
  | [] => { results := [.lit (.bool false)], args := [] }
  | _ => none }
def ScriptNamesWrongFalsely : Prop := scriptNamesRow.holds Tryz.pinned (OpenSpec.ofChange scriptNamesWrong)

/- THE SECOND FORM. 'bulk': how many values and letters a reading holds, each counted each time it is reached (what is shared counts as often as it is met; a slice's spare places count too). A statement '..UptoSaid' is the law's where the arguments, and the package variables that the reading takes, are together of bulk at most 1048576: NARROWER than '..Said'. Prove '..Said' where nothing that the law and all that it calls make is longer than what came in: it says more and counts as full. Else prove '..UptoSaid'. A law counts once. -/
mutual
def uptoBulk {H : Type} : DataW H → Nat
  | .lit (.string bytes) => bytes.length + 1
  | .lit _ => 1
  | .nil => 1
  | .ptr d => uptoBulk d + 1
  | .slice elems spare => uptoBulkAll elems + uptoBulkAll spare + 1
  | .agg parts => uptoBulkAll parts + 1
  | .iface _ d => uptoBulk d + 1
  | .map entries => uptoBulkEntries entries + 1
  | .held _ => 1
def uptoBulkAll {H : Type} : List (DataW H) → Nat
  | [] => 0
  | d :: r => uptoBulk d + uptoBulkAll r
def uptoBulkEntries {H : Type} : List (Lit × DataW H) → Nat
  | [] => 0
  | x :: r => uptoBulkEntry x + uptoBulkEntries r
def uptoBulkEntry {H : Type} : Lit × DataW H → Nat
  | (.string bytes, d) => bytes.length + uptoBulk d + 1
  | (_, d) => uptoBulk d + 1
 end
def uptoSmall : (H : Type) → List (DataW H) → Bool := fun _ ds => decide (uptoBulkAll ds ≤ 1048576)
def OpenSpec.upto (s : _root_.Go.ChangeSpec) : _root_.Go.OpenSpec := { _root_.Go.OpenSpec.ofChange s with cond := some uptoSmall }

/-- 'cloakroomlaw19.HostAlone', WHERE WHAT IT READS IS OF BULK AT MOST 1048576: true; the input reads as it did. -/
def hostAloneUptoRow : OpenClaim := { program := "ytijfafacddefhadgreat", sum := "6cd3dc0a8d1fadbc134ccf0f74ea5cdaf15f3e0e5c04dac4c034330c7d58210c", func := "cloakroom/cloakroomlaw19.HostAlone", spec := "hostAlone", inPlace := ["math.Float64frombits", "math.Float64bits"], unfollowed := true, recurses := true, plainKeys := false, apart := false, narrowed := true }
def HostAloneUptoSaid : Prop := hostAloneUptoRow.holds Tryz.pinned (OpenSpec.upto hostAloneSpec)

/-- 'cloakroomlaw19.HostDone', WHERE WHAT IT READS IS OF BULK AT MOST 1048576: true; the input reads as it did. -/
def hostDoneUptoRow : OpenClaim := { program := "ytijfafacddefhadgreat", sum := "6cd3dc0a8d1fadbc134ccf0f74ea5cdaf15f3e0e5c04dac4c034330c7d58210c", func := "cloakroom/cloakroomlaw19.HostDone", spec := "hostDone", inPlace := ["math.Float64frombits", "math.Float64bits"], unfollowed := true, recurses := true, plainKeys := false, apart := false, narrowed := true }
def HostDoneUptoSaid : Prop := hostDoneUptoRow.holds Tryz.pinned (OpenSpec.upto hostDoneSpec)

/-- 'cloakroomlaw19.HostSilent', WHERE WHAT IT READS IS OF BULK AT MOST 1048576: true; the input reads as it did. -/
def hostSilentUptoRow : OpenClaim := { program := "ytijfafacddefhadgreat", sum := "6cd3dc0a8d1fadbc134ccf0f74ea5cdaf15f3e0e5c04dac4c034330c7d58210c", func := "cloakroom/cloakroomlaw19.HostSilent", spec := "hostSilent", inPlace := ["math.Float64frombits", "math.Float64bits"], unfollowed := true, recurses := true, plainKeys := false, apart := false, narrowed := true }
def HostSilentUptoSaid : Prop := hostSilentUptoRow.holds Tryz.pinned (OpenSpec.upto hostSilentSpec)

/-- 'cloakroomlaw19.HostRuns', WHERE WHAT IT READS IS OF BULK AT MOST 1048576: true; the input reads as it did. -/
def hostRunsUptoRow : OpenClaim := { program := "ytijfafacddefhadgreat", sum := "6cd3dc0a8d1fadbc134ccf0f74ea5cdaf15f3e0e5c04dac4c034330c7d58210c", func := "cloakroom/cloakroomlaw19.HostRuns", spec := "hostRuns", inPlace := ["math.Float64frombits", "math.Float64bits"], unfollowed := true, recurses := true, plainKeys := false, apart := false, narrowed := true }
def HostRunsUptoSaid : Prop := hostRunsUptoRow.holds Tryz.pinned (OpenSpec.upto hostRunsSpec)

/-- 'cloakroomlaw19.HostAgain', WHERE WHAT IT READS IS OF BULK AT MOST 1048576: true; the input reads as it did. -/
def hostAgainUptoRow : OpenClaim := { program := "ytijfafacddefhadgreat", sum := "6cd3dc0a8d1fadbc134ccf0f74ea5cdaf15f3e0e5c04dac4c034330c7d58210c", func := "cloakroom/cloakroomlaw19.HostAgain", spec := "hostAgain", inPlace := ["math.Float64frombits", "math.Float64bits"], unfollowed := true, recurses := true, plainKeys := false, apart := false, narrowed := true }
def HostAgainUptoSaid : Prop := hostAgainUptoRow.holds Tryz.pinned (OpenSpec.upto hostAgainSpec)

/-- 'cloakroomlaw21.HouseNames', WHERE WHAT IT READS IS OF BULK AT MOST 1048576: true; the input reads as it did. -/
def houseNamesUptoRow : OpenClaim := { program := "ytijfafacddefhadgreat", sum := "6cd3dc0a8d1fadbc134ccf0f74ea5cdaf15f3e0e5c04dac4c034330c7d58210c", func := "cloakroom/cloakroomlaw21.HouseNames", spec := "houseNames", inPlace := ["math.Float64frombits", "math.Float64bits"], unfollowed := true, recurses := true, plainKeys := false, apart := false, narrowed := true }
def HouseNamesUptoSaid : Prop := houseNamesUptoRow.holds Tryz.pinned (OpenSpec.upto houseNamesSpec)

/-- 'cloakroomlaw23.ScriptNames', WHERE WHAT IT READS IS OF BULK AT MOST 1048576: true; the input reads as it did. -/
def scriptNamesUptoRow : OpenClaim := { program := "ytijfafacddefhadgreat", sum := "6cd3dc0a8d1fadbc134ccf0f74ea5cdaf15f3e0e5c04dac4c034330c7d58210c", func := "cloakroom/cloakroomlaw23.ScriptNames", spec := "scriptNames", inPlace := ["math.Float64bits", "math.Float64frombits"], unfollowed := true, recurses := true, plainKeys := false, apart := false, narrowed := true }
def ScriptNamesUptoSaid : Prop := scriptNamesUptoRow.holds Tryz.pinned (OpenSpec.upto scriptNamesSpec)

end Rows
end Go.Proofs.YtijfafacddefhadGreat
