/-
  No cell of these rows narrows 'for every input' (looked for: loops, veiled, ifaces, maps, wideKeys, modest, calm, conditions, laid).
  DERIVED. THE GIVEN ROWS OF THIS SEAT. 11 by the template 'for every input the law returns true; each argument reads behind the call as it read before'; 0 by the template 'total and deterministic' (their statements: YtapmjifkbgiecaaTotals.lean).
  GIVEN WITH THE SEED: the statements are not yours to turn. If you find one false, say at which input.
  Laid BY PROGRAM, IN A SANDBOX (cutbox-rows.mjs): the forced cells as the released guide's own fill.sh prints them over the translation 4589b1c6e1a89076… (all of the seat's roots in one cut). By AI agents, Wed Nov 11 2026. No macro, syntax, notation, axiom, sorry.
-/
import Derived.Test.YtapmjifkbgiecaaChecked
import GoSem.Claim
import GoSem.ClaimJoined
import GoSem.ClaimMapViews
import Derived.JoinedTies
import Derived.KernelRfl
namespace Go.Proofs.Ytapmjifkbgiecaa
/- THE CELL 'sum', in the pinned program and in every row, IS THE sha256 OF THE DUMP (.gsa) THAT YtapmjifkbgiecaaProg.lean LOADS. Nothing in Lean hashes anything: it is a label: what it is worth is what the hold of that sum in a sandbox is worth. -/
noncomputable def Try.pinned : Pinned := { name := "ytapmjifkbgiecaa", sum := "4589b1c6e1a890763dfc2c1b0ecb20256cf4620a0f8013ae24e2dad6d5a6d84d", checked := Try.checked }
namespace Rows
def none {H : Type} : Left H := { results := [], args := [] }

/-- 'laws.FnExactSumStates': WHATEVER THE INPUT: true; the input reads as it did. -/
def fnExactSumStatesSpec : ChangeSpec := { name := "fnExactSumStates", fn := fun _ => fun
  | [d1, d2] => { results := [.lit (.bool true)], args := [d1, d2] }
  | _ => none }
def fnExactSumStatesRow : OpenClaim := { program := "ytapmjifkbgiecaa", sum := "4589b1c6e1a890763dfc2c1b0ecb20256cf4620a0f8013ae24e2dad6d5a6d84d", func := "loop.example/switchpuzzles/laws.FnExactSumStates", spec := "fnExactSumStates", apart := false }
def FnExactSumStatesSaid : Prop := fnExactSumStatesRow.holds Try.pinned (OpenSpec.ofChange fnExactSumStatesSpec)

/-- ITS FALSE NEIGHBOUR: 'it returns false'. Refute it at one input. -/
def fnExactSumStatesWrong : ChangeSpec := { name := "fnExactSumStates", fn := fun _ => fun
  | [d1, d2] => { results := [.lit (.bool false)], args := [d1, d2] }
  | _ => none }
def FnExactSumStatesWrongFalsely : Prop := fnExactSumStatesRow.holds Try.pinned (OpenSpec.ofChange fnExactSumStatesWrong)

/-- 'laws.FnExactGoalOne': WHATEVER THE INPUT: true; the input reads as it did. -/
def fnExactGoalOneSpec : ChangeSpec := { name := "fnExactGoalOne", fn := fun _ => fun
  | [d] => { results := [.lit (.bool true)], args := [d] }
  | _ => none }
def fnExactGoalOneRow : OpenClaim := { program := "ytapmjifkbgiecaa", sum := "4589b1c6e1a890763dfc2c1b0ecb20256cf4620a0f8013ae24e2dad6d5a6d84d", func := "loop.example/switchpuzzles/laws.FnExactGoalOne", spec := "fnExactGoalOne", apart := false }
def FnExactGoalOneSaid : Prop := fnExactGoalOneRow.holds Try.pinned (OpenSpec.ofChange fnExactGoalOneSpec)

/-- ITS FALSE NEIGHBOUR: 'it returns false'. Refute it at one input. -/
def fnExactGoalOneWrong : ChangeSpec := { name := "fnExactGoalOne", fn := fun _ => fun
  | [d] => { results := [.lit (.bool false)], args := [d] }
  | _ => none }
def FnExactGoalOneWrongFalsely : Prop := fnExactGoalOneRow.holds Try.pinned (OpenSpec.ofChange fnExactGoalOneWrong)

/-- 'laws.FnExactOnlyTurns': WHATEVER THE INPUT: true; the input reads as it did. -/
def fnExactOnlyTurnsSpec : ChangeSpec := { name := "fnExactOnlyTurns", fn := fun _ => fun
  | [d] => { results := [.lit (.bool true)], args := [d] }
  | _ => none }
def fnExactOnlyTurnsRow : OpenClaim := { program := "ytapmjifkbgiecaa", sum := "4589b1c6e1a890763dfc2c1b0ecb20256cf4620a0f8013ae24e2dad6d5a6d84d", func := "loop.example/switchpuzzles/laws.FnExactOnlyTurns", spec := "fnExactOnlyTurns", apart := false }
def FnExactOnlyTurnsSaid : Prop := fnExactOnlyTurnsRow.holds Try.pinned (OpenSpec.ofChange fnExactOnlyTurnsSpec)

/-- ITS FALSE NEIGHBOUR: 'it returns false'. Refute it at one input. -/
def fnExactOnlyTurnsWrong : ChangeSpec := { name := "fnExactOnlyTurns", fn := fun _ => fun
  | [d] => { results := [.lit (.bool false)], args := [d] }
  | _ => none }
def FnExactOnlyTurnsWrongFalsely : Prop := fnExactOnlyTurnsRow.holds Try.pinned (OpenSpec.ofChange fnExactOnlyTurnsWrong)

/-- 'laws.FnExactSumOk': WHATEVER THE INPUT: true; the input reads as it did. -/
def fnExactSumOkSpec : ChangeSpec := { name := "fnExactSumOk", fn := fun _ => fun
  | [d1, d2] => { results := [.lit (.bool true)], args := [d1, d2] }
  | _ => none }
def fnExactSumOkRow : OpenClaim := { program := "ytapmjifkbgiecaa", sum := "4589b1c6e1a890763dfc2c1b0ecb20256cf4620a0f8013ae24e2dad6d5a6d84d", func := "loop.example/switchpuzzles/laws.FnExactSumOk", spec := "fnExactSumOk", apart := false }
def FnExactSumOkSaid : Prop := fnExactSumOkRow.holds Try.pinned (OpenSpec.ofChange fnExactSumOkSpec)

/-- ITS FALSE NEIGHBOUR: 'it returns false'. Refute it at one input. -/
def fnExactSumOkWrong : ChangeSpec := { name := "fnExactSumOk", fn := fun _ => fun
  | [d1, d2] => { results := [.lit (.bool false)], args := [d1, d2] }
  | _ => none }
def FnExactSumOkWrongFalsely : Prop := fnExactSumOkRow.holds Try.pinned (OpenSpec.ofChange fnExactSumOkWrong)

/-- 'laws.FnExactSumFor': WHATEVER THE INPUT: true; the input reads as it did. -/
def fnExactSumForSpec : ChangeSpec := { name := "fnExactSumFor", fn := fun _ => fun
  | [d] => { results := [.lit (.bool true)], args := [d] }
  | _ => none }
def fnExactSumForRow : OpenClaim := { program := "ytapmjifkbgiecaa", sum := "4589b1c6e1a890763dfc2c1b0ecb20256cf4620a0f8013ae24e2dad6d5a6d84d", func := "loop.example/switchpuzzles/laws.FnExactSumFor", spec := "fnExactSumFor", apart := false }
def FnExactSumForSaid : Prop := fnExactSumForRow.holds Try.pinned (OpenSpec.ofChange fnExactSumForSpec)

/-- ITS FALSE NEIGHBOUR: 'it returns false'. Refute it at one input. -/
def fnExactSumForWrong : ChangeSpec := { name := "fnExactSumFor", fn := fun _ => fun
  | [d] => { results := [.lit (.bool false)], args := [d] }
  | _ => none }
def FnExactSumForWrongFalsely : Prop := fnExactSumForRow.holds Try.pinned (OpenSpec.ofChange fnExactSumForWrong)

/-- 'laws.FnGoalOne': WHATEVER THE INPUT: true; the input reads as it did. -/
def fnGoalOneSpec : ChangeSpec := { name := "fnGoalOne", fn := fun _ => fun
  | [d] => { results := [.lit (.bool true)], args := [d] }
  | _ => none }
def fnGoalOneRow : OpenClaim := { program := "ytapmjifkbgiecaa", sum := "4589b1c6e1a890763dfc2c1b0ecb20256cf4620a0f8013ae24e2dad6d5a6d84d", func := "loop.example/switchpuzzles/laws.FnGoalOne", spec := "fnGoalOne", apart := false }
def FnGoalOneSaid : Prop := fnGoalOneRow.holds Try.pinned (OpenSpec.ofChange fnGoalOneSpec)

/-- ITS FALSE NEIGHBOUR: 'it returns false'. Refute it at one input. -/
def fnGoalOneWrong : ChangeSpec := { name := "fnGoalOne", fn := fun _ => fun
  | [d] => { results := [.lit (.bool false)], args := [d] }
  | _ => none }
def FnGoalOneWrongFalsely : Prop := fnGoalOneRow.holds Try.pinned (OpenSpec.ofChange fnGoalOneWrong)

/-- 'laws.FnOnlyTurns': WHATEVER THE INPUT: true; the input reads as it did. -/
def fnOnlyTurnsSpec : ChangeSpec := { name := "fnOnlyTurns", fn := fun _ => fun
  | [d] => { results := [.lit (.bool true)], args := [d] }
  | _ => none }
def fnOnlyTurnsRow : OpenClaim := { program := "ytapmjifkbgiecaa", sum := "4589b1c6e1a890763dfc2c1b0ecb20256cf4620a0f8013ae24e2dad6d5a6d84d", func := "loop.example/switchpuzzles/laws.FnOnlyTurns", spec := "fnOnlyTurns", apart := false }
def FnOnlyTurnsSaid : Prop := fnOnlyTurnsRow.holds Try.pinned (OpenSpec.ofChange fnOnlyTurnsSpec)

/-- ITS FALSE NEIGHBOUR: 'it returns false'. Refute it at one input. -/
def fnOnlyTurnsWrong : ChangeSpec := { name := "fnOnlyTurns", fn := fun _ => fun
  | [d] => { results := [.lit (.bool false)], args := [d] }
  | _ => none }
def FnOnlyTurnsWrongFalsely : Prop := fnOnlyTurnsRow.holds Try.pinned (OpenSpec.ofChange fnOnlyTurnsWrong)

/-- 'laws.FnExactPlanShort': WHATEVER THE INPUT: true; the input reads as it did. -/
def fnExactPlanShortSpec : ChangeSpec := { name := "fnExactPlanShort", fn := fun _ => fun
  | [d1, d2] => { results := [.lit (.bool true)], args := [d1, d2] }
  | _ => none }
def fnExactPlanShortRow : OpenClaim := { program := "ytapmjifkbgiecaa", sum := "4589b1c6e1a890763dfc2c1b0ecb20256cf4620a0f8013ae24e2dad6d5a6d84d", func := "loop.example/switchpuzzles/laws.FnExactPlanShort", spec := "fnExactPlanShort", apart := false }
def FnExactPlanShortSaid : Prop := fnExactPlanShortRow.holds Try.pinned (OpenSpec.ofChange fnExactPlanShortSpec)

/-- ITS FALSE NEIGHBOUR: 'it returns false'. Refute it at one input. -/
def fnExactPlanShortWrong : ChangeSpec := { name := "fnExactPlanShort", fn := fun _ => fun
  | [d1, d2] => { results := [.lit (.bool false)], args := [d1, d2] }
  | _ => none }
def FnExactPlanShortWrongFalsely : Prop := fnExactPlanShortRow.holds Try.pinned (OpenSpec.ofChange fnExactPlanShortWrong)

/-- 'laws.FnExactStepsFrom': WHATEVER THE INPUT: true; the input reads as it did. -/
def fnExactStepsFromSpec : ChangeSpec := { name := "fnExactStepsFrom", fn := fun _ => fun
  | [d] => { results := [.lit (.bool true)], args := [d] }
  | _ => none }
def fnExactStepsFromRow : OpenClaim := { program := "ytapmjifkbgiecaa", sum := "4589b1c6e1a890763dfc2c1b0ecb20256cf4620a0f8013ae24e2dad6d5a6d84d", func := "loop.example/switchpuzzles/laws.FnExactStepsFrom", spec := "fnExactStepsFrom", apart := false }
def FnExactStepsFromSaid : Prop := fnExactStepsFromRow.holds Try.pinned (OpenSpec.ofChange fnExactStepsFromSpec)

/-- ITS FALSE NEIGHBOUR: 'it returns false'. Refute it at one input. -/
def fnExactStepsFromWrong : ChangeSpec := { name := "fnExactStepsFrom", fn := fun _ => fun
  | [d] => { results := [.lit (.bool false)], args := [d] }
  | _ => none }
def FnExactStepsFromWrongFalsely : Prop := fnExactStepsFromRow.holds Try.pinned (OpenSpec.ofChange fnExactStepsFromWrong)

/-- 'laws.FnExactTaskText': WHATEVER THE INPUT: true; the input reads as it did. -/
def fnExactTaskTextSpec : ChangeSpec := { name := "fnExactTaskText", fn := fun _ => fun
  | [d] => { results := [.lit (.bool true)], args := [d] }
  | _ => none }
def fnExactTaskTextRow : OpenClaim := { program := "ytapmjifkbgiecaa", sum := "4589b1c6e1a890763dfc2c1b0ecb20256cf4620a0f8013ae24e2dad6d5a6d84d", func := "loop.example/switchpuzzles/laws.FnExactTaskText", spec := "fnExactTaskText", inPlace := ["internal/abi.NoEscape"], recurses := true, apart := false }
def FnExactTaskTextSaid : Prop := fnExactTaskTextRow.holds Try.pinned (OpenSpec.ofChange fnExactTaskTextSpec)

/-- ITS FALSE NEIGHBOUR: 'it returns false'. Refute it at one input. -/
def fnExactTaskTextWrong : ChangeSpec := { name := "fnExactTaskText", fn := fun _ => fun
  | [d] => { results := [.lit (.bool false)], args := [d] }
  | _ => none }
def FnExactTaskTextWrongFalsely : Prop := fnExactTaskTextRow.holds Try.pinned (OpenSpec.ofChange fnExactTaskTextWrong)

/-- 'laws.FnSumStates': WHATEVER THE INPUT: true; the input reads as it did. -/
def fnSumStatesSpec : ChangeSpec := { name := "fnSumStates", fn := fun _ => fun
  | [d] => { results := [.lit (.bool true)], args := [d] }
  | _ => none }
def fnSumStatesRow : OpenClaim := { program := "ytapmjifkbgiecaa", sum := "4589b1c6e1a890763dfc2c1b0ecb20256cf4620a0f8013ae24e2dad6d5a6d84d", func := "loop.example/switchpuzzles/laws.FnSumStates", spec := "fnSumStates", apart := false }
def FnSumStatesSaid : Prop := fnSumStatesRow.holds Try.pinned (OpenSpec.ofChange fnSumStatesSpec)

/-- ITS FALSE NEIGHBOUR: 'it returns false'. Refute it at one input. -/
def fnSumStatesWrong : ChangeSpec := { name := "fnSumStates", fn := fun _ => fun
  | [d] => { results := [.lit (.bool false)], args := [d] }
  | _ => none }
def FnSumStatesWrongFalsely : Prop := fnSumStatesRow.holds Try.pinned (OpenSpec.ofChange fnSumStatesWrong)

/- THE SECOND FORM. 'bulk': how many values and letters a reading holds, each counted each time it is reached (what is shared counts as often as it is met; a slice's spare places count too). A statement '..UptoSaid' is the law's where the arguments, and the package variables that the reading takes, are together of bulk at most 1048576: NARROWER than '..Said'. Prove '..Said' where nothing that the law and all that it calls make is longer than what came in: it says more and counts as full. Else prove '..UptoSaid'. A law counts once. -/
mutual
def uptoBulk {H : Type} : DataW H → Nat
  | .lit (.string bytes) => bytes.length + 1
  | .lit _ => 1
  | .nil => 1
  | .ptr d => uptoBulk d + 1
  | .slice elems spare => uptoBulkAll elems + uptoBulkAll spare + 1
  | .agg parts => uptoBulkAll parts + 1
  | .iface _ d => uptoBulk d + 1
  | .map entries => uptoBulkEntries entries + 1
  | .held _ => 1
def uptoBulkAll {H : Type} : List (DataW H) → Nat
  | [] => 0
  | d :: r => uptoBulk d + uptoBulkAll r
def uptoBulkEntries {H : Type} : List (Lit × DataW H) → Nat
  | [] => 0
  | x :: r => uptoBulkEntry x + uptoBulkEntries r
def uptoBulkEntry {H : Type} : Lit × DataW H → Nat
  | (.string bytes, d) => bytes.length + uptoBulk d + 1
  | (_, d) => uptoBulk d + 1
 end
def uptoSmall : (H : Type) → List (DataW H) → Bool := fun _ ds => decide (uptoBulkAll ds ≤ 1048576)
def OpenSpec.upto (s : _root_.Go.ChangeSpec) : _root_.Go.OpenSpec := { _root_.Go.OpenSpec.ofChange s with cond := some uptoSmall }

/-- 'laws.FnExactSumStates', WHERE WHAT IT READS IS OF BULK AT MOST 1048576: true; the input reads as it did. -/
def fnExactSumStatesUptoRow : OpenClaim := { program := "ytapmjifkbgiecaa", sum := "4589b1c6e1a890763dfc2c1b0ecb20256cf4620a0f8013ae24e2dad6d5a6d84d", func := "loop.example/switchpuzzles/laws.FnExactSumStates", spec := "fnExactSumStates", apart := false, narrowed := true }
def FnExactSumStatesUptoSaid : Prop := fnExactSumStatesUptoRow.holds Try.pinned (OpenSpec.upto fnExactSumStatesSpec)

/-- 'laws.FnExactGoalOne', WHERE WHAT IT READS IS OF BULK AT MOST 1048576: true; the input reads as it did. -/
def fnExactGoalOneUptoRow : OpenClaim := { program := "ytapmjifkbgiecaa", sum := "4589b1c6e1a890763dfc2c1b0ecb20256cf4620a0f8013ae24e2dad6d5a6d84d", func := "loop.example/switchpuzzles/laws.FnExactGoalOne", spec := "fnExactGoalOne", apart := false, narrowed := true }
def FnExactGoalOneUptoSaid : Prop := fnExactGoalOneUptoRow.holds Try.pinned (OpenSpec.upto fnExactGoalOneSpec)

/-- 'laws.FnExactOnlyTurns', WHERE WHAT IT READS IS OF BULK AT MOST 1048576: true; the input reads as it did. -/
def fnExactOnlyTurnsUptoRow : OpenClaim := { program := "ytapmjifkbgiecaa", sum := "4589b1c6e1a890763dfc2c1b0ecb20256cf4620a0f8013ae24e2dad6d5a6d84d", func := "loop.example/switchpuzzles/laws.FnExactOnlyTurns", spec := "fnExactOnlyTurns", apart := false, narrowed := true }
def FnExactOnlyTurnsUptoSaid : Prop := fnExactOnlyTurnsUptoRow.holds Try.pinned (OpenSpec.upto fnExactOnlyTurnsSpec)

/-- 'laws.FnExactSumOk', WHERE WHAT IT READS IS OF BULK AT MOST 1048576: true; the input reads as it did. -/
def fnExactSumOkUptoRow : OpenClaim := { program := "ytapmjifkbgiecaa", sum := "4589b1c6e1a890763dfc2c1b0ecb20256cf4620a0f8013ae24e2dad6d5a6d84d", func := "loop.example/switchpuzzles/laws.FnExactSumOk", spec := "fnExactSumOk", apart := false, narrowed := true }
def FnExactSumOkUptoSaid : Prop := fnExactSumOkUptoRow.holds Try.pinned (OpenSpec.upto fnExactSumOkSpec)

/-- 'laws.FnExactSumFor', WHERE WHAT IT READS IS OF BULK AT MOST 1048576: true; the input reads as it did. -/
def fnExactSumForUptoRow : OpenClaim := { program := "ytapmjifkbgiecaa", sum := "4589b1c6e1a890763dfc2c1b0ecb20256cf4620a0f8013ae24e2dad6d5a6d84d", func := "loop.example/switchpuzzles/laws.FnExactSumFor", spec := "fnExactSumFor", apart := false, narrowed := true }
def FnExactSumForUptoSaid : Prop := fnExactSumForUptoRow.holds Try.pinned (OpenSpec.upto fnExactSumForSpec)

/-- 'laws.FnGoalOne', WHERE WHAT IT READS IS OF BULK AT MOST 1048576: true; the input reads as it did. -/
def fnGoalOneUptoRow : OpenClaim := { program := "ytapmjifkbgiecaa", sum := "4589b1c6e1a890763dfc2c1b0ecb20256cf4620a0f8013ae24e2dad6d5a6d84d", func := "loop.example/switchpuzzles/laws.FnGoalOne", spec := "fnGoalOne", apart := false, narrowed := true }
def FnGoalOneUptoSaid : Prop := fnGoalOneUptoRow.holds Try.pinned (OpenSpec.upto fnGoalOneSpec)

/-- 'laws.FnOnlyTurns', WHERE WHAT IT READS IS OF BULK AT MOST 1048576: true; the input reads as it did. -/
def fnOnlyTurnsUptoRow : OpenClaim := { program := "ytapmjifkbgiecaa", sum := "4589b1c6e1a890763dfc2c1b0ecb20256cf4620a0f8013ae24e2dad6d5a6d84d", func := "loop.example/switchpuzzles/laws.FnOnlyTurns", spec := "fnOnlyTurns", apart := false, narrowed := true }
def FnOnlyTurnsUptoSaid : Prop := fnOnlyTurnsUptoRow.holds Try.pinned (OpenSpec.upto fnOnlyTurnsSpec)

/-- 'laws.FnExactPlanShort', WHERE WHAT IT READS IS OF BULK AT MOST 1048576: true; the input reads as it did. -/
def fnExactPlanShortUptoRow : OpenClaim := { program := "ytapmjifkbgiecaa", sum := "4589b1c6e1a890763dfc2c1b0ecb20256cf4620a0f8013ae24e2dad6d5a6d84d", func := "loop.example/switchpuzzles/laws.FnExactPlanShort", spec := "fnExactPlanShort", apart := false, narrowed := true }
def FnExactPlanShortUptoSaid : Prop := fnExactPlanShortUptoRow.holds Try.pinned (OpenSpec.upto fnExactPlanShortSpec)

/-- 'laws.FnExactStepsFrom', WHERE WHAT IT READS IS OF BULK AT MOST 1048576: true; the input reads as it did. -/
def fnExactStepsFromUptoRow : OpenClaim := { program := "ytapmjifkbgiecaa", sum := "4589b1c6e1a890763dfc2c1b0ecb20256cf4620a0f8013ae24e2dad6d5a6d84d", func := "loop.example/switchpuzzles/laws.FnExactStepsFrom", spec := "fnExactStepsFrom", apart := false, narrowed := true }
def FnExactStepsFromUptoSaid : Prop := fnExactStepsFromUptoRow.holds Try.pinned (OpenSpec.upto fnExactStepsFromSpec)

/-- 'laws.FnExactTaskText', WHERE WHAT IT READS IS OF BULK AT MOST 1048576: true; the input reads as it did. -/
def fnExactTaskTextUptoRow : OpenClaim := { program := "ytapmjifkbgiecaa", sum := "4589b1c6e1a890763dfc2c1b0ecb20256cf4620a0f8013ae24e2dad6d5a6d84d", func := "loop.example/switchpuzzles/laws.FnExactTaskText", spec := "fnExactTaskText", inPlace := ["internal/abi.NoEscape"], recurses := true, apart := false, narrowed := true }
def FnExactTaskTextUptoSaid : Prop := fnExactTaskTextUptoRow.holds Try.pinned (OpenSpec.upto fnExactTaskTextSpec)

/-- 'laws.FnSumStates', WHERE WHAT IT READS IS OF BULK AT MOST 1048576: true; the input reads as it did. -/
def fnSumStatesUptoRow : OpenClaim := { program := "ytapmjifkbgiecaa", sum := "4589b1c6e1a890763dfc2c1b0ecb20256cf4620a0f8013ae24e2dad6d5a6d84d", func := "loop.example/switchpuzzles/laws.FnSumStates", spec := "fnSumStates", apart := false, narrowed := true }
def FnSumStatesUptoSaid : Prop := fnSumStatesUptoRow.holds Try.pinned (OpenSpec.upto fnSumStatesSpec)

end Rows
end Go.Proofs.Ytapmjifkbgiecaa
