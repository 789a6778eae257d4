/-
  No cell of these rows narrows 'for every input' (looked for: loops, veiled, ifaces, maps, wideKeys, modest, calm, conditions, laid).
  DERIVED. THE GIVEN ROWS OF THIS SEAT. 14 by the template 'for every input the law returns true; each argument reads behind the call as it read before'; 0 by the template 'total and deterministic' (their statements: YtfbpcbjlogdflaaTotals.lean).
  GIVEN WITH THE SEED: the statements are not yours to turn. If you find one false, say at which input.
  Laid BY PROGRAM, IN A SANDBOX (cutbox-rows.mjs): the forced cells as the released guide's own fill.sh prints them over the translation 3982a627891991bc… (all of the seat's roots in one cut). By AI agents, Wed Nov 11 2026. No macro, syntax, notation, axiom, sorry.
-/
import Derived.Test.YtfbpcbjlogdflaaChecked
import GoSem.Claim
import GoSem.ClaimJoined
import GoSem.ClaimMapViews
import Derived.JoinedTies
import Derived.KernelRfl
namespace Go.Proofs.Ytfbpcbjlogdflaa
/- THE CELL 'sum', in the pinned program and in every row, IS THE sha256 OF THE DUMP (.gsa) THAT YtfbpcbjlogdflaaProg.lean LOADS. Nothing in Lean hashes anything: it is a label: what it is worth is what the hold of that sum in a sandbox is worth. -/
noncomputable def Try.pinned : Pinned := { name := "ytfbpcbjlogdflaa", sum := "3982a627891991bcf9ed64b00b59a59492d6e3fff088dfe0f048278fe2c19f56", checked := Try.checked }
namespace Rows
def none {H : Type} : Left H := { results := [], args := [] }

/-- 'laws.FnExactStepsLeast': WHATEVER THE INPUT: true; the input reads as it did. -/
def fnExactStepsLeastSpec : ChangeSpec := { name := "fnExactStepsLeast", fn := fun _ => fun
  | [d] => { results := [.lit (.bool true)], args := [d] }
  | _ => none }
def fnExactStepsLeastRow : OpenClaim := { program := "ytfbpcbjlogdflaa", sum := "3982a627891991bcf9ed64b00b59a59492d6e3fff088dfe0f048278fe2c19f56", func := "loop.example/switchpuzzles/laws.FnExactStepsLeast", spec := "fnExactStepsLeast", apart := false }
def FnExactStepsLeastSaid : Prop := fnExactStepsLeastRow.holds Try.pinned (OpenSpec.ofChange fnExactStepsLeastSpec)

/-- ITS FALSE NEIGHBOUR: 'it returns false'. Refute it at one input. -/
def fnExactStepsLeastWrong : ChangeSpec := { name := "fnExactStepsLeast", fn := fun _ => fun
  | [d] => { results := [.lit (.bool false)], args := [d] }
  | _ => none }
def FnExactStepsLeastWrongFalsely : Prop := fnExactStepsLeastRow.holds Try.pinned (OpenSpec.ofChange fnExactStepsLeastWrong)

/-- 'laws.FnExactShadowBound': WHATEVER THE INPUT: true; the input reads as it did. -/
def fnExactShadowBoundSpec : ChangeSpec := { name := "fnExactShadowBound", fn := fun _ => fun
  | [d1, d2] => { results := [.lit (.bool true)], args := [d1, d2] }
  | _ => none }
def fnExactShadowBoundRow : OpenClaim := { program := "ytfbpcbjlogdflaa", sum := "3982a627891991bcf9ed64b00b59a59492d6e3fff088dfe0f048278fe2c19f56", func := "loop.example/switchpuzzles/laws.FnExactShadowBound", spec := "fnExactShadowBound", apart := false }
def FnExactShadowBoundSaid : Prop := fnExactShadowBoundRow.holds Try.pinned (OpenSpec.ofChange fnExactShadowBoundSpec)

/-- ITS FALSE NEIGHBOUR: 'it returns false'. Refute it at one input. -/
def fnExactShadowBoundWrong : ChangeSpec := { name := "fnExactShadowBound", fn := fun _ => fun
  | [d1, d2] => { results := [.lit (.bool false)], args := [d1, d2] }
  | _ => none }
def FnExactShadowBoundWrongFalsely : Prop := fnExactShadowBoundRow.holds Try.pinned (OpenSpec.ofChange fnExactShadowBoundWrong)

/-- 'laws.FnExactShadowSteps': WHATEVER THE INPUT: true; the input reads as it did. -/
def fnExactShadowStepsSpec : ChangeSpec := { name := "fnExactShadowSteps", fn := fun _ => fun
  | [d1, d2] => { results := [.lit (.bool true)], args := [d1, d2] }
  | _ => none }
def fnExactShadowStepsRow : OpenClaim := { program := "ytfbpcbjlogdflaa", sum := "3982a627891991bcf9ed64b00b59a59492d6e3fff088dfe0f048278fe2c19f56", func := "loop.example/switchpuzzles/laws.FnExactShadowSteps", spec := "fnExactShadowSteps", apart := false }
def FnExactShadowStepsSaid : Prop := fnExactShadowStepsRow.holds Try.pinned (OpenSpec.ofChange fnExactShadowStepsSpec)

/-- ITS FALSE NEIGHBOUR: 'it returns false'. Refute it at one input. -/
def fnExactShadowStepsWrong : ChangeSpec := { name := "fnExactShadowSteps", fn := fun _ => fun
  | [d1, d2] => { results := [.lit (.bool false)], args := [d1, d2] }
  | _ => none }
def FnExactShadowStepsWrongFalsely : Prop := fnExactShadowStepsRow.holds Try.pinned (OpenSpec.ofChange fnExactShadowStepsWrong)

/-- 'laws.FnExactNumbersFor': WHATEVER THE INPUT: true; the input reads as it did. -/
def fnExactNumbersForSpec : ChangeSpec := { name := "fnExactNumbersFor", fn := fun _ => fun
  | [d] => { results := [.lit (.bool true)], args := [d] }
  | _ => none }
def fnExactNumbersForRow : OpenClaim := { program := "ytfbpcbjlogdflaa", sum := "3982a627891991bcf9ed64b00b59a59492d6e3fff088dfe0f048278fe2c19f56", func := "loop.example/switchpuzzles/laws.FnExactNumbersFor", spec := "fnExactNumbersFor", apart := false }
def FnExactNumbersForSaid : Prop := fnExactNumbersForRow.holds Try.pinned (OpenSpec.ofChange fnExactNumbersForSpec)

/-- ITS FALSE NEIGHBOUR: 'it returns false'. Refute it at one input. -/
def fnExactNumbersForWrong : ChangeSpec := { name := "fnExactNumbersFor", fn := fun _ => fun
  | [d] => { results := [.lit (.bool false)], args := [d] }
  | _ => none }
def FnExactNumbersForWrongFalsely : Prop := fnExactNumbersForRow.holds Try.pinned (OpenSpec.ofChange fnExactNumbersForWrong)

/-- 'laws.FnExactShadowNumbers': WHATEVER THE INPUT: true; the input reads as it did. -/
def fnExactShadowNumbersSpec : ChangeSpec := { name := "fnExactShadowNumbers", fn := fun _ => fun
  | [d1, d2] => { results := [.lit (.bool true)], args := [d1, d2] }
  | _ => none }
def fnExactShadowNumbersRow : OpenClaim := { program := "ytfbpcbjlogdflaa", sum := "3982a627891991bcf9ed64b00b59a59492d6e3fff088dfe0f048278fe2c19f56", func := "loop.example/switchpuzzles/laws.FnExactShadowNumbers", spec := "fnExactShadowNumbers", apart := false }
def FnExactShadowNumbersSaid : Prop := fnExactShadowNumbersRow.holds Try.pinned (OpenSpec.ofChange fnExactShadowNumbersSpec)

/-- ITS FALSE NEIGHBOUR: 'it returns false'. Refute it at one input. -/
def fnExactShadowNumbersWrong : ChangeSpec := { name := "fnExactShadowNumbers", fn := fun _ => fun
  | [d1, d2] => { results := [.lit (.bool false)], args := [d1, d2] }
  | _ => none }
def FnExactShadowNumbersWrongFalsely : Prop := fnExactShadowNumbersRow.holds Try.pinned (OpenSpec.ofChange fnExactShadowNumbersWrong)

/-- 'laws.FnExactPlanFor': WHATEVER THE INPUT: true; the input reads as it did. -/
def fnExactPlanForSpec : ChangeSpec := { name := "fnExactPlanFor", fn := fun _ => fun
  | [d] => { results := [.lit (.bool true)], args := [d] }
  | _ => none }
def fnExactPlanForRow : OpenClaim := { program := "ytfbpcbjlogdflaa", sum := "3982a627891991bcf9ed64b00b59a59492d6e3fff088dfe0f048278fe2c19f56", func := "loop.example/switchpuzzles/laws.FnExactPlanFor", spec := "fnExactPlanFor", apart := false }
def FnExactPlanForSaid : Prop := fnExactPlanForRow.holds Try.pinned (OpenSpec.ofChange fnExactPlanForSpec)

/-- ITS FALSE NEIGHBOUR: 'it returns false'. Refute it at one input. -/
def fnExactPlanForWrong : ChangeSpec := { name := "fnExactPlanFor", fn := fun _ => fun
  | [d] => { results := [.lit (.bool false)], args := [d] }
  | _ => none }
def FnExactPlanForWrongFalsely : Prop := fnExactPlanForRow.holds Try.pinned (OpenSpec.ofChange fnExactPlanForWrong)

/-- 'laws.FnExactWaysTo': WHATEVER THE INPUT: true; the input reads as it did. -/
def fnExactWaysToSpec : ChangeSpec := { name := "fnExactWaysTo", fn := fun _ => fun
  | [d] => { results := [.lit (.bool true)], args := [d] }
  | _ => none }
def fnExactWaysToRow : OpenClaim := { program := "ytfbpcbjlogdflaa", sum := "3982a627891991bcf9ed64b00b59a59492d6e3fff088dfe0f048278fe2c19f56", func := "loop.example/switchpuzzles/laws.FnExactWaysTo", spec := "fnExactWaysTo", apart := false }
def FnExactWaysToSaid : Prop := fnExactWaysToRow.holds Try.pinned (OpenSpec.ofChange fnExactWaysToSpec)

/-- ITS FALSE NEIGHBOUR: 'it returns false'. Refute it at one input. -/
def fnExactWaysToWrong : ChangeSpec := { name := "fnExactWaysTo", fn := fun _ => fun
  | [d] => { results := [.lit (.bool false)], args := [d] }
  | _ => none }
def FnExactWaysToWrongFalsely : Prop := fnExactWaysToRow.holds Try.pinned (OpenSpec.ofChange fnExactWaysToWrong)

/-- 'laws.FnExactPlansMany': WHATEVER THE INPUT: true; the input reads as it did. -/
def fnExactPlansManySpec : ChangeSpec := { name := "fnExactPlansMany", fn := fun _ => fun
  | [d] => { results := [.lit (.bool true)], args := [d] }
  | _ => none }
def fnExactPlansManyRow : OpenClaim := { program := "ytfbpcbjlogdflaa", sum := "3982a627891991bcf9ed64b00b59a59492d6e3fff088dfe0f048278fe2c19f56", func := "loop.example/switchpuzzles/laws.FnExactPlansMany", spec := "fnExactPlansMany", apart := false }
def FnExactPlansManySaid : Prop := fnExactPlansManyRow.holds Try.pinned (OpenSpec.ofChange fnExactPlansManySpec)

/-- ITS FALSE NEIGHBOUR: 'it returns false'. Refute it at one input. -/
def fnExactPlansManyWrong : ChangeSpec := { name := "fnExactPlansMany", fn := fun _ => fun
  | [d] => { results := [.lit (.bool false)], args := [d] }
  | _ => none }
def FnExactPlansManyWrongFalsely : Prop := fnExactPlansManyRow.holds Try.pinned (OpenSpec.ofChange fnExactPlansManyWrong)

/-- 'laws.FnExactNeeded': WHATEVER THE INPUT: true; the input reads as it did. -/
def fnExactNeededSpec : ChangeSpec := { name := "fnExactNeeded", fn := fun _ => fun
  | [d] => { results := [.lit (.bool true)], args := [d] }
  | _ => none }
def fnExactNeededRow : OpenClaim := { program := "ytfbpcbjlogdflaa", sum := "3982a627891991bcf9ed64b00b59a59492d6e3fff088dfe0f048278fe2c19f56", func := "loop.example/switchpuzzles/laws.FnExactNeeded", spec := "fnExactNeeded", apart := false }
def FnExactNeededSaid : Prop := fnExactNeededRow.holds Try.pinned (OpenSpec.ofChange fnExactNeededSpec)

/-- ITS FALSE NEIGHBOUR: 'it returns false'. Refute it at one input. -/
def fnExactNeededWrong : ChangeSpec := { name := "fnExactNeeded", fn := fun _ => fun
  | [d] => { results := [.lit (.bool false)], args := [d] }
  | _ => none }
def FnExactNeededWrongFalsely : Prop := fnExactNeededRow.holds Try.pinned (OpenSpec.ofChange fnExactNeededWrong)

/-- 'laws.FnExactOnWay': WHATEVER THE INPUT: true; the input reads as it did. -/
def fnExactOnWaySpec : ChangeSpec := { name := "fnExactOnWay", fn := fun _ => fun
  | [d] => { results := [.lit (.bool true)], args := [d] }
  | _ => none }
def fnExactOnWayRow : OpenClaim := { program := "ytfbpcbjlogdflaa", sum := "3982a627891991bcf9ed64b00b59a59492d6e3fff088dfe0f048278fe2c19f56", func := "loop.example/switchpuzzles/laws.FnExactOnWay", spec := "fnExactOnWay", apart := false }
def FnExactOnWaySaid : Prop := fnExactOnWayRow.holds Try.pinned (OpenSpec.ofChange fnExactOnWaySpec)

/-- ITS FALSE NEIGHBOUR: 'it returns false'. Refute it at one input. -/
def fnExactOnWayWrong : ChangeSpec := { name := "fnExactOnWay", fn := fun _ => fun
  | [d] => { results := [.lit (.bool false)], args := [d] }
  | _ => none }
def FnExactOnWayWrongFalsely : Prop := fnExactOnWayRow.holds Try.pinned (OpenSpec.ofChange fnExactOnWayWrong)

/-- 'laws.FnStatesNext': WHATEVER THE INPUT: true; the input reads as it did. -/
def fnStatesNextSpec : ChangeSpec := { name := "fnStatesNext", fn := fun _ => fun
  | [d1, d2] => { results := [.lit (.bool true)], args := [d1, d2] }
  | _ => none }
def fnStatesNextRow : OpenClaim := { program := "ytfbpcbjlogdflaa", sum := "3982a627891991bcf9ed64b00b59a59492d6e3fff088dfe0f048278fe2c19f56", func := "loop.example/switchpuzzles/laws.FnStatesNext", spec := "fnStatesNext", apart := false }
def FnStatesNextSaid : Prop := fnStatesNextRow.holds Try.pinned (OpenSpec.ofChange fnStatesNextSpec)

/-- ITS FALSE NEIGHBOUR: 'it returns false'. Refute it at one input. -/
def fnStatesNextWrong : ChangeSpec := { name := "fnStatesNext", fn := fun _ => fun
  | [d1, d2] => { results := [.lit (.bool false)], args := [d1, d2] }
  | _ => none }
def FnStatesNextWrongFalsely : Prop := fnStatesNextRow.holds Try.pinned (OpenSpec.ofChange fnStatesNextWrong)

/-- 'laws.FnGoalOne': WHATEVER THE INPUT: true; the input reads as it did. -/
def fnGoalOneSpec : ChangeSpec := { name := "fnGoalOne", fn := fun _ => fun
  | [d] => { results := [.lit (.bool true)], args := [d] }
  | _ => none }
def fnGoalOneRow : OpenClaim := { program := "ytfbpcbjlogdflaa", sum := "3982a627891991bcf9ed64b00b59a59492d6e3fff088dfe0f048278fe2c19f56", func := "loop.example/switchpuzzles/laws.FnGoalOne", spec := "fnGoalOne", apart := false }
def FnGoalOneSaid : Prop := fnGoalOneRow.holds Try.pinned (OpenSpec.ofChange fnGoalOneSpec)

/-- ITS FALSE NEIGHBOUR: 'it returns false'. Refute it at one input. -/
def fnGoalOneWrong : ChangeSpec := { name := "fnGoalOne", fn := fun _ => fun
  | [d] => { results := [.lit (.bool false)], args := [d] }
  | _ => none }
def FnGoalOneWrongFalsely : Prop := fnGoalOneRow.holds Try.pinned (OpenSpec.ofChange fnGoalOneWrong)

/-- 'laws.FnOnlyTurns': WHATEVER THE INPUT: true; the input reads as it did. -/
def fnOnlyTurnsSpec : ChangeSpec := { name := "fnOnlyTurns", fn := fun _ => fun
  | [d] => { results := [.lit (.bool true)], args := [d] }
  | _ => none }
def fnOnlyTurnsRow : OpenClaim := { program := "ytfbpcbjlogdflaa", sum := "3982a627891991bcf9ed64b00b59a59492d6e3fff088dfe0f048278fe2c19f56", func := "loop.example/switchpuzzles/laws.FnOnlyTurns", spec := "fnOnlyTurns", apart := false }
def FnOnlyTurnsSaid : Prop := fnOnlyTurnsRow.holds Try.pinned (OpenSpec.ofChange fnOnlyTurnsSpec)

/-- ITS FALSE NEIGHBOUR: 'it returns false'. Refute it at one input. -/
def fnOnlyTurnsWrong : ChangeSpec := { name := "fnOnlyTurns", fn := fun _ => fun
  | [d] => { results := [.lit (.bool false)], args := [d] }
  | _ => none }
def FnOnlyTurnsWrongFalsely : Prop := fnOnlyTurnsRow.holds Try.pinned (OpenSpec.ofChange fnOnlyTurnsWrong)

/-- 'laws.FnSumStates': WHATEVER THE INPUT: true; the input reads as it did. -/
def fnSumStatesSpec : ChangeSpec := { name := "fnSumStates", fn := fun _ => fun
  | [d] => { results := [.lit (.bool true)], args := [d] }
  | _ => none }
def fnSumStatesRow : OpenClaim := { program := "ytfbpcbjlogdflaa", sum := "3982a627891991bcf9ed64b00b59a59492d6e3fff088dfe0f048278fe2c19f56", func := "loop.example/switchpuzzles/laws.FnSumStates", spec := "fnSumStates", apart := false }
def FnSumStatesSaid : Prop := fnSumStatesRow.holds Try.pinned (OpenSpec.ofChange fnSumStatesSpec)

/-- ITS FALSE NEIGHBOUR: 'it returns false'. Refute it at one input. -/
def fnSumStatesWrong : ChangeSpec := { name := "fnSumStates", fn := fun _ => fun
  | [d] => { results := [.lit (.bool false)], args := [d] }
  | _ => none }
def FnSumStatesWrongFalsely : Prop := fnSumStatesRow.holds Try.pinned (OpenSpec.ofChange fnSumStatesWrong)

/- THE SECOND FORM. 'bulk': how many values and letters a reading holds, each counted each time it is reached (what is shared counts as often as it is met; a slice's spare places count too). A statement '..UptoSaid' is the law's where the arguments, and the package variables that the reading takes, are together of bulk at most 1048576: NARROWER than '..Said'. Prove '..Said' where nothing that the law and all that it calls make is longer than what came in: it says more and counts as full. Else prove '..UptoSaid'. A law counts once. -/
mutual
def uptoBulk {H : Type} : DataW H → Nat
  | .lit (.string bytes) => bytes.length + 1
  | .lit _ => 1
  | .nil => 1
  | .ptr d => uptoBulk d + 1
  | .slice elems spare => uptoBulkAll elems + uptoBulkAll spare + 1
  | .agg parts => uptoBulkAll parts + 1
  | .iface _ d => uptoBulk d + 1
  | .map entries => uptoBulkEntries entries + 1
  | .held _ => 1
def uptoBulkAll {H : Type} : List (DataW H) → Nat
  | [] => 0
  | d :: r => uptoBulk d + uptoBulkAll r
def uptoBulkEntries {H : Type} : List (Lit × DataW H) → Nat
  | [] => 0
  | x :: r => uptoBulkEntry x + uptoBulkEntries r
def uptoBulkEntry {H : Type} : Lit × DataW H → Nat
  | (.string bytes, d) => bytes.length + uptoBulk d + 1
  | (_, d) => uptoBulk d + 1
 end
def uptoSmall : (H : Type) → List (DataW H) → Bool := fun _ ds => decide (uptoBulkAll ds ≤ 1048576)
def OpenSpec.upto (s : _root_.Go.ChangeSpec) : _root_.Go.OpenSpec := { _root_.Go.OpenSpec.ofChange s with cond := some uptoSmall }

/-- 'laws.FnExactStepsLeast', WHERE WHAT IT READS IS OF BULK AT MOST 1048576: true; the input reads as it did. -/
def fnExactStepsLeastUptoRow : OpenClaim := { program := "ytfbpcbjlogdflaa", sum := "3982a627891991bcf9ed64b00b59a59492d6e3fff088dfe0f048278fe2c19f56", func := "loop.example/switchpuzzles/laws.FnExactStepsLeast", spec := "fnExactStepsLeast", apart := false, narrowed := true }
def FnExactStepsLeastUptoSaid : Prop := fnExactStepsLeastUptoRow.holds Try.pinned (OpenSpec.upto fnExactStepsLeastSpec)

/-- 'laws.FnExactShadowBound', WHERE WHAT IT READS IS OF BULK AT MOST 1048576: true; the input reads as it did. -/
def fnExactShadowBoundUptoRow : OpenClaim := { program := "ytfbpcbjlogdflaa", sum := "3982a627891991bcf9ed64b00b59a59492d6e3fff088dfe0f048278fe2c19f56", func := "loop.example/switchpuzzles/laws.FnExactShadowBound", spec := "fnExactShadowBound", apart := false, narrowed := true }
def FnExactShadowBoundUptoSaid : Prop := fnExactShadowBoundUptoRow.holds Try.pinned (OpenSpec.upto fnExactShadowBoundSpec)

/-- 'laws.FnExactShadowSteps', WHERE WHAT IT READS IS OF BULK AT MOST 1048576: true; the input reads as it did. -/
def fnExactShadowStepsUptoRow : OpenClaim := { program := "ytfbpcbjlogdflaa", sum := "3982a627891991bcf9ed64b00b59a59492d6e3fff088dfe0f048278fe2c19f56", func := "loop.example/switchpuzzles/laws.FnExactShadowSteps", spec := "fnExactShadowSteps", apart := false, narrowed := true }
def FnExactShadowStepsUptoSaid : Prop := fnExactShadowStepsUptoRow.holds Try.pinned (OpenSpec.upto fnExactShadowStepsSpec)

/-- 'laws.FnExactNumbersFor', WHERE WHAT IT READS IS OF BULK AT MOST 1048576: true; the input reads as it did. -/
def fnExactNumbersForUptoRow : OpenClaim := { program := "ytfbpcbjlogdflaa", sum := "3982a627891991bcf9ed64b00b59a59492d6e3fff088dfe0f048278fe2c19f56", func := "loop.example/switchpuzzles/laws.FnExactNumbersFor", spec := "fnExactNumbersFor", apart := false, narrowed := true }
def FnExactNumbersForUptoSaid : Prop := fnExactNumbersForUptoRow.holds Try.pinned (OpenSpec.upto fnExactNumbersForSpec)

/-- 'laws.FnExactShadowNumbers', WHERE WHAT IT READS IS OF BULK AT MOST 1048576: true; the input reads as it did. -/
def fnExactShadowNumbersUptoRow : OpenClaim := { program := "ytfbpcbjlogdflaa", sum := "3982a627891991bcf9ed64b00b59a59492d6e3fff088dfe0f048278fe2c19f56", func := "loop.example/switchpuzzles/laws.FnExactShadowNumbers", spec := "fnExactShadowNumbers", apart := false, narrowed := true }
def FnExactShadowNumbersUptoSaid : Prop := fnExactShadowNumbersUptoRow.holds Try.pinned (OpenSpec.upto fnExactShadowNumbersSpec)

/-- 'laws.FnExactPlanFor', WHERE WHAT IT READS IS OF BULK AT MOST 1048576: true; the input reads as it did. -/
def fnExactPlanForUptoRow : OpenClaim := { program := "ytfbpcbjlogdflaa", sum := "3982a627891991bcf9ed64b00b59a59492d6e3fff088dfe0f048278fe2c19f56", func := "loop.example/switchpuzzles/laws.FnExactPlanFor", spec := "fnExactPlanFor", apart := false, narrowed := true }
def FnExactPlanForUptoSaid : Prop := fnExactPlanForUptoRow.holds Try.pinned (OpenSpec.upto fnExactPlanForSpec)

/-- 'laws.FnExactWaysTo', WHERE WHAT IT READS IS OF BULK AT MOST 1048576: true; the input reads as it did. -/
def fnExactWaysToUptoRow : OpenClaim := { program := "ytfbpcbjlogdflaa", sum := "3982a627891991bcf9ed64b00b59a59492d6e3fff088dfe0f048278fe2c19f56", func := "loop.example/switchpuzzles/laws.FnExactWaysTo", spec := "fnExactWaysTo", apart := false, narrowed := true }
def FnExactWaysToUptoSaid : Prop := fnExactWaysToUptoRow.holds Try.pinned (OpenSpec.upto fnExactWaysToSpec)

/-- 'laws.FnExactPlansMany', WHERE WHAT IT READS IS OF BULK AT MOST 1048576: true; the input reads as it did. -/
def fnExactPlansManyUptoRow : OpenClaim := { program := "ytfbpcbjlogdflaa", sum := "3982a627891991bcf9ed64b00b59a59492d6e3fff088dfe0f048278fe2c19f56", func := "loop.example/switchpuzzles/laws.FnExactPlansMany", spec := "fnExactPlansMany", apart := false, narrowed := true }
def FnExactPlansManyUptoSaid : Prop := fnExactPlansManyUptoRow.holds Try.pinned (OpenSpec.upto fnExactPlansManySpec)

/-- 'laws.FnExactNeeded', WHERE WHAT IT READS IS OF BULK AT MOST 1048576: true; the input reads as it did. -/
def fnExactNeededUptoRow : OpenClaim := { program := "ytfbpcbjlogdflaa", sum := "3982a627891991bcf9ed64b00b59a59492d6e3fff088dfe0f048278fe2c19f56", func := "loop.example/switchpuzzles/laws.FnExactNeeded", spec := "fnExactNeeded", apart := false, narrowed := true }
def FnExactNeededUptoSaid : Prop := fnExactNeededUptoRow.holds Try.pinned (OpenSpec.upto fnExactNeededSpec)

/-- 'laws.FnExactOnWay', WHERE WHAT IT READS IS OF BULK AT MOST 1048576: true; the input reads as it did. -/
def fnExactOnWayUptoRow : OpenClaim := { program := "ytfbpcbjlogdflaa", sum := "3982a627891991bcf9ed64b00b59a59492d6e3fff088dfe0f048278fe2c19f56", func := "loop.example/switchpuzzles/laws.FnExactOnWay", spec := "fnExactOnWay", apart := false, narrowed := true }
def FnExactOnWayUptoSaid : Prop := fnExactOnWayUptoRow.holds Try.pinned (OpenSpec.upto fnExactOnWaySpec)

/-- 'laws.FnStatesNext', WHERE WHAT IT READS IS OF BULK AT MOST 1048576: true; the input reads as it did. -/
def fnStatesNextUptoRow : OpenClaim := { program := "ytfbpcbjlogdflaa", sum := "3982a627891991bcf9ed64b00b59a59492d6e3fff088dfe0f048278fe2c19f56", func := "loop.example/switchpuzzles/laws.FnStatesNext", spec := "fnStatesNext", apart := false, narrowed := true }
def FnStatesNextUptoSaid : Prop := fnStatesNextUptoRow.holds Try.pinned (OpenSpec.upto fnStatesNextSpec)

/-- 'laws.FnGoalOne', WHERE WHAT IT READS IS OF BULK AT MOST 1048576: true; the input reads as it did. -/
def fnGoalOneUptoRow : OpenClaim := { program := "ytfbpcbjlogdflaa", sum := "3982a627891991bcf9ed64b00b59a59492d6e3fff088dfe0f048278fe2c19f56", func := "loop.example/switchpuzzles/laws.FnGoalOne", spec := "fnGoalOne", apart := false, narrowed := true }
def FnGoalOneUptoSaid : Prop := fnGoalOneUptoRow.holds Try.pinned (OpenSpec.upto fnGoalOneSpec)

/-- 'laws.FnOnlyTurns', WHERE WHAT IT READS IS OF BULK AT MOST 1048576: true; the input reads as it did. -/
def fnOnlyTurnsUptoRow : OpenClaim := { program := "ytfbpcbjlogdflaa", sum := "3982a627891991bcf9ed64b00b59a59492d6e3fff088dfe0f048278fe2c19f56", func := "loop.example/switchpuzzles/laws.FnOnlyTurns", spec := "fnOnlyTurns", apart := false, narrowed := true }
def FnOnlyTurnsUptoSaid : Prop := fnOnlyTurnsUptoRow.holds Try.pinned (OpenSpec.upto fnOnlyTurnsSpec)

/-- 'laws.FnSumStates', WHERE WHAT IT READS IS OF BULK AT MOST 1048576: true; the input reads as it did. -/
def fnSumStatesUptoRow : OpenClaim := { program := "ytfbpcbjlogdflaa", sum := "3982a627891991bcf9ed64b00b59a59492d6e3fff088dfe0f048278fe2c19f56", func := "loop.example/switchpuzzles/laws.FnSumStates", spec := "fnSumStates", apart := false, narrowed := true }
def FnSumStatesUptoSaid : Prop := fnSumStatesUptoRow.holds Try.pinned (OpenSpec.upto fnSumStatesSpec)

end Rows
end Go.Proofs.Ytfbpcbjlogdflaa
