/-
  No cell of these rows narrows 'for every input' (looked for: loops, veiled, ifaces, maps, wideKeys, modest, calm, conditions, laid).
  DERIVED. THE GIVEN ROWS OF THIS SEAT. 10 by the template 'for every input the law returns true; each argument reads behind the call as it read before'; 0 by the template 'total and deterministic' (their statements: YtjmpfemlihjibaaTotals.lean).
  GIVEN WITH THE SEED: the statements are not yours to turn. If you find one false, say at which input.
  Laid BY PROGRAM, IN A SANDBOX (cutbox-rows.mjs): the forced cells as the released guide's own fill.sh prints them over the translation 6ced12148a5dead1… (all of the seat's roots in one cut). By AI agents, Wed Nov 11 2026. No macro, syntax, notation, axiom, sorry.
-/
import Derived.Test.YtjmpfemlihjibaaChecked
import GoSem.Claim
import GoSem.ClaimJoined
import GoSem.ClaimMapViews
import Derived.JoinedTies
import Derived.KernelRfl
namespace Go.Proofs.Ytjmpfemlihjibaa
/- THE CELL 'sum', in the pinned program and in every row, IS THE sha256 OF THE DUMP (.gsa) THAT YtjmpfemlihjibaaProg.lean LOADS. Nothing in Lean hashes anything: it is a label: what it is worth is what the hold of that sum in a sandbox is worth. -/
noncomputable def Try.pinned : Pinned := { name := "ytjmpfemlihjibaa", sum := "6ced12148a5dead1fd72186f8a4197126f9d9740b8212855c54403da39a60502", checked := Try.checked }
namespace Rows
def none {H : Type} : Left H := { results := [], args := [] }

/-- 'laws.FnPlanFor': WHATEVER THE INPUT: true; the input reads as it did. -/
def fnPlanForSpec : ChangeSpec := { name := "fnPlanFor", fn := fun _ => fun
  | [d] => { results := [.lit (.bool true)], args := [d] }
  | _ => none }
def fnPlanForRow : OpenClaim := { program := "ytjmpfemlihjibaa", sum := "6ced12148a5dead1fd72186f8a4197126f9d9740b8212855c54403da39a60502", func := "loop.example/switchpuzzles/laws.FnPlanFor", spec := "fnPlanFor", apart := false }
def FnPlanForSaid : Prop := fnPlanForRow.holds Try.pinned (OpenSpec.ofChange fnPlanForSpec)

/-- ITS FALSE NEIGHBOUR: 'it returns false'. Refute it at one input. -/
def fnPlanForWrong : ChangeSpec := { name := "fnPlanFor", fn := fun _ => fun
  | [d] => { results := [.lit (.bool false)], args := [d] }
  | _ => none }
def FnPlanForWrongFalsely : Prop := fnPlanForRow.holds Try.pinned (OpenSpec.ofChange fnPlanForWrong)

/-- 'laws.FnStepsFrom': WHATEVER THE INPUT: true; the input reads as it did. -/
def fnStepsFromSpec : ChangeSpec := { name := "fnStepsFrom", fn := fun _ => fun
  | [d] => { results := [.lit (.bool true)], args := [d] }
  | _ => none }
def fnStepsFromRow : OpenClaim := { program := "ytjmpfemlihjibaa", sum := "6ced12148a5dead1fd72186f8a4197126f9d9740b8212855c54403da39a60502", func := "loop.example/switchpuzzles/laws.FnStepsFrom", spec := "fnStepsFrom", apart := false }
def FnStepsFromSaid : Prop := fnStepsFromRow.holds Try.pinned (OpenSpec.ofChange fnStepsFromSpec)

/-- ITS FALSE NEIGHBOUR: 'it returns false'. Refute it at one input. -/
def fnStepsFromWrong : ChangeSpec := { name := "fnStepsFrom", fn := fun _ => fun
  | [d] => { results := [.lit (.bool false)], args := [d] }
  | _ => none }
def FnStepsFromWrongFalsely : Prop := fnStepsFromRow.holds Try.pinned (OpenSpec.ofChange fnStepsFromWrong)

/-- 'laws.FnPlanOk': WHATEVER THE INPUT: true; the input reads as it did. -/
def fnPlanOkSpec : ChangeSpec := { name := "fnPlanOk", fn := fun _ => fun
  | [d] => { results := [.lit (.bool true)], args := [d] }
  | _ => none }
def fnPlanOkRow : OpenClaim := { program := "ytjmpfemlihjibaa", sum := "6ced12148a5dead1fd72186f8a4197126f9d9740b8212855c54403da39a60502", func := "loop.example/switchpuzzles/laws.FnPlanOk", spec := "fnPlanOk", apart := false }
def FnPlanOkSaid : Prop := fnPlanOkRow.holds Try.pinned (OpenSpec.ofChange fnPlanOkSpec)

/-- ITS FALSE NEIGHBOUR: 'it returns false'. Refute it at one input. -/
def fnPlanOkWrong : ChangeSpec := { name := "fnPlanOk", fn := fun _ => fun
  | [d] => { results := [.lit (.bool false)], args := [d] }
  | _ => none }
def FnPlanOkWrongFalsely : Prop := fnPlanOkRow.holds Try.pinned (OpenSpec.ofChange fnPlanOkWrong)

/-- 'laws.FnPlanRun': WHATEVER THE INPUT: true; the input reads as it did. -/
def fnPlanRunSpec : ChangeSpec := { name := "fnPlanRun", fn := fun _ => fun
  | [d] => { results := [.lit (.bool true)], args := [d] }
  | _ => none }
def fnPlanRunRow : OpenClaim := { program := "ytjmpfemlihjibaa", sum := "6ced12148a5dead1fd72186f8a4197126f9d9740b8212855c54403da39a60502", func := "loop.example/switchpuzzles/laws.FnPlanRun", spec := "fnPlanRun", apart := false }
def FnPlanRunSaid : Prop := fnPlanRunRow.holds Try.pinned (OpenSpec.ofChange fnPlanRunSpec)

/-- ITS FALSE NEIGHBOUR: 'it returns false'. Refute it at one input. -/
def fnPlanRunWrong : ChangeSpec := { name := "fnPlanRun", fn := fun _ => fun
  | [d] => { results := [.lit (.bool false)], args := [d] }
  | _ => none }
def FnPlanRunWrongFalsely : Prop := fnPlanRunRow.holds Try.pinned (OpenSpec.ofChange fnPlanRunWrong)

/-- 'laws.FnShadowSteps': WHATEVER THE INPUT: true; the input reads as it did. -/
def fnShadowStepsSpec : ChangeSpec := { name := "fnShadowSteps", fn := fun _ => fun
  | [d1, d2] => { results := [.lit (.bool true)], args := [d1, d2] }
  | _ => none }
def fnShadowStepsRow : OpenClaim := { program := "ytjmpfemlihjibaa", sum := "6ced12148a5dead1fd72186f8a4197126f9d9740b8212855c54403da39a60502", func := "loop.example/switchpuzzles/laws.FnShadowSteps", spec := "fnShadowSteps", apart := false }
def FnShadowStepsSaid : Prop := fnShadowStepsRow.holds Try.pinned (OpenSpec.ofChange fnShadowStepsSpec)

/-- ITS FALSE NEIGHBOUR: 'it returns false'. Refute it at one input. -/
def fnShadowStepsWrong : ChangeSpec := { name := "fnShadowSteps", fn := fun _ => fun
  | [d1, d2] => { results := [.lit (.bool false)], args := [d1, d2] }
  | _ => none }
def FnShadowStepsWrongFalsely : Prop := fnShadowStepsRow.holds Try.pinned (OpenSpec.ofChange fnShadowStepsWrong)

/-- 'laws.FnShadowBound': WHATEVER THE INPUT: true; the input reads as it did. -/
def fnShadowBoundSpec : ChangeSpec := { name := "fnShadowBound", fn := fun _ => fun
  | [d] => { results := [.lit (.bool true)], args := [d] }
  | _ => none }
def fnShadowBoundRow : OpenClaim := { program := "ytjmpfemlihjibaa", sum := "6ced12148a5dead1fd72186f8a4197126f9d9740b8212855c54403da39a60502", func := "loop.example/switchpuzzles/laws.FnShadowBound", spec := "fnShadowBound", apart := false }
def FnShadowBoundSaid : Prop := fnShadowBoundRow.holds Try.pinned (OpenSpec.ofChange fnShadowBoundSpec)

/-- ITS FALSE NEIGHBOUR: 'it returns false'. Refute it at one input. -/
def fnShadowBoundWrong : ChangeSpec := { name := "fnShadowBound", fn := fun _ => fun
  | [d] => { results := [.lit (.bool false)], args := [d] }
  | _ => none }
def FnShadowBoundWrongFalsely : Prop := fnShadowBoundRow.holds Try.pinned (OpenSpec.ofChange fnShadowBoundWrong)

/-- 'laws.FnWaysTo': WHATEVER THE INPUT: true; the input reads as it did. -/
def fnWaysToSpec : ChangeSpec := { name := "fnWaysTo", fn := fun _ => fun
  | [d] => { results := [.lit (.bool true)], args := [d] }
  | _ => none }
def fnWaysToRow : OpenClaim := { program := "ytjmpfemlihjibaa", sum := "6ced12148a5dead1fd72186f8a4197126f9d9740b8212855c54403da39a60502", func := "loop.example/switchpuzzles/laws.FnWaysTo", spec := "fnWaysTo", apart := false }
def FnWaysToSaid : Prop := fnWaysToRow.holds Try.pinned (OpenSpec.ofChange fnWaysToSpec)

/-- ITS FALSE NEIGHBOUR: 'it returns false'. Refute it at one input. -/
def fnWaysToWrong : ChangeSpec := { name := "fnWaysTo", fn := fun _ => fun
  | [d] => { results := [.lit (.bool false)], args := [d] }
  | _ => none }
def FnWaysToWrongFalsely : Prop := fnWaysToRow.holds Try.pinned (OpenSpec.ofChange fnWaysToWrong)

/-- 'laws.FnExactNeeded': WHATEVER THE INPUT: true; the input reads as it did. -/
def fnExactNeededSpec : ChangeSpec := { name := "fnExactNeeded", fn := fun _ => fun
  | [d] => { results := [.lit (.bool true)], args := [d] }
  | _ => none }
def fnExactNeededRow : OpenClaim := { program := "ytjmpfemlihjibaa", sum := "6ced12148a5dead1fd72186f8a4197126f9d9740b8212855c54403da39a60502", func := "loop.example/switchpuzzles/laws.FnExactNeeded", spec := "fnExactNeeded", apart := false }
def FnExactNeededSaid : Prop := fnExactNeededRow.holds Try.pinned (OpenSpec.ofChange fnExactNeededSpec)

/-- ITS FALSE NEIGHBOUR: 'it returns false'. Refute it at one input. -/
def fnExactNeededWrong : ChangeSpec := { name := "fnExactNeeded", fn := fun _ => fun
  | [d] => { results := [.lit (.bool false)], args := [d] }
  | _ => none }
def FnExactNeededWrongFalsely : Prop := fnExactNeededRow.holds Try.pinned (OpenSpec.ofChange fnExactNeededWrong)

/-- 'laws.FnNeeded': WHATEVER THE INPUT: true; the input reads as it did. -/
def fnNeededSpec : ChangeSpec := { name := "fnNeeded", fn := fun _ => fun
  | [d] => { results := [.lit (.bool true)], args := [d] }
  | _ => none }
def fnNeededRow : OpenClaim := { program := "ytjmpfemlihjibaa", sum := "6ced12148a5dead1fd72186f8a4197126f9d9740b8212855c54403da39a60502", func := "loop.example/switchpuzzles/laws.FnNeeded", spec := "fnNeeded", apart := false }
def FnNeededSaid : Prop := fnNeededRow.holds Try.pinned (OpenSpec.ofChange fnNeededSpec)

/-- ITS FALSE NEIGHBOUR: 'it returns false'. Refute it at one input. -/
def fnNeededWrong : ChangeSpec := { name := "fnNeeded", fn := fun _ => fun
  | [d] => { results := [.lit (.bool false)], args := [d] }
  | _ => none }
def FnNeededWrongFalsely : Prop := fnNeededRow.holds Try.pinned (OpenSpec.ofChange fnNeededWrong)

/-- 'laws.FnExactPlansMany': WHATEVER THE INPUT: true; the input reads as it did. -/
def fnExactPlansManySpec : ChangeSpec := { name := "fnExactPlansMany", fn := fun _ => fun
  | [d] => { results := [.lit (.bool true)], args := [d] }
  | _ => none }
def fnExactPlansManyRow : OpenClaim := { program := "ytjmpfemlihjibaa", sum := "6ced12148a5dead1fd72186f8a4197126f9d9740b8212855c54403da39a60502", func := "loop.example/switchpuzzles/laws.FnExactPlansMany", spec := "fnExactPlansMany", apart := false }
def FnExactPlansManySaid : Prop := fnExactPlansManyRow.holds Try.pinned (OpenSpec.ofChange fnExactPlansManySpec)

/-- ITS FALSE NEIGHBOUR: 'it returns false'. Refute it at one input. -/
def fnExactPlansManyWrong : ChangeSpec := { name := "fnExactPlansMany", fn := fun _ => fun
  | [d] => { results := [.lit (.bool false)], args := [d] }
  | _ => none }
def FnExactPlansManyWrongFalsely : Prop := fnExactPlansManyRow.holds Try.pinned (OpenSpec.ofChange fnExactPlansManyWrong)

/- THE SECOND FORM. 'bulk': how many values and letters a reading holds, each counted each time it is reached (what is shared counts as often as it is met; a slice's spare places count too). A statement '..UptoSaid' is the law's where the arguments, and the package variables that the reading takes, are together of bulk at most 1048576: NARROWER than '..Said'. Prove '..Said' where nothing that the law and all that it calls make is longer than what came in: it says more and counts as full. Else prove '..UptoSaid'. A law counts once. -/
mutual
def uptoBulk {H : Type} : DataW H → Nat
  | .lit (.string bytes) => bytes.length + 1
  | .lit _ => 1
  | .nil => 1
  | .ptr d => uptoBulk d + 1
  | .slice elems spare => uptoBulkAll elems + uptoBulkAll spare + 1
  | .agg parts => uptoBulkAll parts + 1
  | .iface _ d => uptoBulk d + 1
  | .map entries => uptoBulkEntries entries + 1
  | .held _ => 1
def uptoBulkAll {H : Type} : List (DataW H) → Nat
  | [] => 0
  | d :: r => uptoBulk d + uptoBulkAll r
def uptoBulkEntries {H : Type} : List (Lit × DataW H) → Nat
  | [] => 0
  | x :: r => uptoBulkEntry x + uptoBulkEntries r
def uptoBulkEntry {H : Type} : Lit × DataW H → Nat
  | (.string bytes, d) => bytes.length + uptoBulk d + 1
  | (_, d) => uptoBulk d + 1
 end
def uptoSmall : (H : Type) → List (DataW H) → Bool := fun _ ds => decide (uptoBulkAll ds ≤ 1048576)
def OpenSpec.upto (s : _root_.Go.ChangeSpec) : _root_.Go.OpenSpec := { _root_.Go.OpenSpec.ofChange s with cond := some uptoSmall }

/-- 'laws.FnPlanFor', WHERE WHAT IT READS IS OF BULK AT MOST 1048576: true; the input reads as it did. -/
def fnPlanForUptoRow : OpenClaim := { program := "ytjmpfemlihjibaa", sum := "6ced12148a5dead1fd72186f8a4197126f9d9740b8212855c54403da39a60502", func := "loop.example/switchpuzzles/laws.FnPlanFor", spec := "fnPlanFor", apart := false, narrowed := true }
def FnPlanForUptoSaid : Prop := fnPlanForUptoRow.holds Try.pinned (OpenSpec.upto fnPlanForSpec)

/-- 'laws.FnStepsFrom', WHERE WHAT IT READS IS OF BULK AT MOST 1048576: true; the input reads as it did. -/
def fnStepsFromUptoRow : OpenClaim := { program := "ytjmpfemlihjibaa", sum := "6ced12148a5dead1fd72186f8a4197126f9d9740b8212855c54403da39a60502", func := "loop.example/switchpuzzles/laws.FnStepsFrom", spec := "fnStepsFrom", apart := false, narrowed := true }
def FnStepsFromUptoSaid : Prop := fnStepsFromUptoRow.holds Try.pinned (OpenSpec.upto fnStepsFromSpec)

/-- 'laws.FnPlanOk', WHERE WHAT IT READS IS OF BULK AT MOST 1048576: true; the input reads as it did. -/
def fnPlanOkUptoRow : OpenClaim := { program := "ytjmpfemlihjibaa", sum := "6ced12148a5dead1fd72186f8a4197126f9d9740b8212855c54403da39a60502", func := "loop.example/switchpuzzles/laws.FnPlanOk", spec := "fnPlanOk", apart := false, narrowed := true }
def FnPlanOkUptoSaid : Prop := fnPlanOkUptoRow.holds Try.pinned (OpenSpec.upto fnPlanOkSpec)

/-- 'laws.FnPlanRun', WHERE WHAT IT READS IS OF BULK AT MOST 1048576: true; the input reads as it did. -/
def fnPlanRunUptoRow : OpenClaim := { program := "ytjmpfemlihjibaa", sum := "6ced12148a5dead1fd72186f8a4197126f9d9740b8212855c54403da39a60502", func := "loop.example/switchpuzzles/laws.FnPlanRun", spec := "fnPlanRun", apart := false, narrowed := true }
def FnPlanRunUptoSaid : Prop := fnPlanRunUptoRow.holds Try.pinned (OpenSpec.upto fnPlanRunSpec)

/-- 'laws.FnShadowSteps', WHERE WHAT IT READS IS OF BULK AT MOST 1048576: true; the input reads as it did. -/
def fnShadowStepsUptoRow : OpenClaim := { program := "ytjmpfemlihjibaa", sum := "6ced12148a5dead1fd72186f8a4197126f9d9740b8212855c54403da39a60502", func := "loop.example/switchpuzzles/laws.FnShadowSteps", spec := "fnShadowSteps", apart := false, narrowed := true }
def FnShadowStepsUptoSaid : Prop := fnShadowStepsUptoRow.holds Try.pinned (OpenSpec.upto fnShadowStepsSpec)

/-- 'laws.FnShadowBound', WHERE WHAT IT READS IS OF BULK AT MOST 1048576: true; the input reads as it did. -/
def fnShadowBoundUptoRow : OpenClaim := { program := "ytjmpfemlihjibaa", sum := "6ced12148a5dead1fd72186f8a4197126f9d9740b8212855c54403da39a60502", func := "loop.example/switchpuzzles/laws.FnShadowBound", spec := "fnShadowBound", apart := false, narrowed := true }
def FnShadowBoundUptoSaid : Prop := fnShadowBoundUptoRow.holds Try.pinned (OpenSpec.upto fnShadowBoundSpec)

/-- 'laws.FnWaysTo', WHERE WHAT IT READS IS OF BULK AT MOST 1048576: true; the input reads as it did. -/
def fnWaysToUptoRow : OpenClaim := { program := "ytjmpfemlihjibaa", sum := "6ced12148a5dead1fd72186f8a4197126f9d9740b8212855c54403da39a60502", func := "loop.example/switchpuzzles/laws.FnWaysTo", spec := "fnWaysTo", apart := false, narrowed := true }
def FnWaysToUptoSaid : Prop := fnWaysToUptoRow.holds Try.pinned (OpenSpec.upto fnWaysToSpec)

/-- 'laws.FnExactNeeded', WHERE WHAT IT READS IS OF BULK AT MOST 1048576: true; the input reads as it did. -/
def fnExactNeededUptoRow : OpenClaim := { program := "ytjmpfemlihjibaa", sum := "6ced12148a5dead1fd72186f8a4197126f9d9740b8212855c54403da39a60502", func := "loop.example/switchpuzzles/laws.FnExactNeeded", spec := "fnExactNeeded", apart := false, narrowed := true }
def FnExactNeededUptoSaid : Prop := fnExactNeededUptoRow.holds Try.pinned (OpenSpec.upto fnExactNeededSpec)

/-- 'laws.FnNeeded', WHERE WHAT IT READS IS OF BULK AT MOST 1048576: true; the input reads as it did. -/
def fnNeededUptoRow : OpenClaim := { program := "ytjmpfemlihjibaa", sum := "6ced12148a5dead1fd72186f8a4197126f9d9740b8212855c54403da39a60502", func := "loop.example/switchpuzzles/laws.FnNeeded", spec := "fnNeeded", apart := false, narrowed := true }
def FnNeededUptoSaid : Prop := fnNeededUptoRow.holds Try.pinned (OpenSpec.upto fnNeededSpec)

/-- 'laws.FnExactPlansMany', WHERE WHAT IT READS IS OF BULK AT MOST 1048576: true; the input reads as it did. -/
def fnExactPlansManyUptoRow : OpenClaim := { program := "ytjmpfemlihjibaa", sum := "6ced12148a5dead1fd72186f8a4197126f9d9740b8212855c54403da39a60502", func := "loop.example/switchpuzzles/laws.FnExactPlansMany", spec := "fnExactPlansMany", apart := false, narrowed := true }
def FnExactPlansManyUptoSaid : Prop := fnExactPlansManyUptoRow.holds Try.pinned (OpenSpec.upto fnExactPlansManySpec)

end Rows
end Go.Proofs.Ytjmpfemlihjibaa
