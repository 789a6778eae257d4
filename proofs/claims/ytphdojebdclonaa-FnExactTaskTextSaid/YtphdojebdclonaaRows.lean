/-
  No cell of these rows narrows 'for every input' (looked for: loops, veiled, ifaces, maps, wideKeys, modest, calm, conditions, laid).
  DERIVED. THE GIVEN ROWS OF THIS SEAT. 6 by the template 'for every input the law returns true; each argument reads behind the call as it read before'; 0 by the template 'total and deterministic' (their statements: YtphdojebdclonaaTotals.lean).
  GIVEN WITH THE SEED: the statements are not yours to turn. If you find one false, say at which input.
  Laid BY PROGRAM, IN A SANDBOX (cutbox-rows.mjs): the forced cells as the released guide's own fill.sh prints them over the translation 7e3c46c2e8f1e2fd… (all of the seat's roots in one cut). By AI agents, Wed Nov 11 2026. No macro, syntax, notation, axiom, sorry.
-/
import Derived.Test.YtphdojebdclonaaChecked
import GoSem.Claim
import GoSem.ClaimJoined
import GoSem.ClaimMapViews
import Derived.JoinedTies
import Derived.KernelRfl
namespace Go.Proofs.Ytphdojebdclonaa
/- THE CELL 'sum', in the pinned program and in every row, IS THE sha256 OF THE DUMP (.gsa) THAT YtphdojebdclonaaProg.lean LOADS. Nothing in Lean hashes anything: it is a label: what it is worth is what the hold of that sum in a sandbox is worth. -/
noncomputable def Try.pinned : Pinned := { name := "ytphdojebdclonaa", sum := "7e3c46c2e8f1e2fd1e0946ca0f999392d84d2844367778f17f59e995bd99925c", checked := Try.checked }
namespace Rows
def none {H : Type} : Left H := { results := [], args := [] }

/-- 'laws.FnExactNeeded': WHATEVER THE INPUT: true; the input reads as it did. -/
def fnExactNeededSpec : ChangeSpec := { name := "fnExactNeeded", fn := fun _ => fun
  | [d] => { results := [.lit (.bool true)], args := [d] }
  | _ => none }
def fnExactNeededRow : OpenClaim := { program := "ytphdojebdclonaa", sum := "7e3c46c2e8f1e2fd1e0946ca0f999392d84d2844367778f17f59e995bd99925c", func := "loop.example/switchpuzzles/laws.FnExactNeeded", spec := "fnExactNeeded", apart := false }
def FnExactNeededSaid : Prop := fnExactNeededRow.holds Try.pinned (OpenSpec.ofChange fnExactNeededSpec)

/-- ITS FALSE NEIGHBOUR: 'it returns false'. Refute it at one input. -/
def fnExactNeededWrong : ChangeSpec := { name := "fnExactNeeded", fn := fun _ => fun
  | [d] => { results := [.lit (.bool false)], args := [d] }
  | _ => none }
def FnExactNeededWrongFalsely : Prop := fnExactNeededRow.holds Try.pinned (OpenSpec.ofChange fnExactNeededWrong)

/-- 'laws.FnNeeded': WHATEVER THE INPUT: true; the input reads as it did. -/
def fnNeededSpec : ChangeSpec := { name := "fnNeeded", fn := fun _ => fun
  | [d] => { results := [.lit (.bool true)], args := [d] }
  | _ => none }
def fnNeededRow : OpenClaim := { program := "ytphdojebdclonaa", sum := "7e3c46c2e8f1e2fd1e0946ca0f999392d84d2844367778f17f59e995bd99925c", func := "loop.example/switchpuzzles/laws.FnNeeded", spec := "fnNeeded", apart := false }
def FnNeededSaid : Prop := fnNeededRow.holds Try.pinned (OpenSpec.ofChange fnNeededSpec)

/-- ITS FALSE NEIGHBOUR: 'it returns false'. Refute it at one input. -/
def fnNeededWrong : ChangeSpec := { name := "fnNeeded", fn := fun _ => fun
  | [d] => { results := [.lit (.bool false)], args := [d] }
  | _ => none }
def FnNeededWrongFalsely : Prop := fnNeededRow.holds Try.pinned (OpenSpec.ofChange fnNeededWrong)

/-- 'laws.FnExactPlansMany': WHATEVER THE INPUT: true; the input reads as it did. -/
def fnExactPlansManySpec : ChangeSpec := { name := "fnExactPlansMany", fn := fun _ => fun
  | [d] => { results := [.lit (.bool true)], args := [d] }
  | _ => none }
def fnExactPlansManyRow : OpenClaim := { program := "ytphdojebdclonaa", sum := "7e3c46c2e8f1e2fd1e0946ca0f999392d84d2844367778f17f59e995bd99925c", func := "loop.example/switchpuzzles/laws.FnExactPlansMany", spec := "fnExactPlansMany", apart := false }
def FnExactPlansManySaid : Prop := fnExactPlansManyRow.holds Try.pinned (OpenSpec.ofChange fnExactPlansManySpec)

/-- ITS FALSE NEIGHBOUR: 'it returns false'. Refute it at one input. -/
def fnExactPlansManyWrong : ChangeSpec := { name := "fnExactPlansMany", fn := fun _ => fun
  | [d] => { results := [.lit (.bool false)], args := [d] }
  | _ => none }
def FnExactPlansManyWrongFalsely : Prop := fnExactPlansManyRow.holds Try.pinned (OpenSpec.ofChange fnExactPlansManyWrong)

/-- 'laws.FnExactPlanShort': WHATEVER THE INPUT: true; the input reads as it did. -/
def fnExactPlanShortSpec : ChangeSpec := { name := "fnExactPlanShort", fn := fun _ => fun
  | [d1, d2] => { results := [.lit (.bool true)], args := [d1, d2] }
  | _ => none }
def fnExactPlanShortRow : OpenClaim := { program := "ytphdojebdclonaa", sum := "7e3c46c2e8f1e2fd1e0946ca0f999392d84d2844367778f17f59e995bd99925c", func := "loop.example/switchpuzzles/laws.FnExactPlanShort", spec := "fnExactPlanShort", apart := false }
def FnExactPlanShortSaid : Prop := fnExactPlanShortRow.holds Try.pinned (OpenSpec.ofChange fnExactPlanShortSpec)

/-- ITS FALSE NEIGHBOUR: 'it returns false'. Refute it at one input. -/
def fnExactPlanShortWrong : ChangeSpec := { name := "fnExactPlanShort", fn := fun _ => fun
  | [d1, d2] => { results := [.lit (.bool false)], args := [d1, d2] }
  | _ => none }
def FnExactPlanShortWrongFalsely : Prop := fnExactPlanShortRow.holds Try.pinned (OpenSpec.ofChange fnExactPlanShortWrong)

/-- 'laws.FnPlanShort': WHATEVER THE INPUT: true; the input reads as it did. -/
def fnPlanShortSpec : ChangeSpec := { name := "fnPlanShort", fn := fun _ => fun
  | [d] => { results := [.lit (.bool true)], args := [d] }
  | _ => none }
def fnPlanShortRow : OpenClaim := { program := "ytphdojebdclonaa", sum := "7e3c46c2e8f1e2fd1e0946ca0f999392d84d2844367778f17f59e995bd99925c", func := "loop.example/switchpuzzles/laws.FnPlanShort", spec := "fnPlanShort", apart := false }
def FnPlanShortSaid : Prop := fnPlanShortRow.holds Try.pinned (OpenSpec.ofChange fnPlanShortSpec)

/-- ITS FALSE NEIGHBOUR: 'it returns false'. Refute it at one input. -/
def fnPlanShortWrong : ChangeSpec := { name := "fnPlanShort", fn := fun _ => fun
  | [d] => { results := [.lit (.bool false)], args := [d] }
  | _ => none }
def FnPlanShortWrongFalsely : Prop := fnPlanShortRow.holds Try.pinned (OpenSpec.ofChange fnPlanShortWrong)

/-- 'laws.FnExactTaskText': WHATEVER THE INPUT: true; the input reads as it did. -/
def fnExactTaskTextSpec : ChangeSpec := { name := "fnExactTaskText", fn := fun _ => fun
  | [d] => { results := [.lit (.bool true)], args := [d] }
  | _ => none }
def fnExactTaskTextRow : OpenClaim := { program := "ytphdojebdclonaa", sum := "7e3c46c2e8f1e2fd1e0946ca0f999392d84d2844367778f17f59e995bd99925c", func := "loop.example/switchpuzzles/laws.FnExactTaskText", spec := "fnExactTaskText", inPlace := ["internal/abi.NoEscape"], recurses := true, apart := false }
def FnExactTaskTextSaid : Prop := fnExactTaskTextRow.holds Try.pinned (OpenSpec.ofChange fnExactTaskTextSpec)

/-- ITS FALSE NEIGHBOUR: 'it returns false'. Refute it at one input. -/
def fnExactTaskTextWrong : ChangeSpec := { name := "fnExactTaskText", fn := fun _ => fun
  | [d] => { results := [.lit (.bool false)], args := [d] }
  | _ => none }
def FnExactTaskTextWrongFalsely : Prop := fnExactTaskTextRow.holds Try.pinned (OpenSpec.ofChange fnExactTaskTextWrong)

/- THE SECOND FORM. 'bulk': how many values and letters a reading holds, each counted each time it is reached (what is shared counts as often as it is met; a slice's spare places count too). A statement '..UptoSaid' is the law's where the arguments, and the package variables that the reading takes, are together of bulk at most 1048576: NARROWER than '..Said'. Prove '..Said' where nothing that the law and all that it calls make is longer than what came in: it says more and counts as full. Else prove '..UptoSaid'. A law counts once. -/
mutual
def uptoBulk {H : Type} : DataW H → Nat
  | .lit (.string bytes) => bytes.length + 1
  | .lit _ => 1
  | .nil => 1
  | .ptr d => uptoBulk d + 1
  | .slice elems spare => uptoBulkAll elems + uptoBulkAll spare + 1
  | .agg parts => uptoBulkAll parts + 1
  | .iface _ d => uptoBulk d + 1
  | .map entries => uptoBulkEntries entries + 1
  | .held _ => 1
def uptoBulkAll {H : Type} : List (DataW H) → Nat
  | [] => 0
  | d :: r => uptoBulk d + uptoBulkAll r
def uptoBulkEntries {H : Type} : List (Lit × DataW H) → Nat
  | [] => 0
  | x :: r => uptoBulkEntry x + uptoBulkEntries r
def uptoBulkEntry {H : Type} : Lit × DataW H → Nat
  | (.string bytes, d) => bytes.length + uptoBulk d + 1
  | (_, d) => uptoBulk d + 1
 end
def uptoSmall : (H : Type) → List (DataW H) → Bool := fun _ ds => decide (uptoBulkAll ds ≤ 1048576)
def OpenSpec.upto (s : _root_.Go.ChangeSpec) : _root_.Go.OpenSpec := { _root_.Go.OpenSpec.ofChange s with cond := some uptoSmall }

/-- 'laws.FnExactNeeded', WHERE WHAT IT READS IS OF BULK AT MOST 1048576: true; the input reads as it did. -/
def fnExactNeededUptoRow : OpenClaim := { program := "ytphdojebdclonaa", sum := "7e3c46c2e8f1e2fd1e0946ca0f999392d84d2844367778f17f59e995bd99925c", func := "loop.example/switchpuzzles/laws.FnExactNeeded", spec := "fnExactNeeded", apart := false, narrowed := true }
def FnExactNeededUptoSaid : Prop := fnExactNeededUptoRow.holds Try.pinned (OpenSpec.upto fnExactNeededSpec)

/-- 'laws.FnNeeded', WHERE WHAT IT READS IS OF BULK AT MOST 1048576: true; the input reads as it did. -/
def fnNeededUptoRow : OpenClaim := { program := "ytphdojebdclonaa", sum := "7e3c46c2e8f1e2fd1e0946ca0f999392d84d2844367778f17f59e995bd99925c", func := "loop.example/switchpuzzles/laws.FnNeeded", spec := "fnNeeded", apart := false, narrowed := true }
def FnNeededUptoSaid : Prop := fnNeededUptoRow.holds Try.pinned (OpenSpec.upto fnNeededSpec)

/-- 'laws.FnExactPlansMany', WHERE WHAT IT READS IS OF BULK AT MOST 1048576: true; the input reads as it did. -/
def fnExactPlansManyUptoRow : OpenClaim := { program := "ytphdojebdclonaa", sum := "7e3c46c2e8f1e2fd1e0946ca0f999392d84d2844367778f17f59e995bd99925c", func := "loop.example/switchpuzzles/laws.FnExactPlansMany", spec := "fnExactPlansMany", apart := false, narrowed := true }
def FnExactPlansManyUptoSaid : Prop := fnExactPlansManyUptoRow.holds Try.pinned (OpenSpec.upto fnExactPlansManySpec)

/-- 'laws.FnExactPlanShort', WHERE WHAT IT READS IS OF BULK AT MOST 1048576: true; the input reads as it did. -/
def fnExactPlanShortUptoRow : OpenClaim := { program := "ytphdojebdclonaa", sum := "7e3c46c2e8f1e2fd1e0946ca0f999392d84d2844367778f17f59e995bd99925c", func := "loop.example/switchpuzzles/laws.FnExactPlanShort", spec := "fnExactPlanShort", apart := false, narrowed := true }
def FnExactPlanShortUptoSaid : Prop := fnExactPlanShortUptoRow.holds Try.pinned (OpenSpec.upto fnExactPlanShortSpec)

/-- 'laws.FnPlanShort', WHERE WHAT IT READS IS OF BULK AT MOST 1048576: true; the input reads as it did. -/
def fnPlanShortUptoRow : OpenClaim := { program := "ytphdojebdclonaa", sum := "7e3c46c2e8f1e2fd1e0946ca0f999392d84d2844367778f17f59e995bd99925c", func := "loop.example/switchpuzzles/laws.FnPlanShort", spec := "fnPlanShort", apart := false, narrowed := true }
def FnPlanShortUptoSaid : Prop := fnPlanShortUptoRow.holds Try.pinned (OpenSpec.upto fnPlanShortSpec)

/-- 'laws.FnExactTaskText', WHERE WHAT IT READS IS OF BULK AT MOST 1048576: true; the input reads as it did. -/
def fnExactTaskTextUptoRow : OpenClaim := { program := "ytphdojebdclonaa", sum := "7e3c46c2e8f1e2fd1e0946ca0f999392d84d2844367778f17f59e995bd99925c", func := "loop.example/switchpuzzles/laws.FnExactTaskText", spec := "fnExactTaskText", inPlace := ["internal/abi.NoEscape"], recurses := true, apart := false, narrowed := true }
def FnExactTaskTextUptoSaid : Prop := fnExactTaskTextUptoRow.holds Try.pinned (OpenSpec.upto fnExactTaskTextSpec)

end Rows
end Go.Proofs.Ytphdojebdclonaa
