/-
  NARROWER THAN 'FOR EVERY INPUT', by the rows' own cells (each row's printed sentence says how): FnExactNumbersOk: laid · FnExactClosedOk: laid · FnExactCondOk: laid · FnNumbersFor: laid · FnNumbersOk: laid · FnClosedOk: laid · FnSumOk: laid · FnExactLookFor: laid.
  DERIVED. THE GIVEN ROWS OF THIS SEAT. 8 by the template 'for every input the law returns true; each argument reads behind the call as it read before'; 0 by the template 'total and deterministic' (their statements: YtjmpfemlihjibaaDoorTotals.lean).
  GIVEN WITH THE SEED: the statements are not yours to turn. If you find one false, say at which input.
  Laid BY PROGRAM, IN A SANDBOX (cutbox-rows.mjs): the forced cells as the released guide's own fill.sh prints them over the translation d22e7cd6015722e2… (all of the seat's roots in one cut). By AI agents, Wed Nov 11 2026. No macro, syntax, notation, axiom, sorry.
-/
import Derived.Test.YtjmpfemlihjibaaDoorChecked
import GoSem.Claim
import GoSem.ClaimJoined
import GoSem.ClaimMapViews
import Derived.JoinedTies
import Derived.KernelRfl
namespace Go.Proofs.YtjmpfemlihjibaaDoor
/- THE CELL 'sum', in the pinned program and in every row, IS THE sha256 OF THE DUMP (.gsa) THAT YtjmpfemlihjibaaDoorProg.lean LOADS. Nothing in Lean hashes anything: it is a label: what it is worth is what the hold of that sum in a sandbox is worth. -/
noncomputable def Tryd.pinned : Pinned := { name := "ytjmpfemlihjibaadoor", sum := "d22e7cd6015722e2805bcf6b08f05fb1f9ea778f657e4543a512259fefe15127", checked := Tryd.checked }
namespace Rows
def none {H : Type} : Left H := { results := [], args := [] }

/- WHAT THE LISTED PACKAGE-LEVEL VARIABLES READ AS WHEN THE CALL BEGINS. Each datum BY PROGRAM (the guide's laid-datum.mjs) off the statement by which the dump's own 'gosem.cut.vars' lays the variable. In a bare row this is a premise. The card (YtjmpfemlihjibaaDoorCards.lean) ties it to the program's text. -/
def laid_errors_errorType {H : Type} : DataW H := .iface "internal/reflectlite.rtype" (.agg [.ptr (.lit (.string [101, 114, 114, 111, 114]))])

/-- 'laws.FnExactNumbersOk': WHATEVER THE INPUT: true; the input reads as it did. -/
def fnExactNumbersOkSpec : ChangeSpec := { name := "fnExactNumbersOk", fn := fun _ => fun
  | [d1, d2] => { results := [.lit (.bool true)], args := [d1, d2] }
  | _ => none }
def fnExactNumbersOkRow : OpenClaim := { program := "ytjmpfemlihjibaadoor", sum := "d22e7cd6015722e2805bcf6b08f05fb1f9ea778f657e4543a512259fefe15127", func := "loop.example/switchpuzzles/laws.FnExactNumbersOk", spec := "fnExactNumbersOk", inPlace := ["internal/reflectlite.ValueOf", "(internal/reflectlite.Value).Type", "(internal/reflectlite.Value).IsNil", "internal/reflectlite.TypeOf", "(internal/reflectlite.Value).Elem", "(internal/reflectlite.Value).Set"], unfollowed := true, recurses := true, named := ["errors.errorType"], apart := false, laid := [("errors.errorType", laid_errors_errorType)] }
def FnExactNumbersOkSaid : Prop := fnExactNumbersOkRow.holds Tryd.pinned (OpenSpec.ofChange fnExactNumbersOkSpec)

/-- ITS FALSE NEIGHBOUR: 'it returns false'. Refute it at one input. -/
def fnExactNumbersOkWrong : ChangeSpec := { name := "fnExactNumbersOk", fn := fun _ => fun
  | [d1, d2] => { results := [.lit (.bool false)], args := [d1, d2] }
  | _ => none }
def FnExactNumbersOkWrongFalsely : Prop := fnExactNumbersOkRow.holds Tryd.pinned (OpenSpec.ofChange fnExactNumbersOkWrong)

/-- 'laws.FnExactClosedOk': WHATEVER THE INPUT: true; the input reads as it did. -/
def fnExactClosedOkSpec : ChangeSpec := { name := "fnExactClosedOk", fn := fun _ => fun
  | [d1, d2] => { results := [.lit (.bool true)], args := [d1, d2] }
  | _ => none }
def fnExactClosedOkRow : OpenClaim := { program := "ytjmpfemlihjibaadoor", sum := "d22e7cd6015722e2805bcf6b08f05fb1f9ea778f657e4543a512259fefe15127", func := "loop.example/switchpuzzles/laws.FnExactClosedOk", spec := "fnExactClosedOk", inPlace := ["internal/reflectlite.ValueOf", "(internal/reflectlite.Value).Type", "(internal/reflectlite.Value).IsNil", "internal/reflectlite.TypeOf", "(internal/reflectlite.Value).Elem", "(internal/reflectlite.Value).Set"], unfollowed := true, recurses := true, named := ["errors.errorType"], apart := false, laid := [("errors.errorType", laid_errors_errorType)] }
def FnExactClosedOkSaid : Prop := fnExactClosedOkRow.holds Tryd.pinned (OpenSpec.ofChange fnExactClosedOkSpec)

/-- ITS FALSE NEIGHBOUR: 'it returns false'. Refute it at one input. -/
def fnExactClosedOkWrong : ChangeSpec := { name := "fnExactClosedOk", fn := fun _ => fun
  | [d1, d2] => { results := [.lit (.bool false)], args := [d1, d2] }
  | _ => none }
def FnExactClosedOkWrongFalsely : Prop := fnExactClosedOkRow.holds Tryd.pinned (OpenSpec.ofChange fnExactClosedOkWrong)

/-- 'laws.FnExactCondOk': WHATEVER THE INPUT: true; the input reads as it did. -/
def fnExactCondOkSpec : ChangeSpec := { name := "fnExactCondOk", fn := fun _ => fun
  | [d1, d2] => { results := [.lit (.bool true)], args := [d1, d2] }
  | _ => none }
def fnExactCondOkRow : OpenClaim := { program := "ytjmpfemlihjibaadoor", sum := "d22e7cd6015722e2805bcf6b08f05fb1f9ea778f657e4543a512259fefe15127", func := "loop.example/switchpuzzles/laws.FnExactCondOk", spec := "fnExactCondOk", inPlace := ["internal/reflectlite.ValueOf", "(internal/reflectlite.Value).Type", "(internal/reflectlite.Value).IsNil", "internal/reflectlite.TypeOf", "(internal/reflectlite.Value).Elem", "(internal/reflectlite.Value).Set"], unfollowed := true, recurses := true, named := ["errors.errorType"], apart := false, laid := [("errors.errorType", laid_errors_errorType)] }
def FnExactCondOkSaid : Prop := fnExactCondOkRow.holds Tryd.pinned (OpenSpec.ofChange fnExactCondOkSpec)

/-- ITS FALSE NEIGHBOUR: 'it returns false'. Refute it at one input. -/
def fnExactCondOkWrong : ChangeSpec := { name := "fnExactCondOk", fn := fun _ => fun
  | [d1, d2] => { results := [.lit (.bool false)], args := [d1, d2] }
  | _ => none }
def FnExactCondOkWrongFalsely : Prop := fnExactCondOkRow.holds Tryd.pinned (OpenSpec.ofChange fnExactCondOkWrong)

/-- 'laws.FnNumbersFor': WHATEVER THE INPUT: true; the input reads as it did. -/
def fnNumbersForSpec : ChangeSpec := { name := "fnNumbersFor", fn := fun _ => fun
  | [d] => { results := [.lit (.bool true)], args := [d] }
  | _ => none }
def fnNumbersForRow : OpenClaim := { program := "ytjmpfemlihjibaadoor", sum := "d22e7cd6015722e2805bcf6b08f05fb1f9ea778f657e4543a512259fefe15127", func := "loop.example/switchpuzzles/laws.FnNumbersFor", spec := "fnNumbersFor", inPlace := ["internal/reflectlite.ValueOf", "(internal/reflectlite.Value).Type", "(internal/reflectlite.Value).IsNil", "internal/reflectlite.TypeOf", "(internal/reflectlite.Value).Elem", "(internal/reflectlite.Value).Set"], unfollowed := true, recurses := true, named := ["errors.errorType"], apart := false, laid := [("errors.errorType", laid_errors_errorType)] }
def FnNumbersForSaid : Prop := fnNumbersForRow.holds Tryd.pinned (OpenSpec.ofChange fnNumbersForSpec)

/-- ITS FALSE NEIGHBOUR: 'it returns false'. Refute it at one input. -/
def fnNumbersForWrong : ChangeSpec := { name := "fnNumbersFor", fn := fun _ => fun
  | [d] => { results := [.lit (.bool false)], args := [d] }
  | _ => none }
def FnNumbersForWrongFalsely : Prop := fnNumbersForRow.holds Tryd.pinned (OpenSpec.ofChange fnNumbersForWrong)

/-- 'laws.FnNumbersOk': WHATEVER THE INPUT: true; the input reads as it did. -/
def fnNumbersOkSpec : ChangeSpec := { name := "fnNumbersOk", fn := fun _ => fun
  | [d] => { results := [.lit (.bool true)], args := [d] }
  | _ => none }
def fnNumbersOkRow : OpenClaim := { program := "ytjmpfemlihjibaadoor", sum := "d22e7cd6015722e2805bcf6b08f05fb1f9ea778f657e4543a512259fefe15127", func := "loop.example/switchpuzzles/laws.FnNumbersOk", spec := "fnNumbersOk", inPlace := ["internal/reflectlite.ValueOf", "(internal/reflectlite.Value).Type", "(internal/reflectlite.Value).IsNil", "internal/reflectlite.TypeOf", "(internal/reflectlite.Value).Elem", "(internal/reflectlite.Value).Set"], unfollowed := true, recurses := true, named := ["errors.errorType"], apart := false, laid := [("errors.errorType", laid_errors_errorType)] }
def FnNumbersOkSaid : Prop := fnNumbersOkRow.holds Tryd.pinned (OpenSpec.ofChange fnNumbersOkSpec)

/-- ITS FALSE NEIGHBOUR: 'it returns false'. Refute it at one input. -/
def fnNumbersOkWrong : ChangeSpec := { name := "fnNumbersOk", fn := fun _ => fun
  | [d] => { results := [.lit (.bool false)], args := [d] }
  | _ => none }
def FnNumbersOkWrongFalsely : Prop := fnNumbersOkRow.holds Tryd.pinned (OpenSpec.ofChange fnNumbersOkWrong)

/-- 'laws.FnClosedOk': WHATEVER THE INPUT: true; the input reads as it did. -/
def fnClosedOkSpec : ChangeSpec := { name := "fnClosedOk", fn := fun _ => fun
  | [d] => { results := [.lit (.bool true)], args := [d] }
  | _ => none }
def fnClosedOkRow : OpenClaim := { program := "ytjmpfemlihjibaadoor", sum := "d22e7cd6015722e2805bcf6b08f05fb1f9ea778f657e4543a512259fefe15127", func := "loop.example/switchpuzzles/laws.FnClosedOk", spec := "fnClosedOk", inPlace := ["internal/reflectlite.ValueOf", "(internal/reflectlite.Value).Type", "(internal/reflectlite.Value).IsNil", "internal/reflectlite.TypeOf", "(internal/reflectlite.Value).Elem", "(internal/reflectlite.Value).Set"], unfollowed := true, recurses := true, named := ["errors.errorType"], apart := false, laid := [("errors.errorType", laid_errors_errorType)] }
def FnClosedOkSaid : Prop := fnClosedOkRow.holds Tryd.pinned (OpenSpec.ofChange fnClosedOkSpec)

/-- ITS FALSE NEIGHBOUR: 'it returns false'. Refute it at one input. -/
def fnClosedOkWrong : ChangeSpec := { name := "fnClosedOk", fn := fun _ => fun
  | [d] => { results := [.lit (.bool false)], args := [d] }
  | _ => none }
def FnClosedOkWrongFalsely : Prop := fnClosedOkRow.holds Tryd.pinned (OpenSpec.ofChange fnClosedOkWrong)

/-- 'laws.FnSumOk': WHATEVER THE INPUT: true; the input reads as it did. -/
def fnSumOkSpec : ChangeSpec := { name := "fnSumOk", fn := fun _ => fun
  | [d] => { results := [.lit (.bool true)], args := [d] }
  | _ => none }
def fnSumOkRow : OpenClaim := { program := "ytjmpfemlihjibaadoor", sum := "d22e7cd6015722e2805bcf6b08f05fb1f9ea778f657e4543a512259fefe15127", func := "loop.example/switchpuzzles/laws.FnSumOk", spec := "fnSumOk", inPlace := ["internal/reflectlite.ValueOf", "(internal/reflectlite.Value).Type", "(internal/reflectlite.Value).IsNil", "internal/reflectlite.TypeOf", "(internal/reflectlite.Value).Elem", "(internal/reflectlite.Value).Set"], unfollowed := true, recurses := true, named := ["errors.errorType"], apart := false, laid := [("errors.errorType", laid_errors_errorType)] }
def FnSumOkSaid : Prop := fnSumOkRow.holds Tryd.pinned (OpenSpec.ofChange fnSumOkSpec)

/-- ITS FALSE NEIGHBOUR: 'it returns false'. Refute it at one input. -/
def fnSumOkWrong : ChangeSpec := { name := "fnSumOk", fn := fun _ => fun
  | [d] => { results := [.lit (.bool false)], args := [d] }
  | _ => none }
def FnSumOkWrongFalsely : Prop := fnSumOkRow.holds Tryd.pinned (OpenSpec.ofChange fnSumOkWrong)

/-- 'laws.FnExactLookFor': WHATEVER THE INPUT: true; the input reads as it did. -/
def fnExactLookForSpec : ChangeSpec := { name := "fnExactLookFor", fn := fun _ => fun
  | [d1, d2] => { results := [.lit (.bool true)], args := [d1, d2] }
  | _ => none }
def fnExactLookForRow : OpenClaim := { program := "ytjmpfemlihjibaadoor", sum := "d22e7cd6015722e2805bcf6b08f05fb1f9ea778f657e4543a512259fefe15127", func := "loop.example/switchpuzzles/laws.FnExactLookFor", spec := "fnExactLookFor", inPlace := ["internal/reflectlite.ValueOf", "(internal/reflectlite.Value).Type", "(internal/reflectlite.Value).IsNil", "internal/reflectlite.TypeOf", "(internal/reflectlite.Value).Elem", "(internal/reflectlite.Value).Set"], unfollowed := true, recurses := true, named := ["errors.errorType"], apart := false, laid := [("errors.errorType", laid_errors_errorType)] }
def FnExactLookForSaid : Prop := fnExactLookForRow.holds Tryd.pinned (OpenSpec.ofChange fnExactLookForSpec)

/-- ITS FALSE NEIGHBOUR: 'it returns false'. Refute it at one input. -/
def fnExactLookForWrong : ChangeSpec := { name := "fnExactLookFor", fn := fun _ => fun
  | [d1, d2] => { results := [.lit (.bool false)], args := [d1, d2] }
  | _ => none }
def FnExactLookForWrongFalsely : Prop := fnExactLookForRow.holds Tryd.pinned (OpenSpec.ofChange fnExactLookForWrong)

/- THE SECOND FORM. 'bulk': how many values and letters a reading holds, each counted each time it is reached (what is shared counts as often as it is met; a slice's spare places count too). A statement '..UptoSaid' is the law's where the arguments, and the package variables that the reading takes, are together of bulk at most 1048576: NARROWER than '..Said'. Prove '..Said' where nothing that the law and all that it calls make is longer than what came in: it says more and counts as full. Else prove '..UptoSaid'. A law counts once. -/
mutual
def uptoBulk {H : Type} : DataW H → Nat
  | .lit (.string bytes) => bytes.length + 1
  | .lit _ => 1
  | .nil => 1
  | .ptr d => uptoBulk d + 1
  | .slice elems spare => uptoBulkAll elems + uptoBulkAll spare + 1
  | .agg parts => uptoBulkAll parts + 1
  | .iface _ d => uptoBulk d + 1
  | .map entries => uptoBulkEntries entries + 1
  | .held _ => 1
def uptoBulkAll {H : Type} : List (DataW H) → Nat
  | [] => 0
  | d :: r => uptoBulk d + uptoBulkAll r
def uptoBulkEntries {H : Type} : List (Lit × DataW H) → Nat
  | [] => 0
  | x :: r => uptoBulkEntry x + uptoBulkEntries r
def uptoBulkEntry {H : Type} : Lit × DataW H → Nat
  | (.string bytes, d) => bytes.length + uptoBulk d + 1
  | (_, d) => uptoBulk d + 1
 end
def uptoSmall : (H : Type) → List (DataW H) → Bool := fun _ ds => decide (uptoBulkAll ds ≤ 1048576)
def OpenSpec.upto (s : _root_.Go.ChangeSpec) : _root_.Go.OpenSpec := { _root_.Go.OpenSpec.ofChange s with cond := some uptoSmall }

/-- 'laws.FnExactNumbersOk', WHERE WHAT IT READS IS OF BULK AT MOST 1048576: true; the input reads as it did. -/
def fnExactNumbersOkUptoRow : OpenClaim := { program := "ytjmpfemlihjibaadoor", sum := "d22e7cd6015722e2805bcf6b08f05fb1f9ea778f657e4543a512259fefe15127", func := "loop.example/switchpuzzles/laws.FnExactNumbersOk", spec := "fnExactNumbersOk", inPlace := ["internal/reflectlite.ValueOf", "(internal/reflectlite.Value).Type", "(internal/reflectlite.Value).IsNil", "internal/reflectlite.TypeOf", "(internal/reflectlite.Value).Elem", "(internal/reflectlite.Value).Set"], unfollowed := true, recurses := true, named := ["errors.errorType"], apart := false, laid := [("errors.errorType", laid_errors_errorType)], narrowed := true }
def FnExactNumbersOkUptoSaid : Prop := fnExactNumbersOkUptoRow.holds Tryd.pinned (OpenSpec.upto fnExactNumbersOkSpec)

/-- 'laws.FnExactClosedOk', WHERE WHAT IT READS IS OF BULK AT MOST 1048576: true; the input reads as it did. -/
def fnExactClosedOkUptoRow : OpenClaim := { program := "ytjmpfemlihjibaadoor", sum := "d22e7cd6015722e2805bcf6b08f05fb1f9ea778f657e4543a512259fefe15127", func := "loop.example/switchpuzzles/laws.FnExactClosedOk", spec := "fnExactClosedOk", inPlace := ["internal/reflectlite.ValueOf", "(internal/reflectlite.Value).Type", "(internal/reflectlite.Value).IsNil", "internal/reflectlite.TypeOf", "(internal/reflectlite.Value).Elem", "(internal/reflectlite.Value).Set"], unfollowed := true, recurses := true, named := ["errors.errorType"], apart := false, laid := [("errors.errorType", laid_errors_errorType)], narrowed := true }
def FnExactClosedOkUptoSaid : Prop := fnExactClosedOkUptoRow.holds Tryd.pinned (OpenSpec.upto fnExactClosedOkSpec)

/-- 'laws.FnExactCondOk', WHERE WHAT IT READS IS OF BULK AT MOST 1048576: true; the input reads as it did. -/
def fnExactCondOkUptoRow : OpenClaim := { program := "ytjmpfemlihjibaadoor", sum := "d22e7cd6015722e2805bcf6b08f05fb1f9ea778f657e4543a512259fefe15127", func := "loop.example/switchpuzzles/laws.FnExactCondOk", spec := "fnExactCondOk", inPlace := ["internal/reflectlite.ValueOf", "(internal/reflectlite.Value).Type", "(internal/reflectlite.Value).IsNil", "internal/reflectlite.TypeOf", "(internal/reflectlite.Value).Elem", "(internal/reflectlite.Value).Set"], unfollowed := true, recurses := true, named := ["errors.errorType"], apart := false, laid := [("errors.errorType", laid_errors_errorType)], narrowed := true }
def FnExactCondOkUptoSaid : Prop := fnExactCondOkUptoRow.holds Tryd.pinned (OpenSpec.upto fnExactCondOkSpec)

/-- 'laws.FnNumbersFor', WHERE WHAT IT READS IS OF BULK AT MOST 1048576: true; the input reads as it did. -/
def fnNumbersForUptoRow : OpenClaim := { program := "ytjmpfemlihjibaadoor", sum := "d22e7cd6015722e2805bcf6b08f05fb1f9ea778f657e4543a512259fefe15127", func := "loop.example/switchpuzzles/laws.FnNumbersFor", spec := "fnNumbersFor", inPlace := ["internal/reflectlite.ValueOf", "(internal/reflectlite.Value).Type", "(internal/reflectlite.Value).IsNil", "internal/reflectlite.TypeOf", "(internal/reflectlite.Value).Elem", "(internal/reflectlite.Value).Set"], unfollowed := true, recurses := true, named := ["errors.errorType"], apart := false, laid := [("errors.errorType", laid_errors_errorType)], narrowed := true }
def FnNumbersForUptoSaid : Prop := fnNumbersForUptoRow.holds Tryd.pinned (OpenSpec.upto fnNumbersForSpec)

/-- 'laws.FnNumbersOk', WHERE WHAT IT READS IS OF BULK AT MOST 1048576: true; the input reads as it did. -/
def fnNumbersOkUptoRow : OpenClaim := { program := "ytjmpfemlihjibaadoor", sum := "d22e7cd6015722e2805bcf6b08f05fb1f9ea778f657e4543a512259fefe15127", func := "loop.example/switchpuzzles/laws.FnNumbersOk", spec := "fnNumbersOk", inPlace := ["internal/reflectlite.ValueOf", "(internal/reflectlite.Value).Type", "(internal/reflectlite.Value).IsNil", "internal/reflectlite.TypeOf", "(internal/reflectlite.Value).Elem", "(internal/reflectlite.Value).Set"], unfollowed := true, recurses := true, named := ["errors.errorType"], apart := false, laid := [("errors.errorType", laid_errors_errorType)], narrowed := true }
def FnNumbersOkUptoSaid : Prop := fnNumbersOkUptoRow.holds Tryd.pinned (OpenSpec.upto fnNumbersOkSpec)

/-- 'laws.FnClosedOk', WHERE WHAT IT READS IS OF BULK AT MOST 1048576: true; the input reads as it did. -/
def fnClosedOkUptoRow : OpenClaim := { program := "ytjmpfemlihjibaadoor", sum := "d22e7cd6015722e2805bcf6b08f05fb1f9ea778f657e4543a512259fefe15127", func := "loop.example/switchpuzzles/laws.FnClosedOk", spec := "fnClosedOk", inPlace := ["internal/reflectlite.ValueOf", "(internal/reflectlite.Value).Type", "(internal/reflectlite.Value).IsNil", "internal/reflectlite.TypeOf", "(internal/reflectlite.Value).Elem", "(internal/reflectlite.Value).Set"], unfollowed := true, recurses := true, named := ["errors.errorType"], apart := false, laid := [("errors.errorType", laid_errors_errorType)], narrowed := true }
def FnClosedOkUptoSaid : Prop := fnClosedOkUptoRow.holds Tryd.pinned (OpenSpec.upto fnClosedOkSpec)

/-- 'laws.FnSumOk', WHERE WHAT IT READS IS OF BULK AT MOST 1048576: true; the input reads as it did. -/
def fnSumOkUptoRow : OpenClaim := { program := "ytjmpfemlihjibaadoor", sum := "d22e7cd6015722e2805bcf6b08f05fb1f9ea778f657e4543a512259fefe15127", func := "loop.example/switchpuzzles/laws.FnSumOk", spec := "fnSumOk", inPlace := ["internal/reflectlite.ValueOf", "(internal/reflectlite.Value).Type", "(internal/reflectlite.Value).IsNil", "internal/reflectlite.TypeOf", "(internal/reflectlite.Value).Elem", "(internal/reflectlite.Value).Set"], unfollowed := true, recurses := true, named := ["errors.errorType"], apart := false, laid := [("errors.errorType", laid_errors_errorType)], narrowed := true }
def FnSumOkUptoSaid : Prop := fnSumOkUptoRow.holds Tryd.pinned (OpenSpec.upto fnSumOkSpec)

/-- 'laws.FnExactLookFor', WHERE WHAT IT READS IS OF BULK AT MOST 1048576: true; the input reads as it did. -/
def fnExactLookForUptoRow : OpenClaim := { program := "ytjmpfemlihjibaadoor", sum := "d22e7cd6015722e2805bcf6b08f05fb1f9ea778f657e4543a512259fefe15127", func := "loop.example/switchpuzzles/laws.FnExactLookFor", spec := "fnExactLookFor", inPlace := ["internal/reflectlite.ValueOf", "(internal/reflectlite.Value).Type", "(internal/reflectlite.Value).IsNil", "internal/reflectlite.TypeOf", "(internal/reflectlite.Value).Elem", "(internal/reflectlite.Value).Set"], unfollowed := true, recurses := true, named := ["errors.errorType"], apart := false, laid := [("errors.errorType", laid_errors_errorType)], narrowed := true }
def FnExactLookForUptoSaid : Prop := fnExactLookForUptoRow.holds Tryd.pinned (OpenSpec.upto fnExactLookForSpec)

end Rows
end Go.Proofs.YtjmpfemlihjibaaDoor
