/-
  DERIVED. GIVEN WITH THE SEED: THE CARDS: each row of YtjmpfemlihjibaaDoorRows.lean that lists a variable, with what it lists TIED to the program's text (the seventh form; the later family's looks); each row that meets fmt, with fmt's text TOLD by the authors' own Lean function (tested against real Go, not proved from fmt's source: count such statements apart). THE CARD IS WHAT COUNTS. Prove the row's statement (the work); the ties are given (YtjmpfemlihjibaaDoorTie.lean); close each card by the builder's one call (the guide's Derived/Test/ToyasCard.lean, 'card_holds'). Laid BY PROGRAM, IN A SANDBOX (cutbox-door.mjs). By AI agents, Wed Nov 11 2026. No macro, syntax, notation, axiom, sorry.
-/
import Derived.Test.YtjmpfemlihjibaaDoorRows
import GoSem.ClaimSeven
namespace Go.Proofs.YtjmpfemlihjibaaDoor
namespace Rows

/-- THE TIED CARD OF 'laws.FnExactNumbersOk'. -/
def fnExactNumbersOkCard : Claim7 := { stood := { row := fnExactNumbersOkRow, standIns := [], harness := (true, "e9eb8bb5249b880d98bb9bdc08541a8b7688b0c851b53672e2836be2010db028"), looks := true }, kinds := [], alts := [], laidByText := true, laidKinds := [.handle], laidTests := true, laidLooks := .later }
def FnExactNumbersOkCardSaid : Prop := Claim7.holds Tryd.pinned (.plain (OpenSpec.ofChange fnExactNumbersOkSpec)) fnExactNumbersOkCard

/-- THE TIED CARD OF 'laws.FnExactClosedOk'. -/
def fnExactClosedOkCard : Claim7 := { stood := { row := fnExactClosedOkRow, standIns := [], harness := (true, "e9eb8bb5249b880d98bb9bdc08541a8b7688b0c851b53672e2836be2010db028"), looks := true }, kinds := [], alts := [], laidByText := true, laidKinds := [.handle], laidTests := true, laidLooks := .later }
def FnExactClosedOkCardSaid : Prop := Claim7.holds Tryd.pinned (.plain (OpenSpec.ofChange fnExactClosedOkSpec)) fnExactClosedOkCard

/-- THE TIED CARD OF 'laws.FnExactCondOk'. -/
def fnExactCondOkCard : Claim7 := { stood := { row := fnExactCondOkRow, standIns := [], harness := (true, "e9eb8bb5249b880d98bb9bdc08541a8b7688b0c851b53672e2836be2010db028"), looks := true }, kinds := [], alts := [], laidByText := true, laidKinds := [.handle], laidTests := true, laidLooks := .later }
def FnExactCondOkCardSaid : Prop := Claim7.holds Tryd.pinned (.plain (OpenSpec.ofChange fnExactCondOkSpec)) fnExactCondOkCard

/-- THE TIED CARD OF 'laws.FnNumbersFor'. -/
def fnNumbersForCard : Claim7 := { stood := { row := fnNumbersForRow, standIns := [], harness := (true, "e9eb8bb5249b880d98bb9bdc08541a8b7688b0c851b53672e2836be2010db028"), looks := true }, kinds := [], alts := [], laidByText := true, laidKinds := [.handle], laidTests := true, laidLooks := .later }
def FnNumbersForCardSaid : Prop := Claim7.holds Tryd.pinned (.plain (OpenSpec.ofChange fnNumbersForSpec)) fnNumbersForCard

/-- THE TIED CARD OF 'laws.FnNumbersOk'. -/
def fnNumbersOkCard : Claim7 := { stood := { row := fnNumbersOkRow, standIns := [], harness := (true, "e9eb8bb5249b880d98bb9bdc08541a8b7688b0c851b53672e2836be2010db028"), looks := true }, kinds := [], alts := [], laidByText := true, laidKinds := [.handle], laidTests := true, laidLooks := .later }
def FnNumbersOkCardSaid : Prop := Claim7.holds Tryd.pinned (.plain (OpenSpec.ofChange fnNumbersOkSpec)) fnNumbersOkCard

/-- THE TIED CARD OF 'laws.FnClosedOk'. -/
def fnClosedOkCard : Claim7 := { stood := { row := fnClosedOkRow, standIns := [], harness := (true, "e9eb8bb5249b880d98bb9bdc08541a8b7688b0c851b53672e2836be2010db028"), looks := true }, kinds := [], alts := [], laidByText := true, laidKinds := [.handle], laidTests := true, laidLooks := .later }
def FnClosedOkCardSaid : Prop := Claim7.holds Tryd.pinned (.plain (OpenSpec.ofChange fnClosedOkSpec)) fnClosedOkCard

/-- THE TIED CARD OF 'laws.FnSumOk'. -/
def fnSumOkCard : Claim7 := { stood := { row := fnSumOkRow, standIns := [], harness := (true, "e9eb8bb5249b880d98bb9bdc08541a8b7688b0c851b53672e2836be2010db028"), looks := true }, kinds := [], alts := [], laidByText := true, laidKinds := [.handle], laidTests := true, laidLooks := .later }
def FnSumOkCardSaid : Prop := Claim7.holds Tryd.pinned (.plain (OpenSpec.ofChange fnSumOkSpec)) fnSumOkCard

/-- THE TIED CARD OF 'laws.FnExactLookFor'. -/
def fnExactLookForCard : Claim7 := { stood := { row := fnExactLookForRow, standIns := [], harness := (true, "e9eb8bb5249b880d98bb9bdc08541a8b7688b0c851b53672e2836be2010db028"), looks := true }, kinds := [], alts := [], laidByText := true, laidKinds := [.handle], laidTests := true, laidLooks := .later }
def FnExactLookForCardSaid : Prop := Claim7.holds Tryd.pinned (.plain (OpenSpec.ofChange fnExactLookForSpec)) fnExactLookForCard

/-- THE SECOND FORM's CARD OF 'laws.FnExactNumbersOk'. -/
def fnExactNumbersOkUptoCard : Claim7 := { stood := { row := fnExactNumbersOkUptoRow, standIns := [], harness := (true, "e9eb8bb5249b880d98bb9bdc08541a8b7688b0c851b53672e2836be2010db028"), looks := true }, kinds := [], alts := [], laidByText := true, laidKinds := [.handle], laidTests := true, laidLooks := .later }
def FnExactNumbersOkUptoCardSaid : Prop := Claim7.holds Tryd.pinned (.plain (OpenSpec.upto fnExactNumbersOkSpec)) fnExactNumbersOkUptoCard

/-- THE SECOND FORM's CARD OF 'laws.FnExactClosedOk'. -/
def fnExactClosedOkUptoCard : Claim7 := { stood := { row := fnExactClosedOkUptoRow, standIns := [], harness := (true, "e9eb8bb5249b880d98bb9bdc08541a8b7688b0c851b53672e2836be2010db028"), looks := true }, kinds := [], alts := [], laidByText := true, laidKinds := [.handle], laidTests := true, laidLooks := .later }
def FnExactClosedOkUptoCardSaid : Prop := Claim7.holds Tryd.pinned (.plain (OpenSpec.upto fnExactClosedOkSpec)) fnExactClosedOkUptoCard

/-- THE SECOND FORM's CARD OF 'laws.FnExactCondOk'. -/
def fnExactCondOkUptoCard : Claim7 := { stood := { row := fnExactCondOkUptoRow, standIns := [], harness := (true, "e9eb8bb5249b880d98bb9bdc08541a8b7688b0c851b53672e2836be2010db028"), looks := true }, kinds := [], alts := [], laidByText := true, laidKinds := [.handle], laidTests := true, laidLooks := .later }
def FnExactCondOkUptoCardSaid : Prop := Claim7.holds Tryd.pinned (.plain (OpenSpec.upto fnExactCondOkSpec)) fnExactCondOkUptoCard

/-- THE SECOND FORM's CARD OF 'laws.FnNumbersFor'. -/
def fnNumbersForUptoCard : Claim7 := { stood := { row := fnNumbersForUptoRow, standIns := [], harness := (true, "e9eb8bb5249b880d98bb9bdc08541a8b7688b0c851b53672e2836be2010db028"), looks := true }, kinds := [], alts := [], laidByText := true, laidKinds := [.handle], laidTests := true, laidLooks := .later }
def FnNumbersForUptoCardSaid : Prop := Claim7.holds Tryd.pinned (.plain (OpenSpec.upto fnNumbersForSpec)) fnNumbersForUptoCard

/-- THE SECOND FORM's CARD OF 'laws.FnNumbersOk'. -/
def fnNumbersOkUptoCard : Claim7 := { stood := { row := fnNumbersOkUptoRow, standIns := [], harness := (true, "e9eb8bb5249b880d98bb9bdc08541a8b7688b0c851b53672e2836be2010db028"), looks := true }, kinds := [], alts := [], laidByText := true, laidKinds := [.handle], laidTests := true, laidLooks := .later }
def FnNumbersOkUptoCardSaid : Prop := Claim7.holds Tryd.pinned (.plain (OpenSpec.upto fnNumbersOkSpec)) fnNumbersOkUptoCard

/-- THE SECOND FORM's CARD OF 'laws.FnClosedOk'. -/
def fnClosedOkUptoCard : Claim7 := { stood := { row := fnClosedOkUptoRow, standIns := [], harness := (true, "e9eb8bb5249b880d98bb9bdc08541a8b7688b0c851b53672e2836be2010db028"), looks := true }, kinds := [], alts := [], laidByText := true, laidKinds := [.handle], laidTests := true, laidLooks := .later }
def FnClosedOkUptoCardSaid : Prop := Claim7.holds Tryd.pinned (.plain (OpenSpec.upto fnClosedOkSpec)) fnClosedOkUptoCard

/-- THE SECOND FORM's CARD OF 'laws.FnSumOk'. -/
def fnSumOkUptoCard : Claim7 := { stood := { row := fnSumOkUptoRow, standIns := [], harness := (true, "e9eb8bb5249b880d98bb9bdc08541a8b7688b0c851b53672e2836be2010db028"), looks := true }, kinds := [], alts := [], laidByText := true, laidKinds := [.handle], laidTests := true, laidLooks := .later }
def FnSumOkUptoCardSaid : Prop := Claim7.holds Tryd.pinned (.plain (OpenSpec.upto fnSumOkSpec)) fnSumOkUptoCard

/-- THE SECOND FORM's CARD OF 'laws.FnExactLookFor'. -/
def fnExactLookForUptoCard : Claim7 := { stood := { row := fnExactLookForUptoRow, standIns := [], harness := (true, "e9eb8bb5249b880d98bb9bdc08541a8b7688b0c851b53672e2836be2010db028"), looks := true }, kinds := [], alts := [], laidByText := true, laidKinds := [.handle], laidTests := true, laidLooks := .later }
def FnExactLookForUptoCardSaid : Prop := Claim7.holds Tryd.pinned (.plain (OpenSpec.upto fnExactLookForSpec)) fnExactLookForUptoCard
end Rows
end Go.Proofs.YtjmpfemlihjibaaDoor
