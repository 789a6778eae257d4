/-
  DERIVED. GIVEN WITH THE SEED: THE CARDS: each row of YtphdojebdclonaaGreatDoorRows.lean that lists a variable, with what it lists TIED to the program's text (the seventh form; the later family's looks); each row that meets fmt, with fmt's text TOLD by the authors' own Lean function (tested against real Go, not proved from fmt's source: count such statements apart). THE CARD IS WHAT COUNTS. Prove the row's statement (the work); the ties are given (YtphdojebdclonaaGreatDoorTie.lean); close each card by the builder's one call (the guide's Derived/Test/ToyasCard.lean, 'card_holds'). Laid BY PROGRAM, IN A SANDBOX (cutbox-door.mjs). By AI agents, Wed Nov 11 2026. No macro, syntax, notation, axiom, sorry.
-/
import Derived.Test.YtphdojebdclonaaGreatDoorRows
import GoSem.ClaimSeven
namespace Go.Proofs.YtphdojebdclonaaGreatDoor
namespace Rows

/-- THE TIED CARD OF 'laws.FnProofText'. -/
def fnProofTextCard : Claim7 := { stood := { row := fnProofTextRow, standIns := [], harness := (true, "f36c0a704bb277e3c64eeb18adad54b8e7034b10e00b8ae0d968ed009274064e"), looks := true }, kinds := [], alts := [], laidByText := true, laidKinds := [.data, .data, .data, .data, .handle, .pinned], laidTests := true, laidLooks := .later }
def FnProofTextCardSaid : Prop := Claim7.holds Tryz.pinned (.plain (OpenSpec.ofChange fnProofTextSpec)) fnProofTextCard

/-- THE TIED CARD OF 'laws.FnExactProofRight'. -/
def fnExactProofRightCard : Claim7 := { stood := { row := fnExactProofRightRow, standIns := [], harness := (true, "f36c0a704bb277e3c64eeb18adad54b8e7034b10e00b8ae0d968ed009274064e"), looks := true }, kinds := [], alts := [], laidByText := true, laidKinds := [.data, .handle, .pinned], laidTests := true, laidLooks := .later }
def FnExactProofRightCardSaid : Prop := Claim7.holds Tryz.pinned (.plain (OpenSpec.ofChange fnExactProofRightSpec)) fnExactProofRightCard

/-- THE TIED CARD OF 'laws.FnProofRight'. -/
def fnProofRightCard : Claim7 := { stood := { row := fnProofRightRow, standIns := [], harness := (true, "f36c0a704bb277e3c64eeb18adad54b8e7034b10e00b8ae0d968ed009274064e"), looks := true }, kinds := [], alts := [], laidByText := true, laidKinds := [.data, .handle, .pinned], laidTests := true, laidLooks := .later }
def FnProofRightCardSaid : Prop := Claim7.holds Tryz.pinned (.plain (OpenSpec.ofChange fnProofRightSpec)) fnProofRightCard

/-- THE SECOND FORM's CARD OF 'laws.FnProofText'. -/
def fnProofTextUptoCard : Claim7 := { stood := { row := fnProofTextUptoRow, standIns := [], harness := (true, "f36c0a704bb277e3c64eeb18adad54b8e7034b10e00b8ae0d968ed009274064e"), looks := true }, kinds := [], alts := [], laidByText := true, laidKinds := [.data, .data, .data, .data, .handle, .pinned], laidTests := true, laidLooks := .later }
def FnProofTextUptoCardSaid : Prop := Claim7.holds Tryz.pinned (.plain (OpenSpec.upto fnProofTextSpec)) fnProofTextUptoCard

/-- THE SECOND FORM's CARD OF 'laws.FnExactProofRight'. -/
def fnExactProofRightUptoCard : Claim7 := { stood := { row := fnExactProofRightUptoRow, standIns := [], harness := (true, "f36c0a704bb277e3c64eeb18adad54b8e7034b10e00b8ae0d968ed009274064e"), looks := true }, kinds := [], alts := [], laidByText := true, laidKinds := [.data, .handle, .pinned], laidTests := true, laidLooks := .later }
def FnExactProofRightUptoCardSaid : Prop := Claim7.holds Tryz.pinned (.plain (OpenSpec.upto fnExactProofRightSpec)) fnExactProofRightUptoCard

/-- THE SECOND FORM's CARD OF 'laws.FnProofRight'. -/
def fnProofRightUptoCard : Claim7 := { stood := { row := fnProofRightUptoRow, standIns := [], harness := (true, "f36c0a704bb277e3c64eeb18adad54b8e7034b10e00b8ae0d968ed009274064e"), looks := true }, kinds := [], alts := [], laidByText := true, laidKinds := [.data, .handle, .pinned], laidTests := true, laidLooks := .later }
def FnProofRightUptoCardSaid : Prop := Claim7.holds Tryz.pinned (.plain (OpenSpec.upto fnProofRightSpec)) fnProofRightUptoCard
end Rows
end Go.Proofs.YtphdojebdclonaaGreatDoor
