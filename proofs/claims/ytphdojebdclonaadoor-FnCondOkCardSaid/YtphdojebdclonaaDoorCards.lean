/-
  DERIVED. GIVEN WITH THE SEED: THE CARDS: each row of YtphdojebdclonaaDoorRows.lean that lists a variable, with what it lists TIED to the program's text (the seventh form; the later family's looks); each row that meets fmt, with fmt's text TOLD by the authors' own Lean function (tested against real Go, not proved from fmt's source: count such statements apart). THE CARD IS WHAT COUNTS. Prove the row's statement (the work); the ties are given (YtphdojebdclonaaDoorTie.lean); close each card by the builder's one call (the guide's Derived/Test/ToyasCard.lean, 'card_holds'). Laid BY PROGRAM, IN A SANDBOX (cutbox-door.mjs). By AI agents, Wed Nov 11 2026. No macro, syntax, notation, axiom, sorry.
-/
import Derived.Test.YtphdojebdclonaaDoorRows
import GoSem.ClaimSeven
namespace Go.Proofs.YtphdojebdclonaaDoor
namespace Rows

/-- THE TIED CARD OF 'laws.FnNumbersOk'. -/
def fnNumbersOkCard : Claim7 := { stood := { row := fnNumbersOkRow, standIns := [], harness := (true, "19265949101733755eeb71189a8b77a4f4d17207baa35b681ad8a429d1987f41"), looks := true }, kinds := [], alts := [], laidByText := true, laidKinds := [.handle], laidTests := true, laidLooks := .later }
def FnNumbersOkCardSaid : Prop := Claim7.holds Tryd.pinned (.plain (OpenSpec.ofChange fnNumbersOkSpec)) fnNumbersOkCard

/-- THE TIED CARD OF 'laws.FnExactLookFor'. -/
def fnExactLookForCard : Claim7 := { stood := { row := fnExactLookForRow, standIns := [], harness := (true, "19265949101733755eeb71189a8b77a4f4d17207baa35b681ad8a429d1987f41"), looks := true }, kinds := [], alts := [], laidByText := true, laidKinds := [.handle], laidTests := true, laidLooks := .later }
def FnExactLookForCardSaid : Prop := Claim7.holds Tryd.pinned (.plain (OpenSpec.ofChange fnExactLookForSpec)) fnExactLookForCard

/-- THE TIED CARD OF 'laws.FnCondOk'. -/
def fnCondOkCard : Claim7 := { stood := { row := fnCondOkRow, standIns := [], harness := (true, "19265949101733755eeb71189a8b77a4f4d17207baa35b681ad8a429d1987f41"), looks := true }, kinds := [], alts := [], laidByText := true, laidKinds := [.handle], laidTests := true, laidLooks := .later }
def FnCondOkCardSaid : Prop := Claim7.holds Tryd.pinned (.plain (OpenSpec.ofChange fnCondOkSpec)) fnCondOkCard

/-- THE TIED CARD OF 'laws.FnTaskText'. -/
def fnTaskTextCard : Claim7 := { stood := { row := fnTaskTextRow, standIns := [], harness := (true, "19265949101733755eeb71189a8b77a4f4d17207baa35b681ad8a429d1987f41"), looks := true }, kinds := [], alts := [], laidByText := true, laidKinds := [.data, .pinned], laidTests := true, laidLooks := .later }
def FnTaskTextCardSaid : Prop := Claim7.holds Tryd.pinned (.plain (OpenSpec.ofChange fnTaskTextSpec)) fnTaskTextCard

/-- THE TIED CARD OF 'laws.FnExactReadTask'. -/
def fnExactReadTaskCard : Claim7 := { stood := { row := fnExactReadTaskRow, standIns := [], harness := (true, "19265949101733755eeb71189a8b77a4f4d17207baa35b681ad8a429d1987f41"), looks := true }, kinds := [], alts := [], laidByText := true, laidKinds := [.data, .pinned], laidTests := true, laidLooks := .later }
def FnExactReadTaskCardSaid : Prop := Claim7.holds Tryd.pinned (.plain (OpenSpec.ofChange fnExactReadTaskSpec)) fnExactReadTaskCard

/-- THE TIED CARD OF 'laws.FnReadTask'. -/
def fnReadTaskCard : Claim7 := { stood := { row := fnReadTaskRow, standIns := [], harness := (true, "19265949101733755eeb71189a8b77a4f4d17207baa35b681ad8a429d1987f41"), looks := true }, kinds := [], alts := [], laidByText := true, laidKinds := [.data, .pinned], laidTests := true, laidLooks := .later }
def FnReadTaskCardSaid : Prop := Claim7.holds Tryd.pinned (.plain (OpenSpec.ofChange fnReadTaskSpec)) fnReadTaskCard

/-- THE TIED CARD OF 'laws.FnExactProofText'. -/
def fnExactProofTextCard : Claim7 := { stood := { row := fnExactProofTextRow, standIns := [], harness := (true, "19265949101733755eeb71189a8b77a4f4d17207baa35b681ad8a429d1987f41"), looks := true }, kinds := [], alts := [], laidByText := true, laidKinds := [.data, .data, .data], laidTests := true, laidLooks := .later }
def FnExactProofTextCardSaid : Prop := Claim7.holds Tryd.pinned (.plain (OpenSpec.ofChange fnExactProofTextSpec)) fnExactProofTextCard

/-- THE SECOND FORM's CARD OF 'laws.FnNumbersOk'. -/
def fnNumbersOkUptoCard : Claim7 := { stood := { row := fnNumbersOkUptoRow, standIns := [], harness := (true, "19265949101733755eeb71189a8b77a4f4d17207baa35b681ad8a429d1987f41"), looks := true }, kinds := [], alts := [], laidByText := true, laidKinds := [.handle], laidTests := true, laidLooks := .later }
def FnNumbersOkUptoCardSaid : Prop := Claim7.holds Tryd.pinned (.plain (OpenSpec.upto fnNumbersOkSpec)) fnNumbersOkUptoCard

/-- THE SECOND FORM's CARD OF 'laws.FnExactLookFor'. -/
def fnExactLookForUptoCard : Claim7 := { stood := { row := fnExactLookForUptoRow, standIns := [], harness := (true, "19265949101733755eeb71189a8b77a4f4d17207baa35b681ad8a429d1987f41"), looks := true }, kinds := [], alts := [], laidByText := true, laidKinds := [.handle], laidTests := true, laidLooks := .later }
def FnExactLookForUptoCardSaid : Prop := Claim7.holds Tryd.pinned (.plain (OpenSpec.upto fnExactLookForSpec)) fnExactLookForUptoCard

/-- THE SECOND FORM's CARD OF 'laws.FnCondOk'. -/
def fnCondOkUptoCard : Claim7 := { stood := { row := fnCondOkUptoRow, standIns := [], harness := (true, "19265949101733755eeb71189a8b77a4f4d17207baa35b681ad8a429d1987f41"), looks := true }, kinds := [], alts := [], laidByText := true, laidKinds := [.handle], laidTests := true, laidLooks := .later }
def FnCondOkUptoCardSaid : Prop := Claim7.holds Tryd.pinned (.plain (OpenSpec.upto fnCondOkSpec)) fnCondOkUptoCard

/-- THE SECOND FORM's CARD OF 'laws.FnTaskText'. -/
def fnTaskTextUptoCard : Claim7 := { stood := { row := fnTaskTextUptoRow, standIns := [], harness := (true, "19265949101733755eeb71189a8b77a4f4d17207baa35b681ad8a429d1987f41"), looks := true }, kinds := [], alts := [], laidByText := true, laidKinds := [.data, .pinned], laidTests := true, laidLooks := .later }
def FnTaskTextUptoCardSaid : Prop := Claim7.holds Tryd.pinned (.plain (OpenSpec.upto fnTaskTextSpec)) fnTaskTextUptoCard

/-- THE SECOND FORM's CARD OF 'laws.FnExactReadTask'. -/
def fnExactReadTaskUptoCard : Claim7 := { stood := { row := fnExactReadTaskUptoRow, standIns := [], harness := (true, "19265949101733755eeb71189a8b77a4f4d17207baa35b681ad8a429d1987f41"), looks := true }, kinds := [], alts := [], laidByText := true, laidKinds := [.data, .pinned], laidTests := true, laidLooks := .later }
def FnExactReadTaskUptoCardSaid : Prop := Claim7.holds Tryd.pinned (.plain (OpenSpec.upto fnExactReadTaskSpec)) fnExactReadTaskUptoCard

/-- THE SECOND FORM's CARD OF 'laws.FnReadTask'. -/
def fnReadTaskUptoCard : Claim7 := { stood := { row := fnReadTaskUptoRow, standIns := [], harness := (true, "19265949101733755eeb71189a8b77a4f4d17207baa35b681ad8a429d1987f41"), looks := true }, kinds := [], alts := [], laidByText := true, laidKinds := [.data, .pinned], laidTests := true, laidLooks := .later }
def FnReadTaskUptoCardSaid : Prop := Claim7.holds Tryd.pinned (.plain (OpenSpec.upto fnReadTaskSpec)) fnReadTaskUptoCard

/-- THE SECOND FORM's CARD OF 'laws.FnExactProofText'. -/
def fnExactProofTextUptoCard : Claim7 := { stood := { row := fnExactProofTextUptoRow, standIns := [], harness := (true, "19265949101733755eeb71189a8b77a4f4d17207baa35b681ad8a429d1987f41"), looks := true }, kinds := [], alts := [], laidByText := true, laidKinds := [.data, .data, .data], laidTests := true, laidLooks := .later }
def FnExactProofTextUptoCardSaid : Prop := Claim7.holds Tryd.pinned (.plain (OpenSpec.upto fnExactProofTextSpec)) fnExactProofTextUptoCard
end Rows
end Go.Proofs.YtphdojebdclonaaDoor
