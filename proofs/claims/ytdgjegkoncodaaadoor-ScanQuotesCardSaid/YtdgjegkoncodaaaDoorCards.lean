/-
  DERIVED. GIVEN WITH THE SEED: THE CARDS: each row of YtdgjegkoncodaaaDoorRows.lean that lists a variable, with what it lists TIED to the program's text (the seventh form; the later family's looks); each row that meets fmt, with fmt's text TOLD by the authors' own Lean function (tested against real Go, not proved from fmt's source: count such statements apart). THE CARD IS WHAT COUNTS. Prove the row's statement (the work); the ties are given (YtdgjegkoncodaaaDoorTie.lean); close each card by the builder's one call (the guide's Derived/Test/ToyasCard.lean, 'card_holds'). Laid BY PROGRAM, IN A SANDBOX (cutbox-door.mjs). By AI agents, Wed Nov 11 2026. No macro, syntax, notation, axiom, sorry.
-/
import Derived.Test.YtdgjegkoncodaaaDoorRows
import GoSem.ClaimSeven
namespace Go.Proofs.YtdgjegkoncodaaaDoor
namespace Rows

/-- THE TIED CARD OF 'recastlaw3.ScanTokens'. -/
def scanTokensCard : Claim7 := { stood := { row := scanTokensRow, standIns := [], harness := (true, "63c56d04ad9c4ce6ec2409ec528860a576edaf8dfb15619a248b40dbb3019db1"), looks := true }, kinds := [], alts := [], laidByText := true, laidKinds := [.data, .pinned], laidTests := true, laidLooks := .later }
def ScanTokensCardSaid : Prop := Claim7.holds Tryd.pinned (.plain (OpenSpec.ofChange scanTokensSpec)) scanTokensCard

/-- THE TIED CARD OF 'recastlaw3.ScanNames'. -/
def scanNamesCard : Claim7 := { stood := { row := scanNamesRow, standIns := [], harness := (true, "63c56d04ad9c4ce6ec2409ec528860a576edaf8dfb15619a248b40dbb3019db1"), looks := true }, kinds := [], alts := [], laidByText := true, laidKinds := [.data, .pinned], laidTests := true, laidLooks := .later }
def ScanNamesCardSaid : Prop := Claim7.holds Tryd.pinned (.plain (OpenSpec.ofChange scanNamesSpec)) scanNamesCard

/-- THE TIED CARD OF 'recastlaw3.ScanLimits'. -/
def scanLimitsCard : Claim7 := { stood := { row := scanLimitsRow, standIns := [], harness := (true, "63c56d04ad9c4ce6ec2409ec528860a576edaf8dfb15619a248b40dbb3019db1"), looks := true }, kinds := [], alts := [], laidByText := true, laidKinds := [.data, .pinned], laidTests := true, laidLooks := .later }
def ScanLimitsCardSaid : Prop := Claim7.holds Tryd.pinned (.plain (OpenSpec.ofChange scanLimitsSpec)) scanLimitsCard

/-- THE TIED CARD OF 'recastlaw3.ScanSemis'. -/
def scanSemisCard : Claim7 := { stood := { row := scanSemisRow, standIns := [], harness := (true, "63c56d04ad9c4ce6ec2409ec528860a576edaf8dfb15619a248b40dbb3019db1"), looks := true }, kinds := [], alts := [], laidByText := true, laidKinds := [.data, .pinned], laidTests := true, laidLooks := .later }
def ScanSemisCardSaid : Prop := Claim7.holds Tryd.pinned (.plain (OpenSpec.ofChange scanSemisSpec)) scanSemisCard

/-- THE TIED CARD OF 'recastlaw3.ScanJoins'. -/
def scanJoinsCard : Claim7 := { stood := { row := scanJoinsRow, standIns := [], harness := (true, "63c56d04ad9c4ce6ec2409ec528860a576edaf8dfb15619a248b40dbb3019db1"), looks := true }, kinds := [], alts := [], laidByText := true, laidKinds := [.data, .pinned], laidTests := true, laidLooks := .later }
def ScanJoinsCardSaid : Prop := Claim7.holds Tryd.pinned (.plain (OpenSpec.ofChange scanJoinsSpec)) scanJoinsCard

/-- THE TIED CARD OF 'recastlaw3.ScanRemarks'. -/
def scanRemarksCard : Claim7 := { stood := { row := scanRemarksRow, standIns := [], harness := (true, "63c56d04ad9c4ce6ec2409ec528860a576edaf8dfb15619a248b40dbb3019db1"), looks := true }, kinds := [], alts := [], laidByText := true, laidKinds := [.data, .pinned], laidTests := true, laidLooks := .later }
def ScanRemarksCardSaid : Prop := Claim7.holds Tryd.pinned (.plain (OpenSpec.ofChange scanRemarksSpec)) scanRemarksCard

/-- THE TIED CARD OF 'recastlaw3.ScanCovers'. -/
def scanCoversCard : Claim7 := { stood := { row := scanCoversRow, standIns := [], harness := (true, "63c56d04ad9c4ce6ec2409ec528860a576edaf8dfb15619a248b40dbb3019db1"), looks := true }, kinds := [], alts := [], laidByText := true, laidKinds := [.data, .pinned], laidTests := true, laidLooks := .later }
def ScanCoversCardSaid : Prop := Claim7.holds Tryd.pinned (.plain (OpenSpec.ofChange scanCoversSpec)) scanCoversCard

/-- THE TIED CARD OF 'recastlaw3.ScanBlanks'. -/
def scanBlanksCard : Claim7 := { stood := { row := scanBlanksRow, standIns := [], harness := (true, "63c56d04ad9c4ce6ec2409ec528860a576edaf8dfb15619a248b40dbb3019db1"), looks := true }, kinds := [], alts := [], laidByText := true, laidKinds := [.data, .pinned], laidTests := true, laidLooks := .later }
def ScanBlanksCardSaid : Prop := Claim7.holds Tryd.pinned (.plain (OpenSpec.ofChange scanBlanksSpec)) scanBlanksCard

/-- THE TIED CARD OF 'recastlaw3.ScanQuotes'. -/
def scanQuotesCard : Claim7 := { stood := { row := scanQuotesRow, standIns := [], harness := (true, "63c56d04ad9c4ce6ec2409ec528860a576edaf8dfb15619a248b40dbb3019db1"), looks := true }, kinds := [], alts := [], laidByText := true, laidKinds := [.data, .pinned], laidTests := true, laidLooks := .later }
def ScanQuotesCardSaid : Prop := Claim7.holds Tryd.pinned (.plain (OpenSpec.ofChange scanQuotesSpec)) scanQuotesCard

/-- THE SECOND FORM's CARD OF 'recastlaw3.ScanTokens'. -/
def scanTokensUptoCard : Claim7 := { stood := { row := scanTokensUptoRow, standIns := [], harness := (true, "63c56d04ad9c4ce6ec2409ec528860a576edaf8dfb15619a248b40dbb3019db1"), looks := true }, kinds := [], alts := [], laidByText := true, laidKinds := [.data, .pinned], laidTests := true, laidLooks := .later }
def ScanTokensUptoCardSaid : Prop := Claim7.holds Tryd.pinned (.plain (OpenSpec.upto scanTokensSpec)) scanTokensUptoCard

/-- THE SECOND FORM's CARD OF 'recastlaw3.ScanNames'. -/
def scanNamesUptoCard : Claim7 := { stood := { row := scanNamesUptoRow, standIns := [], harness := (true, "63c56d04ad9c4ce6ec2409ec528860a576edaf8dfb15619a248b40dbb3019db1"), looks := true }, kinds := [], alts := [], laidByText := true, laidKinds := [.data, .pinned], laidTests := true, laidLooks := .later }
def ScanNamesUptoCardSaid : Prop := Claim7.holds Tryd.pinned (.plain (OpenSpec.upto scanNamesSpec)) scanNamesUptoCard

/-- THE SECOND FORM's CARD OF 'recastlaw3.ScanLimits'. -/
def scanLimitsUptoCard : Claim7 := { stood := { row := scanLimitsUptoRow, standIns := [], harness := (true, "63c56d04ad9c4ce6ec2409ec528860a576edaf8dfb15619a248b40dbb3019db1"), looks := true }, kinds := [], alts := [], laidByText := true, laidKinds := [.data, .pinned], laidTests := true, laidLooks := .later }
def ScanLimitsUptoCardSaid : Prop := Claim7.holds Tryd.pinned (.plain (OpenSpec.upto scanLimitsSpec)) scanLimitsUptoCard

/-- THE SECOND FORM's CARD OF 'recastlaw3.ScanSemis'. -/
def scanSemisUptoCard : Claim7 := { stood := { row := scanSemisUptoRow, standIns := [], harness := (true, "63c56d04ad9c4ce6ec2409ec528860a576edaf8dfb15619a248b40dbb3019db1"), looks := true }, kinds := [], alts := [], laidByText := true, laidKinds := [.data, .pinned], laidTests := true, laidLooks := .later }
def ScanSemisUptoCardSaid : Prop := Claim7.holds Tryd.pinned (.plain (OpenSpec.upto scanSemisSpec)) scanSemisUptoCard

/-- THE SECOND FORM's CARD OF 'recastlaw3.ScanJoins'. -/
def scanJoinsUptoCard : Claim7 := { stood := { row := scanJoinsUptoRow, standIns := [], harness := (true, "63c56d04ad9c4ce6ec2409ec528860a576edaf8dfb15619a248b40dbb3019db1"), looks := true }, kinds := [], alts := [], laidByText := true, laidKinds := [.data, .pinned], laidTests := true, laidLooks := .later }
def ScanJoinsUptoCardSaid : Prop := Claim7.holds Tryd.pinned (.plain (OpenSpec.upto scanJoinsSpec)) scanJoinsUptoCard

/-- THE SECOND FORM's CARD OF 'recastlaw3.ScanRemarks'. -/
def scanRemarksUptoCard : Claim7 := { stood := { row := scanRemarksUptoRow, standIns := [], harness := (true, "63c56d04ad9c4ce6ec2409ec528860a576edaf8dfb15619a248b40dbb3019db1"), looks := true }, kinds := [], alts := [], laidByText := true, laidKinds := [.data, .pinned], laidTests := true, laidLooks := .later }
def ScanRemarksUptoCardSaid : Prop := Claim7.holds Tryd.pinned (.plain (OpenSpec.upto scanRemarksSpec)) scanRemarksUptoCard

/-- THE SECOND FORM's CARD OF 'recastlaw3.ScanCovers'. -/
def scanCoversUptoCard : Claim7 := { stood := { row := scanCoversUptoRow, standIns := [], harness := (true, "63c56d04ad9c4ce6ec2409ec528860a576edaf8dfb15619a248b40dbb3019db1"), looks := true }, kinds := [], alts := [], laidByText := true, laidKinds := [.data, .pinned], laidTests := true, laidLooks := .later }
def ScanCoversUptoCardSaid : Prop := Claim7.holds Tryd.pinned (.plain (OpenSpec.upto scanCoversSpec)) scanCoversUptoCard

/-- THE SECOND FORM's CARD OF 'recastlaw3.ScanBlanks'. -/
def scanBlanksUptoCard : Claim7 := { stood := { row := scanBlanksUptoRow, standIns := [], harness := (true, "63c56d04ad9c4ce6ec2409ec528860a576edaf8dfb15619a248b40dbb3019db1"), looks := true }, kinds := [], alts := [], laidByText := true, laidKinds := [.data, .pinned], laidTests := true, laidLooks := .later }
def ScanBlanksUptoCardSaid : Prop := Claim7.holds Tryd.pinned (.plain (OpenSpec.upto scanBlanksSpec)) scanBlanksUptoCard

/-- THE SECOND FORM's CARD OF 'recastlaw3.ScanQuotes'. -/
def scanQuotesUptoCard : Claim7 := { stood := { row := scanQuotesUptoRow, standIns := [], harness := (true, "63c56d04ad9c4ce6ec2409ec528860a576edaf8dfb15619a248b40dbb3019db1"), looks := true }, kinds := [], alts := [], laidByText := true, laidKinds := [.data, .pinned], laidTests := true, laidLooks := .later }
def ScanQuotesUptoCardSaid : Prop := Claim7.holds Tryd.pinned (.plain (OpenSpec.upto scanQuotesSpec)) scanQuotesUptoCard
end Rows
end Go.Proofs.YtdgjegkoncodaaaDoor
