/-
  DERIVED. GIVEN WITH THE SEED: THE CARDS: each row of YtcnakbhogmnddaaDoorRows.lean that lists a variable, with what it lists TIED to the program's text (the seventh form; the later family's looks); each row that meets fmt, with fmt's text TOLD by the authors' own Lean function (tested against real Go, not proved from fmt's source: count such statements apart). THE CARD IS WHAT COUNTS. Prove the row's statement (the work); the ties are given (YtcnakbhogmnddaaDoorTie.lean); close each card by the builder's one call (the guide's Derived/Test/ToyasCard.lean, 'card_holds'). Laid BY PROGRAM, IN A SANDBOX (cutbox-door.mjs). By AI agents, Wed Nov 11 2026. No macro, syntax, notation, axiom, sorry.
-/
import Derived.Test.YtcnakbhogmnddaaDoorRows
import GoSem.ClaimSeven
namespace Go.Proofs.YtcnakbhogmnddaaDoor
namespace Rows

/-- THE TIED CARD OF 'recastlaw10.KonstArith'. -/
def konstArithCard : Claim7 := { stood := { row := konstArithRow, standIns := [], harness := (true, "55039db21ebcdd520e2cab38bcfce1349a5503dbd1f8e9e470fd6eec21a8954e"), looks := false }, kinds := [], alts := [], laidByText := true, laidKinds := [.data, .pinned], laidTests := true, laidLooks := .later }
def KonstArithCardSaid : Prop := Claim7.holds Tryd.pinned (.plain (OpenSpec.ofChange konstArithSpec)) konstArithCard

/-- THE TIED CARD OF 'recastlaw10.KonstUnary'. -/
def konstUnaryCard : Claim7 := { stood := { row := konstUnaryRow, standIns := [], harness := (true, "55039db21ebcdd520e2cab38bcfce1349a5503dbd1f8e9e470fd6eec21a8954e"), looks := false }, kinds := [], alts := [], laidByText := true, laidKinds := [.data, .pinned], laidTests := true, laidLooks := .later }
def KonstUnaryCardSaid : Prop := Claim7.holds Tryd.pinned (.plain (OpenSpec.ofChange konstUnarySpec)) konstUnaryCard

/-- THE TIED CARD OF 'recastlaw2.ExactDivides'. -/
def exactDividesCard : Claim7 := { stood := { row := exactDividesRow, standIns := [], harness := (true, "55039db21ebcdd520e2cab38bcfce1349a5503dbd1f8e9e470fd6eec21a8954e"), looks := false }, kinds := [], alts := [], laidByText := true, laidKinds := [.data, .pinned], laidTests := true, laidLooks := .later }
def ExactDividesCardSaid : Prop := Claim7.holds Tryd.pinned (.plain (OpenSpec.ofChange exactDividesSpec)) exactDividesCard

/-- THE TIED CARD OF 'recastlaw2.ExactSmall'. -/
def exactSmallCard : Claim7 := { stood := { row := exactSmallRow, standIns := [], harness := (true, "55039db21ebcdd520e2cab38bcfce1349a5503dbd1f8e9e470fd6eec21a8954e"), looks := false }, kinds := [], alts := [], laidByText := true, laidKinds := [.data, .pinned], laidTests := true, laidLooks := .later }
def ExactSmallCardSaid : Prop := Claim7.holds Tryd.pinned (.plain (OpenSpec.ofChange exactSmallSpec)) exactSmallCard

/-- THE TIED CARD OF 'recastlaw2.ExactProducts'. -/
def exactProductsCard : Claim7 := { stood := { row := exactProductsRow, standIns := [], harness := (true, "55039db21ebcdd520e2cab38bcfce1349a5503dbd1f8e9e470fd6eec21a8954e"), looks := false }, kinds := [], alts := [], laidByText := true, laidKinds := [.data, .pinned], laidTests := true, laidLooks := .later }
def ExactProductsCardSaid : Prop := Claim7.holds Tryd.pinned (.plain (OpenSpec.ofChange exactProductsSpec)) exactProductsCard

/-- THE TIED CARD OF 'recastlaw2.ExactReads'. -/
def exactReadsCard : Claim7 := { stood := { row := exactReadsRow, standIns := [], harness := (true, "55039db21ebcdd520e2cab38bcfce1349a5503dbd1f8e9e470fd6eec21a8954e"), looks := false }, kinds := [], alts := [], laidByText := true, laidKinds := [.data, .pinned], laidTests := true, laidLooks := .later }
def ExactReadsCardSaid : Prop := Claim7.holds Tryd.pinned (.plain (OpenSpec.ofChange exactReadsSpec)) exactReadsCard

/-- THE TIED CARD OF 'recastlaw2.ExactOrder'. -/
def exactOrderCard : Claim7 := { stood := { row := exactOrderRow, standIns := [], harness := (true, "55039db21ebcdd520e2cab38bcfce1349a5503dbd1f8e9e470fd6eec21a8954e"), looks := false }, kinds := [], alts := [], laidByText := true, laidKinds := [.data, .pinned], laidTests := true, laidLooks := .later }
def ExactOrderCardSaid : Prop := Claim7.holds Tryd.pinned (.plain (OpenSpec.ofChange exactOrderSpec)) exactOrderCard

/-- THE TIED CARD OF 'recastlaw2.ExactSums'. -/
def exactSumsCard : Claim7 := { stood := { row := exactSumsRow, standIns := [], harness := (true, "55039db21ebcdd520e2cab38bcfce1349a5503dbd1f8e9e470fd6eec21a8954e"), looks := false }, kinds := [], alts := [], laidByText := true, laidKinds := [.data, .pinned], laidTests := true, laidLooks := .later }
def ExactSumsCardSaid : Prop := Claim7.holds Tryd.pinned (.plain (OpenSpec.ofChange exactSumsSpec)) exactSumsCard

/-- THE TIED CARD OF 'recastlaw2.ExactSpread'. -/
def exactSpreadCard : Claim7 := { stood := { row := exactSpreadRow, standIns := [], harness := (true, "55039db21ebcdd520e2cab38bcfce1349a5503dbd1f8e9e470fd6eec21a8954e"), looks := false }, kinds := [], alts := [], laidByText := true, laidKinds := [.data, .pinned], laidTests := true, laidLooks := .later }
def ExactSpreadCardSaid : Prop := Claim7.holds Tryd.pinned (.plain (OpenSpec.ofChange exactSpreadSpec)) exactSpreadCard

/-- THE TIED CARD OF 'recastlaw2.ExactBack'. -/
def exactBackCard : Claim7 := { stood := { row := exactBackRow, standIns := [], harness := (true, "55039db21ebcdd520e2cab38bcfce1349a5503dbd1f8e9e470fd6eec21a8954e"), looks := false }, kinds := [], alts := [], laidByText := true, laidKinds := [.data, .pinned], laidTests := true, laidLooks := .later }
def ExactBackCardSaid : Prop := Claim7.holds Tryd.pinned (.plain (OpenSpec.ofChange exactBackSpec)) exactBackCard

/-- THE TIED CARD OF 'recastlaw2.ExactLaws'. -/
def exactLawsCard : Claim7 := { stood := { row := exactLawsRow, standIns := [], harness := (true, "55039db21ebcdd520e2cab38bcfce1349a5503dbd1f8e9e470fd6eec21a8954e"), looks := false }, kinds := [], alts := [], laidByText := true, laidKinds := [.data, .pinned], laidTests := true, laidLooks := .later }
def ExactLawsCardSaid : Prop := Claim7.holds Tryd.pinned (.plain (OpenSpec.ofChange exactLawsSpec)) exactLawsCard

/-- THE TIED CARD OF 'recastlaw10.KonstLong'. -/
def konstLongCard : Claim7 := { stood := { row := konstLongRow, standIns := [], harness := (true, "55039db21ebcdd520e2cab38bcfce1349a5503dbd1f8e9e470fd6eec21a8954e"), looks := false }, kinds := [], alts := [], laidByText := true, laidKinds := [.data, .pinned], laidTests := true, laidLooks := .later }
def KonstLongCardSaid : Prop := Claim7.holds Tryd.pinned (.plain (OpenSpec.ofChange konstLongSpec)) konstLongCard

/-- THE TIED CARD OF 'recastlaw10.KonstLaws'. -/
def konstLawsCard : Claim7 := { stood := { row := konstLawsRow, standIns := [], harness := (true, "55039db21ebcdd520e2cab38bcfce1349a5503dbd1f8e9e470fd6eec21a8954e"), looks := false }, kinds := [], alts := [], laidByText := true, laidKinds := [.data, .pinned], laidTests := true, laidLooks := .later }
def KonstLawsCardSaid : Prop := Claim7.holds Tryd.pinned (.plain (OpenSpec.ofChange konstLawsSpec)) konstLawsCard

/-- THE SECOND FORM's CARD OF 'recastlaw10.KonstArith'. -/
def konstArithUptoCard : Claim7 := { stood := { row := konstArithUptoRow, standIns := [], harness := (true, "55039db21ebcdd520e2cab38bcfce1349a5503dbd1f8e9e470fd6eec21a8954e"), looks := false }, kinds := [], alts := [], laidByText := true, laidKinds := [.data, .pinned], laidTests := true, laidLooks := .later }
def KonstArithUptoCardSaid : Prop := Claim7.holds Tryd.pinned (.plain (OpenSpec.upto konstArithSpec)) konstArithUptoCard

/-- THE SECOND FORM's CARD OF 'recastlaw10.KonstUnary'. -/
def konstUnaryUptoCard : Claim7 := { stood := { row := konstUnaryUptoRow, standIns := [], harness := (true, "55039db21ebcdd520e2cab38bcfce1349a5503dbd1f8e9e470fd6eec21a8954e"), looks := false }, kinds := [], alts := [], laidByText := true, laidKinds := [.data, .pinned], laidTests := true, laidLooks := .later }
def KonstUnaryUptoCardSaid : Prop := Claim7.holds Tryd.pinned (.plain (OpenSpec.upto konstUnarySpec)) konstUnaryUptoCard

/-- THE SECOND FORM's CARD OF 'recastlaw2.ExactDivides'. -/
def exactDividesUptoCard : Claim7 := { stood := { row := exactDividesUptoRow, standIns := [], harness := (true, "55039db21ebcdd520e2cab38bcfce1349a5503dbd1f8e9e470fd6eec21a8954e"), looks := false }, kinds := [], alts := [], laidByText := true, laidKinds := [.data, .pinned], laidTests := true, laidLooks := .later }
def ExactDividesUptoCardSaid : Prop := Claim7.holds Tryd.pinned (.plain (OpenSpec.upto exactDividesSpec)) exactDividesUptoCard

/-- THE SECOND FORM's CARD OF 'recastlaw2.ExactSmall'. -/
def exactSmallUptoCard : Claim7 := { stood := { row := exactSmallUptoRow, standIns := [], harness := (true, "55039db21ebcdd520e2cab38bcfce1349a5503dbd1f8e9e470fd6eec21a8954e"), looks := false }, kinds := [], alts := [], laidByText := true, laidKinds := [.data, .pinned], laidTests := true, laidLooks := .later }
def ExactSmallUptoCardSaid : Prop := Claim7.holds Tryd.pinned (.plain (OpenSpec.upto exactSmallSpec)) exactSmallUptoCard

/-- THE SECOND FORM's CARD OF 'recastlaw2.ExactProducts'. -/
def exactProductsUptoCard : Claim7 := { stood := { row := exactProductsUptoRow, standIns := [], harness := (true, "55039db21ebcdd520e2cab38bcfce1349a5503dbd1f8e9e470fd6eec21a8954e"), looks := false }, kinds := [], alts := [], laidByText := true, laidKinds := [.data, .pinned], laidTests := true, laidLooks := .later }
def ExactProductsUptoCardSaid : Prop := Claim7.holds Tryd.pinned (.plain (OpenSpec.upto exactProductsSpec)) exactProductsUptoCard

/-- THE SECOND FORM's CARD OF 'recastlaw2.ExactReads'. -/
def exactReadsUptoCard : Claim7 := { stood := { row := exactReadsUptoRow, standIns := [], harness := (true, "55039db21ebcdd520e2cab38bcfce1349a5503dbd1f8e9e470fd6eec21a8954e"), looks := false }, kinds := [], alts := [], laidByText := true, laidKinds := [.data, .pinned], laidTests := true, laidLooks := .later }
def ExactReadsUptoCardSaid : Prop := Claim7.holds Tryd.pinned (.plain (OpenSpec.upto exactReadsSpec)) exactReadsUptoCard

/-- THE SECOND FORM's CARD OF 'recastlaw2.ExactOrder'. -/
def exactOrderUptoCard : Claim7 := { stood := { row := exactOrderUptoRow, standIns := [], harness := (true, "55039db21ebcdd520e2cab38bcfce1349a5503dbd1f8e9e470fd6eec21a8954e"), looks := false }, kinds := [], alts := [], laidByText := true, laidKinds := [.data, .pinned], laidTests := true, laidLooks := .later }
def ExactOrderUptoCardSaid : Prop := Claim7.holds Tryd.pinned (.plain (OpenSpec.upto exactOrderSpec)) exactOrderUptoCard

/-- THE SECOND FORM's CARD OF 'recastlaw2.ExactSums'. -/
def exactSumsUptoCard : Claim7 := { stood := { row := exactSumsUptoRow, standIns := [], harness := (true, "55039db21ebcdd520e2cab38bcfce1349a5503dbd1f8e9e470fd6eec21a8954e"), looks := false }, kinds := [], alts := [], laidByText := true, laidKinds := [.data, .pinned], laidTests := true, laidLooks := .later }
def ExactSumsUptoCardSaid : Prop := Claim7.holds Tryd.pinned (.plain (OpenSpec.upto exactSumsSpec)) exactSumsUptoCard

/-- THE SECOND FORM's CARD OF 'recastlaw2.ExactSpread'. -/
def exactSpreadUptoCard : Claim7 := { stood := { row := exactSpreadUptoRow, standIns := [], harness := (true, "55039db21ebcdd520e2cab38bcfce1349a5503dbd1f8e9e470fd6eec21a8954e"), looks := false }, kinds := [], alts := [], laidByText := true, laidKinds := [.data, .pinned], laidTests := true, laidLooks := .later }
def ExactSpreadUptoCardSaid : Prop := Claim7.holds Tryd.pinned (.plain (OpenSpec.upto exactSpreadSpec)) exactSpreadUptoCard

/-- THE SECOND FORM's CARD OF 'recastlaw2.ExactBack'. -/
def exactBackUptoCard : Claim7 := { stood := { row := exactBackUptoRow, standIns := [], harness := (true, "55039db21ebcdd520e2cab38bcfce1349a5503dbd1f8e9e470fd6eec21a8954e"), looks := false }, kinds := [], alts := [], laidByText := true, laidKinds := [.data, .pinned], laidTests := true, laidLooks := .later }
def ExactBackUptoCardSaid : Prop := Claim7.holds Tryd.pinned (.plain (OpenSpec.upto exactBackSpec)) exactBackUptoCard

/-- THE SECOND FORM's CARD OF 'recastlaw2.ExactLaws'. -/
def exactLawsUptoCard : Claim7 := { stood := { row := exactLawsUptoRow, standIns := [], harness := (true, "55039db21ebcdd520e2cab38bcfce1349a5503dbd1f8e9e470fd6eec21a8954e"), looks := false }, kinds := [], alts := [], laidByText := true, laidKinds := [.data, .pinned], laidTests := true, laidLooks := .later }
def ExactLawsUptoCardSaid : Prop := Claim7.holds Tryd.pinned (.plain (OpenSpec.upto exactLawsSpec)) exactLawsUptoCard

/-- THE SECOND FORM's CARD OF 'recastlaw10.KonstLong'. -/
def konstLongUptoCard : Claim7 := { stood := { row := konstLongUptoRow, standIns := [], harness := (true, "55039db21ebcdd520e2cab38bcfce1349a5503dbd1f8e9e470fd6eec21a8954e"), looks := false }, kinds := [], alts := [], laidByText := true, laidKinds := [.data, .pinned], laidTests := true, laidLooks := .later }
def KonstLongUptoCardSaid : Prop := Claim7.holds Tryd.pinned (.plain (OpenSpec.upto konstLongSpec)) konstLongUptoCard

/-- THE SECOND FORM's CARD OF 'recastlaw10.KonstLaws'. -/
def konstLawsUptoCard : Claim7 := { stood := { row := konstLawsUptoRow, standIns := [], harness := (true, "55039db21ebcdd520e2cab38bcfce1349a5503dbd1f8e9e470fd6eec21a8954e"), looks := false }, kinds := [], alts := [], laidByText := true, laidKinds := [.data, .pinned], laidTests := true, laidLooks := .later }
def KonstLawsUptoCardSaid : Prop := Claim7.holds Tryd.pinned (.plain (OpenSpec.upto konstLawsSpec)) konstLawsUptoCard
end Rows
end Go.Proofs.YtcnakbhogmnddaaDoor
