/-
  DERIVED. GIVEN WITH THE SEED: THE CARDS: each row of YtahgbbnpbhfaeaaDoorRows.lean that lists a variable, with what it lists TIED to the program's text (the seventh form; the later family's looks); each row that meets fmt, with fmt's text TOLD by the authors' own Lean function (tested against real Go, not proved from fmt's source: count such statements apart). THE CARD IS WHAT COUNTS. Prove the row's statement (the work); the ties are given (YtahgbbnpbhfaeaaDoorTie.lean); close each card by the builder's one call (the guide's Derived/Test/ToyasCard.lean, 'card_holds'). Laid BY PROGRAM, IN A SANDBOX (cutbox-door.mjs). By AI agents, Wed Nov 11 2026. No macro, syntax, notation, axiom, sorry.
-/
import Derived.Test.YtahgbbnpbhfaeaaDoorRows
import GoSem.ClaimSeven
namespace Go.Proofs.YtahgbbnpbhfaeaaDoor
namespace Rows

/-- THE TIED CARD OF 'recastlaw10.KonstUnary'. -/
def konstUnaryCard : Claim7 := { stood := { row := konstUnaryRow, standIns := [], harness := (true, "cbb271f2cf434eb590e01af76b4930eb0631f74e32220e27c903d5845466d8cf"), looks := false }, kinds := [], alts := [], laidByText := true, laidKinds := [.data, .pinned], laidTests := true, laidLooks := .later }
def KonstUnaryCardSaid : Prop := Claim7.holds Tryd.pinned (.plain (OpenSpec.ofChange konstUnarySpec)) konstUnaryCard

/-- THE TIED CARD OF 'recastlaw10.KonstLong'. -/
def konstLongCard : Claim7 := { stood := { row := konstLongRow, standIns := [], harness := (true, "cbb271f2cf434eb590e01af76b4930eb0631f74e32220e27c903d5845466d8cf"), looks := false }, kinds := [], alts := [], laidByText := true, laidKinds := [.data, .pinned], laidTests := true, laidLooks := .later }
def KonstLongCardSaid : Prop := Claim7.holds Tryd.pinned (.plain (OpenSpec.ofChange konstLongSpec)) konstLongCard

/-- THE SECOND FORM's CARD OF 'recastlaw10.KonstUnary'. -/
def konstUnaryUptoCard : Claim7 := { stood := { row := konstUnaryUptoRow, standIns := [], harness := (true, "cbb271f2cf434eb590e01af76b4930eb0631f74e32220e27c903d5845466d8cf"), looks := false }, kinds := [], alts := [], laidByText := true, laidKinds := [.data, .pinned], laidTests := true, laidLooks := .later }
def KonstUnaryUptoCardSaid : Prop := Claim7.holds Tryd.pinned (.plain (OpenSpec.upto konstUnarySpec)) konstUnaryUptoCard

/-- THE SECOND FORM's CARD OF 'recastlaw10.KonstLong'. -/
def konstLongUptoCard : Claim7 := { stood := { row := konstLongUptoRow, standIns := [], harness := (true, "cbb271f2cf434eb590e01af76b4930eb0631f74e32220e27c903d5845466d8cf"), looks := false }, kinds := [], alts := [], laidByText := true, laidKinds := [.data, .pinned], laidTests := true, laidLooks := .later }
def KonstLongUptoCardSaid : Prop := Claim7.holds Tryd.pinned (.plain (OpenSpec.upto konstLongSpec)) konstLongUptoCard
end Rows
end Go.Proofs.YtahgbbnpbhfaeaaDoor
