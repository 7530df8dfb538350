/-
  NARROWER THAN 'FOR EVERY INPUT', by the rows' own cells (each row's printed sentence says how): KonstArith: laid · KonstUnary: laid · ExactDivides: laid · ExactSmall: laid · ExactProducts: laid · ExactReads: laid · ExactOrder: laid · ExactSums: laid · ExactSpread: laid · ExactBack: laid · ExactLaws: laid · KonstLong: laid · KonstLaws: laid.
  DERIVED. THE GIVEN ROWS OF THIS SEAT. 13 by the template 'for every input the law returns true; each argument reads behind the call as it read before'; 0 by the template 'total and deterministic' (their statements: YtcnakbhogmnddaaDoorTotals.lean).
  GIVEN WITH THE SEED: the statements are not yours to turn. If you find one false, say at which input.
  Laid BY PROGRAM, IN A SANDBOX (cutbox-rows.mjs): the forced cells as the released guide's own fill.sh prints them over the translation 4d5522d5f2dab9fa… (all of the seat's roots in one cut). By AI agents, Wed Nov 11 2026. No macro, syntax, notation, axiom, sorry.
-/
import Derived.Test.YtcnakbhogmnddaaDoorChecked
import GoSem.PinnedTables
import GoSem.Claim
import GoSem.ClaimJoined
import GoSem.ClaimMapViews
import Derived.JoinedTies
import Derived.KernelRfl
namespace Go.Proofs.YtcnakbhogmnddaaDoor
/- THE CELL 'sum', in the pinned program and in every row, IS THE sha256 OF THE DUMP (.gsa) THAT YtcnakbhogmnddaaDoorProg.lean LOADS. Nothing in Lean hashes anything: it is a label: what it is worth is what the hold of that sum in a sandbox is worth. -/
noncomputable def Tryd.pinned : Pinned := { name := "ytcnakbhogmnddaadoor", sum := "4d5522d5f2dab9faf984d078d083a3679621c69aa24bc87bcdaac01be1446543", checked := Tryd.checked }
namespace Rows
def none {H : Type} : Left H := { results := [], args := [] }

/- WHAT THE LISTED PACKAGE-LEVEL VARIABLES READ AS WHEN THE CALL BEGINS. Each datum BY PROGRAM (the guide's laid-datum.mjs) off the statement by which the dump's own 'gosem.cut.vars' lays the variable. In a bare row this is a premise. The card (YtcnakbhogmnddaaDoorCards.lean) ties it to the program's text. -/
def laid_unicode_utf8_acceptRanges {H : Type} : DataW H := .agg [.agg [.lit (.int .u8 128), .lit (.int .u8 191)], .agg [.lit (.int .u8 160), .lit (.int .u8 191)], .agg [.lit (.int .u8 128), .lit (.int .u8 159)], .agg [.lit (.int .u8 144), .lit (.int .u8 191)], .agg [.lit (.int .u8 128), .lit (.int .u8 143)], .agg [.lit (.int .u8 0), .lit (.int .u8 0)], .agg [.lit (.int .u8 0), .lit (.int .u8 0)], .agg [.lit (.int .u8 0), .lit (.int .u8 0)], .agg [.lit (.int .u8 0), .lit (.int .u8 0)], .agg [.lit (.int .u8 0), .lit (.int .u8 0)], .agg [.lit (.int .u8 0), .lit (.int .u8 0)], .agg [.lit (.int .u8 0), .lit (.int .u8 0)], .agg [.lit (.int .u8 0), .lit (.int .u8 0)], .agg [.lit (.int .u8 0), .lit (.int .u8 0)], .agg [.lit (.int .u8 0), .lit (.int .u8 0)], .agg [.lit (.int .u8 0), .lit (.int .u8 0)]]
/-- One of Go's own tables, pinned by name: the form's constant. -/
def laid_unicode_utf8_first : DataW Unit := Go.Pinned.utf8First

/-- 'recastlaw10.KonstArith': WHATEVER THE INPUT: true; the input reads as it did. -/
def konstArithSpec : ChangeSpec := { name := "konstArith", fn := fun _ => fun
  | [d1, d2] => { results := [.lit (.bool true)], args := [d1, d2] }
  | _ => none }
def konstArithRow : OpenClaim := { program := "ytcnakbhogmnddaadoor", sum := "4d5522d5f2dab9faf984d078d083a3679621c69aa24bc87bcdaac01be1446543", func := "recast/recastlaw10.KonstArith", spec := "konstArith", inPlace := ["internal/bytealg.abigen_runtime_cmpstring", "internal/abi.NoEscape", "internal/bytealg.IndexByteString", "internal/bytealg.IndexString"], unfollowed := true, recurses := true, named := ["math/bits.overflowError", "unicode/utf8.first", "unicode/utf8.acceptRanges", "internal/bytealg.MaxLen"], apart := false, laid := [("unicode/utf8.acceptRanges", laid_unicode_utf8_acceptRanges), ("unicode/utf8.first", laid_unicode_utf8_first)] }
def KonstArithSaid : Prop := konstArithRow.holds Tryd.pinned (OpenSpec.ofChange konstArithSpec)

/-- ITS FALSE NEIGHBOUR: 'it returns false'. Refute it at one input. -/
def konstArithWrong : ChangeSpec := { name := "konstArith", fn := fun _ => fun
  | [d1, d2] => { results := [.lit (.bool false)], args := [d1, d2] }
  | _ => none }
def KonstArithWrongFalsely : Prop := konstArithRow.holds Tryd.pinned (OpenSpec.ofChange konstArithWrong)

/-- 'recastlaw10.KonstUnary': WHATEVER THE INPUT: true; the input reads as it did. -/
def konstUnarySpec : ChangeSpec := { name := "konstUnary", fn := fun _ => fun
  | [d1, d2, d3, d4, d5] => { results := [.lit (.bool true)], args := [d1, d2, d3, d4, d5] }
  | _ => none }
def konstUnaryRow : OpenClaim := { program := "ytcnakbhogmnddaadoor", sum := "4d5522d5f2dab9faf984d078d083a3679621c69aa24bc87bcdaac01be1446543", func := "recast/recastlaw10.KonstUnary", spec := "konstUnary", inPlace := ["internal/bytealg.abigen_runtime_cmpstring", "internal/abi.NoEscape", "internal/bytealg.IndexByteString", "internal/bytealg.IndexString"], unfollowed := true, recurses := true, named := ["math/bits.overflowError", "unicode/utf8.first", "unicode/utf8.acceptRanges", "internal/bytealg.MaxLen"], apart := false, laid := [("unicode/utf8.acceptRanges", laid_unicode_utf8_acceptRanges), ("unicode/utf8.first", laid_unicode_utf8_first)] }
def KonstUnarySaid : Prop := konstUnaryRow.holds Tryd.pinned (OpenSpec.ofChange konstUnarySpec)

/-- ITS FALSE NEIGHBOUR: 'it returns false'. Refute it at one input. -/
def konstUnaryWrong : ChangeSpec := { name := "konstUnary", fn := fun _ => fun
  | [d1, d2, d3, d4, d5] => { results := [.lit (.bool false)], args := [d1, d2, d3, d4, d5] }
  | _ => none }
def KonstUnaryWrongFalsely : Prop := konstUnaryRow.holds Tryd.pinned (OpenSpec.ofChange konstUnaryWrong)

/-- 'recastlaw2.ExactDivides': WHATEVER THE INPUT: true; the input reads as it did. -/
def exactDividesSpec : ChangeSpec := { name := "exactDivides", fn := fun _ => fun
  | [d1, d2] => { results := [.lit (.bool true)], args := [d1, d2] }
  | _ => none }
def exactDividesRow : OpenClaim := { program := "ytcnakbhogmnddaadoor", sum := "4d5522d5f2dab9faf984d078d083a3679621c69aa24bc87bcdaac01be1446543", func := "recast/recastlaw2.ExactDivides", spec := "exactDivides", inPlace := ["internal/abi.NoEscape", "internal/bytealg.IndexByteString", "internal/bytealg.IndexString"], unfollowed := true, recurses := true, named := ["math/bits.overflowError", "unicode/utf8.first", "unicode/utf8.acceptRanges", "internal/bytealg.MaxLen"], apart := false, laid := [("unicode/utf8.acceptRanges", laid_unicode_utf8_acceptRanges), ("unicode/utf8.first", laid_unicode_utf8_first)] }
def ExactDividesSaid : Prop := exactDividesRow.holds Tryd.pinned (OpenSpec.ofChange exactDividesSpec)

/-- ITS FALSE NEIGHBOUR: 'it returns false'. Refute it at one input. -/
def exactDividesWrong : ChangeSpec := { name := "exactDivides", fn := fun _ => fun
  | [d1, d2] => { results := [.lit (.bool false)], args := [d1, d2] }
  | _ => none }
def ExactDividesWrongFalsely : Prop := exactDividesRow.holds Tryd.pinned (OpenSpec.ofChange exactDividesWrong)

/-- 'recastlaw2.ExactSmall': WHATEVER THE INPUT: true; the input reads as it did. -/
def exactSmallSpec : ChangeSpec := { name := "exactSmall", fn := fun _ => fun
  | [d1, d2] => { results := [.lit (.bool true)], args := [d1, d2] }
  | _ => none }
def exactSmallRow : OpenClaim := { program := "ytcnakbhogmnddaadoor", sum := "4d5522d5f2dab9faf984d078d083a3679621c69aa24bc87bcdaac01be1446543", func := "recast/recastlaw2.ExactSmall", spec := "exactSmall", inPlace := ["internal/abi.NoEscape", "internal/bytealg.IndexByteString", "internal/bytealg.IndexString"], unfollowed := true, recurses := true, named := ["math/bits.overflowError", "unicode/utf8.first", "unicode/utf8.acceptRanges", "internal/bytealg.MaxLen"], apart := false, laid := [("unicode/utf8.acceptRanges", laid_unicode_utf8_acceptRanges), ("unicode/utf8.first", laid_unicode_utf8_first)] }
def ExactSmallSaid : Prop := exactSmallRow.holds Tryd.pinned (OpenSpec.ofChange exactSmallSpec)

/-- ITS FALSE NEIGHBOUR: 'it returns false'. Refute it at one input. -/
def exactSmallWrong : ChangeSpec := { name := "exactSmall", fn := fun _ => fun
  | [d1, d2] => { results := [.lit (.bool false)], args := [d1, d2] }
  | _ => none }
def ExactSmallWrongFalsely : Prop := exactSmallRow.holds Tryd.pinned (OpenSpec.ofChange exactSmallWrong)

/-- 'recastlaw2.ExactProducts': WHATEVER THE INPUT: true; the input reads as it did. -/
def exactProductsSpec : ChangeSpec := { name := "exactProducts", fn := fun _ => fun
  | [d1, d2] => { results := [.lit (.bool true)], args := [d1, d2] }
  | _ => none }
def exactProductsRow : OpenClaim := { program := "ytcnakbhogmnddaadoor", sum := "4d5522d5f2dab9faf984d078d083a3679621c69aa24bc87bcdaac01be1446543", func := "recast/recastlaw2.ExactProducts", spec := "exactProducts", inPlace := ["internal/abi.NoEscape", "internal/bytealg.IndexByteString", "internal/bytealg.IndexString"], unfollowed := true, recurses := true, named := ["math/bits.overflowError", "unicode/utf8.first", "unicode/utf8.acceptRanges", "internal/bytealg.MaxLen"], apart := false, laid := [("unicode/utf8.acceptRanges", laid_unicode_utf8_acceptRanges), ("unicode/utf8.first", laid_unicode_utf8_first)] }
def ExactProductsSaid : Prop := exactProductsRow.holds Tryd.pinned (OpenSpec.ofChange exactProductsSpec)

/-- ITS FALSE NEIGHBOUR: 'it returns false'. Refute it at one input. -/
def exactProductsWrong : ChangeSpec := { name := "exactProducts", fn := fun _ => fun
  | [d1, d2] => { results := [.lit (.bool false)], args := [d1, d2] }
  | _ => none }
def ExactProductsWrongFalsely : Prop := exactProductsRow.holds Tryd.pinned (OpenSpec.ofChange exactProductsWrong)

/-- 'recastlaw2.ExactReads': WHATEVER THE INPUT: true; the input reads as it did. -/
def exactReadsSpec : ChangeSpec := { name := "exactReads", fn := fun _ => fun
  | [d] => { results := [.lit (.bool true)], args := [d] }
  | _ => none }
def exactReadsRow : OpenClaim := { program := "ytcnakbhogmnddaadoor", sum := "4d5522d5f2dab9faf984d078d083a3679621c69aa24bc87bcdaac01be1446543", func := "recast/recastlaw2.ExactReads", spec := "exactReads", inPlace := ["internal/abi.NoEscape", "internal/bytealg.IndexByteString", "internal/bytealg.IndexString"], unfollowed := true, recurses := true, named := ["math/bits.overflowError", "unicode/utf8.first", "unicode/utf8.acceptRanges", "internal/bytealg.MaxLen"], apart := false, laid := [("unicode/utf8.acceptRanges", laid_unicode_utf8_acceptRanges), ("unicode/utf8.first", laid_unicode_utf8_first)] }
def ExactReadsSaid : Prop := exactReadsRow.holds Tryd.pinned (OpenSpec.ofChange exactReadsSpec)

/-- ITS FALSE NEIGHBOUR: 'it returns false'. Refute it at one input. -/
def exactReadsWrong : ChangeSpec := { name := "exactReads", fn := fun _ => fun
  | [d] => { results := [.lit (.bool false)], args := [d] }
  | _ => none }
def ExactReadsWrongFalsely : Prop := exactReadsRow.holds Tryd.pinned (OpenSpec.ofChange exactReadsWrong)

/-- 'recastlaw2.ExactOrder': WHATEVER THE INPUT: true; the input reads as it did. -/
def exactOrderSpec : ChangeSpec := { name := "exactOrder", fn := fun _ => fun
  | [d1, d2, d3] => { results := [.lit (.bool true)], args := [d1, d2, d3] }
  | _ => none }
def exactOrderRow : OpenClaim := { program := "ytcnakbhogmnddaadoor", sum := "4d5522d5f2dab9faf984d078d083a3679621c69aa24bc87bcdaac01be1446543", func := "recast/recastlaw2.ExactOrder", spec := "exactOrder", inPlace := ["internal/abi.NoEscape", "internal/bytealg.IndexByteString", "internal/bytealg.IndexString"], unfollowed := true, recurses := true, named := ["math/bits.overflowError", "unicode/utf8.first", "unicode/utf8.acceptRanges", "internal/bytealg.MaxLen"], apart := false, laid := [("unicode/utf8.acceptRanges", laid_unicode_utf8_acceptRanges), ("unicode/utf8.first", laid_unicode_utf8_first)] }
def ExactOrderSaid : Prop := exactOrderRow.holds Tryd.pinned (OpenSpec.ofChange exactOrderSpec)

/-- ITS FALSE NEIGHBOUR: 'it returns false'. Refute it at one input. -/
def exactOrderWrong : ChangeSpec := { name := "exactOrder", fn := fun _ => fun
  | [d1, d2, d3] => { results := [.lit (.bool false)], args := [d1, d2, d3] }
  | _ => none }
def ExactOrderWrongFalsely : Prop := exactOrderRow.holds Tryd.pinned (OpenSpec.ofChange exactOrderWrong)

/-- 'recastlaw2.ExactSums': WHATEVER THE INPUT: true; the input reads as it did. -/
def exactSumsSpec : ChangeSpec := { name := "exactSums", fn := fun _ => fun
  | [d1, d2] => { results := [.lit (.bool true)], args := [d1, d2] }
  | _ => none }
def exactSumsRow : OpenClaim := { program := "ytcnakbhogmnddaadoor", sum := "4d5522d5f2dab9faf984d078d083a3679621c69aa24bc87bcdaac01be1446543", func := "recast/recastlaw2.ExactSums", spec := "exactSums", inPlace := ["internal/abi.NoEscape", "internal/bytealg.IndexByteString", "internal/bytealg.IndexString"], unfollowed := true, recurses := true, named := ["math/bits.overflowError", "unicode/utf8.first", "unicode/utf8.acceptRanges", "internal/bytealg.MaxLen"], apart := false, laid := [("unicode/utf8.acceptRanges", laid_unicode_utf8_acceptRanges), ("unicode/utf8.first", laid_unicode_utf8_first)] }
def ExactSumsSaid : Prop := exactSumsRow.holds Tryd.pinned (OpenSpec.ofChange exactSumsSpec)

/-- ITS FALSE NEIGHBOUR: 'it returns false'. Refute it at one input. -/
def exactSumsWrong : ChangeSpec := { name := "exactSums", fn := fun _ => fun
  | [d1, d2] => { results := [.lit (.bool false)], args := [d1, d2] }
  | _ => none }
def ExactSumsWrongFalsely : Prop := exactSumsRow.holds Tryd.pinned (OpenSpec.ofChange exactSumsWrong)

/-- 'recastlaw2.ExactSpread': WHATEVER THE INPUT: true; the input reads as it did. -/
def exactSpreadSpec : ChangeSpec := { name := "exactSpread", fn := fun _ => fun
  | [d1, d2, d3] => { results := [.lit (.bool true)], args := [d1, d2, d3] }
  | _ => none }
def exactSpreadRow : OpenClaim := { program := "ytcnakbhogmnddaadoor", sum := "4d5522d5f2dab9faf984d078d083a3679621c69aa24bc87bcdaac01be1446543", func := "recast/recastlaw2.ExactSpread", spec := "exactSpread", inPlace := ["internal/abi.NoEscape", "internal/bytealg.IndexByteString", "internal/bytealg.IndexString"], unfollowed := true, recurses := true, named := ["math/bits.overflowError", "unicode/utf8.first", "unicode/utf8.acceptRanges", "internal/bytealg.MaxLen"], apart := false, laid := [("unicode/utf8.acceptRanges", laid_unicode_utf8_acceptRanges), ("unicode/utf8.first", laid_unicode_utf8_first)] }
def ExactSpreadSaid : Prop := exactSpreadRow.holds Tryd.pinned (OpenSpec.ofChange exactSpreadSpec)

/-- ITS FALSE NEIGHBOUR: 'it returns false'. Refute it at one input. -/
def exactSpreadWrong : ChangeSpec := { name := "exactSpread", fn := fun _ => fun
  | [d1, d2, d3] => { results := [.lit (.bool false)], args := [d1, d2, d3] }
  | _ => none }
def ExactSpreadWrongFalsely : Prop := exactSpreadRow.holds Tryd.pinned (OpenSpec.ofChange exactSpreadWrong)

/-- 'recastlaw2.ExactBack': WHATEVER THE INPUT: true; the input reads as it did. -/
def exactBackSpec : ChangeSpec := { name := "exactBack", fn := fun _ => fun
  | [d1, d2] => { results := [.lit (.bool true)], args := [d1, d2] }
  | _ => none }
def exactBackRow : OpenClaim := { program := "ytcnakbhogmnddaadoor", sum := "4d5522d5f2dab9faf984d078d083a3679621c69aa24bc87bcdaac01be1446543", func := "recast/recastlaw2.ExactBack", spec := "exactBack", inPlace := ["internal/abi.NoEscape", "internal/bytealg.IndexByteString", "internal/bytealg.IndexString"], unfollowed := true, recurses := true, named := ["math/bits.overflowError", "unicode/utf8.first", "unicode/utf8.acceptRanges", "internal/bytealg.MaxLen"], apart := false, laid := [("unicode/utf8.acceptRanges", laid_unicode_utf8_acceptRanges), ("unicode/utf8.first", laid_unicode_utf8_first)] }
def ExactBackSaid : Prop := exactBackRow.holds Tryd.pinned (OpenSpec.ofChange exactBackSpec)

/-- ITS FALSE NEIGHBOUR: 'it returns false'. Refute it at one input. -/
def exactBackWrong : ChangeSpec := { name := "exactBack", fn := fun _ => fun
  | [d1, d2] => { results := [.lit (.bool false)], args := [d1, d2] }
  | _ => none }
def ExactBackWrongFalsely : Prop := exactBackRow.holds Tryd.pinned (OpenSpec.ofChange exactBackWrong)

/-- 'recastlaw2.ExactLaws': WHATEVER THE INPUT: true; the input reads as it did. -/
def exactLawsSpec : ChangeSpec := { name := "exactLaws", fn := fun _ => fun
  | [d1, d2] => { results := [.lit (.bool true)], args := [d1, d2] }
  | _ => none }
def exactLawsRow : OpenClaim := { program := "ytcnakbhogmnddaadoor", sum := "4d5522d5f2dab9faf984d078d083a3679621c69aa24bc87bcdaac01be1446543", func := "recast/recastlaw2.ExactLaws", spec := "exactLaws", inPlace := ["internal/abi.NoEscape", "internal/bytealg.IndexByteString", "internal/bytealg.IndexString"], unfollowed := true, recurses := true, named := ["math/bits.overflowError", "unicode/utf8.first", "unicode/utf8.acceptRanges", "internal/bytealg.MaxLen"], apart := false, laid := [("unicode/utf8.acceptRanges", laid_unicode_utf8_acceptRanges), ("unicode/utf8.first", laid_unicode_utf8_first)] }
def ExactLawsSaid : Prop := exactLawsRow.holds Tryd.pinned (OpenSpec.ofChange exactLawsSpec)

/-- ITS FALSE NEIGHBOUR: 'it returns false'. Refute it at one input. -/
def exactLawsWrong : ChangeSpec := { name := "exactLaws", fn := fun _ => fun
  | [d1, d2] => { results := [.lit (.bool false)], args := [d1, d2] }
  | _ => none }
def ExactLawsWrongFalsely : Prop := exactLawsRow.holds Tryd.pinned (OpenSpec.ofChange exactLawsWrong)

/-- 'recastlaw10.KonstLong': WHATEVER THE INPUT: true; the input reads as it did. -/
def konstLongSpec : ChangeSpec := { name := "konstLong", fn := fun _ => fun
  | [d1, d2] => { results := [.lit (.bool true)], args := [d1, d2] }
  | _ => none }
def konstLongRow : OpenClaim := { program := "ytcnakbhogmnddaadoor", sum := "4d5522d5f2dab9faf984d078d083a3679621c69aa24bc87bcdaac01be1446543", func := "recast/recastlaw10.KonstLong", spec := "konstLong", inPlace := ["internal/bytealg.abigen_runtime_cmpstring", "internal/abi.NoEscape", "internal/bytealg.IndexByteString", "internal/bytealg.IndexString"], unfollowed := true, recurses := true, named := ["math/bits.overflowError", "unicode/utf8.first", "unicode/utf8.acceptRanges", "internal/bytealg.MaxLen"], apart := false, laid := [("unicode/utf8.acceptRanges", laid_unicode_utf8_acceptRanges), ("unicode/utf8.first", laid_unicode_utf8_first)] }
def KonstLongSaid : Prop := konstLongRow.holds Tryd.pinned (OpenSpec.ofChange konstLongSpec)

/-- ITS FALSE NEIGHBOUR: 'it returns false'. Refute it at one input. -/
def konstLongWrong : ChangeSpec := { name := "konstLong", fn := fun _ => fun
  | [d1, d2] => { results := [.lit (.bool false)], args := [d1, d2] }
  | _ => none }
def KonstLongWrongFalsely : Prop := konstLongRow.holds Tryd.pinned (OpenSpec.ofChange konstLongWrong)

/-- 'recastlaw10.KonstLaws': WHATEVER THE INPUT: true; the input reads as it did. -/
def konstLawsSpec : ChangeSpec := { name := "konstLaws", fn := fun _ => fun
  | [d1, d2] => { results := [.lit (.bool true)], args := [d1, d2] }
  | _ => none }
def konstLawsRow : OpenClaim := { program := "ytcnakbhogmnddaadoor", sum := "4d5522d5f2dab9faf984d078d083a3679621c69aa24bc87bcdaac01be1446543", func := "recast/recastlaw10.KonstLaws", spec := "konstLaws", inPlace := ["internal/bytealg.abigen_runtime_cmpstring", "internal/abi.NoEscape", "internal/bytealg.IndexByteString", "internal/bytealg.IndexString"], unfollowed := true, recurses := true, named := ["math/bits.overflowError", "unicode/utf8.first", "unicode/utf8.acceptRanges", "internal/bytealg.MaxLen"], apart := false, laid := [("unicode/utf8.acceptRanges", laid_unicode_utf8_acceptRanges), ("unicode/utf8.first", laid_unicode_utf8_first)] }
def KonstLawsSaid : Prop := konstLawsRow.holds Tryd.pinned (OpenSpec.ofChange konstLawsSpec)

/-- ITS FALSE NEIGHBOUR: 'it returns false'. Refute it at one input. -/
def konstLawsWrong : ChangeSpec := { name := "konstLaws", fn := fun _ => fun
  | [d1, d2] => { results := [.lit (.bool false)], args := [d1, d2] }
  | _ => none }
def KonstLawsWrongFalsely : Prop := konstLawsRow.holds Tryd.pinned (OpenSpec.ofChange konstLawsWrong)

/- THE SECOND FORM. 'bulk': how many values and letters a reading holds, each counted each time it is reached (what is shared counts as often as it is met; a slice's spare places count too). A statement '..UptoSaid' is the law's where the arguments, and the package variables that the reading takes, are together of bulk at most 1048576: NARROWER than '..Said'. Prove '..Said' where nothing that the law and all that it calls make is longer than what came in: it says more and counts as full. Else prove '..UptoSaid'. A law counts once. -/
mutual
def uptoBulk {H : Type} : DataW H → Nat
  | .lit (.string bytes) => bytes.length + 1
  | .lit _ => 1
  | .nil => 1
  | .ptr d => uptoBulk d + 1
  | .slice elems spare => uptoBulkAll elems + uptoBulkAll spare + 1
  | .agg parts => uptoBulkAll parts + 1
  | .iface _ d => uptoBulk d + 1
  | .map entries => uptoBulkEntries entries + 1
  | .held _ => 1
def uptoBulkAll {H : Type} : List (DataW H) → Nat
  | [] => 0
  | d :: r => uptoBulk d + uptoBulkAll r
def uptoBulkEntries {H : Type} : List (Lit × DataW H) → Nat
  | [] => 0
  | x :: r => uptoBulkEntry x + uptoBulkEntries r
def uptoBulkEntry {H : Type} : Lit × DataW H → Nat
  | (.string bytes, d) => bytes.length + uptoBulk d + 1
  | (_, d) => uptoBulk d + 1
 end
def uptoSmall : (H : Type) → List (DataW H) → Bool := fun _ ds => decide (uptoBulkAll ds ≤ 1048576)
def OpenSpec.upto (s : _root_.Go.ChangeSpec) : _root_.Go.OpenSpec := { _root_.Go.OpenSpec.ofChange s with cond := some uptoSmall }

/-- 'recastlaw10.KonstArith', WHERE WHAT IT READS IS OF BULK AT MOST 1048576: true; the input reads as it did. -/
def konstArithUptoRow : OpenClaim := { program := "ytcnakbhogmnddaadoor", sum := "4d5522d5f2dab9faf984d078d083a3679621c69aa24bc87bcdaac01be1446543", func := "recast/recastlaw10.KonstArith", spec := "konstArith", inPlace := ["internal/bytealg.abigen_runtime_cmpstring", "internal/abi.NoEscape", "internal/bytealg.IndexByteString", "internal/bytealg.IndexString"], unfollowed := true, recurses := true, named := ["math/bits.overflowError", "unicode/utf8.first", "unicode/utf8.acceptRanges", "internal/bytealg.MaxLen"], apart := false, laid := [("unicode/utf8.acceptRanges", laid_unicode_utf8_acceptRanges), ("unicode/utf8.first", laid_unicode_utf8_first)], narrowed := true }
def KonstArithUptoSaid : Prop := konstArithUptoRow.holds Tryd.pinned (OpenSpec.upto konstArithSpec)

/-- 'recastlaw10.KonstUnary', WHERE WHAT IT READS IS OF BULK AT MOST 1048576: true; the input reads as it did. -/
def konstUnaryUptoRow : OpenClaim := { program := "ytcnakbhogmnddaadoor", sum := "4d5522d5f2dab9faf984d078d083a3679621c69aa24bc87bcdaac01be1446543", func := "recast/recastlaw10.KonstUnary", spec := "konstUnary", inPlace := ["internal/bytealg.abigen_runtime_cmpstring", "internal/abi.NoEscape", "internal/bytealg.IndexByteString", "internal/bytealg.IndexString"], unfollowed := true, recurses := true, named := ["math/bits.overflowError", "unicode/utf8.first", "unicode/utf8.acceptRanges", "internal/bytealg.MaxLen"], apart := false, laid := [("unicode/utf8.acceptRanges", laid_unicode_utf8_acceptRanges), ("unicode/utf8.first", laid_unicode_utf8_first)], narrowed := true }
def KonstUnaryUptoSaid : Prop := konstUnaryUptoRow.holds Tryd.pinned (OpenSpec.upto konstUnarySpec)

/-- 'recastlaw2.ExactDivides', WHERE WHAT IT READS IS OF BULK AT MOST 1048576: true; the input reads as it did. -/
def exactDividesUptoRow : OpenClaim := { program := "ytcnakbhogmnddaadoor", sum := "4d5522d5f2dab9faf984d078d083a3679621c69aa24bc87bcdaac01be1446543", func := "recast/recastlaw2.ExactDivides", spec := "exactDivides", inPlace := ["internal/abi.NoEscape", "internal/bytealg.IndexByteString", "internal/bytealg.IndexString"], unfollowed := true, recurses := true, named := ["math/bits.overflowError", "unicode/utf8.first", "unicode/utf8.acceptRanges", "internal/bytealg.MaxLen"], apart := false, laid := [("unicode/utf8.acceptRanges", laid_unicode_utf8_acceptRanges), ("unicode/utf8.first", laid_unicode_utf8_first)], narrowed := true }
def ExactDividesUptoSaid : Prop := exactDividesUptoRow.holds Tryd.pinned (OpenSpec.upto exactDividesSpec)

/-- 'recastlaw2.ExactSmall', WHERE WHAT IT READS IS OF BULK AT MOST 1048576: true; the input reads as it did. -/
def exactSmallUptoRow : OpenClaim := { program := "ytcnakbhogmnddaadoor", sum := "4d5522d5f2dab9faf984d078d083a3679621c69aa24bc87bcdaac01be1446543", func := "recast/recastlaw2.ExactSmall", spec := "exactSmall", inPlace := ["internal/abi.NoEscape", "internal/bytealg.IndexByteString", "internal/bytealg.IndexString"], unfollowed := true, recurses := true, named := ["math/bits.overflowError", "unicode/utf8.first", "unicode/utf8.acceptRanges", "internal/bytealg.MaxLen"], apart := false, laid := [("unicode/utf8.acceptRanges", laid_unicode_utf8_acceptRanges), ("unicode/utf8.first", laid_unicode_utf8_first)], narrowed := true }
def ExactSmallUptoSaid : Prop := exactSmallUptoRow.holds Tryd.pinned (OpenSpec.upto exactSmallSpec)

/-- 'recastlaw2.ExactProducts', WHERE WHAT IT READS IS OF BULK AT MOST 1048576: true; the input reads as it did. -/
def exactProductsUptoRow : OpenClaim := { program := "ytcnakbhogmnddaadoor", sum := "4d5522d5f2dab9faf984d078d083a3679621c69aa24bc87bcdaac01be1446543", func := "recast/recastlaw2.ExactProducts", spec := "exactProducts", inPlace := ["internal/abi.NoEscape", "internal/bytealg.IndexByteString", "internal/bytealg.IndexString"], unfollowed := true, recurses := true, named := ["math/bits.overflowError", "unicode/utf8.first", "unicode/utf8.acceptRanges", "internal/bytealg.MaxLen"], apart := false, laid := [("unicode/utf8.acceptRanges", laid_unicode_utf8_acceptRanges), ("unicode/utf8.first", laid_unicode_utf8_first)], narrowed := true }
def ExactProductsUptoSaid : Prop := exactProductsUptoRow.holds Tryd.pinned (OpenSpec.upto exactProductsSpec)

/-- 'recastlaw2.ExactReads', WHERE WHAT IT READS IS OF BULK AT MOST 1048576: true; the input reads as it did. -/
def exactReadsUptoRow : OpenClaim := { program := "ytcnakbhogmnddaadoor", sum := "4d5522d5f2dab9faf984d078d083a3679621c69aa24bc87bcdaac01be1446543", func := "recast/recastlaw2.ExactReads", spec := "exactReads", inPlace := ["internal/abi.NoEscape", "internal/bytealg.IndexByteString", "internal/bytealg.IndexString"], unfollowed := true, recurses := true, named := ["math/bits.overflowError", "unicode/utf8.first", "unicode/utf8.acceptRanges", "internal/bytealg.MaxLen"], apart := false, laid := [("unicode/utf8.acceptRanges", laid_unicode_utf8_acceptRanges), ("unicode/utf8.first", laid_unicode_utf8_first)], narrowed := true }
def ExactReadsUptoSaid : Prop := exactReadsUptoRow.holds Tryd.pinned (OpenSpec.upto exactReadsSpec)

/-- 'recastlaw2.ExactOrder', WHERE WHAT IT READS IS OF BULK AT MOST 1048576: true; the input reads as it did. -/
def exactOrderUptoRow : OpenClaim := { program := "ytcnakbhogmnddaadoor", sum := "4d5522d5f2dab9faf984d078d083a3679621c69aa24bc87bcdaac01be1446543", func := "recast/recastlaw2.ExactOrder", spec := "exactOrder", inPlace := ["internal/abi.NoEscape", "internal/bytealg.IndexByteString", "internal/bytealg.IndexString"], unfollowed := true, recurses := true, named := ["math/bits.overflowError", "unicode/utf8.first", "unicode/utf8.acceptRanges", "internal/bytealg.MaxLen"], apart := false, laid := [("unicode/utf8.acceptRanges", laid_unicode_utf8_acceptRanges), ("unicode/utf8.first", laid_unicode_utf8_first)], narrowed := true }
def ExactOrderUptoSaid : Prop := exactOrderUptoRow.holds Tryd.pinned (OpenSpec.upto exactOrderSpec)

/-- 'recastlaw2.ExactSums', WHERE WHAT IT READS IS OF BULK AT MOST 1048576: true; the input reads as it did. -/
def exactSumsUptoRow : OpenClaim := { program := "ytcnakbhogmnddaadoor", sum := "4d5522d5f2dab9faf984d078d083a3679621c69aa24bc87bcdaac01be1446543", func := "recast/recastlaw2.ExactSums", spec := "exactSums", inPlace := ["internal/abi.NoEscape", "internal/bytealg.IndexByteString", "internal/bytealg.IndexString"], unfollowed := true, recurses := true, named := ["math/bits.overflowError", "unicode/utf8.first", "unicode/utf8.acceptRanges", "internal/bytealg.MaxLen"], apart := false, laid := [("unicode/utf8.acceptRanges", laid_unicode_utf8_acceptRanges), ("unicode/utf8.first", laid_unicode_utf8_first)], narrowed := true }
def ExactSumsUptoSaid : Prop := exactSumsUptoRow.holds Tryd.pinned (OpenSpec.upto exactSumsSpec)

/-- 'recastlaw2.ExactSpread', WHERE WHAT IT READS IS OF BULK AT MOST 1048576: true; the input reads as it did. -/
def exactSpreadUptoRow : OpenClaim := { program := "ytcnakbhogmnddaadoor", sum := "4d5522d5f2dab9faf984d078d083a3679621c69aa24bc87bcdaac01be1446543", func := "recast/recastlaw2.ExactSpread", spec := "exactSpread", inPlace := ["internal/abi.NoEscape", "internal/bytealg.IndexByteString", "internal/bytealg.IndexString"], unfollowed := true, recurses := true, named := ["math/bits.overflowError", "unicode/utf8.first", "unicode/utf8.acceptRanges", "internal/bytealg.MaxLen"], apart := false, laid := [("unicode/utf8.acceptRanges", laid_unicode_utf8_acceptRanges), ("unicode/utf8.first", laid_unicode_utf8_first)], narrowed := true }
def ExactSpreadUptoSaid : Prop := exactSpreadUptoRow.holds Tryd.pinned (OpenSpec.upto exactSpreadSpec)

/-- 'recastlaw2.ExactBack', WHERE WHAT IT READS IS OF BULK AT MOST 1048576: true; the input reads as it did. -/
def exactBackUptoRow : OpenClaim := { program := "ytcnakbhogmnddaadoor", sum := "4d5522d5f2dab9faf984d078d083a3679621c69aa24bc87bcdaac01be1446543", func := "recast/recastlaw2.ExactBack", spec := "exactBack", inPlace := ["internal/abi.NoEscape", "internal/bytealg.IndexByteString", "internal/bytealg.IndexString"], unfollowed := true, recurses := true, named := ["math/bits.overflowError", "unicode/utf8.first", "unicode/utf8.acceptRanges", "internal/bytealg.MaxLen"], apart := false, laid := [("unicode/utf8.acceptRanges", laid_unicode_utf8_acceptRanges), ("unicode/utf8.first", laid_unicode_utf8_first)], narrowed := true }
def ExactBackUptoSaid : Prop := exactBackUptoRow.holds Tryd.pinned (OpenSpec.upto exactBackSpec)

/-- 'recastlaw2.ExactLaws', WHERE WHAT IT READS IS OF BULK AT MOST 1048576: true; the input reads as it did. -/
def exactLawsUptoRow : OpenClaim := { program := "ytcnakbhogmnddaadoor", sum := "4d5522d5f2dab9faf984d078d083a3679621c69aa24bc87bcdaac01be1446543", func := "recast/recastlaw2.ExactLaws", spec := "exactLaws", inPlace := ["internal/abi.NoEscape", "internal/bytealg.IndexByteString", "internal/bytealg.IndexString"], unfollowed := true, recurses := true, named := ["math/bits.overflowError", "unicode/utf8.first", "unicode/utf8.acceptRanges", "internal/bytealg.MaxLen"], apart := false, laid := [("unicode/utf8.acceptRanges", laid_unicode_utf8_acceptRanges), ("unicode/utf8.first", laid_unicode_utf8_first)], narrowed := true }
def ExactLawsUptoSaid : Prop := exactLawsUptoRow.holds Tryd.pinned (OpenSpec.upto exactLawsSpec)

/-- 'recastlaw10.KonstLong', WHERE WHAT IT READS IS OF BULK AT MOST 1048576: true; the input reads as it did. -/
def konstLongUptoRow : OpenClaim := { program := "ytcnakbhogmnddaadoor", sum := "4d5522d5f2dab9faf984d078d083a3679621c69aa24bc87bcdaac01be1446543", func := "recast/recastlaw10.KonstLong", spec := "konstLong", inPlace := ["internal/bytealg.abigen_runtime_cmpstring", "internal/abi.NoEscape", "internal/bytealg.IndexByteString", "internal/bytealg.IndexString"], unfollowed := true, recurses := true, named := ["math/bits.overflowError", "unicode/utf8.first", "unicode/utf8.acceptRanges", "internal/bytealg.MaxLen"], apart := false, laid := [("unicode/utf8.acceptRanges", laid_unicode_utf8_acceptRanges), ("unicode/utf8.first", laid_unicode_utf8_first)], narrowed := true }
def KonstLongUptoSaid : Prop := konstLongUptoRow.holds Tryd.pinned (OpenSpec.upto konstLongSpec)

/-- 'recastlaw10.KonstLaws', WHERE WHAT IT READS IS OF BULK AT MOST 1048576: true; the input reads as it did. -/
def konstLawsUptoRow : OpenClaim := { program := "ytcnakbhogmnddaadoor", sum := "4d5522d5f2dab9faf984d078d083a3679621c69aa24bc87bcdaac01be1446543", func := "recast/recastlaw10.KonstLaws", spec := "konstLaws", inPlace := ["internal/bytealg.abigen_runtime_cmpstring", "internal/abi.NoEscape", "internal/bytealg.IndexByteString", "internal/bytealg.IndexString"], unfollowed := true, recurses := true, named := ["math/bits.overflowError", "unicode/utf8.first", "unicode/utf8.acceptRanges", "internal/bytealg.MaxLen"], apart := false, laid := [("unicode/utf8.acceptRanges", laid_unicode_utf8_acceptRanges), ("unicode/utf8.first", laid_unicode_utf8_first)], narrowed := true }
def KonstLawsUptoSaid : Prop := konstLawsUptoRow.holds Tryd.pinned (OpenSpec.upto konstLawsSpec)

end Rows
end Go.Proofs.YtcnakbhogmnddaaDoor
