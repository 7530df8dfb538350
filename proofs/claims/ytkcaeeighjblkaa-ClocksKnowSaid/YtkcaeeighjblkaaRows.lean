/-
  No cell of these rows narrows 'for every input' (looked for: loops, veiled, ifaces, maps, wideKeys, modest, calm, conditions, laid).
  DERIVED. THE GIVEN ROWS OF THIS SEAT. 7 by the template 'for every input the law returns true; each argument reads behind the call as it read before'; 0 by the template 'total and deterministic' (their statements: YtkcaeeighjblkaaTotals.lean).
  GIVEN WITH THE SEED: the statements are not yours to turn. If you find one false, say at which input.
  Laid BY PROGRAM, IN A SANDBOX (cutbox-rows.mjs): the forced cells as the released guide's own fill.sh prints them over the translation 5f2e351faa4837d9… (all of the seat's roots in one cut). By AI agents, Wed Nov 11 2026. No macro, syntax, notation, axiom, sorry.
-/
import Derived.Test.YtkcaeeighjblkaaChecked
import GoSem.Claim
import GoSem.ClaimJoined
import GoSem.ClaimMapViews
import Derived.JoinedTies
import Derived.KernelRfl
namespace Go.Proofs.Ytkcaeeighjblkaa
/- THE CELL 'sum', in the pinned program and in every row, IS THE sha256 OF THE DUMP (.gsa) THAT YtkcaeeighjblkaaProg.lean LOADS. Nothing in Lean hashes anything: it is a label: what it is worth is what the hold of that sum in a sandbox is worth. -/
noncomputable def Try.pinned : Pinned := { name := "ytkcaeeighjblkaa", sum := "5f2e351faa4837d9a83154fadf93cebbf4956ba9b1817181a860cdd4f4a597e2", checked := Try.checked }
namespace Rows
def none {H : Type} : Left H := { results := [], args := [] }

/-- 'recastlaw18.PlanNames': WHATEVER THE INPUT: true; the input reads as it did. -/
def planNamesSpec : ChangeSpec := { name := "planNames", fn := fun _ => fun
  | [d] => { results := [.lit (.bool true)], args := [d] }
  | _ => none }
def planNamesRow : OpenClaim := { program := "ytkcaeeighjblkaa", sum := "5f2e351faa4837d9a83154fadf93cebbf4956ba9b1817181a860cdd4f4a597e2", func := "recast/recastlaw18.PlanNames", spec := "planNames", apart := false }
def PlanNamesSaid : Prop := planNamesRow.holds Try.pinned (OpenSpec.ofChange planNamesSpec)

/-- ITS FALSE NEIGHBOUR: 'it returns false'. Refute it at one input. -/
def planNamesWrong : ChangeSpec := { name := "planNames", fn := fun _ => fun
  | [d] => { results := [.lit (.bool false)], args := [d] }
  | _ => none }
def PlanNamesWrongFalsely : Prop := planNamesRow.holds Try.pinned (OpenSpec.ofChange planNamesWrong)

/-- 'recastlaw16.ClocksAlone': WHATEVER THE INPUT: true; the input reads as it did. -/
def clocksAloneSpec : ChangeSpec := { name := "clocksAlone", fn := fun _ => fun
  | [d] => { results := [.lit (.bool true)], args := [d] }
  | _ => none }
def clocksAloneRow : OpenClaim := { program := "ytkcaeeighjblkaa", sum := "5f2e351faa4837d9a83154fadf93cebbf4956ba9b1817181a860cdd4f4a597e2", func := "recast/recastlaw16.ClocksAlone", spec := "clocksAlone", apart := false }
def ClocksAloneSaid : Prop := clocksAloneRow.holds Try.pinned (OpenSpec.ofChange clocksAloneSpec)

/-- ITS FALSE NEIGHBOUR: 'it returns false'. Refute it at one input. -/
def clocksAloneWrong : ChangeSpec := { name := "clocksAlone", fn := fun _ => fun
  | [d] => { results := [.lit (.bool false)], args := [d] }
  | _ => none }
def ClocksAloneWrongFalsely : Prop := clocksAloneRow.holds Try.pinned (OpenSpec.ofChange clocksAloneWrong)

/-- 'recastlaw16.ClocksPassed': WHATEVER THE INPUT: true; the input reads as it did. -/
def clocksPassedSpec : ChangeSpec := { name := "clocksPassed", fn := fun _ => fun
  | [d1, d2, d3] => { results := [.lit (.bool true)], args := [d1, d2, d3] }
  | _ => none }
def clocksPassedRow : OpenClaim := { program := "ytkcaeeighjblkaa", sum := "5f2e351faa4837d9a83154fadf93cebbf4956ba9b1817181a860cdd4f4a597e2", func := "recast/recastlaw16.ClocksPassed", spec := "clocksPassed", apart := false }
def ClocksPassedSaid : Prop := clocksPassedRow.holds Try.pinned (OpenSpec.ofChange clocksPassedSpec)

/-- ITS FALSE NEIGHBOUR: 'it returns false'. Refute it at one input. -/
def clocksPassedWrong : ChangeSpec := { name := "clocksPassed", fn := fun _ => fun
  | [d1, d2, d3] => { results := [.lit (.bool false)], args := [d1, d2, d3] }
  | _ => none }
def ClocksPassedWrongFalsely : Prop := clocksPassedRow.holds Try.pinned (OpenSpec.ofChange clocksPassedWrong)

/-- 'recastlaw16.ClocksChain': WHATEVER THE INPUT: true; the input reads as it did. -/
def clocksChainSpec : ChangeSpec := { name := "clocksChain", fn := fun _ => fun
  | [d1, d2] => { results := [.lit (.bool true)], args := [d1, d2] }
  | _ => none }
def clocksChainRow : OpenClaim := { program := "ytkcaeeighjblkaa", sum := "5f2e351faa4837d9a83154fadf93cebbf4956ba9b1817181a860cdd4f4a597e2", func := "recast/recastlaw16.ClocksChain", spec := "clocksChain", apart := false }
def ClocksChainSaid : Prop := clocksChainRow.holds Try.pinned (OpenSpec.ofChange clocksChainSpec)

/-- ITS FALSE NEIGHBOUR: 'it returns false'. Refute it at one input. -/
def clocksChainWrong : ChangeSpec := { name := "clocksChain", fn := fun _ => fun
  | [d1, d2] => { results := [.lit (.bool false)], args := [d1, d2] }
  | _ => none }
def ClocksChainWrongFalsely : Prop := clocksChainRow.holds Try.pinned (OpenSpec.ofChange clocksChainWrong)

/-- 'recastlaw16.ClocksPlay': WHATEVER THE INPUT: true; the input reads as it did. -/
def clocksPlaySpec : ChangeSpec := { name := "clocksPlay", fn := fun _ => fun
  | [d] => { results := [.lit (.bool true)], args := [d] }
  | _ => none }
def clocksPlayRow : OpenClaim := { program := "ytkcaeeighjblkaa", sum := "5f2e351faa4837d9a83154fadf93cebbf4956ba9b1817181a860cdd4f4a597e2", func := "recast/recastlaw16.ClocksPlay", spec := "clocksPlay", apart := false }
def ClocksPlaySaid : Prop := clocksPlayRow.holds Try.pinned (OpenSpec.ofChange clocksPlaySpec)

/-- ITS FALSE NEIGHBOUR: 'it returns false'. Refute it at one input. -/
def clocksPlayWrong : ChangeSpec := { name := "clocksPlay", fn := fun _ => fun
  | [d] => { results := [.lit (.bool false)], args := [d] }
  | _ => none }
def ClocksPlayWrongFalsely : Prop := clocksPlayRow.holds Try.pinned (OpenSpec.ofChange clocksPlayWrong)

/-- 'recastlaw16.ClocksNothing': WHATEVER THE INPUT: true; the input reads as it did. -/
def clocksNothingSpec : ChangeSpec := { name := "clocksNothing", fn := fun _ => fun
  | [d1, d2] => { results := [.lit (.bool true)], args := [d1, d2] }
  | _ => none }
def clocksNothingRow : OpenClaim := { program := "ytkcaeeighjblkaa", sum := "5f2e351faa4837d9a83154fadf93cebbf4956ba9b1817181a860cdd4f4a597e2", func := "recast/recastlaw16.ClocksNothing", spec := "clocksNothing", apart := false }
def ClocksNothingSaid : Prop := clocksNothingRow.holds Try.pinned (OpenSpec.ofChange clocksNothingSpec)

/-- ITS FALSE NEIGHBOUR: 'it returns false'. Refute it at one input. -/
def clocksNothingWrong : ChangeSpec := { name := "clocksNothing", fn := fun _ => fun
  | [d1, d2] => { results := [.lit (.bool false)], args := [d1, d2] }
  | _ => none }
def ClocksNothingWrongFalsely : Prop := clocksNothingRow.holds Try.pinned (OpenSpec.ofChange clocksNothingWrong)

/-- 'recastlaw16.ClocksKnow': WHATEVER THE INPUT: true; the input reads as it did. -/
def clocksKnowSpec : ChangeSpec := { name := "clocksKnow", fn := fun _ => fun
  | [d1, d2] => { results := [.lit (.bool true)], args := [d1, d2] }
  | _ => none }
def clocksKnowRow : OpenClaim := { program := "ytkcaeeighjblkaa", sum := "5f2e351faa4837d9a83154fadf93cebbf4956ba9b1817181a860cdd4f4a597e2", func := "recast/recastlaw16.ClocksKnow", spec := "clocksKnow", apart := false }
def ClocksKnowSaid : Prop := clocksKnowRow.holds Try.pinned (OpenSpec.ofChange clocksKnowSpec)

/-- ITS FALSE NEIGHBOUR: 'it returns false'. Refute it at one input. -/
def clocksKnowWrong : ChangeSpec := { name := "clocksKnow", fn := fun _ => fun
  | [d1, d2] => { results := [.lit (.bool false)], args := [d1, d2] }
  | _ => none }
def ClocksKnowWrongFalsely : Prop := clocksKnowRow.holds Try.pinned (OpenSpec.ofChange clocksKnowWrong)

/- THE SECOND FORM. 'bulk': how many values and letters a reading holds, each counted each time it is reached (what is shared counts as often as it is met; a slice's spare places count too). A statement '..UptoSaid' is the law's where the arguments, and the package variables that the reading takes, are together of bulk at most 1048576: NARROWER than '..Said'. Prove '..Said' where nothing that the law and all that it calls make is longer than what came in: it says more and counts as full. Else prove '..UptoSaid'. A law counts once. -/
mutual
def uptoBulk {H : Type} : DataW H → Nat
  | .lit (.string bytes) => bytes.length + 1
  | .lit _ => 1
  | .nil => 1
  | .ptr d => uptoBulk d + 1
  | .slice elems spare => uptoBulkAll elems + uptoBulkAll spare + 1
  | .agg parts => uptoBulkAll parts + 1
  | .iface _ d => uptoBulk d + 1
  | .map entries => uptoBulkEntries entries + 1
  | .held _ => 1
def uptoBulkAll {H : Type} : List (DataW H) → Nat
  | [] => 0
  | d :: r => uptoBulk d + uptoBulkAll r
def uptoBulkEntries {H : Type} : List (Lit × DataW H) → Nat
  | [] => 0
  | x :: r => uptoBulkEntry x + uptoBulkEntries r
def uptoBulkEntry {H : Type} : Lit × DataW H → Nat
  | (.string bytes, d) => bytes.length + uptoBulk d + 1
  | (_, d) => uptoBulk d + 1
 end
def uptoSmall : (H : Type) → List (DataW H) → Bool := fun _ ds => decide (uptoBulkAll ds ≤ 1048576)
def OpenSpec.upto (s : _root_.Go.ChangeSpec) : _root_.Go.OpenSpec := { _root_.Go.OpenSpec.ofChange s with cond := some uptoSmall }

/-- 'recastlaw18.PlanNames', WHERE WHAT IT READS IS OF BULK AT MOST 1048576: true; the input reads as it did. -/
def planNamesUptoRow : OpenClaim := { program := "ytkcaeeighjblkaa", sum := "5f2e351faa4837d9a83154fadf93cebbf4956ba9b1817181a860cdd4f4a597e2", func := "recast/recastlaw18.PlanNames", spec := "planNames", apart := false, narrowed := true }
def PlanNamesUptoSaid : Prop := planNamesUptoRow.holds Try.pinned (OpenSpec.upto planNamesSpec)

/-- 'recastlaw16.ClocksAlone', WHERE WHAT IT READS IS OF BULK AT MOST 1048576: true; the input reads as it did. -/
def clocksAloneUptoRow : OpenClaim := { program := "ytkcaeeighjblkaa", sum := "5f2e351faa4837d9a83154fadf93cebbf4956ba9b1817181a860cdd4f4a597e2", func := "recast/recastlaw16.ClocksAlone", spec := "clocksAlone", apart := false, narrowed := true }
def ClocksAloneUptoSaid : Prop := clocksAloneUptoRow.holds Try.pinned (OpenSpec.upto clocksAloneSpec)

/-- 'recastlaw16.ClocksPassed', WHERE WHAT IT READS IS OF BULK AT MOST 1048576: true; the input reads as it did. -/
def clocksPassedUptoRow : OpenClaim := { program := "ytkcaeeighjblkaa", sum := "5f2e351faa4837d9a83154fadf93cebbf4956ba9b1817181a860cdd4f4a597e2", func := "recast/recastlaw16.ClocksPassed", spec := "clocksPassed", apart := false, narrowed := true }
def ClocksPassedUptoSaid : Prop := clocksPassedUptoRow.holds Try.pinned (OpenSpec.upto clocksPassedSpec)

/-- 'recastlaw16.ClocksChain', WHERE WHAT IT READS IS OF BULK AT MOST 1048576: true; the input reads as it did. -/
def clocksChainUptoRow : OpenClaim := { program := "ytkcaeeighjblkaa", sum := "5f2e351faa4837d9a83154fadf93cebbf4956ba9b1817181a860cdd4f4a597e2", func := "recast/recastlaw16.ClocksChain", spec := "clocksChain", apart := false, narrowed := true }
def ClocksChainUptoSaid : Prop := clocksChainUptoRow.holds Try.pinned (OpenSpec.upto clocksChainSpec)

/-- 'recastlaw16.ClocksPlay', WHERE WHAT IT READS IS OF BULK AT MOST 1048576: true; the input reads as it did. -/
def clocksPlayUptoRow : OpenClaim := { program := "ytkcaeeighjblkaa", sum := "5f2e351faa4837d9a83154fadf93cebbf4956ba9b1817181a860cdd4f4a597e2", func := "recast/recastlaw16.ClocksPlay", spec := "clocksPlay", apart := false, narrowed := true }
def ClocksPlayUptoSaid : Prop := clocksPlayUptoRow.holds Try.pinned (OpenSpec.upto clocksPlaySpec)

/-- 'recastlaw16.ClocksNothing', WHERE WHAT IT READS IS OF BULK AT MOST 1048576: true; the input reads as it did. -/
def clocksNothingUptoRow : OpenClaim := { program := "ytkcaeeighjblkaa", sum := "5f2e351faa4837d9a83154fadf93cebbf4956ba9b1817181a860cdd4f4a597e2", func := "recast/recastlaw16.ClocksNothing", spec := "clocksNothing", apart := false, narrowed := true }
def ClocksNothingUptoSaid : Prop := clocksNothingUptoRow.holds Try.pinned (OpenSpec.upto clocksNothingSpec)

/-- 'recastlaw16.ClocksKnow', WHERE WHAT IT READS IS OF BULK AT MOST 1048576: true; the input reads as it did. -/
def clocksKnowUptoRow : OpenClaim := { program := "ytkcaeeighjblkaa", sum := "5f2e351faa4837d9a83154fadf93cebbf4956ba9b1817181a860cdd4f4a597e2", func := "recast/recastlaw16.ClocksKnow", spec := "clocksKnow", apart := false, narrowed := true }
def ClocksKnowUptoSaid : Prop := clocksKnowUptoRow.holds Try.pinned (OpenSpec.upto clocksKnowSpec)

end Rows
end Go.Proofs.Ytkcaeeighjblkaa
