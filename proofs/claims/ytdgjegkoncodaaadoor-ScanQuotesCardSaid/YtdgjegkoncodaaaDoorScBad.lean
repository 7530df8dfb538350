/- scan's bad: the scanner gives up by a panic; ends; line. Condition: no more than a million tokens. -/
import Derived.Test.YtdgjegkoncodaaaDoorScAdd
namespace Go.Proofs.YtdgjegkoncodaaaDoor
open Go.RowKit

/-- What the scanner gives up by. -/
def faultV (a : Int) : Value := .iface 65 (.agg #[.int .i64 3, .string ⟨#[]⟩, .int .i64 a])
def pan (a : Int) : Ending := .panicked [{ v := faultV a, recovered := false }]
theorem bad_any {W : World} {p : Nat} (a : Int) :
    Calls Tryd.prog 52 #[.pointer (some ⟨p, 0, none⟩), .int .i64 a] W fun e W' => e = pan a ∧ W = W' := by
  go_enter Tryd.func52, Tryd.ntmps52
  go_wp2
  exact ⟨rfl, rfl, rfl⟩

set_option maxHeartbeats 800000 in
theorem ends_any (k f t : Int) (s : ByteArray) (w : World) :
    Calls Tryd.prog 60 #[.agg #[.int .i64 k, .int .i64 f, .int .i64 t, .string s]] w fun e w' => e = .returned (.bool (endsB k s.toList)) ∧ Below w.heap.size w w' := by
  go_enter Tryd.func60, Tryd.ntmps60
  go_wp2
  all_goals (go_ret; exact ⟨ret_bool (by simp_all [endsB]), (Below.refl _ w).alloc (Nat.le_refl _) _⟩)
end Go.Proofs.YtdgjegkoncodaaaDoor
