/- clocks.New: an order with one goroutine that knows nothing. -/
import Derived.Test.YtkcaeeighjblkaaClkInv
namespace Go.Proofs.Ytkcaeeighjblkaa
open Go.RowKit

def acc0 : Acc := fun _ _ => (0, 0)

/-- A new order. -/
def NewPost (w : World) (e : Ending) (w' : World) : Prop :=
  ∃ st : OSt, e = .returned (.pointer (some ⟨st.bo, 0, none⟩)) ∧ Ord w' st [[]] acc0 0 ∧ Below w.heap.size w w' ∧ ∀ k, st.fp k → w.heap.size ≤ k

theorem new_any (w : World) : Calls Try.prog 14 #[] w (NewPost w) := by
  have hmm := @run_makeMap Try.prog
  go_enter Try.func14, Try.ntmps14
  go_wp2
  go_ret
  have e0 : ∀ a b c : Obj, (((w.alloc a).alloc b).alloc c).heap[w.heap.size]? = some a := fun a b c => by
    show (((w.heap.push a).push b).push c)[w.heap.size]? = _
    simp only [Array.getElem?_push, Array.size_push]; rw [if_neg (by omega), if_neg (by omega), if_pos trivial]
  have e1 : ∀ a b c : Obj, (((w.alloc a).alloc b).alloc c).heap[w.heap.size + 1]? = some b := fun a b c => by
    show (((w.heap.push a).push b).push c)[w.heap.size + 1]? = _
    simp only [Array.getElem?_push, Array.size_push]; rw [if_neg (by omega), if_pos trivial]
  have e2 : ∀ a b c : Obj, (((w.alloc a).alloc b).alloc c).heap[w.heap.size + 1 + 1]? = some c := fun a b c => by
    show (((w.heap.push a).push b).push c)[w.heap.size + 1 + 1]? = _
    simp only [Array.getElem?_push, Array.size_push]; rw [if_pos trivial]
  refine ⟨⟨w.heap.size + 1 + 1, w.heap.size, 1, [.slice none 0 0], w.heap.size + 1, fun _ => none⟩, by simp, ?_, ?_, ?_⟩
  · refine ⟨by decide, by decide, by decide, ?_, ?_, e2 _ _ _, ?_, ?_, ?_, ?_, ?_, ?_, ?_⟩
    · intro i; cases i <;> simp
    · intro i j; cases i <;> simp
    · exact ⟨by simp, .inr ⟨w.heap.size, 1, #[.slice none 0 0], rfl, Nat.zero_le _, e0 _ _ _, by decide, by decide, rfl, rfl⟩⟩
    · intro i hi
      have : i = 0 := by simp at hi; exact hi
      subst this
      exact World.ownsRow_nil _ _ _ _
    · intro i j b hi hj; simp at hi hj; omega
    · exact ⟨.map [], ⟨#[], 0, e1 _ _ _, ⟨by simp, MapKept.stamped_empty 0, by simp⟩, Nat.le_refl _, rfl⟩, Maps.isMap_empty, fun k _ => rfl⟩
    · intro c b _ h; cases h
    · intro c k _ _; rfl
    · intro c d b _ _ h; cases h
  · exact (((Below.refl _ _).alloc (Nat.le_refl _) _).alloc (by simp) _).alloc (by simp; omega) _
  · intro k hk
    rcases hk with rfl | rfl | ⟨i, hi, e⟩ | rfl | ⟨c, _, e⟩
    · simp; omega
    · exact Nat.le_refl _
    · have : i = 0 := by simp at hi; exact hi
      subst this; cases e
    · simp
    · cases e

end Go.Proofs.Ytkcaeeighjblkaa
