/- Small contracts of the document's clocks: is, count, Ahead, New. No condition. -/
import Derived.Test.YtkcaeeighjblkaaRefInv
import Derived.Test.YtkcaeeighjblkaaClkClock
namespace Go.Proofs.Ytkcaeeighjblkaa
open Go.RowKit

theorem ris_nil (who : Int) (w : World) :
    Calls Try.prog 45 #[.pointer none, .int .i64 who] w fun e w' => e = .returned (.bool false) ∧ w = w' := by
  go_enter Try.func45, Try.ntmps45
  go_wp2
  go_ret
  exact ⟨rfl, rfl⟩

theorem ris_any (bo : Nat) (a : Option Addr) (n cap : Nat) (who : Int) (w : World) (h : w.cell? ⟨bo, 0, none⟩ = some (.slice a n cap)) (_hn : n ≤ 1000000) :
    Calls Try.prog 45 #[.pointer (some ⟨bo, 0, none⟩), .int .i64 who] w fun e w' => e = .returned (.bool (decide (0 ≤ who) && decide (who < n))) ∧ w = w' := by
  go_enter Try.func45, Try.ntmps45
  go_wp2
  all_goals (go_ret; refine ⟨eret_bool ?_, rfl⟩; grind)

theorem rcount_any (v : Value) (n : Nat) (xs : List Int) (of : Int) (w : World) (hown : w.ownsRow 0 3 1 v n (ints xs)) (hn : n ≤ 1000000) (h0 : 0 ≤ of) :
    Calls Try.prog 39 #[v, .int .i64 of] w fun e w' => e = .returned (.int .i64 (xs.getD of.toNat 0)) ∧ w = w' := by
  obtain ⟨k, rfl⟩ := Int.eq_ofNat_of_zero_le h0
  have hl : xs.length = n := by have := hown.1; simpa using this
  rcases hown.2 with ⟨rfl, rfl⟩ | ⟨g, cap, cur, rfl, _, hg, hnc, hcm, hcs, htake⟩
  · have hx : xs = [] := List.eq_nil_of_length_eq_zero hl
    subst hx
    clear hown
    go_enter Try.func39, Try.ntmps39
    go_wp2
    go_ret
    exact ⟨by simp, rfl⟩
  · by_cases hk : k < n
    · have hcell : w.cell? ⟨g, k, none⟩ = some (.int .i64 (xs.getD k 0)) := by
        have := hown.cells (g := g) rfl k (.int .i64 (xs.getD k 0)) (by simp [List.getD, hl, hk])
        simpa [Addr.add_lit] using this
      clear hown htake hg hcs
      go_enter Try.func39, Try.ntmps39
      go_wp2
      go_ret
      exact ⟨by simp [hl, hk], rfl⟩
    · clear hown htake hg hcs
      go_enter Try.func39, Try.ntmps39
      go_wp2
      go_ret
      exact ⟨by simp [List.getD, hl, hk], rfl⟩

/-- slices.Clone of a row of ints: a row of the call's own, or nil. -/

theorem ahead_step {a b : List Int} {i : Nat} (h : ∀ j, j < i → a.getD j 0 ≤ b.getD j 0) (h' : a.getD i 0 ≤ b.getD i 0) : ∀ j, j < i + 1 → a.getD j 0 ≤ b.getD j 0 := fun j hj => by
  by_cases e : j = i
  · subst e; exact h'
  · exact h j (by omega)

theorem row_below {w w' : World} {b : Nat} {e : TypeId} {s : Nat} {v : Value} {n : Nat} {xs : List Value} (h : w.ownsRow b e s v n xs) (hb : Below w.heap.size w w') : w'.ownsRow b e s v n xs := row_same h (fun k e => hb.block k (h.lt k e).2)

set_option maxHeartbeats 800000 in
theorem rahead_any (va vb : Value) (ra rb : List Int) (w : World) (hra : w.ownsRow 0 3 1 va ra.length (ints ra)) (hrb : w.ownsRow 0 3 1 vb rb.length (ints rb)) (hla : ra.length ≤ 200000) (hlb : rb.length ≤ 200000) :
    Calls Try.prog 23 #[va, vb] w fun e w' => e = .returned (.bool (aheadB ra rb)) ∧ Below w.heap.size w w' := by
  obtain ⟨aa, ca, rfl⟩ := row_form hra
  obtain ⟨ab, cb, rfl⟩ := row_form hrb
  go_enter Try.func23, Try.ntmps23
  go_wp2_with fail
  go_loopg [5] ra.length (fun g v5 wr => ∃ i : Nat, i ≤ ra.length ∧ v5 = .int .i64 i ∧ g = ra.length - i ∧ (∀ j, j < i → ra.getD j 0 ≤ rb.getD j 0) ∧ Below w.heap.size w wr)
  case atStart => exact ⟨0, Nat.zero_le _, rfl, rfl, fun j hj => by omega, Below.refl _ _⟩
  case round =>
    obtain ⟨i, hi, rfl, hg, hall, hbel⟩ := hrel
    have Hall := Lib.hid hall
    have HB := Lib.hid hbel
    have hra' := row_below hra hbel
    have hrb' := row_below hrb hbel
    clear hall hra hrb hbel
    by_cases hlt : i < ra.length
    · obtain ⟨ga, cga, ea, _, _⟩ := hra'.form (by omega)
      cases ea
      have hn := ints_cell hra' i hlt
      obtain ⟨n, Hn⟩ : ∃ n, Hid (ra.getD i 0 = n) := ⟨_, Lib.hid rfl⟩
      obtain ⟨m, Hm⟩ : ∃ m, Hid (rb.getD i 0 = m) := ⟨_, Lib.hid rfl⟩
      rw [Hn.out] at hn
      have hcount := rcount_any _ _ _ (i : Int) wr.drew (row_drew hrb') (by omega) (by omega)
      rw [Int.toNat_natCast, Hm.out] at hcount
      have HC := Lib.hid hcount
      clear hcount
      have HS : (fun w' => w'.cell? ⟨ga, i, none⟩ = some (.int .i64 n)) wr.drew := hn
      have HN : Hid (n ≤ m → ∀ j, j < i + 1 → ra.getD j 0 ≤ rb.getD j 0) := fun h => ahead_step Hall.out (by rw [Hn.out, Hm.out]; exact h)
      have HB' := Lib.hid HB.out.drew
      go_wp2_with fail
      refine wp_region_pi (fun w' => w'.cell? ⟨ga, i, none⟩ = some (.int .i64 n)) [(0, 1), (1, 1), (2, 1), (3, 0), (4, 1), (5, 1), (6, 2), (7, 1)] [] (by kernel_rfl) (by kernel_rfl) (fun _ _ _ _ _ h => h) (HS) ?_
      refine pi_pu rfl (by rfl) (fun ws => by go_simp; try with_reducible rfl) ?_; go_frame   -- 0 Op.move (Operand.tmp 0)
      refine pi_pu rfl (by rfl) (fun ws => by go_simp; try with_reducible rfl) ?_; go_frame   -- 1 Op.move (Operand.tmp 5)
      refine pi_pu rfl (by rfl) (fun ws => by go_simp; try with_reducible rfl) ?_; go_frame   -- 2 Op.indexAddr 46 (Operand.tmp 12) (Operand.tmp 13)
      refine pi_ld rfl (by rfl) (fun ws HS => by go_split_ands; go_simp; try with_reducible rfl) ?_; go_frame   -- 3 Op.load 3 (Operand.tmp 14)
      refine pi_pu rfl (by rfl) (fun ws => by go_simp; try with_reducible rfl) ?_; go_frame   -- 4 Op.move (Operand.tmp 1)
      refine pi_pu rfl (by rfl) (fun ws => by go_simp; try with_reducible rfl) ?_; go_frame   -- 5 Op.move (Operand.tmp 5)
      refine pi_ke rfl (fun J hJ => ?_)   -- 6 Op.call { callee := Callee.value (Operand.func 39), args := #[Operand.tmp 16, Operand.tmp 17], argTypes := #[46, 3] }
      go_wp2_with (go_at_call 39; refine HC.out.mono ?_; rintro e w' ⟨rfl, rfl⟩)
      refine hJ _ _ HS ?_
      refine pi_pu rfl (by rfl) (fun ws => by go_simp; try with_reducible rfl) ?_; go_frame   -- 7 Op.binOp BinOp.gtr 3 (Operand.tmp 15) (Operand.tmp 18) 3
      refine pi_tail (r := []) rfl ?_; simp only [opsAt]
      by_cases hnm : n ≤ m
      · go_wp2_with fail
        go_roundg (ra.length - (i + 1))
        case measure => omega
        case rel => exact ⟨i + 1, by omega, by go_num, rfl, HN.out hnm, HB'.out⟩
      · have hnm' : m < n := by omega
        go_wp2_with fail
        go_ret
        refine ⟨eret_bool ?_, HB'.out⟩
        symm
        rw [Bool.eq_false_iff]
        intro h
        have := (aheadB_iff ra rb).1 h i hlt
        rw [Hn.out, Hm.out] at this
        omega
    · go_wp2_with fail
      go_ret
      exact ⟨eret_bool ((aheadB_iff ra rb).2 (fun j hj => Hall.out j (by omega))).symm, HB.out⟩

/-- A new order. -/
def RNewPost (w : World) (e : Ending) (w' : World) : Prop :=
  ∃ st : RSt, e = .returned (.pointer (some ⟨st.po, 0, none⟩)) ∧ ROrd w' st [[0]] [] 0 ∧ Below w.heap.size w w' ∧ ∀ k, st.fp 1 k → w.heap.size ≤ k

theorem rnew_any (w : World) : Calls Try.prog 20 #[] w (RNewPost w) := by
  go_enter Try.func20, Try.ntmps20
  go_wp2
  go_ret
  have e0 : ∀ a b c : Obj, (((w.alloc a).alloc b).alloc c).heap[w.heap.size]? = some a := fun a b c => by
    show (((w.heap.push a).push b).push c)[w.heap.size]? = _
    simp only [Array.getElem?_push, Array.size_push]; rw [if_neg (by omega), if_neg (by omega), if_pos trivial]
  have e1 : ∀ a b c : Obj, (((w.alloc a).alloc b).alloc c).heap[w.heap.size + 1]? = some b := fun a b c => by
    show (((w.heap.push a).push b).push c)[w.heap.size + 1]? = _
    simp only [Array.getElem?_push, Array.size_push]; rw [if_neg (by omega), if_pos trivial]
  have e2 : ∀ a b c : Obj, (((w.alloc a).alloc b).alloc c).heap[w.heap.size + 1 + 1]? = some c := fun a b c => by
    show (((w.heap.push a).push b).push c)[w.heap.size + 1 + 1]? = _
    simp only [Array.getElem?_push, Array.size_push]; rw [if_pos trivial]
  refine ⟨⟨w.heap.size + 1 + 1, w.heap.size + 1, 1, [.slice (some ⟨w.heap.size, 0, none⟩) 1 1], .slice none 0 0⟩, by simp, ?_, ?_, ?_⟩
  · refine ⟨by decide, by decide, by decide, ?_, ?_, ?_, e2 _ _ _, ⟨?_, ?_, ?_⟩, World.ownsRow_nil _ _ _ _, by decide, ?_⟩
    · intro i; rcases i with _ | i <;> simp
    · intro i hi; have : i = 0 := by simp at hi; exact hi
      subst this; decide
    · intro i j; rcases i with _ | i <;> rcases j with _ | j <;> simp
    · exact ⟨by simp, .inr ⟨w.heap.size + 1, 1, _, rfl, Nat.zero_le _, e1 _ _ _, by decide, by decide, rfl, rfl⟩⟩
    · intro i hi
      have : i = 0 := by simp at hi; exact hi
      subst this
      exact ⟨by simp, .inr ⟨w.heap.size, 1, _, rfl, Nat.zero_le _, e0 _ _ _, by decide, by decide, rfl, rfl⟩⟩
    · intro i j b hi hj; simp at hi hj; omega
    · intro a ha; cases ha
  · exact (((Below.refl _ _).alloc (Nat.le_refl _) _).alloc (by simp) _).alloc (by simp; omega) _
  · rintro k (rfl | (e | ⟨i, hi, e⟩) | e)
    · show w.heap.size ≤ w.heap.size + 1 + 1; omega
    · have : w.heap.size + 1 = k := by simpa [Value.ownBlock] using e
      omega
    · have : i = 0 := by simp at hi; exact hi
      subst this
      have : w.heap.size = k := by simpa [Value.ownBlock] using e
      omega
    · cases e

end Go.Proofs.Ytkcaeeighjblkaa
