/- Small contracts of clocks: is, count, slices.Clone, New. -/
import Derived.Test.YtkcaeeighjblkaaRegion
namespace Go.Proofs.Ytkcaeeighjblkaa
open Go.RowKit


theorem is_nil (who : Int) (w : World) :
    Calls Try.prog 29 #[.pointer none, .int .i64 who] w fun e w' => e = .returned (.bool false) ∧ w = w' := by
  go_enter Try.func29, Try.ntmps29
  go_wp2
  go_ret
  exact ⟨rfl, rfl⟩

theorem is_any (bo : Nat) (a : Option Addr) (n cap : Nat) (who : Int) (w : World) (h : w.cell? ⟨bo, 0, none⟩ = some (.slice a n cap)) (_hn : n ≤ 1000000) :
    Calls Try.prog 29 #[.pointer (some ⟨bo, 0, none⟩), .int .i64 who] w fun e w' => e = .returned (.bool (decide (0 ≤ who) && decide (who < n))) ∧ w = w' := by
  go_enter Try.func29, Try.ntmps29
  go_wp2
  all_goals (go_ret; refine ⟨eret_bool ?_, rfl⟩; grind)

theorem count_any (v : Value) (n : Nat) (xs : List Int) (of : Int) (w : World) (hown : w.ownsRow 0 3 1 v n (ints xs)) (hn : n ≤ 1000000) (h0 : 0 ≤ of) :
    Calls Try.prog 38 #[v, .int .i64 of] w fun e w' => e = .returned (.int .i64 (xs.getD of.toNat 0)) ∧ w = w' := by
  obtain ⟨k, rfl⟩ := Int.eq_ofNat_of_zero_le h0
  have hl : xs.length = n := by have := hown.1; simpa using this
  rcases hown.2 with ⟨rfl, rfl⟩ | ⟨g, cap, cur, rfl, _, hg, hnc, hcm, hcs, htake⟩
  · have hx : xs = [] := List.eq_nil_of_length_eq_zero hl
    subst hx
    clear hown
    go_enter Try.func38, Try.ntmps38
    go_wp2
    go_ret
    exact ⟨by simp, rfl⟩
  · by_cases hk : k < n
    · have hcell : w.cell? ⟨g, k, none⟩ = some (.int .i64 (xs.getD k 0)) := by
        have := hown.cells (g := g) rfl k (.int .i64 (xs.getD k 0)) (by simp [List.getD, hl, hk])
        simpa [Addr.add_lit] using this
      clear hown htake hg hcs
      go_enter Try.func38, Try.ntmps38
      go_wp2
      go_ret
      exact ⟨by simp [hl, hk], rfl⟩
    · clear hown htake hg hcs
      go_enter Try.func38, Try.ntmps38
      go_wp2
      go_ret
      exact ⟨by simp [List.getD, hl, hk], rfl⟩

/-- slices.Clone of a row of ints: a row of the call's own, or nil. -/
theorem clone_any (v : Value) (n : Nat) (xs : List Int) (w : World) (hown : w.ownsRow 0 3 1 v n (ints xs)) (hn : n ≤ 1000000) :
    Calls Try.prog 30 #[v] w fun e w' => ∃ a cap, e = .returned (.slice a n cap) ∧ w'.ownsRow w.heap.size 3 1 (.slice a n cap) n (ints xs) ∧ Below w.heap.size w w' := by
  obtain ⟨i0, hi, hz0, hz1, hz2⟩ := info_parts Try.info3
  have q := fun (w : World) (a : Option Addr) (n c : Nat) => Lib.run_eql_slice_nil (P := Try.prog) w 46 3 a n c 0 0 Try.underlying46
  have hl : xs.length = n := by have := hown.1; simpa using this
  rcases hown.2 with ⟨rfl, rfl⟩ | ⟨g, cap, cur, rfl, _, hg, hnc, hcm, hcs, htake⟩
  · have hx : xs = [] := List.eq_nil_of_length_eq_zero hl
    subst hx
    clear hown
    go_enter Try.func30, Try.ntmps30
    go_wp2
    go_ret
    exact ⟨_, _, rfl, World.ownsRow_nil _ _ _ _, Below.refl _ _⟩
  · have hsrc := fun k hk => ints_cell hown k hk
    have hbk : w.heap.size ≤ (w.alloc (.cells #[] 3)).heap.size := by simp
    clear htake hg hcs
    go_enter Try.func30, Try.ntmps30
    go_wp2_with (at_builtin; refine wpList_append_ints _ rfl _ _ rfl w.heap.size _ 0 [] rfl (World.ownsRow_made w #[] 0 (Nat.le_refl _) (by decide) rfl) ⟨g, 0, none⟩ n cap xs rfl hl ?c1 (by omega) hbk ?_)
    case c1 =>
      intro j hj
      have := hsrc j hj
      rw [Addr.add_lit, Nat.zero_add, World.cell?_alloc_lt _ _ _ (World.block_lt_of_cell? _ _ this)]
      exact this
    · intro v' w1 hown1 hgrow _
      replace hown1 : w1.ownsRow w.heap.size 3 1 v' n (ints xs) := by simpa using hown1
      obtain ⟨a1, c1, rfl⟩ := row_form hown1
      go_wp2
      go_ret
      refine ⟨a1, c1, by simp, hown1, ?_⟩
      exact ((Below.refl _ _).alloc (Nat.le_refl _) _).grown hgrow hbk (by intro k hk; cases hk; exact Nat.le_refl _)

end Go.Proofs.Ytkcaeeighjblkaa
