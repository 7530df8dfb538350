/- Rows of ints that came in: Index, Contains, Ints. No condition. -/
import Derived.Test.YtmkjajapbkdpiaaTrExpr
namespace Go.Proofs.Ytmkjajapbkdpiaa
open Go.RowKit

def IntsAt (w : World) (a : Option Addr) (n : Nat) (z : List Int) : Prop :=
  z.length = n ∧ ∀ i, i < n → ∃ x, a = some x ∧ w.cell? (x.add i) = some (.int .i64 (z.getD i 0))
theorem IntsAt.below {w w' : World} {a : Option Addr} {n : Nat} {z : List Int} (h : IntsAt w a n z) (hb : Below w.heap.size w w') : IntsAt w' a n z :=
  ⟨h.1, fun i hi => by
    obtain ⟨x, e, hc⟩ := h.2 i hi
    exact ⟨x, e, cell_below hb rfl hc⟩⟩

set_option maxHeartbeats 800000 in
theorem index_any (a : Option Addr) (n cap : Nat) (z : List Int) (v : Int) (w : World) (h : IntsAt w a n z) (hn : n ≤ 1000000000) :
    Calls Try.prog 41 #[.slice a n cap, .int .i64 v] w fun e w' => ∃ r : Int, e = .returned (.int .i64 r) ∧ decide (0 ≤ r) = z.contains v ∧ w = w' := by
  have HZ := Lib.hid h
  have hls : n ≤ 9223372036854775807 := by omega
  clear h
  go_enter Try.func41, Try.ntmps41
  go_wp2_with fail
  go_loopg [8] n (fun g v8 wr => ∃ i : Nat, i ≤ n ∧ v8 = .int .i64 i ∧ g = n - i ∧ wr = w ∧ Hid (∀ j, j < i → z.getD j 0 ≠ v))
  case atStart => exact ⟨0, Nat.zero_le _, rfl, rfl, rfl, Lib.hid (fun j hj => absurd hj (by omega))⟩
  case round =>
    obtain ⟨i, hi, rfl, hg, rfl, Hr⟩ := hrel
    by_cases hlt : i < n
    · obtain ⟨x, rfl, hc⟩ := HZ.out.2 i hlt
      obtain ⟨y, Hy⟩ : ∃ y, Hid (z.getD i 0 = y) := ⟨_, Lib.hid rfl⟩
      rw [Hy.out] at hc
      cases d1 : (v == y) with
      | true =>
        go_wp2_with fail
        go_ret
        refine ⟨i, rfl, ?_, rfl⟩
        have e : v = y := eq_of_beq d1
        have hm : v ∈ z := by
          rw [e, ← Hy.out]
          have hz := HZ.out.1
          simp only [List.getD, List.getElem?_eq_getElem (show i < z.length by omega), Option.getD_some]
          exact List.getElem_mem _
        rw [List.contains_iff_mem.2 hm]
        simp
      | false =>
        go_wp2_with fail
        go_roundg (n - (i + 1))
        case measure => omega
        case rel =>
          refine ⟨i + 1, by omega, by go_num, rfl, rfl, Lib.hid (fun j hj => ?_)⟩
          by_cases hji : j = i
          · subst hji
            rw [Hy.out]
            intro e
            rw [e] at d1
            simp at d1
          · exact Hr.out j (by omega)
    · have hge : n ≤ i := by omega
      clear hlt
      go_wp2_with fail
      go_ret
      refine ⟨-1, rfl, ?_, rfl⟩
      have hm : ¬ v ∈ z := by
        intro hm
        obtain ⟨j, hj, e⟩ := List.getElem_of_mem hm
        have := Hr.out j (by have := HZ.out.1; omega)
        simp [List.getD, hj, e] at this
      have : z.contains v = false := by simpa using hm
      rw [this]
      rfl

theorem contains_any (a : Option Addr) (n cap : Nat) (z : List Int) (v : Int) (w : World) (h : IntsAt w a n z) (hn : n ≤ 1000000000) :
    Calls Try.prog 37 #[.slice a n cap, .int .i64 v] w fun e w' => e = .returned (.bool (z.contains v)) ∧ w = w' := by
  have HI := Lib.hid (index_any a n cap z v w h hn)
  clear h
  go_enter Try.func37, Try.ntmps37
  go_wp2_with (go_at_call 41; refine HI.out.mono ?_; rintro e w1 ⟨r, rfl, hr, rfl⟩; have Hr := Lib.hid hr; clear hr)
  go_ret
  exact ⟨eret_bool Hr.out, rfl⟩

set_option maxHeartbeats 800000 in
theorem ints_same (a b : Option Addr) (n cap cap2 : Nat) (z : List Int) (w : World) (h : IntsAt w a n z) (h2 : IntsAt w b n z) (hn : n ≤ 1000000000) :
    Calls Try.prog 24 #[.slice a n cap, .slice b n cap2] w fun e w' => e = .returned (.bool true) ∧ Below w.heap.size w w' := by
  have HZ := Lib.hid (And.intro h h2)
  have hls : n ≤ 9223372036854775807 := by omega
  have hq : ((n : Int) != (n : Int)) = false := by simp
  clear h h2
  go_enter Try.func24, Try.ntmps24
  go_wp2_with fail
  go_loopg [5] n (fun g v8 wr => ∃ i : Nat, i ≤ n ∧ v8 = .int .i64 i ∧ g = n - i ∧ Hid (Below w.heap.size w wr))
  case atStart => exact ⟨0, Nat.zero_le _, rfl, rfl, Lib.hid (Below.refl _ _)⟩
  case round =>
    obtain ⟨i, hi, rfl, hg, Hr⟩ := hrel
    by_cases hlt : i < n
    · obtain ⟨x, rfl, hc⟩ := (HZ.out.1.below Hr.out).2 i hlt
      obtain ⟨x2, rfl, hc2⟩ := (HZ.out.2.below Hr.out).2 i hlt
      obtain ⟨y, Hy⟩ : ∃ y, Hid (z.getD i 0 = y) := ⟨_, Lib.hid rfl⟩
      rw [Hy.out] at hc hc2
      have HS : (fun w' => w'.cell? (x.add i) = some (.int .i64 y) ∧ w'.cell? (x2.add i) = some (.int .i64 y)) wr.drew := ⟨hc, hc2⟩
      have hqy : (y != y) = false := by simp
      clear hc hc2
      go_upto_region 6 with fail
      refine wp_region_pi (fun w' => w'.cell? (x.add i) = some (.int .i64 y) ∧ w'.cell? (x2.add i) = some (.int .i64 y)) [(0, 1), (1, 1), (2, 1), (3, 0), (4, 1), (5, 1), (6, 1), (7, 0), (8, 1)] [] (by kernel_rfl) (by kernel_rfl) (fun _ _ _ _ _ h => h) (HS) ?_
      refine pd_pu (some 17) rfl rfl (by rfl) (fun ws => by go_simp; try with_reducible rfl) ?_; go_frame   -- 0 Op.move (Operand.tmp 0)
      refine pd_pu (some 18) rfl rfl (by rfl) (fun ws => by go_simp; try with_reducible rfl) ?_; go_frame   -- 1 Op.move (Operand.tmp 5)
      refine pd_pu (some 19) rfl rfl (by rfl) (fun ws => by go_simp; try with_reducible rfl) ?_; go_frame   -- 2 Op.indexAddr 27 (Operand.tmp 17) (Operand.tmp 18)
      refine pd_ld (some 20) rfl rfl (by rfl) (fun ws HS => by go_split_ands; go_simp; try with_reducible rfl) ?_; go_frame   -- 3 Op.load 3 (Operand.tmp 19)
      refine pd_pu (some 21) rfl rfl (by rfl) (fun ws => by go_simp; try with_reducible rfl) ?_; go_frame   -- 4 Op.move (Operand.tmp 1)
      refine pd_pu (some 22) rfl rfl (by rfl) (fun ws => by go_simp; try with_reducible rfl) ?_; go_frame   -- 5 Op.move (Operand.tmp 5)
      refine pd_pu (some 23) rfl rfl (by rfl) (fun ws => by go_simp; try with_reducible rfl) ?_; go_frame   -- 6 Op.indexAddr 27 (Operand.tmp 21) (Operand.tmp 22)
      refine pd_ld (some 24) rfl rfl (by rfl) (fun ws HS => by go_split_ands; go_simp; try with_reducible rfl) ?_; go_frame   -- 7 Op.load 3 (Operand.tmp 23)
      refine pd_pu (some 25) rfl rfl (by rfl) (fun ws => by go_simp; try with_reducible rfl) ?_; go_frame   -- 8 Op.binOp BinOp.neq 3 (Operand.tmp 20) (Operand.tmp 24) 3
      refine pi_tail (r := []) rfl ?_; simp only [opsAt]
      go_wp2_with fail
      go_roundg (n - (i + 1))
      case measure => omega
      case rel => exact ⟨i + 1, by omega, by go_num, rfl, Lib.hid (Hr.out.trans (Below.mono (Below.refl _ wr).drew Hr.out.size))⟩
    · have hge : n ≤ i := by omega
      clear hlt
      go_wp2_with fail
      go_ret
      exact ⟨rfl, Hr.out⟩
end Go.Proofs.Ytmkjajapbkdpiaa
