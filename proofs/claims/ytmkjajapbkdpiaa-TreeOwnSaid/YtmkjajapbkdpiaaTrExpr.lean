/- Expr and Stmt, the program's and the document's. No condition. -/
import Derived.Test.YtmkjajapbkdpiaaTrRows
namespace Go.Proofs.Ytmkjajapbkdpiaa
open Go.RowKit

def exprK (k : Int) : Bool := decide (40 ≤ k) && decide (k ≤ 52) && (k != 47)
def stmtK (k : Int) : Bool := (decide (60 ≤ k) && decide (k ≤ 77) && (k != 65) && (k != 76)) || (k == 4) || (k == 5)

theorem texpr_any (k f t : Int) (s : ByteArray) (a : Option Addr) (n cap : Nat) (w : World) : Calls Try.prog 25 #[.agg #[.int .i64 k, .int .i64 f, .int .i64 t, .string s, .slice a n cap]] w fun e w' => e = .returned (.bool (exprK k)) ∧ Below w.heap.size w w' := by
  have hb := (Below.refl _ w).alloc (Nat.le_refl _) (.cells #[.int .i64 k, .int .i64 f, .int .i64 t, .string s, .slice a n cap] 24)
  cases d1 : decide (40 ≤ k) with
  | false =>
    go_enter Try.func25, Try.ntmps25
    go_wp2_with fail
    go_ret
    exact ⟨eret_bool (by unfold exprK; rw [d1]; rfl), hb⟩
  | true =>
    cases d2 : decide (k ≤ 52) with
    | false =>
      go_enter Try.func25, Try.ntmps25
      go_wp2_with fail
      go_ret
      exact ⟨eret_bool (by unfold exprK; rw [d1, d2]; rfl), hb⟩
    | true =>
      go_enter Try.func25, Try.ntmps25
      go_wp2_with fail
      go_ret
      exact ⟨eret_bool (by unfold exprK; rw [d1, d2]; rfl), hb⟩
theorem rexpr_any (k f t : Int) (s : ByteArray) (a : Option Addr) (n cap : Nat) (w : World) : Calls Try.prog 26 #[.agg #[.int .i64 k, .int .i64 f, .int .i64 t, .string s, .slice a n cap]] w fun e w' => e = .returned (.bool (exprK k)) ∧ Below w.heap.size w w' := by
  have hb := (Below.refl _ w).alloc (Nat.le_refl _) (.cells #[.int .i64 k, .int .i64 f, .int .i64 t, .string s, .slice a n cap] 24)
  cases d1 : decide (40 ≤ k) with
  | false =>
    go_enter Try.func26, Try.ntmps26
    go_wp2_with fail
    go_ret
    exact ⟨eret_bool (by unfold exprK; rw [d1]; rfl), hb⟩
  | true =>
    cases d2 : decide (k ≤ 52) with
    | false =>
      go_enter Try.func26, Try.ntmps26
      go_wp2_with fail
      go_ret
      exact ⟨eret_bool (by unfold exprK; rw [d1, d2]; rfl), hb⟩
    | true =>
      go_enter Try.func26, Try.ntmps26
      go_wp2_with fail
      go_ret
      exact ⟨eret_bool (by unfold exprK; rw [d1, d2]; rfl), hb⟩
theorem tstmt_any (k f t : Int) (s : ByteArray) (a : Option Addr) (n cap : Nat) (w : World) : Calls Try.prog 27 #[.agg #[.int .i64 k, .int .i64 f, .int .i64 t, .string s, .slice a n cap]] w fun e w' => e = .returned (.bool (stmtK k)) ∧ Below w.heap.size w w' := by
  have hb := (Below.refl _ w).alloc (Nat.le_refl _) (.cells #[.int .i64 k, .int .i64 f, .int .i64 t, .string s, .slice a n cap] 24)
  cases d1 : (k == 65) with
  | true =>
    go_enter Try.func27, Try.ntmps27
    go_wp2_with fail
    go_ret
    exact ⟨eret_bool (by rw [beq_iff_eq] at d1; subst d1; rfl), hb⟩
  | false =>
    cases d2 : (k == 76) with
    | true =>
      go_enter Try.func27, Try.ntmps27
      go_wp2_with fail
      go_ret
      exact ⟨eret_bool (by rw [beq_iff_eq] at d2; subst d2; rfl), hb⟩
    | false =>
      cases d3 : (k == 4) with
      | true =>
        go_enter Try.func27, Try.ntmps27
        go_wp2_with fail
        go_ret
        exact ⟨eret_bool (by unfold stmtK; rw [d3]; simp), hb⟩
      | false =>
        cases d4 : (k == 5) with
        | true =>
          go_enter Try.func27, Try.ntmps27
          go_wp2_with fail
          go_ret
          exact ⟨eret_bool (by unfold stmtK; rw [d4]; simp), hb⟩
        | false =>
          have e1 : (k != 65) = true := by simp [bne, d1]
          have e2 : (k != 76) = true := by simp [bne, d2]
          have he : stmtK k = (decide (60 ≤ k) && decide (k ≤ 77)) := by unfold stmtK; rw [d3, d4, e1, e2]; simp
          have He := Lib.hid he
          clear he e1 e2
          cases d5 : decide (60 ≤ k) with
          | false =>
            go_enter Try.func27, Try.ntmps27
            go_wp2_with fail
            go_ret
            exact ⟨eret_bool (by rw [He.out, d5]; rfl), hb⟩
          | true =>
            go_enter Try.func27, Try.ntmps27
            go_wp2_with fail
            go_ret
            exact ⟨eret_bool (by rw [He.out, d5]; rfl), hb⟩
theorem rstmt_any (k f t : Int) (s : ByteArray) (a : Option Addr) (n cap : Nat) (w : World) : Calls Try.prog 28 #[.agg #[.int .i64 k, .int .i64 f, .int .i64 t, .string s, .slice a n cap]] w fun e w' => e = .returned (.bool (stmtK k)) ∧ Below w.heap.size w w' := by
  have hb := (Below.refl _ w).alloc (Nat.le_refl _) (.cells #[.int .i64 k, .int .i64 f, .int .i64 t, .string s, .slice a n cap] 24)
  cases d1 : decide (60 ≤ k) with
  | false =>
    cases d5 : (k == 4) with
    | true =>
      go_enter Try.func28, Try.ntmps28
      go_wp2_with fail
      go_ret
      exact ⟨eret_bool (by unfold stmtK; rw [d1, d5]; simp), hb⟩
    | false =>
      go_enter Try.func28, Try.ntmps28
      go_wp2_with fail
      go_ret
      exact ⟨eret_bool (by unfold stmtK; rw [d1, d5]; simp), hb⟩
  | true =>
    cases d2 : decide (k ≤ 77) with
    | false =>
      have d5 : (k == 4) = false := by simp at d1 ⊢; omega
      go_enter Try.func28, Try.ntmps28
      go_wp2_with fail
      go_ret
      exact ⟨eret_bool (by unfold stmtK; rw [d1, d2, d5]; simp), hb⟩
    | true =>
      have d5 : (k == 4) = false := by simp at d1 ⊢; omega
      cases d3 : (k != 65) with
      | false =>
        go_enter Try.func28, Try.ntmps28
        go_wp2_with fail
        go_ret
        exact ⟨eret_bool (by unfold stmtK; rw [d1, d2, d3, d5]; simp), hb⟩
      | true =>
        cases d4 : (k != 76) with
        | false =>
          go_enter Try.func28, Try.ntmps28
          go_wp2_with fail
          go_ret
          exact ⟨eret_bool (by unfold stmtK; rw [d1, d2, d3, d4, d5]; simp), hb⟩
        | true =>
          go_enter Try.func28, Try.ntmps28
          go_wp2_with fail
          go_ret
          exact ⟨eret_bool (by unfold stmtK; rw [d1, d2, d3, d4]; rfl), hb⟩
end Go.Proofs.Ytmkjajapbkdpiaa
