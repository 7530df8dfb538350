/- exact.Small. No condition. -/
import Derived.Test.YtahgbbnpbhfaeaaDoorExBack
namespace Go.Proofs.YtahgbbnpbhfaeaaDoor
open Go.RowKit Go.Shelf
attribute [local go_sem] Oper.semAt_some

def foldU : List Nat → Nat
  | [] => 0
  | [x] => x
  | x :: y :: _ => x * 4294967296 + y
theorem foldU_two (z : List Nat) (hl : z.length ≤ 2) : foldU z.reverse = ofW z := by
  match z, hl with
  | [], _ => rfl
  | [x], _ => simp [foldU, ofW]
  | [x, y], _ => simp [foldU, ofW]; omega
  | _ :: _ :: _ :: _, hl => simp at hl
theorem foldU_step (l : List Nat) (x : Nat) (hl : l.length < 2) (h : Words l) (hx : x < 4294967296) : foldU l < 4294967296 ∧ foldU (l ++ [x]) = foldU l * 4294967296 + x := by
  match l, hl, h with
  | [], _, _ => simp [foldU]
  | [y], _, h =>
    have hy := h y (by simp)
    simp [foldU, hy]
  | _ :: _ :: _, hl, _ => simp at hl; omega
theorem bits_or_u64 (y x : Nat) (hy : y < 4294967296) (hx : x < 4294967296) : bits .or .u64 ((y * 4294967296 : Nat) : Int) (x : Int) = ((y * 4294967296 + x : Nat) : Int) := by
  have h := (bits_nat .u64 64 (by decide) (fun n h0 h1 => wrap_u64_id n h0 (by omega)) (y * 4294967296) x (by omega) (by omega)).2
  rw [h]
  have := Nat.two_pow_add_eq_or_of_lt (i := 32) (b := x) (by omega) y
  rw [show y * 4294967296 = 2 ^ 32 * y by rw [Nat.mul_comm], ← this]

def fits64 (i : Int) : Bool := decide (-9223372036854775808 ≤ i ∧ i ≤ 9223372036854775807)

end Go.Proofs.YtahgbbnpbhfaeaaDoor
