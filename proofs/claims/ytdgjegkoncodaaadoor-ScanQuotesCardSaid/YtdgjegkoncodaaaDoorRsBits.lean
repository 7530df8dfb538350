/- The bits that the reference's size reads. -/
import Derived.Test.YtdgjegkoncodaaaDoorRsValid
import Derived.Laws.Bits128
namespace Go.Proofs.YtdgjegkoncodaaaDoor

theorem i64_andm (n : Int) (k : Nat) (m : Int) (hm : (BitVec.ofInt 64 m).toNat = 2 ^ k - 1) (hk : k ≤ 5) : bits .and .i64 n m = n % 2 ^ k := by
  have key : (BitVec.ofInt 64 n &&& BitVec.ofInt 64 m).toNat = (n % ((2 ^ 64 : Nat) : Int)).toNat % 2 ^ k := by
    rw [BitVec.toNat_and, BitVec.toNat_ofInt, hm, Nat.and_two_pow_sub_one_eq_mod]
  show IntKind.i64.wrap ((BitVec.ofInt 64 n &&& BitVec.ofInt 64 m).toNat : Nat) = n % 2 ^ k
  rw [key, IntKind.wrap_i64]
  have h : k = 0 ∨ k = 1 ∨ k = 2 ∨ k = 3 ∨ k = 4 ∨ k = 5 := by omega
  rcases h with rfl | rfl | rfl | rfl | rfl | rfl <;> omega
theorem i64_and31 (n : Int) : bits .and .i64 n 31 = n % 32 := i64_andm n 5 31 (by decide) (by decide)
theorem i64_and15 (n : Int) : bits .and .i64 n 15 = n % 16 := i64_andm n 4 15 (by decide) (by decide)
theorem i64_and7 (n : Int) : bits .and .i64 n 7 = n % 8 := i64_andm n 3 7 (by decide) (by decide)
theorem u8_tab : ((List.range 256).all fun y => (bits .and .u8 (y : Int) 63 == ((y % 64 : Nat) : Int)) && ((bits .and .u8 (y : Int) 192 == 128) == decide (y / 64 = 2))) = true := by kernel_rfl
theorem u8_and63 (y : Nat) (h : y < 256) : bits .and .u8 (y : Int) 63 = ((y % 64 : Nat) : Int) := by
  have h1 := List.all_eq_true.1 u8_tab y (List.mem_range.2 h)
  rw [Bool.and_eq_true] at h1
  exact eq_of_beq h1.1
theorem u8_and192 (y : Nat) (h : y < 256) : (bits .and .u8 (y : Int) 192 == 128) = decide (y / 64 = 2) := by
  have h1 := List.all_eq_true.1 u8_tab y (List.mem_range.2 h)
  rw [Bool.and_eq_true] at h1
  exact eq_of_beq h1.2
theorem i64_or6 (a b : Nat) (ha : a < 1048576) (hb : b < 64) : bits .or .i64 ((a * 64 : Nat) : Int) (b : Int) = ((a * 64 + b : Nat) : Int) := by
  rw [bits_join .i64 40 (by decide) (fun n h0 h1 => by rw [IntKind.wrap_i64]; omega) 6 _ _ (by omega) (by omega) (by omega) (by omega) (by omega) (by omega)]
  omega
end Go.Proofs.YtdgjegkoncodaaaDoor
