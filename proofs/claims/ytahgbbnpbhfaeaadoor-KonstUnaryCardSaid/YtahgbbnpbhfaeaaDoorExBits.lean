/- math/bits: Add32, Sub32. No condition. -/
import Derived.Test.YtahgbbnpbhfaeaaDoorExTrim
namespace Go.Proofs.YtahgbbnpbhfaeaaDoor
open Go.RowKit

theorem eret_int2 {k k' : IntKind} {a b c d : Int} (h1 : a = b) (h2 : c = d) : Ending.returned (.tuple #[.int k a, .int k' c]) = .returned (.tuple #[.int k b, .int k' d]) := by rw [h1, h2]

theorem bits_xor_u32_nat (a b : Nat) (ha : a < 4294967296) (hb : b < 4294967296) : bits .xor .u32 (a : Int) (b : Int) = ((a ^^^ b : Nat) : Int) := by
  have hx : a ^^^ b < 2 ^ 32 := Nat.xor_lt_two_pow (by omega) (by omega)
  have h1 : (BitVec.ofInt 32 (a : Int)).toNat = a := by
    rw [BitVec.ofInt_natCast, BitVec.toNat_ofNat]; exact Nat.mod_eq_of_lt (by omega)
  have h2 : (BitVec.ofInt 32 (b : Int)).toNat = b := by
    rw [BitVec.ofInt_natCast, BitVec.toNat_ofNat]; exact Nat.mod_eq_of_lt (by omega)
  show IntKind.u32.wrap ((BitVec.ofInt 32 (a : Int) ^^^ BitVec.ofInt 32 (b : Int)).toNat : Int) = _
  rw [BitVec.toNat_xor, h1, h2]
  simp [IntKind.wrap, IntKind.bits, IntKind.signed]
  omega
theorem wrap_u32_id (n : Int) (h0 : 0 ≤ n) (h1 : n < 2 ^ 32) : IntKind.u32.wrap n = n := by
  simp [IntKind.wrap, IntKind.bits, IntKind.signed]
  omega
theorem bits_u32_nat (a b : Nat) (ha : a < 4294967296) (hb : b < 4294967296) : bits .and .u32 (a : Int) (b : Int) = ((a &&& b : Nat) : Int) ∧ bits .or .u32 (a : Int) (b : Int) = ((a ||| b : Nat) : Int) :=
  bits_nat .u32 32 (by decide) wrap_u32_id a b (by omega) (by omega)
theorem top31 (a : Nat) (h : a < 4294967296) : a.testBit 31 = decide (2147483648 ≤ a) := by
  rw [Nat.testBit_eq_decide_div_mod_eq]
  congr 1
  apply propext
  omega
/-- Is one borrowed? -/
def borrow (x y c : Nat) : Nat := if x < y + c then 1 else 0
theorem borrow_bits (x y c : Nat) (hx : x < 4294967296) (hy : y < 4294967296) (hc : c ≤ 1) :
    bits .or .u32 (bits .and .u32 (bits .xor .u32 IntKind.u32.max (x : Int)) (y : Int)) (bits .and .u32 (bits .xor .u32 IntKind.u32.max (bits .xor .u32 (x : Int) (y : Int))) (((x + 4294967296 - y - c) % 4294967296 : Nat) : Int)) / 2147483648 = ((borrow x y c : Nat) : Int) := by
  have hd : (x + 4294967296 - y - c) % 4294967296 < 4294967296 := Nat.mod_lt _ (by decide)
  obtain ⟨d, he⟩ : ∃ d, d = (x + 4294967296 - y - c) % 4294967296 := ⟨_, rfl⟩
  rw [← he] at hd ⊢
  have hm : (IntKind.u32.max : Int) = ((4294967295 : Nat) : Int) := by decide
  have hxy : x ^^^ y < 4294967296 := Nat.xor_lt_two_pow (n := 32) (by omega) (by omega)
  have h1 : 4294967295 ^^^ x < 4294967296 := Nat.xor_lt_two_pow (n := 32) (by omega) (by omega)
  have h2 : 4294967295 ^^^ (x ^^^ y) < 4294967296 := Nat.xor_lt_two_pow (n := 32) (by omega) (by omega)
  have h3 : (4294967295 ^^^ x) &&& y < 4294967296 := Nat.and_lt_two_pow (n := 32) _ (by omega)
  have h4 : (4294967295 ^^^ (x ^^^ y)) &&& d < 4294967296 := Nat.and_lt_two_pow (n := 32) _ (by omega)
  rw [hm, bits_xor_u32_nat _ _ (by omega) hx, bits_xor_u32_nat _ _ hx hy, bits_xor_u32_nat _ _ (by omega) hxy, (bits_u32_nat _ _ h1 hy).1, (bits_u32_nat _ _ h2 hd).1, (bits_u32_nat _ _ h3 h4).2]
  have h5 : ((4294967295 ^^^ x) &&& y) ||| ((4294967295 ^^^ (x ^^^ y)) &&& d) < 4294967296 := Nat.or_lt_two_pow (n := 32) h3 h4
  have t5 := top31 _ h5
  rw [Nat.testBit_or, Nat.testBit_and, Nat.testBit_and, Nat.testBit_xor, Nat.testBit_xor, Nat.testBit_xor, top31 x hx, top31 y hy, top31 d hd, top31 4294967295 (by decide)] at t5
  obtain ⟨r, hr⟩ : ∃ r, r = ((4294967295 ^^^ x) &&& y) ||| ((4294967295 ^^^ (x ^^^ y)) &&& d) := ⟨_, rfl⟩
  rw [← hr] at h5 t5 ⊢
  have hr2 : r / 2147483648 = if decide (2147483648 ≤ r) then 1 else 0 := by
    by_cases h : 2147483648 ≤ r
    · simp [h]; omega
    · simp [h]; omega
  have hg : ((r : Int) / 2147483648) = ((r / 2147483648 : Nat) : Int) := by omega
  rw [hg, hr2, ← t5]
  unfold borrow
  by_cases hb : x < y + c <;> by_cases k1 : 2147483648 ≤ x <;> by_cases k2 : 2147483648 ≤ y <;> by_cases k3 : 2147483648 ≤ d <;> simp [k1, k2, k3, hb] <;> omega
theorem add32_any (x y c : Nat) (w : World) (hx : x < 4294967296) (hy : y < 4294967296) (hc : c ≤ 1) :
    Calls Tryd.prog 89 #[.int .u32 x, .int .u32 y, .int .u32 c] w fun e w' => e = .returned (.tuple #[.int .u32 ((x + y + c) % 4294967296 : Nat), .int .u32 ((x + y + c) / 4294967296 : Nat)]) ∧ w = w' := by
  go_enter Tryd.func89, Tryd.ntmps89
  go_wp2_with fail
  go_ret2
  exact ⟨eret_int2 (by omega) (by omega), rfl⟩
theorem sub32_any (x y c : Nat) (w : World) (hx : x < 4294967296) (hy : y < 4294967296) (hc : c ≤ 1) :
    Calls Tryd.prog 90 #[.int .u32 x, .int .u32 y, .int .u32 c] w fun e w' => e = .returned (.tuple #[.int .u32 ((x + 4294967296 - y - c) % 4294967296 : Nat), .int .u32 (borrow x y c : Nat)]) ∧ w = w' := by
  have HQ := Lib.hid (borrow_bits x y c hx hy hc)
  go_enter Tryd.func90, Tryd.ntmps90
  go_wp2_with fail
  go_ret2
  have e : ((x : Int) - y - c) % 4294967296 = (((x + 4294967296 - y - c) % 4294967296 : Nat) : Int) := by omega
  refine ⟨eret_int2 e ?_, rfl⟩
  rw [← HQ.out, ← e]
end Go.Proofs.YtahgbbnpbhfaeaaDoor
