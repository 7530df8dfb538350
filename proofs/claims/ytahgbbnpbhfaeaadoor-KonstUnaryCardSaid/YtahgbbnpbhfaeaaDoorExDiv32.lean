/- math/bits.Div32 by a piece. No condition. -/
import Derived.Test.YtahgbbnpbhfaeaaDoorJ4
namespace Go.Proofs.YtahgbbnpbhfaeaaDoor
open Go.RowKit

set_option maxRecDepth 100000 in
set_option maxHeartbeats 1600000 in
theorem div32_any (hi lo : Nat) (w : World) (h1 : hi < 1000000000) (h2 : lo < 4294967296) :
    Calls Tryd.prog 55 #[.int .u32 (hi : Int), .int .u32 (lo : Int), .int .u32 1000000000] w fun e w' =>
      e = .returned (.tuple #[.int .u32 ((hi * 4294967296 + lo) / 1000000000 : Nat), .int .u32 ((hi * 4294967296 + lo) % 1000000000 : Nat)]) ∧ Below w.heap.size w w' := by
  obtain ⟨X, HX⟩ : ∃ X, Hid (hi * 4294967296 + lo = X) := ⟨_, Lib.hid rfl⟩
  have hX : X < 4294967296000000000 := by rw [← HX.out]; omega
  have e3 : bits .or .u64 ((hi : Int) * 4294967296) (lo : Int) = (X : Int) := by
    have := bits_or_u64 hi lo (by omega) h2
    rw [HX.out] at this
    rw [show (hi : Int) * 4294967296 = ((hi * 4294967296 : Nat) : Int) by omega]
    exact this
  have E3 := Lib.hid e3
  clear e3
  rw [HX.out]
  have hne : ((1000000000 : Int) ≤ (hi : Int)) = False := by simp; omega
  go_enter Tryd.func55, Tryd.ntmps55
  go_upto_region 4 with fail
  rw [E3.out]
  go_quiet (fail)
  go_wp2_with fail
  go_ret2
  exact ⟨eret_int2 (by omega) (by omega), below_drewN (Below.refl _ w) _⟩
end Go.Proofs.YtahgbbnpbhfaeaaDoor
