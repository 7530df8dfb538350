/- The reference's size, a head of two bytes: whole. -/
import Derived.Test.YtdgjegkoncodaaaDoorRsSize
namespace Go.Proofs.YtdgjegkoncodaaaDoor
open Go.RowKit

theorem rsz_two (y : UInt8) (t : List UInt8) (h : 194 ≤ y.toNat) (h2 : y.toNat < 224) : rsz (y :: t) = if 1 < (y :: t).length ∧ ((y :: t).getD 1 0).toNat / 64 = 2 then 2 else 0 := by
  have b0 := y.toNat_lt
  rw [rsz_N, Lib.decodeL_N]
  simp only [List.getD_cons_zero]
  have b1 := ((y :: t).getD 1 0).toNat_lt
  generalize y.toNat = x0 at *
  generalize ((y :: t).getD 1 0).toNat = x1 at *
  generalize ((y :: t).getD 2 0).toNat = x2 at *
  generalize ((y :: t).getD 3 0).toNat = x3 at *
  have hd : Lib.decodeN (y :: t).length x0 x1 x2 x3 = if 1 < (y :: t).length ∧ x1 / 64 = 2 then (x0 % 32 * 64 + x1 % 64, 2) else (65533, 1) := by
    unfold Lib.decodeN
    rw [if_neg (show ¬ x0 < 128 by omega)]
    by_cases c1 : 1 < (y :: t).length ∧ x1 / 64 = 2
    · rw [if_pos (show x0 / 32 = 6 ∧ (1 < (y :: t).length ∧ x1 / 64 = 2) from ⟨by omega, c1⟩), if_pos (show x0 % 32 * 64 + x1 % 64 ≥ 128 by omega), if_pos c1]
    · rw [if_neg (show ¬ (x0 / 32 = 6 ∧ (1 < (y :: t).length ∧ x1 / 64 = 2)) from fun h => c1 h.2), if_neg (by omega), if_neg (by omega), if_neg c1]
  rw [hd]
  by_cases c1 : 1 < (y :: t).length ∧ x1 / 64 = 2
  · rw [if_pos c1, if_pos c1, if_neg (show ¬ (_ ∧ (2 : Nat) = 1) from fun h => absurd h.2 (by decide))]
  · rw [if_neg c1, if_neg c1]
    rfl
set_option maxRecDepth 100000 in
set_option maxHeartbeats 1600000 in
theorem rsize_two (s : ByteArray) (W : World) (h0 : 0 < s.size) (hy : 194 ≤ s[0].toNat) (hy2 : s[0].toNat < 224) : Calls Tryd.prog 30 #[.string s] W (fun e W' => e = .returned (.int .i64 (rsz s.data.toList : Int)) ∧ W = W') := by
  have HR := Lib.hid (show s.data.toList = s[0] :: s.data.toList.drop 1 from by have h := drop_at h0; rw [List.drop_zero] at h; exact h)
  have HZ := Lib.hid (show rsz s.data.toList = if 1 < s.size ∧ (s.data.toList.getD 1 0).toNat / 64 = 2 then 2 else 0 from by
    have h := rsz_two s[0] (s.data.toList.drop 1) hy hy2
    rw [← HR.out, bytes_len] at h
    exact h)
  obtain ⟨v, Hv⟩ : ∃ v, Hid (rsz s.data.toList = v) := ⟨_, Lib.hid rfl⟩
  rw [Hv.out] at HZ ⊢
  obtain ⟨z, hz⟩ : ∃ z, s[0].toNat = z := ⟨_, rfl⟩
  rw [hz] at hy hy2
  have h0I : (0 : Int) < (s.size : Int) := by omega
  have d1 : decide ((z : Int) < 128) = false := decide_eq_false (by omega)
  have e2 : (194 : Int) ≤ (z : Int) := by omega
  have e3 : (z : Int) < 224 := by omega
  by_cases hl : 1 < s.size
  · have d5 : decide ((s.size : Int) < 2) = false := decide_eq_false (by omega)
    have hlI : (1 : Int) < (s.size : Int) := by omega
    obtain ⟨y, hy1⟩ : ∃ y, s[1].toNat = y := ⟨_, rfl⟩
    have HY := Lib.hid (show y < 256 from by rw [← hy1]; exact s[1].toNat_lt)
    have HG := Lib.hid (show (s.data.toList.getD 1 0).toNat = y from by rw [← hy1, List.getD, ← List.head?_drop, drop_at hl]; rfl)
    rw [HG.out] at HZ
    have a1 := i64_and31 (z : Int)
    have a2 := u8_and192 y HY.out
    have a3 := u8_and63 y HY.out
    by_cases hc : y / 64 = 2
    · rw [decide_eq_true hc] at a2
      rw [if_pos ⟨hl, hc⟩] at HZ
      have a4 : (bits .and .u8 (y : Int) 192 != 128) = false := by simp only [bne, a2, Bool.not_true]
      go_enter Tryd.func30, Tryd.ntmps30
      go_wp2_with fail
      have a5 : IntKind.i64.wrap ((z : Int) % 32 * 64) = ((z % 32 * 64 : Nat) : Int) := by rw [IntKind.wrap_i64]; omega
      have a6 := i64_or6 (z % 32) (y % 64) (by omega) (by omega)
      obtain ⟨u, Hu⟩ : ∃ u, Hid (z % 32 * 64 + y % 64 = u) := ⟨_, Lib.hid rfl⟩
      have Hu1 := Lib.hid (show 128 ≤ u ∧ u < 2048 from by rw [← Hu.out]; omega)
      rw [Hu.out] at a6
      have HA6 := Lib.hid (show bits .or .i64 ((z : Int) % 32 * 64) ((y : Int) % 64) = (u : Int) from by rw [← a6]; congr 1 <;> omega)
      go_loopg [6, 7] 1 (fun g v6 v7 wr => wr = W ∧ ((g = 1 ∧ v6 = .int .i64 ((z : Int) % 32) ∧ v7 = .int .i64 1) ∨ (g = 0 ∧ v6 = .int .i64 (u : Int) ∧ v7 = .int .i64 2)))
      case atStart => exact ⟨rfl, .inl ⟨rfl, rfl, rfl⟩⟩
      case round =>
        obtain ⟨rfl, ⟨rfl, rfl, rfl⟩ | ⟨rfl, rfl, rfl⟩⟩ := hrel
        · go_wp2_with fail
          go_roundg 0
          case measure => omega
          case rel => exact ⟨rfl, .inr ⟨rfl, congrArg (Value.int IntKind.i64) HA6.out, rfl⟩⟩
        · have u1 : decide ((u : Int) < 128) = false := decide_eq_false (by have := Hu1.out; omega)
          have u2 : decide ((1114111 : Int) < (u : Int)) = false := decide_eq_false (by have := Hu1.out; omega)
          have u3 : decide ((55296 : Int) ≤ (u : Int)) = false := decide_eq_false (by have := Hu1.out; omega)
          go_wp2_with fail
          go_ret
          exact ⟨by rw [HZ.out]; rfl, rfl⟩
    · rw [decide_eq_false hc] at a2
      rw [if_neg (fun h => hc h.2)] at HZ
      have a4 : (bits .and .u8 (y : Int) 192 != 128) = true := by simp only [bne, a2, Bool.not_false]
      go_enter Tryd.func30, Tryd.ntmps30
      go_wp2_with fail
      go_loopg [6, 7] 0 (fun g v6 v7 wr => g = 0 ∧ v7 = .int .i64 1 ∧ wr = W)
      case atStart => exact ⟨rfl, rfl, rfl⟩
      case round =>
        obtain ⟨rfl, rfl, rfl⟩ := hrel
        go_wp2_with fail
        go_ret
        exact ⟨by rw [HZ.out]; rfl, rfl⟩
  · have d5 : (s.size : Int) < 2 := by omega
    rw [if_neg (fun h => hl h.1)] at HZ
    rw [HZ.out]
    go_enter Tryd.func30, Tryd.ntmps30
    go_wp2_with fail
    go_ret
    exact ⟨rfl, rfl⟩
end Go.Proofs.YtdgjegkoncodaaaDoor
