/- The reference's size: UNDER WAY. -/
import Derived.Test.YtdgjegkoncodaaaDoorRsBits
namespace Go.Proofs.YtdgjegkoncodaaaDoor
open Go.RowKit

theorem rsz_N (l : List UInt8) : rsz l = if (Lib.decodeL l).1 = 65533 ∧ (Lib.decodeL l).2 = 1 then 0 else (Lib.decodeL l).2 := rfl
theorem rsz_low (y : UInt8) (t : List UInt8) (h : y.toNat < 128) : rsz (y :: t) = 1 := by
  rcases dec_cases (y :: t) (List.cons_ne_nil _ _) with ⟨h1, h2⟩ | ⟨h1, h2⟩ | ⟨h1, h2, h3, h4⟩
  · rw [rsz_N, h2]
    simp only [List.getD_cons_zero]
    rw [if_neg (by omega)]
  · simp only [List.getD_cons_zero] at h1; omega
  · have h5 := h4 0 (by omega)
    simp only [List.getD_cons_zero] at h5; omega
set_option maxRecDepth 100000 in
set_option maxHeartbeats 1600000 in
theorem rsize_low (s : ByteArray) (W : World) (h0 : 0 < s.size) (hy : s[0].toNat < 128) : Calls Tryd.prog 30 #[.string s] W (fun e W' => e = .returned (.int .i64 (rsz s.data.toList : Int)) ∧ W = W') := by
  have HR := Lib.hid (show s.data.toList = s[0] :: s.data.toList.drop 1 from by have h := drop_at h0; rw [List.drop_zero] at h; exact h)
  have HZ := Lib.hid (show rsz s.data.toList = 1 from by rw [HR.out]; exact rsz_low _ _ hy)
  rw [HZ.out]
  obtain ⟨z, hz⟩ : ∃ z, s[0].toNat = z := ⟨_, rfl⟩
  rw [hz] at hy
  have hzI : (z : Int) < 128 := by omega
  have h0I : (0 : Int) < (s.size : Int) := by omega
  go_enter Tryd.func30, Tryd.ntmps30
  go_wp2_with fail
  go_ret
  exact ⟨rfl, rfl⟩
theorem rsz_bad (y : UInt8) (t : List UInt8) (h : 128 ≤ y.toNat) (h2 : y.toNat < 194 ∨ 245 ≤ y.toNat) : rsz (y :: t) = 0 := by
  have b0 := y.toNat_lt
  rw [rsz_N, Lib.decodeL_N]
  simp only [List.getD_cons_zero]
  have b1 := ((y :: t).getD 1 0).toNat_lt
  have b2 := ((y :: t).getD 2 0).toNat_lt
  have b3 := ((y :: t).getD 3 0).toNat_lt
  generalize y.toNat = x0 at *
  generalize ((y :: t).getD 1 0).toNat = x1 at *
  generalize ((y :: t).getD 2 0).toNat = x2 at *
  generalize ((y :: t).getD 3 0).toNat = x3 at *
  have hd : Lib.decodeN (y :: t).length x0 x1 x2 x3 = (65533, 1) := by
    unfold Lib.decodeN
    rw [if_neg (by omega)]
    by_cases c1 : x0 / 32 = 6 ∧ (1 < (y :: t).length ∧ x1 / 64 = 2)
    · rw [if_pos c1, if_neg (by omega)]
    · rw [if_neg c1, if_neg (by omega)]
      by_cases c3 : x0 / 8 = 30 ∧ (1 < (y :: t).length ∧ x1 / 64 = 2) ∧ (2 < (y :: t).length ∧ x2 / 64 = 2) ∧ (3 < (y :: t).length ∧ x3 / 64 = 2)
      · rw [if_pos c3, if_neg (by omega)]
      · rw [if_neg c3]
  rw [hd]
  rfl
set_option maxRecDepth 100000 in
set_option maxHeartbeats 1600000 in
theorem rsize_bad (s : ByteArray) (W : World) (h0 : 0 < s.size) (hy : 128 ≤ s[0].toNat) (hy2 : s[0].toNat < 194 ∨ 245 ≤ s[0].toNat) : Calls Tryd.prog 30 #[.string s] W (fun e W' => e = .returned (.int .i64 (rsz s.data.toList : Int)) ∧ W = W') := by
  have HR := Lib.hid (show s.data.toList = s[0] :: s.data.toList.drop 1 from by have h := drop_at h0; rw [List.drop_zero] at h; exact h)
  have HZ := Lib.hid (show rsz s.data.toList = 0 from by rw [HR.out]; exact rsz_bad _ _ hy hy2)
  rw [HZ.out]
  obtain ⟨z, hz⟩ : ∃ z, s[0].toNat = z := ⟨_, rfl⟩
  rw [hz] at hy hy2
  have h0I : (0 : Int) < (s.size : Int) := by omega
  have d1 : decide ((z : Int) < 128) = false := decide_eq_false (by omega)
  rcases hy2 with h | h
  · have d2 : decide ((194 : Int) ≤ (z : Int)) = false := decide_eq_false (by omega)
    have d3 : decide ((224 : Int) ≤ (z : Int)) = false := decide_eq_false (by omega)
    have d4 : decide ((240 : Int) ≤ (z : Int)) = false := decide_eq_false (by omega)
    go_enter Tryd.func30, Tryd.ntmps30
    go_wp2_with fail
    go_ret
    exact ⟨rfl, rfl⟩
  · have e2 : (194 : Int) ≤ (z : Int) := by omega
    have e3 : (224 : Int) ≤ (z : Int) := by omega
    have e4 : (240 : Int) ≤ (z : Int) := by omega
    have d2 : decide ((z : Int) < 224) = false := decide_eq_false (by omega)
    have d3 : decide ((z : Int) < 240) = false := decide_eq_false (by omega)
    have d4 : decide ((z : Int) < 245) = false := decide_eq_false (by omega)
    go_enter Tryd.func30, Tryd.ntmps30
    go_wp2_with fail
    go_ret
    exact ⟨rfl, rfl⟩
end Go.Proofs.YtdgjegkoncodaaaDoor
