/- The reference's size: whole. No condition. -/
import Derived.Test.YtdgjegkoncodaaaDoorRsSize2
namespace Go.Proofs.YtdgjegkoncodaaaDoor
open Go.RowKit
theorem dec_three (L x0 x1 x2 x3 : Nat) (b0 : x0 < 256) (_b1 : x1 < 256) (_b2 : x2 < 256) (_b3 : x3 < 256) (h : 224 ≤ x0) (h2 : x0 < 240) : Lib.decodeN L x0 x1 x2 x3 = if (1 < L ∧ x1 / 64 = 2) ∧ (2 < L ∧ x2 / 64 = 2) then (if x0 % 16 * 4096 + x1 % 64 * 64 + x2 % 64 ≥ 2048 ∧ (x0 % 16 * 4096 + x1 % 64 * 64 + x2 % 64 < 55296 ∨ (57344 ≤ x0 % 16 * 4096 + x1 % 64 * 64 + x2 % 64 ∧ x0 % 16 * 4096 + x1 % 64 * 64 + x2 % 64 ≤ 1114111)) then (x0 % 16 * 4096 + x1 % 64 * 64 + x2 % 64, 3) else (65533, 1)) else (65533, 1) := by
  unfold Lib.decodeN
  rw [if_neg (show ¬ x0 < 128 by omega), if_neg (show ¬ (x0 / 32 = 6 ∧ (1 < L ∧ x1 / 64 = 2)) by omega)]
  by_cases c : (1 < L ∧ x1 / 64 = 2) ∧ (2 < L ∧ x2 / 64 = 2)
  · rw [if_pos (show x0 / 16 = 14 ∧ (1 < L ∧ x1 / 64 = 2) ∧ (2 < L ∧ x2 / 64 = 2) from ⟨by omega, c⟩), if_pos c]
  · rw [if_neg (show ¬ (x0 / 16 = 14 ∧ (1 < L ∧ x1 / 64 = 2) ∧ (2 < L ∧ x2 / 64 = 2)) from fun h => c h.2), if_neg c, if_neg (by omega)]
theorem rsz_three (y : UInt8) (t : List UInt8) (h : 224 ≤ y.toNat) (h2 : y.toNat < 240) (u1 u2 u3 : Nat) (e1 : y.toNat % 16 = u1) (e2 : u1 * 64 + (t.getD 0 0).toNat % 64 = u2) (e3 : u2 * 64 + (t.getD 1 0).toNat % 64 = u3) : rsz (y :: t) = if ((1 < t.length + 1 ∧ (t.getD 0 0).toNat / 64 = 2) ∧ (2 < t.length + 1 ∧ (t.getD 1 0).toNat / 64 = 2)) ∧ 2048 ≤ u3 ∧ u3 ≤ 1114111 ∧ ¬ (55296 ≤ u3 ∧ u3 ≤ 57343) then 3 else 0 := by
  rw [rsz_N, Lib.decodeL_N]
  simp only [List.getD_cons_zero, List.getD_cons_succ, List.length_cons]
  rw [dec_three _ _ _ _ _ y.toNat_lt (UInt8.toNat_lt _) (UInt8.toNat_lt _) (UInt8.toNat_lt _) h h2]
  have k1 := (t.getD 0 0).toNat_lt
  have k2 := (t.getD 1 0).toNat_lt
  have k3 := (t.getD 2 0).toNat_lt
  generalize y.toNat = x0 at *
  generalize (t.getD 0 0).toNat = x1 at *
  generalize (t.getD 1 0).toNat = x2 at *
  generalize (t.getD 2 0).toNat = x3 at *
  generalize t.length + 1 = L at *
  rw [show x0 % 16 * 4096 + x1 % 64 * 64 + x2 % 64 = u3 by omega]
  by_cases c : (1 < L ∧ x1 / 64 = 2) ∧ (2 < L ∧ x2 / 64 = 2)
  · rw [if_pos c]
    by_cases d : u3 ≥ 2048 ∧ (u3 < 55296 ∨ (57344 ≤ u3 ∧ u3 ≤ 1114111))
    · rw [if_pos d, if_neg (show ¬ (_ ∧ (3 : Nat) = 1) from fun h => absurd h.2 (by decide)), if_pos ⟨c, by omega⟩]
    · rw [if_neg d, if_pos ⟨rfl, rfl⟩, if_neg (fun h => d (by have := h.2; omega))]
  · rw [if_neg c, if_pos ⟨rfl, rfl⟩, if_neg (fun h => c h.1)]
theorem dec_four (L x0 x1 x2 x3 : Nat) (b0 : x0 < 256) (_b1 : x1 < 256) (_b2 : x2 < 256) (_b3 : x3 < 256) (h : 240 ≤ x0) (h2 : x0 < 245) : Lib.decodeN L x0 x1 x2 x3 = if (1 < L ∧ x1 / 64 = 2) ∧ (2 < L ∧ x2 / 64 = 2) ∧ (3 < L ∧ x3 / 64 = 2) then (if x0 % 8 * 262144 + x1 % 64 * 4096 + x2 % 64 * 64 + x3 % 64 ≥ 65536 ∧ (x0 % 8 * 262144 + x1 % 64 * 4096 + x2 % 64 * 64 + x3 % 64 < 55296 ∨ (57344 ≤ x0 % 8 * 262144 + x1 % 64 * 4096 + x2 % 64 * 64 + x3 % 64 ∧ x0 % 8 * 262144 + x1 % 64 * 4096 + x2 % 64 * 64 + x3 % 64 ≤ 1114111)) then (x0 % 8 * 262144 + x1 % 64 * 4096 + x2 % 64 * 64 + x3 % 64, 4) else (65533, 1)) else (65533, 1) := by
  unfold Lib.decodeN
  rw [if_neg (show ¬ x0 < 128 by omega), if_neg (show ¬ (x0 / 32 = 6 ∧ (1 < L ∧ x1 / 64 = 2)) by omega)]
  rw [if_neg (show ¬ (x0 / 16 = 14 ∧ (1 < L ∧ x1 / 64 = 2) ∧ (2 < L ∧ x2 / 64 = 2)) by omega)]
  by_cases c : (1 < L ∧ x1 / 64 = 2) ∧ (2 < L ∧ x2 / 64 = 2) ∧ (3 < L ∧ x3 / 64 = 2)
  · rw [if_pos (show x0 / 8 = 30 ∧ (1 < L ∧ x1 / 64 = 2) ∧ (2 < L ∧ x2 / 64 = 2) ∧ (3 < L ∧ x3 / 64 = 2) from ⟨by omega, c⟩), if_pos c]
  · rw [if_neg (show ¬ (x0 / 8 = 30 ∧ (1 < L ∧ x1 / 64 = 2) ∧ (2 < L ∧ x2 / 64 = 2) ∧ (3 < L ∧ x3 / 64 = 2)) from fun h => c h.2), if_neg c]
theorem rsz_four (y : UInt8) (t : List UInt8) (h : 240 ≤ y.toNat) (h2 : y.toNat < 245) (u1 u2 u3 u4 : Nat) (e1 : y.toNat % 8 = u1) (e2 : u1 * 64 + (t.getD 0 0).toNat % 64 = u2) (e3 : u2 * 64 + (t.getD 1 0).toNat % 64 = u3) (e4 : u3 * 64 + (t.getD 2 0).toNat % 64 = u4) : rsz (y :: t) = if ((1 < t.length + 1 ∧ (t.getD 0 0).toNat / 64 = 2) ∧ (2 < t.length + 1 ∧ (t.getD 1 0).toNat / 64 = 2) ∧ (3 < t.length + 1 ∧ (t.getD 2 0).toNat / 64 = 2)) ∧ 65536 ≤ u4 ∧ u4 ≤ 1114111 ∧ ¬ (55296 ≤ u4 ∧ u4 ≤ 57343) then 4 else 0 := by
  rw [rsz_N, Lib.decodeL_N]
  simp only [List.getD_cons_zero, List.getD_cons_succ, List.length_cons]
  rw [dec_four _ _ _ _ _ y.toNat_lt (UInt8.toNat_lt _) (UInt8.toNat_lt _) (UInt8.toNat_lt _) h h2]
  have k1 := (t.getD 0 0).toNat_lt
  have k2 := (t.getD 1 0).toNat_lt
  have k3 := (t.getD 2 0).toNat_lt
  generalize y.toNat = x0 at *
  generalize (t.getD 0 0).toNat = x1 at *
  generalize (t.getD 1 0).toNat = x2 at *
  generalize (t.getD 2 0).toNat = x3 at *
  generalize t.length + 1 = L at *
  rw [show x0 % 8 * 262144 + x1 % 64 * 4096 + x2 % 64 * 64 + x3 % 64 = u4 by omega]
  by_cases c : (1 < L ∧ x1 / 64 = 2) ∧ (2 < L ∧ x2 / 64 = 2) ∧ (3 < L ∧ x3 / 64 = 2)
  · rw [if_pos c]
    by_cases d : u4 ≥ 65536 ∧ (u4 < 55296 ∨ (57344 ≤ u4 ∧ u4 ≤ 1114111))
    · rw [if_pos d, if_neg (show ¬ (_ ∧ (4 : Nat) = 1) from fun h => absurd h.2 (by decide)), if_pos ⟨c, by omega⟩]
    · rw [if_neg d, if_pos ⟨rfl, rfl⟩, if_neg (fun h => d (by have := h.2; omega))]
  · rw [if_neg c, if_pos ⟨rfl, rfl⟩, if_neg (fun h => c h.1)]
set_option maxRecDepth 100000 in
set_option maxHeartbeats 3200000 in
theorem rsize_three (s : ByteArray) (W : World) (h0 : 0 < s.size) (hy : 224 ≤ s[0].toNat) (hy2 : s[0].toNat < 240) : Calls Tryd.prog 30 #[.string s] W (fun e W' => e = .returned (.int .i64 (rsz s.data.toList : Int)) ∧ W = W') := by
  obtain ⟨t, Ht⟩ : ∃ t, Hid (s.data.toList.drop 1 = t) := ⟨_, Lib.hid rfl⟩
  have HR := Lib.hid (show s.data.toList = s[0] :: t from by rw [← Ht.out]; have h := drop_at h0; rw [List.drop_zero] at h; exact h)
  have HL := Lib.hid (show t.length + 1 = s.size from by rw [← Ht.out, List.length_drop, bytes_len]; omega)
  obtain ⟨y1, Hy1⟩ : ∃ y, Hid ((t.getD 0 0).toNat = y) := ⟨_, Lib.hid rfl⟩
  have HY1 := Lib.hid (show y1 < 256 from by rw [← Hy1.out]; exact UInt8.toNat_lt _)
  obtain ⟨y2, Hy2⟩ : ∃ y, Hid ((t.getD 1 0).toNat = y) := ⟨_, Lib.hid rfl⟩
  have HY2 := Lib.hid (show y2 < 256 from by rw [← Hy2.out]; exact UInt8.toNat_lt _)
  obtain ⟨z, hz⟩ : ∃ z, s[0].toNat = z := ⟨_, rfl⟩
  obtain ⟨u1, Hu1⟩ : ∃ u, Hid (z % 16 = u) := ⟨_, Lib.hid rfl⟩
  obtain ⟨u2, Hu2⟩ : ∃ u, Hid (u1 * 64 + y1 % 64 = u) := ⟨_, Lib.hid rfl⟩
  obtain ⟨u3, Hu3⟩ : ∃ u, Hid (u2 * 64 + y2 % 64 = u) := ⟨_, Lib.hid rfl⟩
  have k1 : (u1 : Int) < 16 := by have := Hu1.out; omega
  have k2 : (u2 : Int) < 1024 := by have := Hu2.out; omega
  have k3 : (u3 : Int) < 65536 := by have := Hu3.out; omega
  have HZ := Lib.hid (show rsz s.data.toList = if ((1 < s.size ∧ y1 / 64 = 2) ∧ (2 < s.size ∧ y2 / 64 = 2)) ∧ 2048 ≤ u3 ∧ u3 ≤ 1114111 ∧ ¬ (55296 ≤ u3 ∧ u3 ≤ 57343) then 3 else 0 from by
    have h := rsz_three s[0] t hy hy2 u1 u2 u3 (by rw [hz]; exact Hu1.out) (by rw [Hy1.out]; exact Hu2.out) (by rw [Hy2.out]; exact Hu3.out)
    rw [← HR.out, Hy1.out, Hy2.out, HL.out] at h
    exact h)
  obtain ⟨v, Hv⟩ : ∃ v, Hid (rsz s.data.toList = v) := ⟨_, Lib.hid rfl⟩
  rw [Hv.out] at HZ ⊢
  rw [hz] at hy hy2
  have h0I : (0 : Int) < (s.size : Int) := by omega
  have d1 : decide ((z : Int) < 128) = false := decide_eq_false (by omega)
  have e2 : (194 : Int) ≤ (z : Int) := by omega
  have d3 : decide ((z : Int) < 224) = false := decide_eq_false (by omega)
  have e4 : (224 : Int) ≤ (z : Int) := by omega
  have e5 : (z : Int) < 240 := by omega
  have a1 : bits .and .i64 (z : Int) 15 = (u1 : Int) := by rw [i64_and15]; have := Hu1.out; omega
  by_cases hl : 3 ≤ s.size
  · have d8 : decide ((s.size : Int) < 3) = false := decide_eq_false (by omega)
    have hl1 : (1 : Int) < (s.size : Int) := by omega
    have HG1 := Lib.hid (show (s[1]'(by omega)).toNat = y1 from by rw [← Hy1.out, ← Ht.out, List.getD, List.getElem?_drop, ← List.head?_drop, drop_at (show 1 + 0 < s.size by omega)]; rfl)
    have g1 : (s[1]'(by omega)).toNat = y1 := HG1.out
    have a12 := u8_and192 y1 HY1.out
    have a13 := u8_and63 y1 HY1.out
    have HO1 := Lib.hid (show bits .or .i64 ((u1 : Int) * 64) ((y1 : Int) % 64) = (u2 : Int) from by
      have h := i64_or6 u1 (y1 % 64) (by omega) (by omega)
      rw [← Hu2.out, ← h]
      congr 1 <;> omega)
    have hl2 : (2 : Int) < (s.size : Int) := by omega
    have HG2 := Lib.hid (show (s[2]'(by omega)).toNat = y2 from by rw [← Hy2.out, ← Ht.out, List.getD, List.getElem?_drop, ← List.head?_drop, drop_at (show 1 + 1 < s.size by omega)]; rfl)
    have g2 : (s[2]'(by omega)).toNat = y2 := HG2.out
    have a22 := u8_and192 y2 HY2.out
    have a23 := u8_and63 y2 HY2.out
    have HO2 := Lib.hid (show bits .or .i64 ((u2 : Int) * 64) ((y2 : Int) % 64) = (u3 : Int) from by
      have h := i64_or6 u2 (y2 % 64) (by omega) (by omega)
      rw [← Hu3.out, ← h]
      congr 1 <;> omega)
    have HN := Lib.hid (show ∀ k : Nat, ∀ b : Bool, (bits .and .u8 (k : Int) 192 == 128) = b → (bits .and .u8 (k : Int) 192 != 128) = !b from fun k b h => by rw [bne, h])
    go_enter Tryd.func30, Tryd.ntmps30
    go_wp2_with fail
    go_loopg [6, 7] 2 (fun g v6 v7 wr => wr = W ∧ ((g = 2 ∧ v6 = .int .i64 (u1 : Int) ∧ v7 = .int .i64 1) ∨ (g = 1 ∧ v6 = .int .i64 (u2 : Int) ∧ v7 = .int .i64 2 ∧ y1 / 64 = 2) ∨ (g = 0 ∧ v6 = .int .i64 (u3 : Int) ∧ v7 = .int .i64 3 ∧ y1 / 64 = 2 ∧ y2 / 64 = 2)))
    case atStart => exact ⟨rfl, .inl ⟨rfl, rfl, rfl⟩⟩
    case round =>
      obtain ⟨rfl, ⟨rfl, rfl, rfl⟩ | ⟨rfl, rfl, rfl, q1⟩ | ⟨rfl, rfl, rfl, q1, q2⟩⟩ := hrel
      · by_cases hc : y1 / 64 = 2
        · rw [decide_eq_true hc] at a12
          have b2 := HN.out _ _ a12
          rw [Bool.not_true] at b2
          have Hc := Lib.hid hc
          clear hc
          go_wp2_with fail
          go_roundg 1
          case measure => omega
          case rel => exact ⟨rfl, .inr (.inl ⟨rfl, congrArg (Value.int IntKind.i64) HO1.out, rfl, Hc.out⟩)⟩
        · rw [decide_eq_false hc] at a12
          have b2 := HN.out _ _ a12
          rw [Bool.not_false] at b2
          have HF := Lib.hid (show v = 0 from by rw [HZ.out, if_neg (fun h => hc h.1.1.2)])
          clear hc
          go_wp2_with fail
          go_ret
          exact ⟨by rw [HF.out]; rfl, rfl⟩
      · have Hq1 := Lib.hid q1
        clear q1
        by_cases hc : y2 / 64 = 2
        · rw [decide_eq_true hc] at a22
          have b2 := HN.out _ _ a22
          rw [Bool.not_true] at b2
          have Hc := Lib.hid hc
          clear hc
          go_wp2_with fail
          go_roundg 0
          case measure => omega
          case rel => exact ⟨rfl, .inr (.inr (⟨rfl, congrArg (Value.int IntKind.i64) HO2.out, rfl, Hq1.out, Hc.out⟩))⟩
        · rw [decide_eq_false hc] at a22
          have b2 := HN.out _ _ a22
          rw [Bool.not_false] at b2
          have HF := Lib.hid (show v = 0 from by rw [HZ.out, if_neg (fun h => hc h.1.2.2)])
          clear hc
          go_wp2_with fail
          go_ret
          exact ⟨by rw [HF.out]; rfl, rfl⟩
      · have Hq1 := Lib.hid q1
        have Hq2 := Lib.hid q2
        clear q1 q2
        have hcs : (u3 < 2048) ∨ (2048 ≤ u3 ∧ u3 ≤ 1114111 ∧ 55296 ≤ u3 ∧ u3 ≤ 57343) ∨ (2048 ≤ u3 ∧ u3 < 55296) ∨ (2048 ≤ u3 ∧ u3 ≤ 1114111 ∧ 57343 < u3) := by omega
        rcases hcs with c | c | c | c
        · have r0 : (u3 : Int) < 2048 := by omega
          have HF := Lib.hid (show v = 0 from by rw [HZ.out, if_neg (fun h => by have := h.2; omega)])
          clear c
          go_wp2_with fail
          go_ret
          exact ⟨by rw [HF.out]; rfl, rfl⟩
        · have r0 : decide (((u3 : Int) < 2048)) = false := decide_eq_false (by omega)
          have r1 : decide (((1114111 : Int) < (u3 : Int))) = false := decide_eq_false (by omega)
          have r2 : (55296 : Int) ≤ (u3 : Int) := by omega
          have r3 : (u3 : Int) ≤ 57343 := by omega
          have HF := Lib.hid (show v = 0 from by rw [HZ.out, if_neg (fun h => by have := h.2; omega)])
          clear c
          go_wp2_with fail
          go_ret
          exact ⟨by rw [HF.out]; rfl, rfl⟩
        · have r0 : decide (((u3 : Int) < 2048)) = false := decide_eq_false (by omega)
          have r1 : decide (((1114111 : Int) < (u3 : Int))) = false := decide_eq_false (by omega)
          have r2 : decide (((55296 : Int) ≤ (u3 : Int))) = false := decide_eq_false (by omega)
          have HF := Lib.hid (show v = 3 from by rw [HZ.out, if_pos ⟨⟨⟨by omega, Hq1.out⟩, ⟨by omega, Hq2.out⟩⟩, by omega⟩])
          clear c
          go_wp2_with fail
          go_ret
          exact ⟨by rw [HF.out]; rfl, rfl⟩
        · have r0 : decide (((u3 : Int) < 2048)) = false := decide_eq_false (by omega)
          have r1 : decide (((1114111 : Int) < (u3 : Int))) = false := decide_eq_false (by omega)
          have r2 : (55296 : Int) ≤ (u3 : Int) := by omega
          have r3 : decide (((u3 : Int) ≤ 57343)) = false := decide_eq_false (by omega)
          have HF := Lib.hid (show v = 3 from by rw [HZ.out, if_pos ⟨⟨⟨by omega, Hq1.out⟩, ⟨by omega, Hq2.out⟩⟩, by omega⟩])
          clear c
          go_wp2_with fail
          go_ret
          exact ⟨by rw [HF.out]; rfl, rfl⟩
  · have d8 : (s.size : Int) < 3 := by omega
    have HF := Lib.hid (show v = 0 from by rw [HZ.out, if_neg (fun h => hl (by have := h.1; omega))])
    rw [HF.out]
    clear hl
    go_enter Tryd.func30, Tryd.ntmps30
    go_wp2_with fail
    go_ret
    exact ⟨rfl, rfl⟩
set_option maxRecDepth 100000 in
set_option maxHeartbeats 3200000 in
theorem rsize_four (s : ByteArray) (W : World) (h0 : 0 < s.size) (hy : 240 ≤ s[0].toNat) (hy2 : s[0].toNat < 245) : Calls Tryd.prog 30 #[.string s] W (fun e W' => e = .returned (.int .i64 (rsz s.data.toList : Int)) ∧ W = W') := by
  obtain ⟨t, Ht⟩ : ∃ t, Hid (s.data.toList.drop 1 = t) := ⟨_, Lib.hid rfl⟩
  have HR := Lib.hid (show s.data.toList = s[0] :: t from by rw [← Ht.out]; have h := drop_at h0; rw [List.drop_zero] at h; exact h)
  have HL := Lib.hid (show t.length + 1 = s.size from by rw [← Ht.out, List.length_drop, bytes_len]; omega)
  obtain ⟨y1, Hy1⟩ : ∃ y, Hid ((t.getD 0 0).toNat = y) := ⟨_, Lib.hid rfl⟩
  have HY1 := Lib.hid (show y1 < 256 from by rw [← Hy1.out]; exact UInt8.toNat_lt _)
  obtain ⟨y2, Hy2⟩ : ∃ y, Hid ((t.getD 1 0).toNat = y) := ⟨_, Lib.hid rfl⟩
  have HY2 := Lib.hid (show y2 < 256 from by rw [← Hy2.out]; exact UInt8.toNat_lt _)
  obtain ⟨y3, Hy3⟩ : ∃ y, Hid ((t.getD 2 0).toNat = y) := ⟨_, Lib.hid rfl⟩
  have HY3 := Lib.hid (show y3 < 256 from by rw [← Hy3.out]; exact UInt8.toNat_lt _)
  obtain ⟨z, hz⟩ : ∃ z, s[0].toNat = z := ⟨_, rfl⟩
  obtain ⟨u1, Hu1⟩ : ∃ u, Hid (z % 8 = u) := ⟨_, Lib.hid rfl⟩
  obtain ⟨u2, Hu2⟩ : ∃ u, Hid (u1 * 64 + y1 % 64 = u) := ⟨_, Lib.hid rfl⟩
  obtain ⟨u3, Hu3⟩ : ∃ u, Hid (u2 * 64 + y2 % 64 = u) := ⟨_, Lib.hid rfl⟩
  obtain ⟨u4, Hu4⟩ : ∃ u, Hid (u3 * 64 + y3 % 64 = u) := ⟨_, Lib.hid rfl⟩
  have k1 : (u1 : Int) < 8 := by have := Hu1.out; omega
  have k2 : (u2 : Int) < 512 := by have := Hu2.out; omega
  have k3 : (u3 : Int) < 32768 := by have := Hu3.out; omega
  have k4 : (u4 : Int) < 2097152 := by have := Hu4.out; omega
  have HZ := Lib.hid (show rsz s.data.toList = if ((1 < s.size ∧ y1 / 64 = 2) ∧ (2 < s.size ∧ y2 / 64 = 2) ∧ (3 < s.size ∧ y3 / 64 = 2)) ∧ 65536 ≤ u4 ∧ u4 ≤ 1114111 ∧ ¬ (55296 ≤ u4 ∧ u4 ≤ 57343) then 4 else 0 from by
    have h := rsz_four s[0] t hy hy2 u1 u2 u3 u4 (by rw [hz]; exact Hu1.out) (by rw [Hy1.out]; exact Hu2.out) (by rw [Hy2.out]; exact Hu3.out) (by rw [Hy3.out]; exact Hu4.out)
    rw [← HR.out, Hy1.out, Hy2.out, Hy3.out, HL.out] at h
    exact h)
  obtain ⟨v, Hv⟩ : ∃ v, Hid (rsz s.data.toList = v) := ⟨_, Lib.hid rfl⟩
  rw [Hv.out] at HZ ⊢
  rw [hz] at hy hy2
  have h0I : (0 : Int) < (s.size : Int) := by omega
  have d1 : decide ((z : Int) < 128) = false := decide_eq_false (by omega)
  have e2 : (194 : Int) ≤ (z : Int) := by omega
  have d3 : decide ((z : Int) < 224) = false := decide_eq_false (by omega)
  have e4 : (224 : Int) ≤ (z : Int) := by omega
  have d5 : decide ((z : Int) < 240) = false := decide_eq_false (by omega)
  have e6 : (240 : Int) ≤ (z : Int) := by omega
  have e7 : (z : Int) < 245 := by omega
  have a1 : bits .and .i64 (z : Int) 7 = (u1 : Int) := by rw [i64_and7]; have := Hu1.out; omega
  by_cases hl : 4 ≤ s.size
  · have d8 : decide ((s.size : Int) < 4) = false := decide_eq_false (by omega)
    have hl1 : (1 : Int) < (s.size : Int) := by omega
    have HG1 := Lib.hid (show (s[1]'(by omega)).toNat = y1 from by rw [← Hy1.out, ← Ht.out, List.getD, List.getElem?_drop, ← List.head?_drop, drop_at (show 1 + 0 < s.size by omega)]; rfl)
    have g1 : (s[1]'(by omega)).toNat = y1 := HG1.out
    have a12 := u8_and192 y1 HY1.out
    have a13 := u8_and63 y1 HY1.out
    have HO1 := Lib.hid (show bits .or .i64 ((u1 : Int) * 64) ((y1 : Int) % 64) = (u2 : Int) from by
      have h := i64_or6 u1 (y1 % 64) (by omega) (by omega)
      rw [← Hu2.out, ← h]
      congr 1 <;> omega)
    have hl2 : (2 : Int) < (s.size : Int) := by omega
    have HG2 := Lib.hid (show (s[2]'(by omega)).toNat = y2 from by rw [← Hy2.out, ← Ht.out, List.getD, List.getElem?_drop, ← List.head?_drop, drop_at (show 1 + 1 < s.size by omega)]; rfl)
    have g2 : (s[2]'(by omega)).toNat = y2 := HG2.out
    have a22 := u8_and192 y2 HY2.out
    have a23 := u8_and63 y2 HY2.out
    have HO2 := Lib.hid (show bits .or .i64 ((u2 : Int) * 64) ((y2 : Int) % 64) = (u3 : Int) from by
      have h := i64_or6 u2 (y2 % 64) (by omega) (by omega)
      rw [← Hu3.out, ← h]
      congr 1 <;> omega)
    have hl3 : (3 : Int) < (s.size : Int) := by omega
    have HG3 := Lib.hid (show (s[3]'(by omega)).toNat = y3 from by rw [← Hy3.out, ← Ht.out, List.getD, List.getElem?_drop, ← List.head?_drop, drop_at (show 1 + 2 < s.size by omega)]; rfl)
    have g3 : (s[3]'(by omega)).toNat = y3 := HG3.out
    have a32 := u8_and192 y3 HY3.out
    have a33 := u8_and63 y3 HY3.out
    have HO3 := Lib.hid (show bits .or .i64 ((u3 : Int) * 64) ((y3 : Int) % 64) = (u4 : Int) from by
      have h := i64_or6 u3 (y3 % 64) (by omega) (by omega)
      rw [← Hu4.out, ← h]
      congr 1 <;> omega)
    have HN := Lib.hid (show ∀ k : Nat, ∀ b : Bool, (bits .and .u8 (k : Int) 192 == 128) = b → (bits .and .u8 (k : Int) 192 != 128) = !b from fun k b h => by rw [bne, h])
    go_enter Tryd.func30, Tryd.ntmps30
    go_wp2_with fail
    go_loopg [6, 7] 3 (fun g v6 v7 wr => wr = W ∧ ((g = 3 ∧ v6 = .int .i64 (u1 : Int) ∧ v7 = .int .i64 1) ∨ (g = 2 ∧ v6 = .int .i64 (u2 : Int) ∧ v7 = .int .i64 2 ∧ y1 / 64 = 2) ∨ (g = 1 ∧ v6 = .int .i64 (u3 : Int) ∧ v7 = .int .i64 3 ∧ y1 / 64 = 2 ∧ y2 / 64 = 2) ∨ (g = 0 ∧ v6 = .int .i64 (u4 : Int) ∧ v7 = .int .i64 4 ∧ y1 / 64 = 2 ∧ y2 / 64 = 2 ∧ y3 / 64 = 2)))
    case atStart => exact ⟨rfl, .inl ⟨rfl, rfl, rfl⟩⟩
    case round =>
      obtain ⟨rfl, ⟨rfl, rfl, rfl⟩ | ⟨rfl, rfl, rfl, q1⟩ | ⟨rfl, rfl, rfl, q1, q2⟩ | ⟨rfl, rfl, rfl, q1, q2, q3⟩⟩ := hrel
      · by_cases hc : y1 / 64 = 2
        · rw [decide_eq_true hc] at a12
          have b2 := HN.out _ _ a12
          rw [Bool.not_true] at b2
          have Hc := Lib.hid hc
          clear hc
          go_wp2_with fail
          go_roundg 2
          case measure => omega
          case rel => exact ⟨rfl, .inr (.inl ⟨rfl, congrArg (Value.int IntKind.i64) HO1.out, rfl, Hc.out⟩)⟩
        · rw [decide_eq_false hc] at a12
          have b2 := HN.out _ _ a12
          rw [Bool.not_false] at b2
          have HF := Lib.hid (show v = 0 from by rw [HZ.out, if_neg (fun h => hc h.1.1.2)])
          clear hc
          go_wp2_with fail
          go_ret
          exact ⟨by rw [HF.out]; rfl, rfl⟩
      · have Hq1 := Lib.hid q1
        clear q1
        by_cases hc : y2 / 64 = 2
        · rw [decide_eq_true hc] at a22
          have b2 := HN.out _ _ a22
          rw [Bool.not_true] at b2
          have Hc := Lib.hid hc
          clear hc
          go_wp2_with fail
          go_roundg 1
          case measure => omega
          case rel => exact ⟨rfl, .inr (.inr (.inl ⟨rfl, congrArg (Value.int IntKind.i64) HO2.out, rfl, Hq1.out, Hc.out⟩))⟩
        · rw [decide_eq_false hc] at a22
          have b2 := HN.out _ _ a22
          rw [Bool.not_false] at b2
          have HF := Lib.hid (show v = 0 from by rw [HZ.out, if_neg (fun h => hc h.1.2.1.2)])
          clear hc
          go_wp2_with fail
          go_ret
          exact ⟨by rw [HF.out]; rfl, rfl⟩
      · have Hq1 := Lib.hid q1
        have Hq2 := Lib.hid q2
        clear q1 q2
        by_cases hc : y3 / 64 = 2
        · rw [decide_eq_true hc] at a32
          have b2 := HN.out _ _ a32
          rw [Bool.not_true] at b2
          have Hc := Lib.hid hc
          clear hc
          go_wp2_with fail
          go_roundg 0
          case measure => omega
          case rel => exact ⟨rfl, .inr (.inr (.inr (⟨rfl, congrArg (Value.int IntKind.i64) HO3.out, rfl, Hq1.out, Hq2.out, Hc.out⟩)))⟩
        · rw [decide_eq_false hc] at a32
          have b2 := HN.out _ _ a32
          rw [Bool.not_false] at b2
          have HF := Lib.hid (show v = 0 from by rw [HZ.out, if_neg (fun h => hc h.1.2.2.2)])
          clear hc
          go_wp2_with fail
          go_ret
          exact ⟨by rw [HF.out]; rfl, rfl⟩
      · have Hq1 := Lib.hid q1
        have Hq2 := Lib.hid q2
        have Hq3 := Lib.hid q3
        clear q1 q2 q3
        have hcs : (u4 < 65536) ∨ (65536 ≤ u4 ∧ 1114111 < u4) ∨ (65536 ≤ u4 ∧ u4 ≤ 1114111 ∧ 55296 ≤ u4 ∧ u4 ≤ 57343) ∨ (65536 ≤ u4 ∧ u4 ≤ 1114111 ∧ 57343 < u4) := by omega
        rcases hcs with c | c | c | c
        · have r0 : (u4 : Int) < 65536 := by omega
          have HF := Lib.hid (show v = 0 from by rw [HZ.out, if_neg (fun h => by have := h.2; omega)])
          clear c
          go_wp2_with fail
          go_ret
          exact ⟨by rw [HF.out]; rfl, rfl⟩
        · have r0 : decide (((u4 : Int) < 65536)) = false := decide_eq_false (by omega)
          have r1 : (1114111 : Int) < (u4 : Int) := by omega
          have HF := Lib.hid (show v = 0 from by rw [HZ.out, if_neg (fun h => by have := h.2; omega)])
          clear c
          go_wp2_with fail
          go_ret
          exact ⟨by rw [HF.out]; rfl, rfl⟩
        · have r0 : decide (((u4 : Int) < 65536)) = false := decide_eq_false (by omega)
          have r1 : decide (((1114111 : Int) < (u4 : Int))) = false := decide_eq_false (by omega)
          have r2 : (55296 : Int) ≤ (u4 : Int) := by omega
          have r3 : (u4 : Int) ≤ 57343 := by omega
          have HF := Lib.hid (show v = 0 from by rw [HZ.out, if_neg (fun h => by have := h.2; omega)])
          clear c
          go_wp2_with fail
          go_ret
          exact ⟨by rw [HF.out]; rfl, rfl⟩
        · have r0 : decide (((u4 : Int) < 65536)) = false := decide_eq_false (by omega)
          have r1 : decide (((1114111 : Int) < (u4 : Int))) = false := decide_eq_false (by omega)
          have r2 : (55296 : Int) ≤ (u4 : Int) := by omega
          have r3 : decide (((u4 : Int) ≤ 57343)) = false := decide_eq_false (by omega)
          have HF := Lib.hid (show v = 4 from by rw [HZ.out, if_pos ⟨⟨⟨by omega, Hq1.out⟩, ⟨by omega, Hq2.out⟩, ⟨by omega, Hq3.out⟩⟩, by omega⟩])
          clear c
          go_wp2_with fail
          go_ret
          exact ⟨by rw [HF.out]; rfl, rfl⟩
  · have d8 : (s.size : Int) < 4 := by omega
    have HF := Lib.hid (show v = 0 from by rw [HZ.out, if_neg (fun h => hl (by have := h.1; omega))])
    rw [HF.out]
    clear hl
    go_enter Tryd.func30, Tryd.ntmps30
    go_wp2_with fail
    go_ret
    exact ⟨rfl, rfl⟩
theorem rsize_any (s : ByteArray) (W : World) (h0 : 0 < s.size) : Calls Tryd.prog 30 #[.string s] W (fun e W' => e = .returned (.int .i64 (rsz s.data.toList : Int)) ∧ W = W') := by
  by_cases h1 : s[0].toNat < 128
  · exact rsize_low s W h0 h1
  by_cases h2 : s[0].toNat < 194 ∨ 245 ≤ s[0].toNat
  · exact rsize_bad s W h0 (by omega) h2
  by_cases h3 : s[0].toNat < 224
  · exact rsize_two s W h0 (by omega) h3
  by_cases h4 : s[0].toNat < 240
  · exact rsize_three s W h0 (by omega) h4
  · exact rsize_four s W h0 (by omega) (by omega)
/-- Valid of the document. -/
theorem rval_any (src : ByteArray) (w : World) : Calls Tryd.prog 22 #[.string src] w (fun e W' => e = .returned (.bool (validS src.data.toList)) ∧ ∃ m, W' = w.drewN m) := rvalid_any rsize_any src w
end Go.Proofs.YtdgjegkoncodaaaDoor
