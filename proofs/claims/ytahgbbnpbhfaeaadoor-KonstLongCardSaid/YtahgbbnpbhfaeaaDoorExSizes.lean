/- exact.length, large, negative, sizes, Compare. No condition. -/
import Derived.Test.YtahgbbnpbhfaeaaDoorExForm
namespace Go.Proofs.YtahgbbnpbhfaeaaDoor
open Go.RowKit

theorem can_trim (n : Nat) : trimZ (canW n) = canW n := by
  have h := trim_can (canW_words n).1
  rw [(canW_words n).2] at h
  exact h
theorem canW_len {n : Nat} : (canW n).length = 0 ↔ n = 0 := by rw [List.length_eq_zero_iff, canW_nil]

set_option maxHeartbeats 800000 in
theorem length_any (a : Option Addr) (n cap : Nat) (z : List Nat) (w : World) (h : WordsAt w a n z) (hn : n ≤ 1000000) (hc : n ≤ cap) :
    Calls Tryd.prog 82 #[.slice a n cap] w fun e w' => e = .returned (.int .i64 (bitsN (ofW z) : Nat)) ∧ w = w' := by
  have HT := Lib.hid (trim_any a n cap z w h (by omega) hc)
  have HZ := Lib.hid h
  obtain ⟨m, Hm⟩ : ∃ m, Hid ((trimZ z).length = m) := ⟨_, Lib.hid rfl⟩
  have hm9 : m ≤ 1000000 := by have := trim_le z; have := h.1; have := Hm.out; omega
  rw [Hm.out] at HT
  clear h
  cases m with
  | zero =>
    go_enter Tryd.func82, Tryd.ntmps82
    go_wp2_with (go_at_call 54; refine HT.out.mono ?_; rintro e w2 ⟨rfl, rfl⟩)
    go_ret
    refine ⟨eret_int ?_, rfl⟩
    have h0 : trimZ z = [] := List.length_eq_zero_iff.1 Hm.out
    rw [(trim_nil z).1 h0]
    rfl
  | succ m =>
    have hz := HZ.out.trim
    rw [Hm.out] at hz
    obtain ⟨x, rfl, hx⟩ := hz.2.2 m (by omega)
    obtain ⟨y, Hy⟩ : ∃ y, Hid ((trimZ z).getD m 0 = y) := ⟨_, Lib.hid rfl⟩
    have hy9 : y < 4294967296 := by rw [← Hy.out]; exact hz.2.1.get m
    rw [Hy.out] at hx
    have HL := Lib.hid (len32_lib (y : Int) w (by omega) (by omega))
    have hb : bitsN y ≤ 32 := (bitsN_le_iff y 32).2 (by omega)
    have e1 : Lib.bitLen ((y : Int)).toNat = bitsN y := by
      rw [Int.toNat_natCast]
      exact libBits y (by omega)
    rw [e1] at HL
    have HV := Lib.hid (show bitsN (ofW z) = m * 32 + bitsN y from by
      have h1 := bits_words hz.2.1 trim_idem (fun e => by rw [e] at hz; simp [WordsAt] at hz)
      rw [ofW_trim, Hm.out, show m + 1 - 1 = m by omega, Hy.out] at h1
      exact h1)
    obtain ⟨q, Hq⟩ : ∃ q, Hid (bitsN y = q) := ⟨_, Lib.hid rfl⟩
    rw [Hq.out] at HL hb HV
    clear hz e1
    go_enter Tryd.func82, Tryd.ntmps82
    go_wp2_with first
      | (go_at_call 54; refine HT.out.mono ?_; rintro e w2 ⟨rfl, rfl⟩)
      | (go_at_call 91; refine HL.out.mono ?_; rintro e w2 ⟨rfl, rfl⟩)
    go_ret
    refine ⟨eret_int ?_, rfl⟩
    rw [HV.out]
    omega

theorem large_any (v : Value) (neg : Bool) (z : List Nat) (w : World) (h : IntV w v neg z) :
    Calls Tryd.prog 78 #[v] w fun e w' => e = .returned (.bool (decide (2 ^ 512 ≤ ofW z))) ∧ Below w.heap.size w w' := by
  obtain ⟨a, n, cap, rfl, h1, h2, h3⟩ := h
  obtain ⟨w1, Hw1⟩ : ∃ w1, Hid (w1 = w.alloc (.cells #[.bool neg, .slice a n cap] 24)) := ⟨_, Lib.hid rfl⟩
  have hB : Below w.heap.size w w1 := by
    rw [Hw1.out]
    exact (Below.refl _ w).alloc (Nat.le_refl _) _
  have HL := Lib.hid (length_any a n cap z w1 (h1.below hB) h3 h2)
  have HB := Lib.hid hB
  obtain ⟨q, Hq⟩ : ∃ q, Hid (bitsN (ofW z) = q) := ⟨_, Lib.hid rfl⟩
  rw [Hq.out] at HL
  clear h1 hB
  go_enter Tryd.func78, Tryd.ntmps78
  go_wp2_with (go_at_call 82; refine hold ?_)
  rw [← Hw1.out]
  refine Hold.mk ?_
  refine HL.out.mono ?_
  rintro e w2 ⟨rfl, rfl⟩
  go_wp2_with fail
  go_ret
  refine ⟨eret_bool ?_, HB.out⟩
  refine decide_eq_decide.2 ?_
  have := bitsN_le_iff (ofW z) 512
  rw [Hq.out] at this
  omega

set_option maxHeartbeats 800000 in
theorem negative_any (v : Value) (neg : Bool) (z : List Nat) (w : World) (h : IntV w v neg z) :
    Calls Tryd.prog 68 #[v] w fun e w' => e = .returned (.bool (decide (valI neg z < 0))) ∧ Below w.heap.size w w' := by
  obtain ⟨a, n, cap, rfl, h1, h2, h3⟩ := h
  obtain ⟨w1, Hw1⟩ : ∃ w1, Hid (w1 = w.alloc (.cells #[.bool neg, .slice a n cap] 24)) := ⟨_, Lib.hid rfl⟩
  have hB : Below w.heap.size w w1 := by
    rw [Hw1.out]
    exact (Below.refl _ w).alloc (Nat.le_refl _) _
  have HT := Lib.hid (trim_any a n cap z w1 (h1.below hB) (by omega) h2)
  have HB := Lib.hid hB
  obtain ⟨m, Hm⟩ : ∃ m, Hid ((trimZ z).length = m) := ⟨_, Lib.hid rfl⟩
  have hm9 : m ≤ 1000000 := by have := trim_le z; have := h1.1; have := Hm.out; omega
  rw [Hm.out] at HT
  have HV := Lib.hid (show (valI neg z < 0) ↔ (neg = true ∧ 0 < m) from by
    have h0 : 0 < m ↔ ofW z ≠ 0 := by
      have := trim_nil z
      rw [← Hm.out, List.length_pos_iff, Ne, this]
    unfold valI
    cases neg with
    | false => simp
    | true => simp [h0]; omega)
  clear h1 hB
  cases neg with
  | false =>
    go_enter Tryd.func68, Tryd.ntmps68
    go_wp2_with fail
    rw [← Hw1.out]
    go_ret
    exact ⟨eret_bool (by have := HV.out; simp at this; exact (decide_eq_false (by omega)).symm), HB.out⟩
  | true =>
    go_enter Tryd.func68, Tryd.ntmps68
    go_wp2_with (go_at_call 54; refine hold ?_)
    rw [← Hw1.out]
    refine Hold.mk ?_
    refine HT.out.mono ?_
    rintro e w2 ⟨rfl, rfl⟩
    go_wp2_with fail
    go_ret
    refine ⟨eret_bool ?_, HB.out⟩
    have := HV.out
    refine decide_eq_decide.2 ?_
    rw [this]
    simp

set_option maxRecDepth 100000 in
set_option maxHeartbeats 1600000 in
theorem sizes_any (a1 a2 : Option Addr) (n1 n2 cap1 cap2 : Nat) (z1 z2 : List Nat) (w : World) (h1 : WordsAt w a1 n1 z1) (h2 : WordsAt w a2 n2 z2) (hn1 : n1 ≤ 1000000) (hn2 : n2 ≤ 1000000) (hc1 : n1 ≤ cap1) (hc2 : n2 ≤ cap2) :
    Calls Tryd.prog 69 #[.slice a1 n1 cap1, .slice a2 n2 cap2] w fun e w' => e = .returned (.int .i64 (cmpN (ofW z1) (ofW z2))) ∧ Below w.heap.size w w' := by
  have HT1 := Lib.hid (trim_any a1 n1 cap1 z1 w h1 (by omega) hc1)
  have HT2 := Lib.hid (trim_any a2 n2 cap2 z2 w h2 (by omega) hc2)
  obtain ⟨m1, Hm1⟩ : ∃ m, Hid ((trimZ z1).length = m) := ⟨_, Lib.hid rfl⟩
  obtain ⟨m2, Hm2⟩ : ∃ m, Hid ((trimZ z2).length = m) := ⟨_, Lib.hid rfl⟩
  have hm1 : m1 ≤ 1000000 := by have := trim_le z1; have := h1.1; have := Hm1.out; omega
  have hm2 : m2 ≤ 1000000 := by have := trim_le z2; have := h2.1; have := Hm2.out; omega
  have t1 := h1.trim
  have t2 := h2.trim
  rw [Hm1.out] at HT1 t1
  rw [Hm2.out] at HT2 t2
  have HZ := Lib.hid (And.intro t1 t2)
  obtain ⟨y1, Hy1⟩ : ∃ y, Hid (trimZ z1 = y ∧ trimZ y = y ∧ ofW y = ofW z1) := ⟨_, Lib.hid ⟨rfl, trim_idem, ofW_trim _⟩⟩
  obtain ⟨y2, Hy2⟩ : ∃ y, Hid (trimZ z2 = y ∧ trimZ y = y ∧ ofW y = ofW z2) := ⟨_, Lib.hid ⟨rfl, trim_idem, ofW_trim _⟩⟩
  rw [Hy1.out.1, Hy2.out.1] at HZ
  clear h1 h2 t1 t2 Hm1 Hm2
  by_cases hne : m1 = m2
  · subst hne
    have hq : ((m1 : Int) != (m1 : Int)) = false := by simp
    go_enter Tryd.func69, Tryd.ntmps69
    go_wp2_with (go_at_call 54; refine hold ?_)
    refine Hold.mk ?_
    refine HT1.out.mono ?_
    rintro e w2 ⟨rfl, rfl⟩
    go_wp2_with (go_at_call 54; refine hold ?_)
    refine Hold.mk ?_
    refine HT2.out.mono ?_
    rintro e w2 ⟨rfl, rfl⟩
    go_wp2_with fail
    go_loopg [5] m1 (fun g v5 wr => ∃ k : Nat, k ≤ m1 ∧ v5 = .int .i64 ((k : Int) - 1) ∧ g = k ∧ Hid (y1.drop k = y2.drop k ∧ Below w.heap.size w wr))
    case atStart => exact ⟨m1, Nat.le_refl _, rfl, rfl, Lib.hid ⟨by rw [List.drop_of_length_le (by have := HZ.out.1.1; omega), List.drop_of_length_le (by have := HZ.out.2.1; omega)], Below.refl _ _⟩⟩
    case round =>
      obtain ⟨k, hk, rfl, hg, Hr⟩ := hrel
      cases k with
      | zero =>
        have e : (((0 : Nat) : Int) - 1) = -1 := by decide
        rw [e]
        clear e
        go_wp2_with fail
        go_ret
        refine ⟨eret_int ?_, Hr.out.2⟩
        have h := Hr.out.1
        rw [List.drop_zero, List.drop_zero] at h
        rw [← Hy1.out.2.2, ← Hy2.out.2.2, h]
        unfold cmpN
        simp
      | succ k =>
        have e : (((k + 1 : Nat) : Int) - 1) = (k : Int) := by omega
        rw [e]
        clear e
        obtain ⟨x1, rfl, g1⟩ := (HZ.out.1.below Hr.out.2).2.2 k (by omega)
        obtain ⟨x2, rfl, g2⟩ := (HZ.out.2.below Hr.out.2).2.2 k (by omega)
        obtain ⟨u1, Hu1⟩ : ∃ u, Hid (y1.getD k 0 = u) := ⟨_, Lib.hid rfl⟩
        obtain ⟨u2, Hu2⟩ : ∃ u, Hid (y2.getD k 0 = u) := ⟨_, Lib.hid rfl⟩
        rw [Hu1.out] at g1
        rw [Hu2.out] at g2
        have HS9 : (fun w' => w'.cell? (x1.add k) = some (.int .u32 (u1 : Nat)) ∧ w'.cell? (x2.add k) = some (.int .u32 (u2 : Nat))) wr.drew := ⟨g1, g2⟩
        have HS11 : (fun w' => w'.cell? (x1.add k) = some (.int .u32 (u1 : Nat)) ∧ w'.cell? (x2.add k) = some (.int .u32 (u2 : Nat))) wr.drew.drew := ⟨g1, g2⟩
        have Hlen := Lib.hid (show y1.length = m1 ∧ y2.length = m1 from ⟨HZ.out.1.1, HZ.out.2.1⟩)
        clear g1 g2
        have hbd : Below wr.heap.size wr wr.drew := (Below.refl _ wr).drew
        have HBd := Lib.hid hbd
        clear hbd
        have hkl : k < m1 := by omega
        go_upto_region 9 with fail
        by_cases hlt : u1 < u2
        · have hd : decide (((u1 : Nat) : Int) < ((u2 : Nat) : Int)) = true := decide_eq_true (by omega)
          refine wp_region_pi (fun w' => w'.cell? (x1.add k) = some (.int .u32 (u1 : Nat)) ∧ w'.cell? (x2.add k) = some (.int .u32 (u2 : Nat))) [(0, 1), (1, 1), (2, 1), (3, 0), (4, 1), (5, 1), (6, 1), (7, 0), (8, 1), (9, 1)] [] (by kernel_rfl) (by kernel_rfl) (fun _ _ _ _ _ h => h) (HS9) ?_
          refine pd_pu (some 28) rfl rfl (by rfl) (fun ws => by go_simp; try with_reducible rfl) ?_; go_frame   -- 0 Op.move (Operand.tmp 0)
          refine pd_pu (some 29) rfl rfl (by rfl) (fun ws => by go_simp; try with_reducible rfl) ?_; go_frame   -- 1 Op.move (Operand.tmp 5)
          refine pd_pu (some 30) rfl rfl (by rfl) (fun ws => by go_simp; try with_reducible rfl) ?_; go_frame   -- 2 Op.indexAddr 22 (Operand.tmp 28) (Operand.tmp 29)
          refine pd_ld (some 31) rfl rfl (by rfl) (fun ws HS => by go_split_ands; go_simp; try with_reducible rfl) ?_; go_frame   -- 3 Op.load 68 (Operand.tmp 30)
          refine pd_pu (some 32) rfl rfl (by rfl) (fun ws => by go_simp; try with_reducible rfl) ?_; go_frame   -- 4 Op.move (Operand.tmp 1)
          refine pd_pu (some 33) rfl rfl (by rfl) (fun ws => by go_simp; try with_reducible rfl) ?_; go_frame   -- 5 Op.move (Operand.tmp 5)
          refine pd_pu (some 34) rfl rfl (by rfl) (fun ws => by go_simp; try with_reducible rfl) ?_; go_frame   -- 6 Op.indexAddr 22 (Operand.tmp 32) (Operand.tmp 33)
          refine pd_ld (some 35) rfl rfl (by rfl) (fun ws HS => by go_split_ands; go_simp; try with_reducible rfl) ?_; go_frame   -- 7 Op.load 68 (Operand.tmp 34)
          refine pd_pu (some 36) rfl rfl (by rfl) (fun ws => by go_simp; try with_reducible rfl) ?_; go_frame   -- 8 Op.binOp BinOp.lss 68 (Operand.tmp 31) (Operand.tmp 35) 68
          refine pd_pu (some 27) rfl rfl (by rfl) (fun ws => by go_simp; try with_reducible rfl) ?_; go_frame   -- 9 Op.assign (Operand.tmp 36)
          refine pi_tail (r := []) rfl ?_; simp only [opsAt]
          go_wp2_with fail
          go_ret
          refine ⟨eret_int ?_, Hr.out.2.trans (Below.mono HBd.out Hr.out.2.size)⟩
          have := ofW_top HZ.out.1.2.1 HZ.out.2.2.1 (by rw [Hlen.out.1, Hlen.out.2]) k (by rw [Hlen.out.1]; omega) Hr.out.1 (by rw [Hu1.out, Hu2.out]; exact hlt)
          rw [Hy1.out.2.2, Hy2.out.2.2] at this
          unfold cmpN
          rw [if_pos this]
        · have hd : decide (((u1 : Nat) : Int) < ((u2 : Nat) : Int)) = false := decide_eq_false (by omega)
          refine wp_region_pi (fun w' => w'.cell? (x1.add k) = some (.int .u32 (u1 : Nat)) ∧ w'.cell? (x2.add k) = some (.int .u32 (u2 : Nat))) [(0, 1), (1, 1), (2, 1), (3, 0), (4, 1), (5, 1), (6, 1), (7, 0), (8, 1), (9, 1)] [] (by kernel_rfl) (by kernel_rfl) (fun _ _ _ _ _ h => h) (HS9) ?_
          refine pd_pu (some 28) rfl rfl (by rfl) (fun ws => by go_simp; try with_reducible rfl) ?_; go_frame   -- 0 Op.move (Operand.tmp 0)
          refine pd_pu (some 29) rfl rfl (by rfl) (fun ws => by go_simp; try with_reducible rfl) ?_; go_frame   -- 1 Op.move (Operand.tmp 5)
          refine pd_pu (some 30) rfl rfl (by rfl) (fun ws => by go_simp; try with_reducible rfl) ?_; go_frame   -- 2 Op.indexAddr 22 (Operand.tmp 28) (Operand.tmp 29)
          refine pd_ld (some 31) rfl rfl (by rfl) (fun ws HS => by go_split_ands; go_simp; try with_reducible rfl) ?_; go_frame   -- 3 Op.load 68 (Operand.tmp 30)
          refine pd_pu (some 32) rfl rfl (by rfl) (fun ws => by go_simp; try with_reducible rfl) ?_; go_frame   -- 4 Op.move (Operand.tmp 1)
          refine pd_pu (some 33) rfl rfl (by rfl) (fun ws => by go_simp; try with_reducible rfl) ?_; go_frame   -- 5 Op.move (Operand.tmp 5)
          refine pd_pu (some 34) rfl rfl (by rfl) (fun ws => by go_simp; try with_reducible rfl) ?_; go_frame   -- 6 Op.indexAddr 22 (Operand.tmp 32) (Operand.tmp 33)
          refine pd_ld (some 35) rfl rfl (by rfl) (fun ws HS => by go_split_ands; go_simp; try with_reducible rfl) ?_; go_frame   -- 7 Op.load 68 (Operand.tmp 34)
          refine pd_pu (some 36) rfl rfl (by rfl) (fun ws => by go_simp; try with_reducible rfl) ?_; go_frame   -- 8 Op.binOp BinOp.lss 68 (Operand.tmp 31) (Operand.tmp 35) 68
          refine pd_pu (some 27) rfl rfl (by rfl) (fun ws => by go_simp; try with_reducible rfl) ?_; go_frame   -- 9 Op.assign (Operand.tmp 36)
          refine pi_tail (r := []) rfl ?_; simp only [opsAt]
          go_upto_region 11 with fail
          by_cases hgt : u2 < u1
          · have hd2 : decide (((u2 : Nat) : Int) < ((u1 : Nat) : Int)) = true := decide_eq_true (by omega)
            refine wp_region_pi (fun w' => w'.cell? (x1.add k) = some (.int .u32 (u1 : Nat)) ∧ w'.cell? (x2.add k) = some (.int .u32 (u2 : Nat))) [(0, 1), (1, 1), (2, 1), (3, 0), (4, 1), (5, 1), (6, 1), (7, 0), (8, 1), (9, 1)] [] (by kernel_rfl) (by kernel_rfl) (fun _ _ _ _ _ h => h) (HS11) ?_
            refine pd_pu (some 38) rfl rfl (by rfl) (fun ws => by go_simp; try with_reducible rfl) ?_; go_frame   -- 0 Op.move (Operand.tmp 0)
            refine pd_pu (some 39) rfl rfl (by rfl) (fun ws => by go_simp; try with_reducible rfl) ?_; go_frame   -- 1 Op.move (Operand.tmp 5)
            refine pd_pu (some 40) rfl rfl (by rfl) (fun ws => by go_simp; try with_reducible rfl) ?_; go_frame   -- 2 Op.indexAddr 22 (Operand.tmp 38) (Operand.tmp 39)
            refine pd_ld (some 41) rfl rfl (by rfl) (fun ws HS => by go_split_ands; go_simp; try with_reducible rfl) ?_; go_frame   -- 3 Op.load 68 (Operand.tmp 40)
            refine pd_pu (some 42) rfl rfl (by rfl) (fun ws => by go_simp; try with_reducible rfl) ?_; go_frame   -- 4 Op.move (Operand.tmp 1)
            refine pd_pu (some 43) rfl rfl (by rfl) (fun ws => by go_simp; try with_reducible rfl) ?_; go_frame   -- 5 Op.move (Operand.tmp 5)
            refine pd_pu (some 44) rfl rfl (by rfl) (fun ws => by go_simp; try with_reducible rfl) ?_; go_frame   -- 6 Op.indexAddr 22 (Operand.tmp 42) (Operand.tmp 43)
            refine pd_ld (some 45) rfl rfl (by rfl) (fun ws HS => by go_split_ands; go_simp; try with_reducible rfl) ?_; go_frame   -- 7 Op.load 68 (Operand.tmp 44)
            refine pd_pu (some 46) rfl rfl (by rfl) (fun ws => by go_simp; try with_reducible rfl) ?_; go_frame   -- 8 Op.binOp BinOp.gtr 68 (Operand.tmp 41) (Operand.tmp 45) 68
            refine pd_pu (some 37) rfl rfl (by rfl) (fun ws => by go_simp; try with_reducible rfl) ?_; go_frame   -- 9 Op.assign (Operand.tmp 46)
            refine pi_tail (r := []) rfl ?_; simp only [opsAt]
            go_wp2_with fail
            go_ret
            refine ⟨eret_int ?_, Hr.out.2.trans (Below.mono (HBd.out.trans (Below.mono (Below.refl _ _).drew HBd.out.size)) Hr.out.2.size)⟩
            have := ofW_top HZ.out.2.2.1 HZ.out.1.2.1 (by rw [Hlen.out.1, Hlen.out.2]) k (by rw [Hlen.out.2]; omega) Hr.out.1.symm (by rw [Hu1.out, Hu2.out]; exact hgt)
            rw [Hy1.out.2.2, Hy2.out.2.2] at this
            unfold cmpN
            rw [if_neg (by omega), if_neg (by omega)]
          · have hd2 : decide (((u2 : Nat) : Int) < ((u1 : Nat) : Int)) = false := decide_eq_false (by omega)
            refine wp_region_pi (fun w' => w'.cell? (x1.add k) = some (.int .u32 (u1 : Nat)) ∧ w'.cell? (x2.add k) = some (.int .u32 (u2 : Nat))) [(0, 1), (1, 1), (2, 1), (3, 0), (4, 1), (5, 1), (6, 1), (7, 0), (8, 1), (9, 1)] [] (by kernel_rfl) (by kernel_rfl) (fun _ _ _ _ _ h => h) (HS11) ?_
            refine pd_pu (some 38) rfl rfl (by rfl) (fun ws => by go_simp; try with_reducible rfl) ?_; go_frame   -- 0 Op.move (Operand.tmp 0)
            refine pd_pu (some 39) rfl rfl (by rfl) (fun ws => by go_simp; try with_reducible rfl) ?_; go_frame   -- 1 Op.move (Operand.tmp 5)
            refine pd_pu (some 40) rfl rfl (by rfl) (fun ws => by go_simp; try with_reducible rfl) ?_; go_frame   -- 2 Op.indexAddr 22 (Operand.tmp 38) (Operand.tmp 39)
            refine pd_ld (some 41) rfl rfl (by rfl) (fun ws HS => by go_split_ands; go_simp; try with_reducible rfl) ?_; go_frame   -- 3 Op.load 68 (Operand.tmp 40)
            refine pd_pu (some 42) rfl rfl (by rfl) (fun ws => by go_simp; try with_reducible rfl) ?_; go_frame   -- 4 Op.move (Operand.tmp 1)
            refine pd_pu (some 43) rfl rfl (by rfl) (fun ws => by go_simp; try with_reducible rfl) ?_; go_frame   -- 5 Op.move (Operand.tmp 5)
            refine pd_pu (some 44) rfl rfl (by rfl) (fun ws => by go_simp; try with_reducible rfl) ?_; go_frame   -- 6 Op.indexAddr 22 (Operand.tmp 42) (Operand.tmp 43)
            refine pd_ld (some 45) rfl rfl (by rfl) (fun ws HS => by go_split_ands; go_simp; try with_reducible rfl) ?_; go_frame   -- 7 Op.load 68 (Operand.tmp 44)
            refine pd_pu (some 46) rfl rfl (by rfl) (fun ws => by go_simp; try with_reducible rfl) ?_; go_frame   -- 8 Op.binOp BinOp.gtr 68 (Operand.tmp 41) (Operand.tmp 45) 68
            refine pd_pu (some 37) rfl rfl (by rfl) (fun ws => by go_simp; try with_reducible rfl) ?_; go_frame   -- 9 Op.assign (Operand.tmp 46)
            refine pi_tail (r := []) rfl ?_; simp only [opsAt]
            go_wp2_with fail
            go_roundg k
            case measure => omega
            case rel =>
              refine ⟨k, by omega, by go_num, rfl, Lib.hid ⟨?_, Hr.out.2.trans (Below.mono (HBd.out.trans (Below.mono (Below.refl _ _).drew HBd.out.size)) Hr.out.2.size)⟩⟩
              have d : ∀ y : List Nat, y.length = m1 → y.drop k = y.getD k 0 :: y.drop (k + 1) := fun y hy => by
                rw [List.drop_eq_getElem_cons (show k < y.length by omega)]
                simp [List.getD, show k < y.length by omega]
              rw [d y1 Hlen.out.1, d y2 Hlen.out.2, Hu1.out, Hu2.out, Hr.out.1, show u1 = u2 by omega]
  · have HV := Lib.hid (show cmpN (ofW z1) (ofW z2) = if m1 < m2 then -1 else 1 from by
      rw [← Hy1.out.2.2, ← Hy2.out.2.2]
      obtain ⟨w1, w2⟩ := HZ.out
      by_cases hlt : m1 < m2
      · have := ofW_len_lt (l := y1) (m := y2) w1.2.1 Hy2.out.2.1 (by rw [w1.1, w2.1]; exact hlt)
        unfold cmpN
        rw [if_pos hlt, if_pos this]
      · have := ofW_len_lt (l := y2) (m := y1) w2.2.1 Hy1.out.2.1 (by rw [w1.1, w2.1]; omega)
        unfold cmpN
        rw [if_neg hlt, if_neg (by omega), if_neg (by omega)])
    have hq : ((m1 : Int) != (m2 : Int)) = true := by simp; omega
    go_enter Tryd.func69, Tryd.ntmps69
    go_wp2_with (go_at_call 54; refine hold ?_)
    refine Hold.mk ?_
    refine HT1.out.mono ?_
    rintro e w2 ⟨rfl, rfl⟩
    go_wp2_with (go_at_call 54; refine hold ?_)
    refine Hold.mk ?_
    refine HT2.out.mono ?_
    rintro e w2 ⟨rfl, rfl⟩
    by_cases hlt : m1 < m2
    · go_wp2_with fail
      go_ret
      exact ⟨eret_int (by rw [HV.out, if_pos hlt]), Below.refl _ _⟩
    · have hge : m2 ≤ m1 := by omega
      go_wp2_with fail
      go_ret
      exact ⟨eret_int (by rw [HV.out, if_neg hlt]), Below.refl _ _⟩
end Go.Proofs.YtahgbbnpbhfaeaaDoor
