/- Texts that a claim's limit of files puts together: ExSizes, ExComp, ExOf. -/
import Derived.Test.YtahgbbnpbhfaeaaDoorExForm
import Derived.Laws.ResultCell
/- exact.length, large, negative, sizes, Compare. No condition. -/
namespace Go.Proofs.YtahgbbnpbhfaeaaDoor
open Go.RowKit

theorem can_trim (n : Nat) : trimZ (canW n) = canW n := by
  have h := trim_can (canW_words n).1
  rw [(canW_words n).2] at h
  exact h
theorem canW_len {n : Nat} : (canW n).length = 0 ↔ n = 0 := by rw [List.length_eq_zero_iff, canW_nil]

set_option maxHeartbeats 800000 in
theorem length_any (a : Option Addr) (n cap : Nat) (z : List Nat) (w : World) (h : WordsAt w a n z) (hn : n ≤ 1000000) (hc : n ≤ cap) :
    Calls Tryd.prog 82 #[.slice a n cap] w fun e w' => e = .returned (.int .i64 (bitsN (ofW z) : Nat)) ∧ w = w' := by
  have HT := Lib.hid (trim_any a n cap z w h (by omega) hc)
  have HZ := Lib.hid h
  obtain ⟨m, Hm⟩ : ∃ m, Hid ((trimZ z).length = m) := ⟨_, Lib.hid rfl⟩
  have hm9 : m ≤ 1000000 := by have := trim_le z; have := h.1; have := Hm.out; omega
  rw [Hm.out] at HT
  clear h
  cases m with
  | zero =>
    go_enter Tryd.func82, Tryd.ntmps82
    go_wp2_with (go_at_call 54; refine HT.out.mono ?_; rintro e w2 ⟨rfl, rfl⟩)
    go_ret
    refine ⟨eret_int ?_, rfl⟩
    have h0 : trimZ z = [] := List.length_eq_zero_iff.1 Hm.out
    rw [(trim_nil z).1 h0]
    rfl
  | succ m =>
    have hz := HZ.out.trim
    rw [Hm.out] at hz
    obtain ⟨x, rfl, hx⟩ := hz.2.2 m (by omega)
    obtain ⟨y, Hy⟩ : ∃ y, Hid ((trimZ z).getD m 0 = y) := ⟨_, Lib.hid rfl⟩
    have hy9 : y < 4294967296 := by rw [← Hy.out]; exact hz.2.1.get m
    rw [Hy.out] at hx
    have HL := Lib.hid (len32_lib (y : Int) w (by omega) (by omega))
    have hb : bitsN y ≤ 32 := (bitsN_le_iff y 32).2 (by omega)
    have e1 : Lib.bitLen ((y : Int)).toNat = bitsN y := by
      rw [Int.toNat_natCast]
      exact libBits y (by omega)
    rw [e1] at HL
    have HV := Lib.hid (show bitsN (ofW z) = m * 32 + bitsN y from by
      have h1 := bits_words hz.2.1 trim_idem (fun e => by rw [e] at hz; simp [WordsAt] at hz)
      rw [ofW_trim, Hm.out, show m + 1 - 1 = m by omega, Hy.out] at h1
      exact h1)
    obtain ⟨q, Hq⟩ : ∃ q, Hid (bitsN y = q) := ⟨_, Lib.hid rfl⟩
    rw [Hq.out] at HL hb HV
    clear hz e1
    go_enter Tryd.func82, Tryd.ntmps82
    go_wp2_with first
      | (go_at_call 54; refine HT.out.mono ?_; rintro e w2 ⟨rfl, rfl⟩)
      | (go_at_call 91; refine HL.out.mono ?_; rintro e w2 ⟨rfl, rfl⟩)
    go_ret
    refine ⟨eret_int ?_, rfl⟩
    rw [HV.out]
    omega

theorem large_any (v : Value) (neg : Bool) (z : List Nat) (w : World) (h : IntV w v neg z) :
    Calls Tryd.prog 78 #[v] w fun e w' => e = .returned (.bool (decide (2 ^ 512 ≤ ofW z))) ∧ Below w.heap.size w w' := by
  obtain ⟨a, n, cap, rfl, h1, h2, h3⟩ := h
  obtain ⟨w1, Hw1⟩ : ∃ w1, Hid (w1 = w.alloc (.cells #[.bool neg, .slice a n cap] 24)) := ⟨_, Lib.hid rfl⟩
  have hB : Below w.heap.size w w1 := by
    rw [Hw1.out]
    exact (Below.refl _ w).alloc (Nat.le_refl _) _
  have HL := Lib.hid (length_any a n cap z w1 (h1.below hB) h3 h2)
  have HB := Lib.hid hB
  obtain ⟨q, Hq⟩ : ∃ q, Hid (bitsN (ofW z) = q) := ⟨_, Lib.hid rfl⟩
  rw [Hq.out] at HL
  clear h1 hB
  go_enter Tryd.func78, Tryd.ntmps78
  go_wp2_with (go_at_call 82; refine hold ?_)
  rw [← Hw1.out]
  refine Hold.mk ?_
  refine HL.out.mono ?_
  rintro e w2 ⟨rfl, rfl⟩
  go_wp2_with fail
  go_ret
  refine ⟨eret_bool ?_, HB.out⟩
  refine decide_eq_decide.2 ?_
  have := bitsN_le_iff (ofW z) 512
  rw [Hq.out] at this
  omega

set_option maxHeartbeats 800000 in
theorem negative_any (v : Value) (neg : Bool) (z : List Nat) (w : World) (h : IntV w v neg z) :
    Calls Tryd.prog 68 #[v] w fun e w' => e = .returned (.bool (decide (valI neg z < 0))) ∧ Below w.heap.size w w' := by
  obtain ⟨a, n, cap, rfl, h1, h2, h3⟩ := h
  obtain ⟨w1, Hw1⟩ : ∃ w1, Hid (w1 = w.alloc (.cells #[.bool neg, .slice a n cap] 24)) := ⟨_, Lib.hid rfl⟩
  have hB : Below w.heap.size w w1 := by
    rw [Hw1.out]
    exact (Below.refl _ w).alloc (Nat.le_refl _) _
  have HT := Lib.hid (trim_any a n cap z w1 (h1.below hB) (by omega) h2)
  have HB := Lib.hid hB
  obtain ⟨m, Hm⟩ : ∃ m, Hid ((trimZ z).length = m) := ⟨_, Lib.hid rfl⟩
  have hm9 : m ≤ 1000000 := by have := trim_le z; have := h1.1; have := Hm.out; omega
  rw [Hm.out] at HT
  have HV := Lib.hid (show (valI neg z < 0) ↔ (neg = true ∧ 0 < m) from by
    have h0 : 0 < m ↔ ofW z ≠ 0 := by
      have := trim_nil z
      rw [← Hm.out, List.length_pos_iff, Ne, this]
    unfold valI
    cases neg with
    | false => simp
    | true => simp [h0]; omega)
  clear h1 hB
  cases neg with
  | false =>
    go_enter Tryd.func68, Tryd.ntmps68
    go_wp2_with fail
    rw [← Hw1.out]
    go_ret
    exact ⟨eret_bool (by have := HV.out; simp at this; exact (decide_eq_false (by omega)).symm), HB.out⟩
  | true =>
    go_enter Tryd.func68, Tryd.ntmps68
    go_wp2_with (go_at_call 54; refine hold ?_)
    rw [← Hw1.out]
    refine Hold.mk ?_
    refine HT.out.mono ?_
    rintro e w2 ⟨rfl, rfl⟩
    go_wp2_with fail
    go_ret
    refine ⟨eret_bool ?_, HB.out⟩
    have := HV.out
    refine decide_eq_decide.2 ?_
    rw [this]
    simp

set_option maxRecDepth 100000 in
set_option maxHeartbeats 1600000 in
theorem sizes_any (a1 a2 : Option Addr) (n1 n2 cap1 cap2 : Nat) (z1 z2 : List Nat) (w : World) (h1 : WordsAt w a1 n1 z1) (h2 : WordsAt w a2 n2 z2) (hn1 : n1 ≤ 1000000) (hn2 : n2 ≤ 1000000) (hc1 : n1 ≤ cap1) (hc2 : n2 ≤ cap2) :
    Calls Tryd.prog 69 #[.slice a1 n1 cap1, .slice a2 n2 cap2] w fun e w' => e = .returned (.int .i64 (cmpN (ofW z1) (ofW z2))) ∧ Below w.heap.size w w' := by
  have HT1 := Lib.hid (trim_any a1 n1 cap1 z1 w h1 (by omega) hc1)
  have HT2 := Lib.hid (trim_any a2 n2 cap2 z2 w h2 (by omega) hc2)
  obtain ⟨m1, Hm1⟩ : ∃ m, Hid ((trimZ z1).length = m) := ⟨_, Lib.hid rfl⟩
  obtain ⟨m2, Hm2⟩ : ∃ m, Hid ((trimZ z2).length = m) := ⟨_, Lib.hid rfl⟩
  have hm1 : m1 ≤ 1000000 := by have := trim_le z1; have := h1.1; have := Hm1.out; omega
  have hm2 : m2 ≤ 1000000 := by have := trim_le z2; have := h2.1; have := Hm2.out; omega
  have t1 := h1.trim
  have t2 := h2.trim
  rw [Hm1.out] at HT1 t1
  rw [Hm2.out] at HT2 t2
  have HZ := Lib.hid (And.intro t1 t2)
  obtain ⟨y1, Hy1⟩ : ∃ y, Hid (trimZ z1 = y ∧ trimZ y = y ∧ ofW y = ofW z1) := ⟨_, Lib.hid ⟨rfl, trim_idem, ofW_trim _⟩⟩
  obtain ⟨y2, Hy2⟩ : ∃ y, Hid (trimZ z2 = y ∧ trimZ y = y ∧ ofW y = ofW z2) := ⟨_, Lib.hid ⟨rfl, trim_idem, ofW_trim _⟩⟩
  rw [Hy1.out.1, Hy2.out.1] at HZ
  clear h1 h2 t1 t2 Hm1 Hm2
  by_cases hne : m1 = m2
  · subst hne
    have hq : ((m1 : Int) != (m1 : Int)) = false := by simp
    go_enter Tryd.func69, Tryd.ntmps69
    go_wp2_with (go_at_call 54; refine hold ?_)
    refine Hold.mk ?_
    refine HT1.out.mono ?_
    rintro e w2 ⟨rfl, rfl⟩
    go_wp2_with (go_at_call 54; refine hold ?_)
    refine Hold.mk ?_
    refine HT2.out.mono ?_
    rintro e w2 ⟨rfl, rfl⟩
    go_wp2_with fail
    go_loopg [5] m1 (fun g v5 wr => ∃ k : Nat, k ≤ m1 ∧ v5 = .int .i64 ((k : Int) - 1) ∧ g = k ∧ Hid (y1.drop k = y2.drop k ∧ Below w.heap.size w wr))
    case atStart => exact ⟨m1, Nat.le_refl _, rfl, rfl, Lib.hid ⟨by rw [List.drop_of_length_le (by have := HZ.out.1.1; omega), List.drop_of_length_le (by have := HZ.out.2.1; omega)], Below.refl _ _⟩⟩
    case round =>
      obtain ⟨k, hk, rfl, hg, Hr⟩ := hrel
      cases k with
      | zero =>
        have e : (((0 : Nat) : Int) - 1) = -1 := by decide
        rw [e]
        clear e
        go_wp2_with fail
        go_ret
        refine ⟨eret_int ?_, Hr.out.2⟩
        have h := Hr.out.1
        rw [List.drop_zero, List.drop_zero] at h
        rw [← Hy1.out.2.2, ← Hy2.out.2.2, h]
        unfold cmpN
        simp
      | succ k =>
        have e : (((k + 1 : Nat) : Int) - 1) = (k : Int) := by omega
        rw [e]
        clear e
        obtain ⟨x1, rfl, g1⟩ := (HZ.out.1.below Hr.out.2).2.2 k (by omega)
        obtain ⟨x2, rfl, g2⟩ := (HZ.out.2.below Hr.out.2).2.2 k (by omega)
        obtain ⟨u1, Hu1⟩ : ∃ u, Hid (y1.getD k 0 = u) := ⟨_, Lib.hid rfl⟩
        obtain ⟨u2, Hu2⟩ : ∃ u, Hid (y2.getD k 0 = u) := ⟨_, Lib.hid rfl⟩
        rw [Hu1.out] at g1
        rw [Hu2.out] at g2
        have HS9 : (fun w' => w'.cell? (x1.add k) = some (.int .u32 (u1 : Nat)) ∧ w'.cell? (x2.add k) = some (.int .u32 (u2 : Nat))) wr.drew := ⟨g1, g2⟩
        have HS11 : (fun w' => w'.cell? (x1.add k) = some (.int .u32 (u1 : Nat)) ∧ w'.cell? (x2.add k) = some (.int .u32 (u2 : Nat))) wr.drew.drew := ⟨g1, g2⟩
        have Hlen := Lib.hid (show y1.length = m1 ∧ y2.length = m1 from ⟨HZ.out.1.1, HZ.out.2.1⟩)
        clear g1 g2
        have hbd : Below wr.heap.size wr wr.drew := (Below.refl _ wr).drew
        have HBd := Lib.hid hbd
        clear hbd
        have hkl : k < m1 := by omega
        go_upto_region 9 with fail
        by_cases hlt : u1 < u2
        · have hd : decide (((u1 : Nat) : Int) < ((u2 : Nat) : Int)) = true := decide_eq_true (by omega)
          refine wp_region_pi (fun w' => w'.cell? (x1.add k) = some (.int .u32 (u1 : Nat)) ∧ w'.cell? (x2.add k) = some (.int .u32 (u2 : Nat))) [(0, 1), (1, 1), (2, 1), (3, 0), (4, 1), (5, 1), (6, 1), (7, 0), (8, 1), (9, 1)] [] (by kernel_rfl) (by kernel_rfl) (fun _ _ _ _ _ h => h) (HS9) ?_
          refine pd_pu (some 28) rfl rfl (by rfl) (fun ws => by go_simp; try with_reducible rfl) ?_; go_frame   -- 0 Op.move (Operand.tmp 0)
          refine pd_pu (some 29) rfl rfl (by rfl) (fun ws => by go_simp; try with_reducible rfl) ?_; go_frame   -- 1 Op.move (Operand.tmp 5)
          refine pd_pu (some 30) rfl rfl (by rfl) (fun ws => by go_simp; try with_reducible rfl) ?_; go_frame   -- 2 Op.indexAddr 22 (Operand.tmp 28) (Operand.tmp 29)
          refine pd_ld (some 31) rfl rfl (by rfl) (fun ws HS => by go_split_ands; go_simp; try with_reducible rfl) ?_; go_frame   -- 3 Op.load 68 (Operand.tmp 30)
          refine pd_pu (some 32) rfl rfl (by rfl) (fun ws => by go_simp; try with_reducible rfl) ?_; go_frame   -- 4 Op.move (Operand.tmp 1)
          refine pd_pu (some 33) rfl rfl (by rfl) (fun ws => by go_simp; try with_reducible rfl) ?_; go_frame   -- 5 Op.move (Operand.tmp 5)
          refine pd_pu (some 34) rfl rfl (by rfl) (fun ws => by go_simp; try with_reducible rfl) ?_; go_frame   -- 6 Op.indexAddr 22 (Operand.tmp 32) (Operand.tmp 33)
          refine pd_ld (some 35) rfl rfl (by rfl) (fun ws HS => by go_split_ands; go_simp; try with_reducible rfl) ?_; go_frame   -- 7 Op.load 68 (Operand.tmp 34)
          refine pd_pu (some 36) rfl rfl (by rfl) (fun ws => by go_simp; try with_reducible rfl) ?_; go_frame   -- 8 Op.binOp BinOp.lss 68 (Operand.tmp 31) (Operand.tmp 35) 68
          refine pd_pu (some 27) rfl rfl (by rfl) (fun ws => by go_simp; try with_reducible rfl) ?_; go_frame   -- 9 Op.assign (Operand.tmp 36)
          refine pi_tail (r := []) rfl ?_; simp only [opsAt]
          go_wp2_with fail
          go_ret
          refine ⟨eret_int ?_, Hr.out.2.trans (Below.mono HBd.out Hr.out.2.size)⟩
          have := ofW_top HZ.out.1.2.1 HZ.out.2.2.1 (by rw [Hlen.out.1, Hlen.out.2]) k (by rw [Hlen.out.1]; omega) Hr.out.1 (by rw [Hu1.out, Hu2.out]; exact hlt)
          rw [Hy1.out.2.2, Hy2.out.2.2] at this
          unfold cmpN
          rw [if_pos this]
        · have hd : decide (((u1 : Nat) : Int) < ((u2 : Nat) : Int)) = false := decide_eq_false (by omega)
          refine wp_region_pi (fun w' => w'.cell? (x1.add k) = some (.int .u32 (u1 : Nat)) ∧ w'.cell? (x2.add k) = some (.int .u32 (u2 : Nat))) [(0, 1), (1, 1), (2, 1), (3, 0), (4, 1), (5, 1), (6, 1), (7, 0), (8, 1), (9, 1)] [] (by kernel_rfl) (by kernel_rfl) (fun _ _ _ _ _ h => h) (HS9) ?_
          refine pd_pu (some 28) rfl rfl (by rfl) (fun ws => by go_simp; try with_reducible rfl) ?_; go_frame   -- 0 Op.move (Operand.tmp 0)
          refine pd_pu (some 29) rfl rfl (by rfl) (fun ws => by go_simp; try with_reducible rfl) ?_; go_frame   -- 1 Op.move (Operand.tmp 5)
          refine pd_pu (some 30) rfl rfl (by rfl) (fun ws => by go_simp; try with_reducible rfl) ?_; go_frame   -- 2 Op.indexAddr 22 (Operand.tmp 28) (Operand.tmp 29)
          refine pd_ld (some 31) rfl rfl (by rfl) (fun ws HS => by go_split_ands; go_simp; try with_reducible rfl) ?_; go_frame   -- 3 Op.load 68 (Operand.tmp 30)
          refine pd_pu (some 32) rfl rfl (by rfl) (fun ws => by go_simp; try with_reducible rfl) ?_; go_frame   -- 4 Op.move (Operand.tmp 1)
          refine pd_pu (some 33) rfl rfl (by rfl) (fun ws => by go_simp; try with_reducible rfl) ?_; go_frame   -- 5 Op.move (Operand.tmp 5)
          refine pd_pu (some 34) rfl rfl (by rfl) (fun ws => by go_simp; try with_reducible rfl) ?_; go_frame   -- 6 Op.indexAddr 22 (Operand.tmp 32) (Operand.tmp 33)
          refine pd_ld (some 35) rfl rfl (by rfl) (fun ws HS => by go_split_ands; go_simp; try with_reducible rfl) ?_; go_frame   -- 7 Op.load 68 (Operand.tmp 34)
          refine pd_pu (some 36) rfl rfl (by rfl) (fun ws => by go_simp; try with_reducible rfl) ?_; go_frame   -- 8 Op.binOp BinOp.lss 68 (Operand.tmp 31) (Operand.tmp 35) 68
          refine pd_pu (some 27) rfl rfl (by rfl) (fun ws => by go_simp; try with_reducible rfl) ?_; go_frame   -- 9 Op.assign (Operand.tmp 36)
          refine pi_tail (r := []) rfl ?_; simp only [opsAt]
          go_upto_region 11 with fail
          by_cases hgt : u2 < u1
          · have hd2 : decide (((u2 : Nat) : Int) < ((u1 : Nat) : Int)) = true := decide_eq_true (by omega)
            refine wp_region_pi (fun w' => w'.cell? (x1.add k) = some (.int .u32 (u1 : Nat)) ∧ w'.cell? (x2.add k) = some (.int .u32 (u2 : Nat))) [(0, 1), (1, 1), (2, 1), (3, 0), (4, 1), (5, 1), (6, 1), (7, 0), (8, 1), (9, 1)] [] (by kernel_rfl) (by kernel_rfl) (fun _ _ _ _ _ h => h) (HS11) ?_
            refine pd_pu (some 38) rfl rfl (by rfl) (fun ws => by go_simp; try with_reducible rfl) ?_; go_frame   -- 0 Op.move (Operand.tmp 0)
            refine pd_pu (some 39) rfl rfl (by rfl) (fun ws => by go_simp; try with_reducible rfl) ?_; go_frame   -- 1 Op.move (Operand.tmp 5)
            refine pd_pu (some 40) rfl rfl (by rfl) (fun ws => by go_simp; try with_reducible rfl) ?_; go_frame   -- 2 Op.indexAddr 22 (Operand.tmp 38) (Operand.tmp 39)
            refine pd_ld (some 41) rfl rfl (by rfl) (fun ws HS => by go_split_ands; go_simp; try with_reducible rfl) ?_; go_frame   -- 3 Op.load 68 (Operand.tmp 40)
            refine pd_pu (some 42) rfl rfl (by rfl) (fun ws => by go_simp; try with_reducible rfl) ?_; go_frame   -- 4 Op.move (Operand.tmp 1)
            refine pd_pu (some 43) rfl rfl (by rfl) (fun ws => by go_simp; try with_reducible rfl) ?_; go_frame   -- 5 Op.move (Operand.tmp 5)
            refine pd_pu (some 44) rfl rfl (by rfl) (fun ws => by go_simp; try with_reducible rfl) ?_; go_frame   -- 6 Op.indexAddr 22 (Operand.tmp 42) (Operand.tmp 43)
            refine pd_ld (some 45) rfl rfl (by rfl) (fun ws HS => by go_split_ands; go_simp; try with_reducible rfl) ?_; go_frame   -- 7 Op.load 68 (Operand.tmp 44)
            refine pd_pu (some 46) rfl rfl (by rfl) (fun ws => by go_simp; try with_reducible rfl) ?_; go_frame   -- 8 Op.binOp BinOp.gtr 68 (Operand.tmp 41) (Operand.tmp 45) 68
            refine pd_pu (some 37) rfl rfl (by rfl) (fun ws => by go_simp; try with_reducible rfl) ?_; go_frame   -- 9 Op.assign (Operand.tmp 46)
            refine pi_tail (r := []) rfl ?_; simp only [opsAt]
            go_wp2_with fail
            go_ret
            refine ⟨eret_int ?_, Hr.out.2.trans (Below.mono (HBd.out.trans (Below.mono (Below.refl _ _).drew HBd.out.size)) Hr.out.2.size)⟩
            have := ofW_top HZ.out.2.2.1 HZ.out.1.2.1 (by rw [Hlen.out.1, Hlen.out.2]) k (by rw [Hlen.out.2]; omega) Hr.out.1.symm (by rw [Hu1.out, Hu2.out]; exact hgt)
            rw [Hy1.out.2.2, Hy2.out.2.2] at this
            unfold cmpN
            rw [if_neg (by omega), if_neg (by omega)]
          · have hd2 : decide (((u2 : Nat) : Int) < ((u1 : Nat) : Int)) = false := decide_eq_false (by omega)
            refine wp_region_pi (fun w' => w'.cell? (x1.add k) = some (.int .u32 (u1 : Nat)) ∧ w'.cell? (x2.add k) = some (.int .u32 (u2 : Nat))) [(0, 1), (1, 1), (2, 1), (3, 0), (4, 1), (5, 1), (6, 1), (7, 0), (8, 1), (9, 1)] [] (by kernel_rfl) (by kernel_rfl) (fun _ _ _ _ _ h => h) (HS11) ?_
            refine pd_pu (some 38) rfl rfl (by rfl) (fun ws => by go_simp; try with_reducible rfl) ?_; go_frame   -- 0 Op.move (Operand.tmp 0)
            refine pd_pu (some 39) rfl rfl (by rfl) (fun ws => by go_simp; try with_reducible rfl) ?_; go_frame   -- 1 Op.move (Operand.tmp 5)
            refine pd_pu (some 40) rfl rfl (by rfl) (fun ws => by go_simp; try with_reducible rfl) ?_; go_frame   -- 2 Op.indexAddr 22 (Operand.tmp 38) (Operand.tmp 39)
            refine pd_ld (some 41) rfl rfl (by rfl) (fun ws HS => by go_split_ands; go_simp; try with_reducible rfl) ?_; go_frame   -- 3 Op.load 68 (Operand.tmp 40)
            refine pd_pu (some 42) rfl rfl (by rfl) (fun ws => by go_simp; try with_reducible rfl) ?_; go_frame   -- 4 Op.move (Operand.tmp 1)
            refine pd_pu (some 43) rfl rfl (by rfl) (fun ws => by go_simp; try with_reducible rfl) ?_; go_frame   -- 5 Op.move (Operand.tmp 5)
            refine pd_pu (some 44) rfl rfl (by rfl) (fun ws => by go_simp; try with_reducible rfl) ?_; go_frame   -- 6 Op.indexAddr 22 (Operand.tmp 42) (Operand.tmp 43)
            refine pd_ld (some 45) rfl rfl (by rfl) (fun ws HS => by go_split_ands; go_simp; try with_reducible rfl) ?_; go_frame   -- 7 Op.load 68 (Operand.tmp 44)
            refine pd_pu (some 46) rfl rfl (by rfl) (fun ws => by go_simp; try with_reducible rfl) ?_; go_frame   -- 8 Op.binOp BinOp.gtr 68 (Operand.tmp 41) (Operand.tmp 45) 68
            refine pd_pu (some 37) rfl rfl (by rfl) (fun ws => by go_simp; try with_reducible rfl) ?_; go_frame   -- 9 Op.assign (Operand.tmp 46)
            refine pi_tail (r := []) rfl ?_; simp only [opsAt]
            go_wp2_with fail
            go_roundg k
            case measure => omega
            case rel =>
              refine ⟨k, by omega, by go_num, rfl, Lib.hid ⟨?_, Hr.out.2.trans (Below.mono (HBd.out.trans (Below.mono (Below.refl _ _).drew HBd.out.size)) Hr.out.2.size)⟩⟩
              have d : ∀ y : List Nat, y.length = m1 → y.drop k = y.getD k 0 :: y.drop (k + 1) := fun y hy => by
                rw [List.drop_eq_getElem_cons (show k < y.length by omega)]
                simp [List.getD, show k < y.length by omega]
              rw [d y1 Hlen.out.1, d y2 Hlen.out.2, Hu1.out, Hu2.out, Hr.out.1, show u1 = u2 by omega]
  · have HV := Lib.hid (show cmpN (ofW z1) (ofW z2) = if m1 < m2 then -1 else 1 from by
      rw [← Hy1.out.2.2, ← Hy2.out.2.2]
      obtain ⟨w1, w2⟩ := HZ.out
      by_cases hlt : m1 < m2
      · have := ofW_len_lt (l := y1) (m := y2) w1.2.1 Hy2.out.2.1 (by rw [w1.1, w2.1]; exact hlt)
        unfold cmpN
        rw [if_pos hlt, if_pos this]
      · have := ofW_len_lt (l := y2) (m := y1) w2.2.1 Hy1.out.2.1 (by rw [w1.1, w2.1]; omega)
        unfold cmpN
        rw [if_neg hlt, if_neg (by omega), if_neg (by omega)])
    have hq : ((m1 : Int) != (m2 : Int)) = true := by simp; omega
    go_enter Tryd.func69, Tryd.ntmps69
    go_wp2_with (go_at_call 54; refine hold ?_)
    refine Hold.mk ?_
    refine HT1.out.mono ?_
    rintro e w2 ⟨rfl, rfl⟩
    go_wp2_with (go_at_call 54; refine hold ?_)
    refine Hold.mk ?_
    refine HT2.out.mono ?_
    rintro e w2 ⟨rfl, rfl⟩
    by_cases hlt : m1 < m2
    · go_wp2_with fail
      go_ret
      exact ⟨eret_int (by rw [HV.out, if_pos hlt]), Below.refl _ _⟩
    · have hge : m2 ≤ m1 := by omega
      go_wp2_with fail
      go_ret
      exact ⟨eret_int (by rw [HV.out, if_neg hlt]), Below.refl _ _⟩
end Go.Proofs.YtahgbbnpbhfaeaaDoor

/- exact.Compare, fits, Of. No condition. -/
namespace Go.Proofs.YtahgbbnpbhfaeaaDoor
open Go.RowKit

theorem box2 (w : World) (n1 n2 : Bool) (s1 s2 : Value) : ∀ wx : World, Below ((w.alloc (.cells #[.bool n1, s1] 24)).alloc (.cells #[.bool n2, s2] 24)).heap.size ((w.alloc (.cells #[.bool n1, s1] 24)).alloc (.cells #[.bool n2, s2] 24)) wx →
    wx.cell? ⟨w.heap.size, 0, none⟩ = some (.bool n1) ∧ wx.cell? ⟨w.heap.size, 1, none⟩ = some s1 ∧ wx.cell? ⟨w.heap.size + 1, 0, none⟩ = some (.bool n2) ∧ wx.cell? ⟨w.heap.size + 1, 1, none⟩ = some s2 := fun wx hx => by
  have q1 : ((w.alloc (.cells #[.bool n1, s1] 24)).alloc (.cells #[.bool n2, s2] 24)).heap[w.heap.size]? = some (.cells #[.bool n1, s1] 24 (0, 0)) :=
    (Below.heap_alloc _ _ _ (by simp)).trans (heap_alloc_new w _)
  have q2 : ((w.alloc (.cells #[.bool n1, s1] 24)).alloc (.cells #[.bool n2, s2] 24)).heap[w.heap.size + 1]? = some (.cells #[.bool n2, s2] 24 (0, 0)) := by
    have := heap_alloc_new (w.alloc (.cells #[.bool n1, s1] 24)) (.cells #[.bool n2, s2] 24)
    rwa [World.size_alloc] at this
  have e1 := (hx.block _ (by simp; omega)).trans q1
  have e2 := (hx.block _ (by simp)).trans q2
  refine ⟨?_, ?_, ?_, ?_⟩ <;> first | (simp only [World.cell?, e1]; rfl) | (simp only [World.cell?, e2]; rfl)

theorem cmpN_I (a b : Nat) : cmpN a b = cmpI (a : Int) (b : Int) := by
  have h1 : ((a : Int) < b) = (a < b) := propext (by omega)
  have h2 : ((a : Int) = b) = (a = b) := propext (by omega)
  unfold cmpN cmpI
  simp only [h1, h2]
theorem cmpI_neg (a b : Int) : cmpI (-a) (-b) = cmpI b a := by
  have h1 : (-a < -b) = (b < a) := propext (by omega)
  have h2 : (-a = -b) = (b = a) := propext (by omega)
  unfold cmpI
  simp only [h1, h2]

set_option maxRecDepth 100000 in
set_option maxHeartbeats 1600000 in
theorem compare_any (v1 v2 : Value) (g1 g2 : Bool) (z1 z2 : List Nat) (w : World) (h1 : IntV w v1 g1 z1) (h2 : IntV w v2 g2 z2) :
    Calls Tryd.prog 50 #[v1, v2] w fun e w' => e = .returned (.int .i64 (cmpI (valI g1 z1) (valI g2 z2))) ∧ Below w.heap.size w w' := by
  obtain ⟨a1, n1, cap1, rfl, hw1, hc1, hn1⟩ := id h1
  obtain ⟨a2, n2, cap2, rfl, hw2, hc2, hn2⟩ := id h2
  obtain ⟨w2, Hw2⟩ : ∃ w2, Hid (w2 = (w.alloc (.cells #[.bool g1, .slice a1 n1 cap1] 24)).alloc (.cells #[.bool g2, .slice a2 n2 cap2] 24)) := ⟨_, Lib.hid rfl⟩
  obtain ⟨bn, Hbn⟩ : ∃ b, Hid (b = w.heap.size) := ⟨_, Lib.hid rfl⟩
  obtain ⟨bm, Hbm⟩ : ∃ b, Hid (b = w.heap.size + 1) := ⟨_, Lib.hid rfl⟩
  have hB : Below w.heap.size w w2 := by
    rw [Hw2.out]
    exact ((Below.refl _ w).alloc (Nat.le_refl _) _).alloc (by simp) _
  have HC := Lib.hid (box2 w g1 g2 (.slice a1 n1 cap1) (.slice a2 n2 cap2))
  rw [← Hw2.out, ← Hbm.out, ← Hbn.out] at HC
  have HB := Lib.hid hB
  have K1 := Lib.hid (fun wx (hx : Below w2.heap.size w2 wx) => negative_any (.agg #[.bool g1, .slice a1 n1 cap1]) g1 z1 wx ((h1.below hB).below hx))
  have K2 := Lib.hid (fun wx (hx : Below w2.heap.size w2 wx) => negative_any (.agg #[.bool g2, .slice a2 n2 cap2]) g2 z2 wx ((h2.below hB).below hx))
  have K3 := Lib.hid (fun wx (hx : Below w2.heap.size w2 wx) => sizes_any a1 a2 n1 n2 cap1 cap2 z1 z2 wx ((hw1.below hB).below hx) ((hw2.below hB).below hx) hn1 hn2 hc1 hc2)
  have K4 := Lib.hid (fun wx (hx : Below w2.heap.size w2 wx) => sizes_any a2 a1 n2 n1 cap2 cap1 z2 z1 wx ((hw2.below hB).below hx) ((hw1.below hB).below hx) hn2 hn1 hc2 hc1)
  have HV := Lib.hid (show (valI g1 z1 < 0 → g1 = true) ∧ (valI g2 z2 < 0 → g2 = true) ∧ (¬ valI g1 z1 < 0 → valI g1 z1 = ofW z1) ∧ (¬ valI g2 z2 < 0 → valI g2 z2 = ofW z2) ∧ (valI g1 z1 < 0 → valI g1 z1 = -(ofW z1 : Int)) ∧ (valI g2 z2 < 0 → valI g2 z2 = -(ofW z2 : Int)) from by
    unfold valI
    cases g1 <;> cases g2 <;> simp <;> omega)
  obtain ⟨x, Hx⟩ : ∃ x, Hid (valI g1 z1 = x) := ⟨_, Lib.hid rfl⟩
  obtain ⟨y, Hy⟩ : ∃ y, Hid (valI g2 z2 = y) := ⟨_, Lib.hid rfl⟩
  rw [Hx.out] at K1 HV ⊢
  rw [Hy.out] at K2 HV ⊢
  obtain ⟨bx, Hbx⟩ : ∃ b, Hid (decide (x < 0) = b) := ⟨_, Lib.hid rfl⟩
  obtain ⟨by', Hby⟩ : ∃ b, Hid (decide (y < 0) = b) := ⟨_, Lib.hid rfl⟩
  simp only [Hbx.out] at K1
  simp only [Hby.out] at K2
  clear h1 h2 hw1 hw2 hB
  go_enter Tryd.func50, Tryd.ntmps50
  go_upto_region 1 with fail
  rw [← Hw2.out]
  try rw [← Hbm.out]
  try rw [← Hbn.out]
  have hD := Lib.hid (Below.refl w2.heap.size w2).drew
  have HS := HC.out w2.drew hD.out
  refine wp_region_pi (fun w' => w'.cell? ⟨bn, 0, none⟩ = some (.bool g1) ∧ w'.cell? ⟨bn, 1, none⟩ = some (.slice a1 n1 cap1) ∧ w'.cell? ⟨bm, 0, none⟩ = some (.bool g2) ∧ w'.cell? ⟨bm, 1, none⟩ = some (.slice a2 n2 cap2)) [(0, 0), (2, 0), (1, 2), (3, 3), (4, 3), (5, 3)] [(3, [1, 0]), (3, [2]), (4, [0]), (4, [3, 2]), (5, [0]), (5, [2])] (by kernel_rfl) (by kernel_rfl) (fun _ _ _ _ _ h => h) (HS) ?_
  refine pd_ld (some 7) rfl rfl (by rfl) (fun ws HS => by go_split_ands; go_simp; try with_reducible rfl) ?_; go_frame   -- 0 Op.load 24 (Operand.tmp 2)
  refine pd_ld (some 9) rfl rfl (by rfl) (fun ws HS => by go_split_ands; go_simp; try with_reducible rfl) ?_; go_frame   -- 2 Op.load 24 (Operand.tmp 3)
  refine pi_ke rfl (fun J hJ => ?_)   -- pi_ke 1 Op.call { callee := Callee.value (Operand.func 68), args := #[Operand.tmp 7], argTypes := #[24] }
  go_wp2_with (go_at_call 68; refine (K1.out w2.drew hD.out).mono ?_; rintro e w3 ⟨rfl, hb⟩; have hE := Lib.hid (hD.out.trans (Below.mono hb hD.out.size)); clear hb)
  refine hJ _ _ (HC.out w3 hE.out) ?_
  refine pi_tail (by rfl) ?_; simp only [opsAt, List.getElem?_toArray, List.getElem?_cons_zero, List.getElem?_cons_succ]   -- [(3, 'Op.call { callee := Callee.value (Operand.func 68), args := #[Operand.tmp 9], argTypes := #[24] }'), (4, 'Op.assign (Operand.tmp 8)'), (5, 'Op.assign (Operand.tmp 10)')]
  go_upto_region 2 with (go_at_call 68; refine (K2.out w3 hE.out).mono ?_; rintro e w4 ⟨rfl, hb⟩; have hF := Lib.hid (hE.out.trans (Below.mono hb hE.out.size)); clear hb)
  obtain ⟨s0, s1, s2, s3⟩ := HC.out w4 hF.out
  have hfin : ∀ r : Int, r = cmpI x y → Ending.returned (.int .i64 r) = .returned (.int .i64 (cmpI x y)) := fun r h => by rw [h]
  have HFin := Lib.hid hfin
  clear hfin
  cases bx with
  | true =>
    cases by' with
    | true =>
      go_wp2_with (go_at_call 69; refine (K4.out w4 hF.out).mono ?_; rintro e w5 ⟨rfl, hb⟩; have hG := Lib.hid (hF.out.trans (Below.mono hb hF.out.size)); clear hb)
      go_ret
      refine ⟨HFin.out _ ?_, HB.out.trans (Below.mono hG.out HB.out.size)⟩
      have hx := of_decide_eq_true Hbx.out
      have hy := of_decide_eq_true Hby.out
      obtain ⟨_, _, _, _, e1, e2⟩ := HV.out
      have e1 := e1 (by omega)
      have e2 := e2 (by omega)
      rw [cmpN_I, e1, e2, cmpI_neg]
    | false =>
      go_wp2_with fail
      go_ret
      refine ⟨HFin.out _ ?_, HB.out.trans (Below.mono hF.out HB.out.size)⟩
      have hx := of_decide_eq_true Hbx.out
      have hy := of_decide_eq_false Hby.out
      unfold cmpI
      rw [if_pos (by omega)]
  | false =>
    cases by' with
    | true =>
      go_wp2_with fail
      go_ret
      refine ⟨HFin.out _ ?_, HB.out.trans (Below.mono hF.out HB.out.size)⟩
      have hx := of_decide_eq_false Hbx.out
      have hy := of_decide_eq_true Hby.out
      unfold cmpI
      rw [if_neg (by omega), if_neg (by omega)]
    | false =>
      go_wp2_with (go_at_call 69; refine (K3.out w4 hF.out).mono ?_; rintro e w5 ⟨rfl, hb⟩; have hG := Lib.hid (hF.out.trans (Below.mono hb hF.out.size)); clear hb)
      go_ret
      refine ⟨HFin.out _ ?_, HB.out.trans (Below.mono hG.out HB.out.size)⟩
      have hx := of_decide_eq_false Hbx.out
      have hy := of_decide_eq_false Hby.out
      obtain ⟨_, _, e1, e2, _, _⟩ := HV.out
      have e1 := e1 (by omega)
      have e2 := e2 (by omega)
      rw [cmpN_I, e1, e2]
end Go.Proofs.YtahgbbnpbhfaeaaDoor

/- exact.fits, Of; slices.Clone of words; exact.Neg. No condition. -/
namespace Go.Proofs.YtahgbbnpbhfaeaaDoor
open Go.RowKit

theorem results_cell_pair {fn : Func} {p u : Tmp} (h : fn.results = #[.cell p 24, .tmp u]) (tmps : Array Value) (w : World) (g : Nat) (t : TypeId) (x y : Value) (fr : Nat × Nat)
    (hp : tmps.getD p undef = .pointer (some ⟨g, 0, none⟩)) (hg : w.heap[g]? = some (.cells #[x, y] t fr)) : (results fn tmps).run Tryd.prog w = .ok (.tuple #[.agg #[x, y], tmps.getD u undef]) w := by
  rw [results_cell_tmp h, hp]
  simp only [asAddr, Sem.run_pure, Result.andThen_ok]
  rw [run_loadVar_row w g t 24 #[x, y] fr _ hg Tryd.underlying24 rfl (by kernel_rfl)]
  rfl
theorem WordsAt.box {w : World} {a a' : Option Addr} {n n' c' b : Nat} {z : List Nat} {x : Bool} {t : TypeId} (h : WordsAt w a n z) (hb : w.heap[b]? = some (.cells #[.bool x, .slice a' n' c'] t (0, 0))) (u0 u1 : Value) : WordsAt ((w.setCell ⟨b, 0, none⟩ u0).setCell ⟨b, 1, none⟩ u1) a n z := by
  refine ⟨h.1, h.2.1, fun i hi => ?_⟩
  obtain ⟨y, e, hx⟩ := h.2.2 i hi
  refine ⟨y, e, ?_⟩
  have hne : ∀ j, y.add i ≠ (⟨b, j, none⟩ : Addr) := fun j e2 => by
    have hx1 := hx
    rw [e2] at hx1
    simp only [World.cell?, hb] at hx1
    match j with
    | 0 => simp at hx1
    | 1 => simp at hx1
    | j + 2 => simp at hx1
  rw [World.cell?_setCell_other _ _ _ _ (hne 1).symm, World.cell?_setCell_other _ _ _ _ (hne 0).symm]
  exact hx

theorem addW (g j : Nat) : (⟨g, 0, none⟩ : Addr).add j = ⟨g, j, none⟩ := by
  unfold Addr.add
  by_cases h : j = 0
  · subst h; rfl
  · rw [if_neg h]; simp
/-- A number told, or that it is large. -/
def AnsR (w' : World) (e : Ending) (i : Int) : Prop := ∃ v, e = .returned (.tuple #[v, .int .i64 (if 2 ^ 512 ≤ i.natAbs then 2 else 0)]) ∧ IntC w' v (if 2 ^ 512 ≤ i.natAbs then 0 else i)
theorem intC_zero (w : World) : IntC w (.agg #[.bool false, .slice none 0 0]) 0 := ⟨none, 0, 0, rfl, by simpa [canW] using WordsAt.nil w none, Nat.le_refl _, by omega⟩

set_option maxHeartbeats 1600000 in
theorem fits_any (v : Value) (i : Int) (w : World) (h : IntC w v i) :
    Calls Tryd.prog 79 #[v] w fun e w' => AnsR w' e i ∧ Below w.heap.size w w' := by
  obtain ⟨a, n, cap, rfl, hw, hc, hn⟩ := id h
  obtain ⟨b, Hb⟩ : ∃ b, Hid (decide (i < 0) = b) := ⟨_, Lib.hid rfl⟩
  have h0 := h
  unfold IntC at h0
  rw [Hb.out] at h0 ⊢
  obtain ⟨w2, Hw2⟩ : ∃ w2, Hid (w2 = (w.alloc (.cells #[.bool b, .slice a n cap] 24)).alloc (.cells #[.bool false, .slice none 0 0] 24)) := ⟨_, Lib.hid rfl⟩
  obtain ⟨bn, Hbn⟩ : ∃ b, Hid (b = w.heap.size) := ⟨_, Lib.hid rfl⟩
  obtain ⟨bm, Hbm⟩ : ∃ b, Hid (b = w.heap.size + 1) := ⟨_, Lib.hid rfl⟩
  have hB : Below w.heap.size w w2 := by
    rw [Hw2.out]
    exact ((Below.refl _ w).alloc (Nat.le_refl _) _).alloc (by simp) _
  have q2 : w2.heap[bm]? = some (.cells #[.bool false, .slice none 0 0] 24 (0, 0)) := by
    have := heap_alloc_new (w.alloc (.cells #[.bool b, .slice a n cap] 24)) (.cells #[.bool false, .slice none 0 0] 24)
    rw [World.size_alloc] at this
    rw [Hw2.out, Hbm.out]
    exact this
  have HC := Lib.hid (box2 w b false (.slice a n cap) (.slice none 0 0))
  rw [← Hw2.out, ← Hbm.out, ← Hbn.out] at HC
  have K1 := Lib.hid (large_any (.agg #[.bool b, .slice a n cap]) b (canW i.natAbs) w2 (h0.below hB))
  rw [(canW_words _).2] at K1
  obtain ⟨l, Hl⟩ : ∃ l, Hid (decide (2 ^ 512 ≤ i.natAbs) = l) := ⟨_, Lib.hid rfl⟩
  rw [Hl.out] at K1
  have HB := Lib.hid (And.intro hB (And.intro q2 h))
  clear h h0 hw hB q2
  obtain ⟨s0, s1, s2, s3⟩ := HC.out w2 (Below.refl _ _)
  go_enter Tryd.func79, Tryd.ntmps79
  go_wp2_with (go_at_call 78; refine hold ?_)
  rw [← Hw2.out]
  try rw [← Hbm.out]
  try rw [← Hbn.out]
  refine Hold.mk ?_
  refine K1.out.mono ?_
  rintro e w3 ⟨rfl, hb⟩
  obtain ⟨t0, t1, t2, t3⟩ := HC.out w3 hb
  obtain ⟨hB, q2, h⟩ := HB.out
  have q3 := (hb.block bm (Array.getElem?_eq_some_iff.1 q2).1).trans q2
  have fz : ∀ j, w3.frozen? ⟨bm, j, none⟩ = false := fun j => by simp only [World.frozen?, q3]; simp
  have f0 := fz 0
  have f1 := fz 1
  have HQ := Lib.hid (And.intro q3 (And.intro (hB.trans (Below.mono hb hB.size)) (h.below (hB.trans (Below.mono hb hB.size)))))
  clear s0 s1 s2 s3 hb hB q2 q3 h fz
  have fin : ∀ (x : Bool) (u : Value), Below w.heap.size w ((w3.setCell ⟨bm, 0, none⟩ (.bool x)).setCell ⟨bm, 1, none⟩ u) ∧ ((w3.setCell ⟨bm, 0, none⟩ (.bool x)).setCell ⟨bm, 1, none⟩ u).heap[bm]? = some (.cells #[.bool x, u] 24 (0, 0)) := fun x u =>
    ⟨(HQ.out.2.1.setCell (by have := Hbm.out; simp only; omega) _).setCell (by have := Hbm.out; simp only; omega) _, (setCell_same2 (setCell_same2 HQ.out.1 _) _).trans rfl⟩
  have FIN := Lib.hid fin
  clear fin
  cases l with
  | true =>
    go_wp2_with fail
    obtain ⟨h1, h2⟩ := FIN.out false (.slice none 0 0)
    refine bodyPost_ret (results_cell_pair rfl _ _ bm 24 (.bool false) (.slice none 0 0) (0, 0) rfl h2) rfl ?_
    have hl := of_decide_eq_true Hl.out
    unfold AnsR
    rw [if_pos hl, if_pos hl]
    exact ⟨⟨_, rfl, intC_zero _⟩, h1⟩
  | false =>
    go_wp2_with fail
    obtain ⟨h1, h2⟩ := FIN.out b (.slice a n cap)
    refine bodyPost_ret (results_cell_pair rfl _ _ bm 24 (.bool b) (.slice a n cap) (0, 0) rfl h2) rfl ?_
    have hl := of_decide_eq_false Hl.out
    unfold AnsR
    rw [if_neg hl, if_neg hl]
    refine ⟨⟨_, rfl, ?_⟩, h1⟩
    obtain ⟨a', n', cap', e, hw, hc', hn'⟩ := HQ.out.2.2
    obtain ⟨rfl, rfl, rfl⟩ : a = a' ∧ n = n' ∧ cap = cap' := by
      simp at e
      exact ⟨by simp [e], by simp [e], by simp [e]⟩
    refine ⟨a, n, cap, by rw [Hb.out], hw.box HQ.out.1 _ _, hc', hn'⟩

set_option maxRecDepth 100000 in
set_option maxHeartbeats 1600000 in
theorem of_any (i : Int) (w : World) (h0 : -9223372036854775808 ≤ i) (h1 : i ≤ 9223372036854775807) :
    Calls Tryd.prog 38 #[.int .i64 i] w fun e w' => ∃ v, e = .returned v ∧ IntC w' v i ∧ Below w.heap.size w w' := by
  obtain ⟨N, HN⟩ : ∃ N, Hid (i.natAbs = N) := ⟨_, Lib.hid rfl⟩
  have hN : N < 18446744073709551616 := by have := HN.out; omega
  obtain ⟨w2, Hw2⟩ : ∃ w2, Hid (w2 = (w.alloc (.cells #[.bool false, .slice none 0 0] 24)).alloc (.cells #[.int .u32 ((N : Int) % 4294967296), .int .u32 ((N : Int) / 4294967296)] 68)) := ⟨_, Lib.hid rfl⟩
  obtain ⟨bo, Hbo⟩ : ∃ b, Hid (b = w.heap.size) := ⟨_, Lib.hid rfl⟩
  obtain ⟨bm, Hbm⟩ : ∃ b, Hid (b = w.heap.size + 1) := ⟨_, Lib.hid rfl⟩
  have HZ := Lib.hid (show WordsAt w2 (some ⟨bm, 0, none⟩) 2 [N % 4294967296, N / 4294967296] ∧ Below w.heap.size w w2 ∧ w2.heap[bo]? = some (.cells #[.bool false, .slice none 0 0] 24 (0, 0)) from by
    have q2 : w2.heap[bm]? = some (.cells #[.int .u32 ((N : Int) % 4294967296), .int .u32 ((N : Int) / 4294967296)] 68 (0, 0)) := by
      have := heap_alloc_new (w.alloc (.cells #[.bool false, .slice none 0 0] 24)) (.cells #[.int .u32 ((N : Int) % 4294967296), .int .u32 ((N : Int) / 4294967296)] 68)
      rw [World.size_alloc] at this
      rw [Hw2.out, Hbm.out]
      exact this
    refine ⟨⟨rfl, fun x hx => ?_, fun i hi => ⟨_, rfl, ?_⟩⟩, ?_, ?_⟩
    · simp at hx
      omega
    · match i, hi with
      | 0, _ => rw [addW]; simp only [World.cell?, q2]; rfl
      | 1, _ => rw [addW]; simp only [World.cell?, q2]; rfl
    · rw [Hw2.out]
      exact ((Below.refl _ w).alloc (Nat.le_refl _) _).alloc (by simp) _
    · rw [Hw2.out, Hbo.out]
      exact (Below.heap_alloc _ _ _ (by simp)).trans (heap_alloc_new w _))
  by_cases hneg : i < 0
  · have hU : IntKind.u64.wrap (-IntKind.u64.wrap i) = (N : Int) := by
      have := HN.out
      simp only [IntKind.wrap, IntKind.bits, IntKind.signed]
      simp
      omega
    go_enter Tryd.func38, Tryd.ntmps38
    go_wp2_with (go_at_call 47; refine hold ?_)
    rw [← Hw2.out]
    try rw [← Hbm.out]
    try rw [← Hbo.out]
    refine Hold.mk ?_
    have HF := form_any true (some ⟨bm, 0, none⟩) 2 2 [N % 4294967296, N / 4294967296] w2 HZ.out.1 (by omega) (by omega)
    refine HF.mono ?_
    rintro e w3 ⟨v, rfl, ⟨a, n, cap, rfl, hv, hc, hn⟩, hb⟩
    have hval : valI true [N % 4294967296, N / 4294967296] = i := by
      unfold valI
      simp only [ofW]
      have := HN.out
      simp
      omega
    rw [hval] at hv ⊢
    have q3 := (hb.block bo (Array.getElem?_eq_some_iff.1 HZ.out.2.2).1).trans HZ.out.2.2
    have r0 : w3.cell? ⟨bo, 0, none⟩ = some (.bool false) := by simp only [World.cell?, q3]; rfl
    have r1 : w3.cell? ⟨bo, 1, none⟩ = some (.slice none 0 0) := by simp only [World.cell?, q3]; rfl
    have fz : ∀ j, w3.frozen? ⟨bo, j, none⟩ = false := fun j => by simp only [World.frozen?, q3]; simp
    have f0 := fz 0
    have f1 := fz 1
    obtain ⟨bb, Hbb⟩ : ∃ b, Hid (decide (i < 0) = b) := ⟨_, Lib.hid rfl⟩
    have HX := Lib.hid (And.intro q3 (And.intro hv (And.intro hc (And.intro hn (HZ.out.2.1.trans (Below.mono hb HZ.out.2.1.size))))))
    clear q3 hv hb fz HF
    rw [Hbb.out]
    go_wp2_with fail
    obtain ⟨q3, hv, hc, hn, hb⟩ := HX.out
    have h3 := setCell_same2 (j := 1) (setCell_same2 (j := 0) q3 (.bool bb)) (.slice a n cap)
    refine bodyPost_ret (results_cell_row rfl _ _ bo 24 #[.bool bb, .slice a n cap] (0, 0) _ rfl (h3.trans rfl) Tryd.underlying24 rfl (by kernel_rfl)) rfl ?_
    exact ⟨_, rfl, ⟨a, n, cap, by rw [Hbb.out], hv.box q3 _ _, hc, hn⟩, (hb.setCell (by have := Hbo.out; simp only; omega) _).setCell (by have := Hbo.out; simp only; omega) _⟩
  · have hU : IntKind.u64.wrap i = (N : Int) := by
      have := HN.out
      simp only [IntKind.wrap, IntKind.bits, IntKind.signed]
      simp
      omega
    have hi : i = (N : Int) := by have := HN.out; omega
    have hge : 0 ≤ (N : Int) := by omega
    subst hi
    clear hU hneg
    go_enter Tryd.func38, Tryd.ntmps38
    go_wp2_with (go_at_call 47; refine hold ?_)
    rw [← Hw2.out]
    try rw [← Hbm.out]
    try rw [← Hbo.out]
    refine Hold.mk ?_
    have HF := form_any false (some ⟨bm, 0, none⟩) 2 2 [N % 4294967296, N / 4294967296] w2 HZ.out.1 (by omega) (by omega)
    refine HF.mono ?_
    rintro e w3 ⟨v, rfl, ⟨a, n, cap, rfl, hv, hc, hn⟩, hb⟩
    have hval : valI false [N % 4294967296, N / 4294967296] = (N : Int) := by
      unfold valI
      simp only [ofW]
      have := HN.out
      simp
      omega
    rw [hval] at hv ⊢
    have q3 := (hb.block bo (Array.getElem?_eq_some_iff.1 HZ.out.2.2).1).trans HZ.out.2.2
    have r0 : w3.cell? ⟨bo, 0, none⟩ = some (.bool false) := by simp only [World.cell?, q3]; rfl
    have r1 : w3.cell? ⟨bo, 1, none⟩ = some (.slice none 0 0) := by simp only [World.cell?, q3]; rfl
    have fz : ∀ j, w3.frozen? ⟨bo, j, none⟩ = false := fun j => by simp only [World.frozen?, q3]; simp
    have f0 := fz 0
    have f1 := fz 1
    obtain ⟨bb, Hbb⟩ : ∃ b, Hid (decide ((N : Int) < 0) = b) := ⟨_, Lib.hid rfl⟩
    have HX := Lib.hid (And.intro q3 (And.intro hv (And.intro hc (And.intro hn (HZ.out.2.1.trans (Below.mono hb HZ.out.2.1.size))))))
    clear q3 hv hb fz HF
    rw [Hbb.out]
    go_wp2_with fail
    obtain ⟨q3, hv, hc, hn, hb⟩ := HX.out
    have h3 := setCell_same2 (j := 1) (setCell_same2 (j := 0) q3 (.bool bb)) (.slice a n cap)
    refine bodyPost_ret (results_cell_row rfl _ _ bo 24 #[.bool bb, .slice a n cap] (0, 0) _ rfl (h3.trans rfl) Tryd.underlying24 rfl (by kernel_rfl)) rfl ?_
    exact ⟨_, rfl, ⟨a, n, cap, by rw [Hbb.out], hv.box q3 _ _, hc, hn⟩, (hb.setCell (by have := Hbo.out; simp only; omega) _).setCell (by have := Hbo.out; simp only; omega) _⟩
end Go.Proofs.YtahgbbnpbhfaeaaDoor
