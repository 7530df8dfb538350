/- recastref2.trim, form, size. No condition. -/
import Derived.Test.YtahgbbnpbhfaeaaDoorRfAcc
namespace Go.Proofs.YtahgbbnpbhfaeaaDoor
open Go.RowKit

set_option maxRecDepth 100000 in
set_option maxHeartbeats 1600000 in
theorem rtrim_any (a : Option Addr) (n cap : Nat) (z : List Nat) (w : World) (h : WordsAt w a n z) (hn : n ≤ 1000000) (hc : n ≤ cap) :
    Calls Tryd.prog 63 #[.slice a n cap] w fun e w' => ∃ v, e = .returned v ∧ RowO w' w.heap.size v (trimZ z) ∧ Below w.heap.size w w' := by
  have HZ := Lib.hid h
  clear h
  go_enter Tryd.func63, Tryd.ntmps63
  go_wp2_with fail
  go_loopg [3] n (fun g v3 wr => ∃ m : Nat, m ≤ n ∧ v3 = .int .i64 m ∧ g = m ∧ wr = w ∧ Hid (trimZ (z.take m) = trimZ z))
  case atStart => exact ⟨n, Nat.le_refl _, rfl, rfl, rfl, Lib.hid (by rw [← HZ.out.1, List.take_length])⟩
  case round =>
    obtain ⟨m, hm, rfl, hgm, rfl, Hr⟩ := hrel
    cases m with
    | zero =>
      go_wp2_with (refine wpList_appE _ rfl _ _ rfl none 0 0 _ _ rfl rfl (by omega) ?_)
      go_ret
      have := Hr.out
      rw [List.take_zero] at this
      rw [← this]
      exact ⟨_, rfl, RowO.nil, Below.refl _ _⟩
    | succ m =>
      obtain ⟨x, rfl, hx⟩ := HZ.out.2.2 m (by omega)
      have hst := trim_step z m (by rw [HZ.out.1]; omega)
      obtain ⟨y, Hy⟩ : ∃ y, Hid (z.getD m 0 = y) := ⟨_, Lib.hid rfl⟩
      rw [Hy.out] at hx hst
      have HS := Lib.hid hst
      clear hst
      by_cases h0 : y = 0
      · subst h0
        go_wp2_with fail
        go_roundg m
        case measure => omega
        case rel =>
          refine ⟨m, by omega, by go_num, rfl, rfl, Lib.hid ?_⟩
          have h1 := HS.out
          rw [if_pos trivial, Hr.out] at h1
          exact h1.symm
      · have hyb : ((y : Int) == 0) = false := by simp; omega
        have HW := Lib.hid (HZ.out.take (m := m + 1) (by omega))
        go_wp2_with (refine wpList_appN _ rfl _ _ rfl wr.heap.size (.slice none 0 0) [] x (m + 1) cap (z.take (m + 1)) rfl (by go_num) RowO.nil HW.out (by omega) (by simp; omega) (Nat.le_refl _) ?_; intro g c w' h1 h2 h3; have HQ := Lib.hid (And.intro h1 (And.intro h2 h3)); clear h1 h2 h3)
        go_ret
        have h1 := HS.out
        rw [if_neg h0, Hr.out] at h1
        obtain ⟨q1, q2, q3⟩ := HQ.out
        rw [h1]
        refine ⟨_, rfl, .inr ⟨g, c, ?_, q2, q1⟩, q3⟩
        simp [HZ.out.1, Nat.min_eq_left hm]

set_option maxRecDepth 100000 in
set_option maxHeartbeats 1600000 in
theorem rform_any (neg : Bool) (a : Option Addr) (n cap : Nat) (z : List Nat) (w : World) (h : WordsAt w a n z) (hn : n ≤ 1000000) (hc : n ≤ cap) :
    Calls Tryd.prog 49 #[.bool neg, .slice a n cap] w fun e w' => ∃ v, e = .returned v ∧ IntC w' v (valI neg z) ∧ Below w.heap.size w w' := by
  obtain ⟨w1, Hw1⟩ : ∃ w1, Hid (w1 = w.alloc (.cells #[.bool false, .slice none 0 0] 24)) := ⟨_, Lib.hid rfl⟩
  obtain ⟨bo, Hbo⟩ : ∃ b, Hid (b = w.heap.size) := ⟨_, Lib.hid rfl⟩
  have hB : Below w.heap.size w w1 := by
    rw [Hw1.out]
    exact (Below.refl _ w).alloc (Nat.le_refl _) _
  have q1 : w1.heap[bo]? = some (.cells #[.bool false, .slice none 0 0] 24 (0, 0)) := by
    rw [Hw1.out, Hbo.out]
    exact heap_alloc_new w _
  have HT := Lib.hid (rtrim_any a n cap z w1 (h.below hB) hn hc)
  have HZ := Lib.hid (And.intro h (And.intro hB q1))
  obtain ⟨m, Hm⟩ : ∃ m, Hid ((trimZ z).length = m) := ⟨_, Lib.hid rfl⟩
  clear h hB q1
  go_enter Tryd.func49, Tryd.ntmps49
  go_wp2_with (go_at_call 63; refine hold ?_)
  rw [← Hw1.out]
  refine Hold.mk ?_
  refine HT.out.mono ?_
  rintro e w2 ⟨v, rfl, hr, hb⟩
  have q2 := (hb.block bo (Array.getElem?_eq_some_iff.1 HZ.out.2.2).1).trans HZ.out.2.2
  obtain ⟨a2, c2, rfl, hc2, _⟩ := hr.shape
  have hwd := hr.wordsAt HZ.out.1.2.1.trim
  rw [Hm.out] at hc2 hwd hr ⊢
  have hm9 : m ≤ 1000000 := by have := Hm.out; have := trim_le z; have := HZ.out.1.1; omega
  have HQ := Lib.hid (And.intro q2 (And.intro hwd (HZ.out.2.1.trans (Below.mono hb HZ.out.2.1.size))))
  obtain ⟨⟨r0, r1⟩, f0, f1⟩ := box_cells q2
  rw [← Hbo.out]
  clear q2 hwd hb hr
  have fin : ∀ b : Bool, b = (neg && decide (0 < m)) → ∃ v, v = .agg #[.bool b, .slice a2 m c2] ∧ IntC ((w2.setCell ⟨bo, 0, none⟩ (.bool b)).setCell ⟨bo, 1, none⟩ (.slice a2 m c2)) v (valI neg z) ∧ Below w.heap.size w ((w2.setCell ⟨bo, 0, none⟩ (.bool b)).setCell ⟨bo, 1, none⟩ (.slice a2 m c2)) ∧
      ((w2.setCell ⟨bo, 0, none⟩ (.bool b)).setCell ⟨bo, 1, none⟩ (.slice a2 m c2)).heap[bo]? = some (.cells #[.bool b, .slice a2 m c2] 24 (0, 0)) := fun b hb => by
    obtain ⟨q2, hwd, hbl⟩ := HQ.out
    have hI : IntC w2 (.agg #[.bool b, .slice a2 m c2]) (valI neg z) := by
      refine ⟨a2, m, c2, ?_, ?_, hc2, hm9⟩
      · have e : decide (valI neg z < 0) = b := by
          rw [hb]
          have h1 : 0 < m ↔ ofW z ≠ 0 := by
            have := trim_nil z
            rw [← Hm.out, List.length_pos_iff, Ne, this]
          unfold valI
          cases neg with
          | false => simp
          | true =>
            simp only [Bool.true_and, if_true]
            exact decide_eq_decide.2 (by rw [h1]; omega)
        rw [e]
      · have e : (valI neg z).natAbs = ofW z := by unfold valI; cases neg <;> simp
        rw [e, ← trim_can HZ.out.1.2.1]
        exact hwd
    obtain ⟨h1, h2⟩ := hI.store q2
    exact ⟨_, rfl, h1, (hbl.setCell (by have := Hbo.out; simp only; omega) _).setCell (by have := Hbo.out; simp only; omega) _, h2⟩
  have FIN := Lib.hid fin
  clear fin
  cases neg with
  | false =>
    go_wp2_with fail
    obtain ⟨v, rfl, h1, h2, h3⟩ := FIN.out false rfl
    refine bodyPost_ret (results_cell_row rfl _ _ bo 24 #[.bool false, .slice a2 m c2] (0, 0) _ rfl h3 Tryd.underlying24 rfl (by kernel_rfl)) rfl ?_
    exact ⟨_, rfl, h1, h2⟩
  | true =>
    by_cases h0 : 0 < m
    · go_wp2_with fail
      obtain ⟨v, rfl, h1, h2, h3⟩ := FIN.out true (by simp [h0])
      refine bodyPost_ret (results_cell_row rfl _ _ bo 24 #[.bool true, .slice a2 m c2] (0, 0) _ rfl h3 Tryd.underlying24 rfl (by kernel_rfl)) rfl ?_
      exact ⟨_, rfl, h1, h2⟩
    · have h00 : m = 0 := by omega
      subst h00
      go_wp2_with fail
      obtain ⟨v, rfl, h1, h2, h3⟩ := FIN.out false (by simp)
      refine bodyPost_ret (results_cell_row rfl _ _ bo 24 #[.bool false, .slice a2 0 c2] (0, 0) _ rfl h3 Tryd.underlying24 rfl (by kernel_rfl)) rfl ?_
      exact ⟨_, rfl, h1, h2⟩

set_option maxRecDepth 100000 in
set_option maxHeartbeats 1600000 in
theorem rsize_any (a1 a2 : Option Addr) (m1 m2 cap1 cap2 : Nat) (y1 y2 : List Nat) (w : World) (h1 : WordsAt w a1 m1 y1) (h2 : WordsAt w a2 m2 y2) (ht1 : trimZ y1 = y1) (ht2 : trimZ y2 = y2) (hm1 : m1 ≤ 1000000) (hm2 : m2 ≤ 1000000) :
    Calls Tryd.prog 53 #[.slice a1 m1 cap1, .slice a2 m2 cap2] w fun e w' => e = .returned (.int .i64 (cmpN (ofW y1) (ofW y2))) ∧ Below w.heap.size w w' := by
  have HZ := Lib.hid (And.intro h1 h2)
  have HT := Lib.hid (And.intro ht1 ht2)
  clear h1 h2 ht1 ht2
  by_cases hne : m1 = m2
  · subst hne
    have hq : ((m1 : Int) != (m1 : Int)) = false := by simp
    go_enter Tryd.func53, Tryd.ntmps53
    go_wp2_with fail
    go_loopg [5] m1 (fun g v5 wr => ∃ k : Nat, k ≤ m1 ∧ v5 = .int .i64 ((k : Int) - 1) ∧ g = k ∧ Hid (y1.drop k = y2.drop k ∧ Below w.heap.size w wr))
    case atStart => exact ⟨m1, Nat.le_refl _, rfl, rfl, Lib.hid ⟨by rw [List.drop_of_length_le (by have := HZ.out.1.1; omega), List.drop_of_length_le (by have := HZ.out.2.1; omega)], Below.refl _ _⟩⟩
    case round =>
      obtain ⟨k, hk, rfl, hg, Hr⟩ := hrel
      cases k with
      | zero =>
        have e : (((0 : Nat) : Int) - 1) = -1 := by decide
        rw [e]
        clear e
        go_wp2_with fail
        go_ret
        refine ⟨eret_int ?_, Hr.out.2⟩
        have h := Hr.out.1
        rw [List.drop_zero, List.drop_zero] at h
        rw [h]
        unfold cmpN
        simp
      | succ k =>
        have e : (((k + 1 : Nat) : Int) - 1) = (k : Int) := by omega
        rw [e]
        clear e
        obtain ⟨x1, rfl, g1⟩ := (HZ.out.1.below Hr.out.2).2.2 k (by omega)
        obtain ⟨x2, rfl, g2⟩ := (HZ.out.2.below Hr.out.2).2.2 k (by omega)
        obtain ⟨u1, Hu1⟩ : ∃ u, Hid (y1.getD k 0 = u) := ⟨_, Lib.hid rfl⟩
        obtain ⟨u2, Hu2⟩ : ∃ u, Hid (y2.getD k 0 = u) := ⟨_, Lib.hid rfl⟩
        rw [Hu1.out] at g1
        rw [Hu2.out] at g2
        have HS9 : (fun w' => w'.cell? (x1.add k) = some (.int .u32 (u1 : Nat)) ∧ w'.cell? (x2.add k) = some (.int .u32 (u2 : Nat))) wr.drew := ⟨g1, g2⟩
        have HS11 : (fun w' => w'.cell? (x1.add k) = some (.int .u32 (u1 : Nat)) ∧ w'.cell? (x2.add k) = some (.int .u32 (u2 : Nat))) wr.drew.drew := ⟨g1, g2⟩
        have Hlen := Lib.hid (show y1.length = m1 ∧ y2.length = m1 from ⟨HZ.out.1.1, HZ.out.2.1⟩)
        clear g1 g2
        have hbd : Below wr.heap.size wr wr.drew := (Below.refl _ wr).drew
        have HBd := Lib.hid hbd
        clear hbd
        have hkl : k < m1 := by omega
        go_upto_region 8 with fail
        by_cases heq : u1 = u2
        · have hd : (((u1 : Nat) : Int) != ((u2 : Nat) : Int)) = false := by simp; omega
          have Heq := Lib.hid heq
          clear heq
          refine wp_region_pi (fun w' => w'.cell? (x1.add k) = some (.int .u32 (u1 : Nat)) ∧ w'.cell? (x2.add k) = some (.int .u32 (u2 : Nat))) [(0, 1), (1, 1), (2, 1), (3, 0), (4, 1), (5, 1), (6, 1), (7, 0), (8, 1)] [] (by kernel_rfl) (by kernel_rfl) (fun _ _ _ _ _ h => h) (HS9) ?_
          refine pd_pu (some 23) rfl rfl (by rfl) (fun ws => by go_simp; try with_reducible rfl) ?_; go_frame   -- 0 Op.move (Operand.tmp 0)
          refine pd_pu (some 24) rfl rfl (by rfl) (fun ws => by go_simp; try with_reducible rfl) ?_; go_frame   -- 1 Op.move (Operand.tmp 5)
          refine pd_pu (some 25) rfl rfl (by rfl) (fun ws => by go_simp; try with_reducible rfl) ?_; go_frame   -- 2 Op.indexAddr 22 (Operand.tmp 23) (Operand.tmp 24)
          refine pd_ld (some 26) rfl rfl (by rfl) (fun ws HS => by go_split_ands; go_simp; try with_reducible rfl) ?_; go_frame   -- 3 Op.load 68 (Operand.tmp 25)
          refine pd_pu (some 27) rfl rfl (by rfl) (fun ws => by go_simp; try with_reducible rfl) ?_; go_frame   -- 4 Op.move (Operand.tmp 1)
          refine pd_pu (some 28) rfl rfl (by rfl) (fun ws => by go_simp; try with_reducible rfl) ?_; go_frame   -- 5 Op.move (Operand.tmp 5)
          refine pd_pu (some 29) rfl rfl (by rfl) (fun ws => by go_simp; try with_reducible rfl) ?_; go_frame   -- 6 Op.indexAddr 22 (Operand.tmp 27) (Operand.tmp 28)
          refine pd_ld (some 30) rfl rfl (by rfl) (fun ws HS => by go_split_ands; go_simp; try with_reducible rfl) ?_; go_frame   -- 7 Op.load 68 (Operand.tmp 29)
          refine pd_pu (some 31) rfl rfl (by rfl) (fun ws => by go_simp; try with_reducible rfl) ?_; go_frame   -- 8 Op.binOp BinOp.neq 68 (Operand.tmp 26) (Operand.tmp 30) 68
          refine pi_tail (r := []) rfl ?_; simp only [opsAt]
          go_wp2_with fail
          go_roundg k
          case measure => omega
          case rel =>
            refine ⟨k, by omega, by go_num, rfl, Lib.hid ⟨?_, Hr.out.2.trans (Below.mono HBd.out Hr.out.2.size)⟩⟩
            have d : ∀ y : List Nat, y.length = m1 → y.drop k = y.getD k 0 :: y.drop (k + 1) := fun y hy => by
              rw [List.drop_eq_getElem_cons (show k < y.length by omega)]
              simp [List.getD, show k < y.length by omega]
            rw [d y1 Hlen.out.1, d y2 Hlen.out.2, Hu1.out, Hu2.out, Hr.out.1, Heq.out]
        · have hd : (((u1 : Nat) : Int) != ((u2 : Nat) : Int)) = true := by simp; omega
          refine wp_region_pi (fun w' => w'.cell? (x1.add k) = some (.int .u32 (u1 : Nat)) ∧ w'.cell? (x2.add k) = some (.int .u32 (u2 : Nat))) [(0, 1), (1, 1), (2, 1), (3, 0), (4, 1), (5, 1), (6, 1), (7, 0), (8, 1)] [] (by kernel_rfl) (by kernel_rfl) (fun _ _ _ _ _ h => h) (HS9) ?_
          refine pd_pu (some 23) rfl rfl (by rfl) (fun ws => by go_simp; try with_reducible rfl) ?_; go_frame   -- 0 Op.move (Operand.tmp 0)
          refine pd_pu (some 24) rfl rfl (by rfl) (fun ws => by go_simp; try with_reducible rfl) ?_; go_frame   -- 1 Op.move (Operand.tmp 5)
          refine pd_pu (some 25) rfl rfl (by rfl) (fun ws => by go_simp; try with_reducible rfl) ?_; go_frame   -- 2 Op.indexAddr 22 (Operand.tmp 23) (Operand.tmp 24)
          refine pd_ld (some 26) rfl rfl (by rfl) (fun ws HS => by go_split_ands; go_simp; try with_reducible rfl) ?_; go_frame   -- 3 Op.load 68 (Operand.tmp 25)
          refine pd_pu (some 27) rfl rfl (by rfl) (fun ws => by go_simp; try with_reducible rfl) ?_; go_frame   -- 4 Op.move (Operand.tmp 1)
          refine pd_pu (some 28) rfl rfl (by rfl) (fun ws => by go_simp; try with_reducible rfl) ?_; go_frame   -- 5 Op.move (Operand.tmp 5)
          refine pd_pu (some 29) rfl rfl (by rfl) (fun ws => by go_simp; try with_reducible rfl) ?_; go_frame   -- 6 Op.indexAddr 22 (Operand.tmp 27) (Operand.tmp 28)
          refine pd_ld (some 30) rfl rfl (by rfl) (fun ws HS => by go_split_ands; go_simp; try with_reducible rfl) ?_; go_frame   -- 7 Op.load 68 (Operand.tmp 29)
          refine pd_pu (some 31) rfl rfl (by rfl) (fun ws => by go_simp; try with_reducible rfl) ?_; go_frame   -- 8 Op.binOp BinOp.neq 68 (Operand.tmp 26) (Operand.tmp 30) 68
          refine pi_tail (r := []) rfl ?_; simp only [opsAt]
          go_upto_region 9 with fail
          by_cases hlt : u1 < u2
          · have hd2 : decide (((u1 : Nat) : Int) < ((u2 : Nat) : Int)) = true := decide_eq_true (by omega)
            refine wp_region_pi (fun w' => w'.cell? (x1.add k) = some (.int .u32 (u1 : Nat)) ∧ w'.cell? (x2.add k) = some (.int .u32 (u2 : Nat))) [(0, 1), (1, 1), (2, 1), (3, 0), (4, 1), (5, 1), (6, 1), (7, 0), (8, 1)] [] (by kernel_rfl) (by kernel_rfl) (fun _ _ _ _ _ h => h) (HS11) ?_
            refine pd_pu (some 32) rfl rfl (by rfl) (fun ws => by go_simp; try with_reducible rfl) ?_; go_frame   -- 0 Op.move (Operand.tmp 0)
            refine pd_pu (some 33) rfl rfl (by rfl) (fun ws => by go_simp; try with_reducible rfl) ?_; go_frame   -- 1 Op.move (Operand.tmp 5)
            refine pd_pu (some 34) rfl rfl (by rfl) (fun ws => by go_simp; try with_reducible rfl) ?_; go_frame   -- 2 Op.indexAddr 22 (Operand.tmp 32) (Operand.tmp 33)
            refine pd_ld (some 35) rfl rfl (by rfl) (fun ws HS => by go_split_ands; go_simp; try with_reducible rfl) ?_; go_frame   -- 3 Op.load 68 (Operand.tmp 34)
            refine pd_pu (some 36) rfl rfl (by rfl) (fun ws => by go_simp; try with_reducible rfl) ?_; go_frame   -- 4 Op.move (Operand.tmp 1)
            refine pd_pu (some 37) rfl rfl (by rfl) (fun ws => by go_simp; try with_reducible rfl) ?_; go_frame   -- 5 Op.move (Operand.tmp 5)
            refine pd_pu (some 38) rfl rfl (by rfl) (fun ws => by go_simp; try with_reducible rfl) ?_; go_frame   -- 6 Op.indexAddr 22 (Operand.tmp 36) (Operand.tmp 37)
            refine pd_ld (some 39) rfl rfl (by rfl) (fun ws HS => by go_split_ands; go_simp; try with_reducible rfl) ?_; go_frame   -- 7 Op.load 68 (Operand.tmp 38)
            refine pd_pu (some 40) rfl rfl (by rfl) (fun ws => by go_simp; try with_reducible rfl) ?_; go_frame   -- 8 Op.binOp BinOp.lss 68 (Operand.tmp 35) (Operand.tmp 39) 68
            refine pi_tail (r := []) rfl ?_; simp only [opsAt]
            go_wp2_with fail
            go_ret
            refine ⟨eret_int ?_, Hr.out.2.trans (Below.mono (HBd.out.trans (Below.mono (Below.refl _ _).drew HBd.out.size)) Hr.out.2.size)⟩
            have := ofW_top HZ.out.1.2.1 HZ.out.2.2.1 (by rw [Hlen.out.1, Hlen.out.2]) k (by rw [Hlen.out.1]; omega) Hr.out.1 (by rw [Hu1.out, Hu2.out]; exact hlt)
            unfold cmpN
            rw [if_pos this]
          · have hd2 : decide (((u1 : Nat) : Int) < ((u2 : Nat) : Int)) = false := decide_eq_false (by omega)
            refine wp_region_pi (fun w' => w'.cell? (x1.add k) = some (.int .u32 (u1 : Nat)) ∧ w'.cell? (x2.add k) = some (.int .u32 (u2 : Nat))) [(0, 1), (1, 1), (2, 1), (3, 0), (4, 1), (5, 1), (6, 1), (7, 0), (8, 1)] [] (by kernel_rfl) (by kernel_rfl) (fun _ _ _ _ _ h => h) (HS11) ?_
            refine pd_pu (some 32) rfl rfl (by rfl) (fun ws => by go_simp; try with_reducible rfl) ?_; go_frame   -- 0 Op.move (Operand.tmp 0)
            refine pd_pu (some 33) rfl rfl (by rfl) (fun ws => by go_simp; try with_reducible rfl) ?_; go_frame   -- 1 Op.move (Operand.tmp 5)
            refine pd_pu (some 34) rfl rfl (by rfl) (fun ws => by go_simp; try with_reducible rfl) ?_; go_frame   -- 2 Op.indexAddr 22 (Operand.tmp 32) (Operand.tmp 33)
            refine pd_ld (some 35) rfl rfl (by rfl) (fun ws HS => by go_split_ands; go_simp; try with_reducible rfl) ?_; go_frame   -- 3 Op.load 68 (Operand.tmp 34)
            refine pd_pu (some 36) rfl rfl (by rfl) (fun ws => by go_simp; try with_reducible rfl) ?_; go_frame   -- 4 Op.move (Operand.tmp 1)
            refine pd_pu (some 37) rfl rfl (by rfl) (fun ws => by go_simp; try with_reducible rfl) ?_; go_frame   -- 5 Op.move (Operand.tmp 5)
            refine pd_pu (some 38) rfl rfl (by rfl) (fun ws => by go_simp; try with_reducible rfl) ?_; go_frame   -- 6 Op.indexAddr 22 (Operand.tmp 36) (Operand.tmp 37)
            refine pd_ld (some 39) rfl rfl (by rfl) (fun ws HS => by go_split_ands; go_simp; try with_reducible rfl) ?_; go_frame   -- 7 Op.load 68 (Operand.tmp 38)
            refine pd_pu (some 40) rfl rfl (by rfl) (fun ws => by go_simp; try with_reducible rfl) ?_; go_frame   -- 8 Op.binOp BinOp.lss 68 (Operand.tmp 35) (Operand.tmp 39) 68
            refine pi_tail (r := []) rfl ?_; simp only [opsAt]
            go_wp2_with fail
            go_ret
            refine ⟨eret_int ?_, Hr.out.2.trans (Below.mono (HBd.out.trans (Below.mono (Below.refl _ _).drew HBd.out.size)) Hr.out.2.size)⟩
            have := ofW_top HZ.out.2.2.1 HZ.out.1.2.1 (by rw [Hlen.out.1, Hlen.out.2]) k (by rw [Hlen.out.2]; omega) Hr.out.1.symm (by rw [Hu1.out, Hu2.out]; omega)
            unfold cmpN
            rw [if_neg (by omega), if_neg (by omega)]
  · have HV := Lib.hid (show cmpN (ofW y1) (ofW y2) = if m1 < m2 then -1 else 1 from by
      obtain ⟨w1, w2⟩ := HZ.out
      by_cases hlt : m1 < m2
      · have := ofW_len_lt (l := y1) (m := y2) w1.2.1 HT.out.2 (by rw [w1.1, w2.1]; exact hlt)
        unfold cmpN
        rw [if_pos hlt, if_pos this]
      · have := ofW_len_lt (l := y2) (m := y1) w2.2.1 HT.out.1 (by rw [w1.1, w2.1]; omega)
        unfold cmpN
        rw [if_neg hlt, if_neg (by omega), if_neg (by omega)])
    have hq : ((m1 : Int) != (m2 : Int)) = true := by simp; omega
    go_enter Tryd.func53, Tryd.ntmps53
    by_cases hlt : m1 < m2
    · go_wp2_with fail
      go_ret
      exact ⟨eret_int (by rw [HV.out, if_pos hlt]), Below.refl _ _⟩
    · have hge : m2 ≤ m1 := by omega
      go_wp2_with fail
      go_ret
      exact ⟨eret_int (by rw [HV.out, if_neg hlt]), Below.refl _ _⟩
end Go.Proofs.YtahgbbnpbhfaeaaDoor
