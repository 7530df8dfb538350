/- recastref2.Compare, Neg, Add, Sub. No condition. -/
import Derived.Test.YtcnakbhogmnddaaDoorRfSt
namespace Go.Proofs.YtcnakbhogmnddaaDoor
open Go.RowKit

set_option maxRecDepth 100000 in
set_option maxHeartbeats 6400000 in
theorem rcompare_k {v1 v2 : Value} {g1 g2 : Bool} {z1 z2 : List Nat} {w : World} {x1 x2 : Int} (h1 : IntV w v1 g1 z1) (h2 : IntV w v2 g2 z2) (hx1 : valI g1 z1 = x1) (hx2 : valI g2 z2 = x2) :
    Calls Tryd.prog 57 #[v1, v2] w fun e w' => e = .returned (.int .i64 (cmpI x1 x2)) ∧ Below w.heap.size w w' := by
  obtain ⟨a1, n1, cap1, rfl, hw1, hc1, hn1⟩ := id h1
  have Hx1 := Lib.hid hx1
  clear hx1
  have Hx2 := Lib.hid hx2
  clear hx2
  have HN1 := Lib.hid (And.intro hc1 hn1)
  obtain ⟨a2, n2, cap2, rfl, hw2, hc2, hn2⟩ := id h2
  have HN2 := Lib.hid (And.intro hc2 hn2)
  have ST0 := Lib.hid (((St.start w).num h1).num h2)
  clear h1 hw1 hc1 hn1
  clear h2 hw2 hc2 hn2
  go_enter Tryd.func57, Tryd.ntmps57
  obtain ⟨t, Ht⟩ : ∃ t, Hid (cmpI x1 x2 = t) := ⟨_, Lib.hid rfl⟩
  rw [Ht.out]
  go_wp2_with (go_at_call 83; refine hold ?_)
  obtain ⟨W1, HW1⟩ : ∃ W', Hid (W' = w.alloc (.cells #[.bool g1, .slice a1 n1 cap1] 25)) := ⟨_, Lib.hid rfl⟩
  obtain ⟨p1, Hp1⟩ : ∃ b, Hid (b = w.heap.size) := ⟨_, Lib.hid rfl⟩
  have Hp1n := Lib.hid (ST0.out.old Hp1.out)
  have ST2 := Lib.hid (ST0.out.box Hp1.out HW1.out)
  obtain ⟨W3, HW3⟩ : ∃ W', Hid (W' = W1.alloc (.cells #[.bool g2, .slice a2 n2 cap2] 25)) := ⟨_, Lib.hid rfl⟩
  obtain ⟨p2, Hp2⟩ : ∃ b, Hid (b = W1.heap.size) := ⟨_, Lib.hid rfl⟩
  have Hp2n := Lib.hid (ST2.out.old Hp2.out)
  have ST4 := Lib.hid (ST2.out.box Hp2.out HW3.out)
  have hz1 : w.heap.size + 1 = p2 := by rw [Hp2.out, HW1.out, World.size_alloc]
  rw [← HW1.out, ← HW3.out]
  try rw [hz1]
  try rw [← Hp1.out]
  clear hz1
  refine Hold.mk ?_
  have WW3 := Lib.hid (IntV.words (ST4.out.get (v := (.agg #[.bool g1, .slice a1 n1 cap1])) (g := g1) (z := z1) (by simp)))
  have C5 := Lib.hid (rform_k WW3.out.2.1 WW3.out.2.2.2 WW3.out.2.2.1 (Hx1.out))
  refine C5.out.mono ?_
  rintro e W5 ⟨⟨n3, a3, c3, d3, rfl, hv⟩, hb⟩
  have ST6 := Lib.hid (ST4.out.next hb hv)
  clear hb hv
  have Hpn := Lib.hid (show p2 ≠ p1 from fun h => Hp2n.out.1 (p1, g1, .slice a1 n1 cap1) (by simp) h.symm)
  obtain ⟨⟨rp10, rp11⟩, fp10, fp11⟩ := box_cells (ST6.out.boxes (p1, g1, .slice a1 n1 cap1) (by simp))
  go_upto_region 2 with fail
  have ST7 := Lib.hid (ST6.out.front1)
  obtain ⟨W8, HW8⟩ : ∃ W', Hid (W' = (W5.setCell ⟨p1, 0, none⟩ (.bool n3)).setCell ⟨p1, 1, none⟩ (.slice a3 c3 d3)) := ⟨_, Lib.hid rfl⟩
  rw [← HW8.out]
  clear rp10 rp11 fp10 fp11
  have ST9 := Lib.hid (ST7.out.store (ne_two Hp1n.out.2 Hpn.out) HW8.out)
  obtain ⟨qp20, qp21⟩ := ST9.out.cells (b := p2) (n := g2) (s := .slice a2 n2 cap2) (by simp)
  go_wp2_with (go_at_call 83; refine hold ?_)
  refine Hold.mk ?_
  have WW4 := Lib.hid (IntV.words (ST9.out.get (v := (.agg #[.bool g2, .slice a2 n2 cap2])) (g := g2) (z := z2) (by simp)))
  have C10 := Lib.hid (rform_k WW4.out.2.1 WW4.out.2.2.2 WW4.out.2.2.1 (Hx2.out))
  refine C10.out.mono ?_
  rintro e W10 ⟨⟨n4, a4, c4, d4, rfl, hv⟩, hb⟩
  clear qp20 qp21
  have ST11 := Lib.hid (ST9.out.next hb hv)
  clear hb hv
  obtain ⟨⟨rp20, rp21⟩, fp20, fp21⟩ := box_cells (ST11.out.boxes (p2, g2, .slice a2 n2 cap2) (by simp))
  go_upto_region 3 with fail
  have ST12 := Lib.hid (ST11.out.front1)
  obtain ⟨W13, HW13⟩ : ∃ W', Hid (W' = (W10.setCell ⟨p2, 0, none⟩ (.bool n4)).setCell ⟨p2, 1, none⟩ (.slice a4 c4 d4)) := ⟨_, Lib.hid rfl⟩
  rw [← HW13.out]
  clear rp20 rp21 fp20 fp21
  have ST14 := Lib.hid (ST12.out.store (ne_two Hp2n.out.2 (Ne.symm Hpn.out)) HW13.out)
  have WWa := Lib.hid (IntV.words (ST14.out.get (v := (.agg #[.bool n3, .slice a3 c3 d3])) (g := decide (x1 < 0)) (z := canW (x1).natAbs) (by simp)))
  have WWb := Lib.hid (IntV.words (ST14.out.get (v := (.agg #[.bool n4, .slice a4 c4 d4])) (g := decide (x2 < 0)) (z := canW (x2).natAbs) (by simp)))
  have Hs1 := Lib.hid WWa.out.1
  have Hs2 := Lib.hid WWb.out.1
  obtain ⟨qp20, qp21⟩ := ST14.out.cells (b := p2) (n := n4) (s := .slice a4 c4 d4) (by simp)
  obtain ⟨qp10, qp11⟩ := ST14.out.cells (b := p1) (n := n3) (s := .slice a3 c3 d3) (by simp)
  cases n3 with
  | true =>
    cases n4 with
    | true =>
      have CS := Lib.hid (rsize_k WWb.out.2.1 WWa.out.2.1 WWb.out.2.2.2 WWa.out.2.2.2 (cap1 := d4) (cap2 := d3))
      rw [(cmpI_signs (x := x1) (y := x2)).2.2.1 (of_decide_eq_true Hs1.out.symm) (of_decide_eq_true Hs2.out.symm), Ht.out] at CS
      go_wp2_with (go_at_call 87; refine hold ?_)
      refine Hold.mk ?_
      refine CS.out.mono ?_
      rintro e Wz ⟨rfl, hb⟩
      clear qp20 qp21 qp10 qp11
      have ST15 := Lib.hid (ST14.out.go hb)
      clear hb
      go_wp2_with fail
      go_ret
      exact ⟨rfl, ST15.out.below⟩
    | false =>
      go_wp2_with fail
      go_ret
      exact ⟨eret_int (by rw [← Ht.out, (cmpI_signs (x := x1) (y := x2)).1 (of_decide_eq_true Hs1.out.symm) (of_decide_eq_false Hs2.out.symm)]), ST14.out.below⟩
  | false =>
    cases n4 with
    | true =>
      go_wp2_with fail
      go_ret
      exact ⟨eret_int (by rw [← Ht.out, (cmpI_signs (x := x1) (y := x2)).2.1 (of_decide_eq_false Hs1.out.symm) (of_decide_eq_true Hs2.out.symm)]), ST14.out.below⟩
    | false =>
      have CS := Lib.hid (rsize_k WWa.out.2.1 WWb.out.2.1 WWa.out.2.2.2 WWb.out.2.2.2 (cap1 := d3) (cap2 := d4))
      rw [(cmpI_signs (x := x1) (y := x2)).2.2.2 (of_decide_eq_false Hs1.out.symm) (of_decide_eq_false Hs2.out.symm), Ht.out] at CS
      go_wp2_with (go_at_call 87; refine hold ?_)
      refine Hold.mk ?_
      refine CS.out.mono ?_
      rintro e Wz ⟨rfl, hb⟩
      clear qp20 qp21 qp10 qp11
      have ST16 := Lib.hid (ST14.out.go hb)
      clear hb
      go_wp2_with fail
      go_ret
      exact ⟨rfl, ST16.out.below⟩
set_option maxRecDepth 100000 in
set_option maxHeartbeats 6400000 in
theorem rneg_k {v1 : Value} {g1 : Bool} {z1 : List Nat} {w : World} {x1 : Int} (h1 : IntV w v1 g1 z1) (hx1 : valI g1 z1 = x1) :
    Calls Tryd.prog 59 #[v1] w fun e w' => (∃ (b : Bool) (a : Option Addr) (n c : Nat), e = .returned (.agg #[.bool b, .slice a n c]) ∧ IntC w' (.agg #[.bool b, .slice a n c]) (-x1)) ∧ Below w.heap.size w w' := by
  obtain ⟨a1, n1, cap1, rfl, hw1, hc1, hn1⟩ := id h1
  have Hx1 := Lib.hid hx1
  clear hx1
  have HN1 := Lib.hid (And.intro hc1 hn1)
  have ST0 := Lib.hid ((St.start w).num h1)
  clear h1 hw1 hc1 hn1
  go_enter Tryd.func59, Tryd.ntmps59
  go_wp2_with (go_at_call 83; refine hold ?_)
  obtain ⟨W1, HW1⟩ : ∃ W', Hid (W' = w.alloc (.cells #[.bool g1, .slice a1 n1 cap1] 25)) := ⟨_, Lib.hid rfl⟩
  obtain ⟨p1, Hp1⟩ : ∃ b, Hid (b = w.heap.size) := ⟨_, Lib.hid rfl⟩
  have Hp1n := Lib.hid (ST0.out.old Hp1.out)
  have ST2 := Lib.hid (ST0.out.box Hp1.out HW1.out)
  obtain ⟨W3, HW3⟩ : ∃ W', Hid (W' = W1.alloc (.cells #[.bool false, .slice none 0 0] 25)) := ⟨_, Lib.hid rfl⟩
  obtain ⟨bo, Hbo⟩ : ∃ b, Hid (b = W1.heap.size) := ⟨_, Lib.hid rfl⟩
  have Hbon := Lib.hid (ST2.out.old Hbo.out)
  have ST4 := Lib.hid (ST2.out.box Hbo.out HW3.out)
  have hz1 : w.heap.size + 1 = bo := by rw [Hbo.out, HW1.out, World.size_alloc]
  rw [← HW1.out, ← HW3.out]
  try rw [hz1]
  try rw [← Hp1.out]
  clear hz1
  refine Hold.mk ?_
  have WW3 := Lib.hid (IntV.words (ST4.out.get (v := (.agg #[.bool g1, .slice a1 n1 cap1])) (g := g1) (z := z1) (by simp)))
  have C5 := Lib.hid (rform_k WW3.out.2.1 WW3.out.2.2.2 WW3.out.2.2.1 (by rw [valI_neg, Hx1.out]))
  refine C5.out.mono ?_
  rintro e W5 ⟨⟨n3, a3, c3, d3, rfl, hv⟩, hb⟩
  have ST6 := Lib.hid (ST4.out.next hb hv)
  clear hb hv
  obtain ⟨⟨rbo0, rbo1⟩, fbo0, fbo1⟩ := box_cells (ST6.out.boxes (bo, false, .slice none 0 0) (by simp))
  go_wp2_with fail
  obtain ⟨W7, HW7⟩ : ∃ W', Hid (W' = (W5.setCell ⟨bo, 0, none⟩ (.bool n3)).setCell ⟨bo, 1, none⟩ (.slice a3 c3 d3)) := ⟨_, Lib.hid rfl⟩
  rw [← HW7.out]
  clear rbo0 rbo1 fbo0 fbo1
  have ST8 := Lib.hid (ST6.out.store (Hbon.out) HW7.out)
  refine bodyPost_ret (results_cell_row rfl _ _ bo 25 #[.bool n3, .slice a3 c3 d3] (0, 0) _ rfl (ST8.out.boxes (bo, n3, .slice a3 c3 d3) (by simp)) Tryd.underlying25 rfl (by kernel_rfl)) rfl ?_
  exact ⟨⟨_, _, _, _, rfl, (ST8.out.getC (v := (.agg #[.bool n3, .slice a3 c3 d3])) (i := -x1) (by simp))⟩, ST8.out.below⟩
set_option maxRecDepth 100000 in
set_option maxHeartbeats 6400000 in
theorem radd_k {v1 v2 : Value} {g1 g2 : Bool} {z1 z2 : List Nat} {w : World} {x1 x2 : Int} (h1 : IntV w v1 g1 z1) (h2 : IntV w v2 g2 z2) (hx1 : valI g1 z1 = x1) (hx2 : valI g2 z2 = x2) :
    Calls Tryd.prog 54 #[v1, v2] w fun e w' => Told w' e (addK x1 x2) (addV x1 x2) ∧ Below w.heap.size w w' := by
  obtain ⟨a1, n1, cap1, rfl, hw1, hc1, hn1⟩ := id h1
  have Hx1 := Lib.hid hx1
  clear hx1
  have Hx2 := Lib.hid hx2
  clear hx2
  have HN1 := Lib.hid (And.intro hc1 hn1)
  obtain ⟨a2, n2, cap2, rfl, hw2, hc2, hn2⟩ := id h2
  have HN2 := Lib.hid (And.intro hc2 hn2)
  have ST0 := Lib.hid (((St.start w).num h1).num h2)
  clear h1 hw1 hc1 hn1
  clear h2 hw2 hc2 hn2
  go_enter Tryd.func54, Tryd.ntmps54
  obtain ⟨K, V, HKV⟩ : ∃ K V, Hid (addK x1 x2 = K ∧ addV x1 x2 = V) := ⟨_, _, Lib.hid ⟨rfl, rfl⟩⟩
  rw [HKV.out.1, HKV.out.2]
  obtain ⟨K9, V9, HKV9⟩ : ∃ K9 V9 : Int, Hid ((if big (x1 + x2) then 2 else 0) = K9 ∧ (if big (x1 + x2) then 0 else x1 + x2) = V9) := ⟨_, _, Lib.hid ⟨rfl, rfl⟩⟩
  obtain ⟨l1, Hl1⟩ : ∃ l, Hid (big x1 = l) := ⟨_, Lib.hid rfl⟩
  obtain ⟨l2, Hl2⟩ : ∃ l, Hid (big x2 = l) := ⟨_, Lib.hid rfl⟩
  go_wp2_with (go_at_call 82; refine hold ?_)
  obtain ⟨W1, HW1⟩ : ∃ W', Hid (W' = w.alloc (.cells #[.bool g1, .slice a1 n1 cap1] 25)) := ⟨_, Lib.hid rfl⟩
  obtain ⟨p1, Hp1⟩ : ∃ b, Hid (b = w.heap.size) := ⟨_, Lib.hid rfl⟩
  have Hp1n := Lib.hid (ST0.out.old Hp1.out)
  have ST2 := Lib.hid (ST0.out.box Hp1.out HW1.out)
  obtain ⟨W3, HW3⟩ : ∃ W', Hid (W' = W1.alloc (.cells #[.bool g2, .slice a2 n2 cap2] 25)) := ⟨_, Lib.hid rfl⟩
  obtain ⟨p2, Hp2⟩ : ∃ b, Hid (b = W1.heap.size) := ⟨_, Lib.hid rfl⟩
  have Hp2n := Lib.hid (ST2.out.old Hp2.out)
  have ST4 := Lib.hid (ST2.out.box Hp2.out HW3.out)
  obtain ⟨W5, HW5⟩ : ∃ W', Hid (W' = W3.alloc (.cells #[.bool false, .slice none 0 0] 25)) := ⟨_, Lib.hid rfl⟩
  obtain ⟨bo, Hbo⟩ : ∃ b, Hid (b = W3.heap.size) := ⟨_, Lib.hid rfl⟩
  have Hbon := Lib.hid (ST4.out.old Hbo.out)
  have ST6 := Lib.hid (ST4.out.box Hbo.out HW5.out)
  have hz2 : w.heap.size + 2 = bo := by rw [Hbo.out, HW3.out, World.size_alloc, HW1.out, World.size_alloc]
  have hz1 : w.heap.size + 1 = p2 := by rw [Hp2.out, HW1.out, World.size_alloc]
  rw [← HW1.out, ← HW3.out, ← HW5.out]
  try rw [hz2]
  try rw [hz1]
  try rw [← Hp1.out]
  clear hz1 hz2
  refine Hold.mk ?_
  have C7 := Lib.hid (rlarge_k (ST6.out.get (v := (.agg #[.bool g1, .slice a1 n1 cap1])) (g := g1) (z := z1) (by simp)) Hx1.out)
  rw [Hl1.out] at C7
  refine C7.out.mono ?_
  rintro e W7 ⟨rfl, hb⟩
  have ST8 := Lib.hid (ST6.out.go hb)
  clear hb
  have Hpn := Lib.hid (show p2 ≠ p1 ∧ bo ≠ p1 ∧ bo ≠ p2 from ⟨fun h => Hp2n.out.1 (p1, g1, .slice a1 n1 cap1) (by simp) h.symm, fun h => Hbon.out.1 (p1, g1, .slice a1 n1 cap1) (by simp) h.symm, fun h => Hbon.out.1 (p2, g2, .slice a2 n2 cap2) (by simp) h.symm⟩)
  cases l1 with
  | true =>
    obtain ⟨⟨rbo0, rbo1⟩, fbo0, fbo1⟩ := box_cells (ST8.out.boxes (bo, false, .slice none 0 0) (by simp))
    go_wp2_with fail
    obtain ⟨W9, HW9⟩ : ∃ W', Hid (W' = (W7.setCell ⟨bo, 0, none⟩ (.bool false)).setCell ⟨bo, 1, none⟩ (.slice none 0 0)) := ⟨_, Lib.hid rfl⟩
    rw [← HW9.out]
    clear rbo0 rbo1 fbo0 fbo1
    have ST10 := Lib.hid (ST8.out.store (Hbon.out) HW9.out)
    refine bodyPost_ret (results_cell_pair rfl _ _ bo 25 (.bool false) (.slice none 0 0) (0, 0) rfl (ST10.out.boxes (bo, false, .slice none 0 0) (by simp))) rfl ?_
    refine ⟨⟨_, _, _, _, _, rfl, ?_, ?_⟩, ST10.out.below⟩
    · rw [← HKV.out.1, (addK_bad (.inl Hl1.out)).1]
    · rw [← HKV.out.2, (addK_bad (.inl Hl1.out)).2]
      exact intC_zero _
  | false =>
    obtain ⟨qp20, qp21⟩ := ST8.out.cells (b := p2) (n := g2) (s := .slice a2 n2 cap2) (by simp)
    go_wp2_with (go_at_call 82; refine hold ?_)
    refine Hold.mk ?_
    have C11 := Lib.hid (rlarge_k (ST8.out.get (v := (.agg #[.bool g2, .slice a2 n2 cap2])) (g := g2) (z := z2) (by simp)) Hx2.out)
    rw [Hl2.out] at C11
    refine C11.out.mono ?_
    rintro e W11 ⟨rfl, hb⟩
    clear qp20 qp21
    have ST12 := Lib.hid (ST8.out.go hb)
    clear hb
    cases l2 with
    | true =>
      obtain ⟨⟨rbo0, rbo1⟩, fbo0, fbo1⟩ := box_cells (ST12.out.boxes (bo, false, .slice none 0 0) (by simp))
      go_wp2_with fail
      obtain ⟨W13, HW13⟩ : ∃ W', Hid (W' = (W11.setCell ⟨bo, 0, none⟩ (.bool false)).setCell ⟨bo, 1, none⟩ (.slice none 0 0)) := ⟨_, Lib.hid rfl⟩
      rw [← HW13.out]
      clear rbo0 rbo1 fbo0 fbo1
      have ST14 := Lib.hid (ST12.out.store (Hbon.out) HW13.out)
      refine bodyPost_ret (results_cell_pair rfl _ _ bo 25 (.bool false) (.slice none 0 0) (0, 0) rfl (ST14.out.boxes (bo, false, .slice none 0 0) (by simp))) rfl ?_
      refine ⟨⟨_, _, _, _, _, rfl, ?_, ?_⟩, ST14.out.below⟩
      · rw [← HKV.out.1, (addK_bad (.inr Hl2.out)).1]
      · rw [← HKV.out.2, (addK_bad (.inr Hl2.out)).2]
        exact intC_zero _
    | false =>
      obtain ⟨qp10, qp11⟩ := ST12.out.cells (b := p1) (n := g1) (s := .slice a1 n1 cap1) (by simp)
      go_wp2_with (go_at_call 83; refine hold ?_)
      refine Hold.mk ?_
      have WW3 := Lib.hid (IntV.words (ST12.out.get (v := (.agg #[.bool g1, .slice a1 n1 cap1])) (g := g1) (z := z1) (by simp)))
      have C15 := Lib.hid (rform_k WW3.out.2.1 WW3.out.2.2.2 WW3.out.2.2.1 (Hx1.out))
      refine C15.out.mono ?_
      rintro e W15 ⟨⟨n3, a3, c3, d3, rfl, hv⟩, hb⟩
      clear qp10 qp11
      have ST16 := Lib.hid (ST12.out.next hb hv)
      clear hb hv
      obtain ⟨⟨rp10, rp11⟩, fp10, fp11⟩ := box_cells (ST16.out.boxes (p1, g1, .slice a1 n1 cap1) (by simp))
      go_upto_region 4 with fail
      have ST17 := Lib.hid (ST16.out.front2)
      obtain ⟨W18, HW18⟩ : ∃ W', Hid (W' = (W15.setCell ⟨p1, 0, none⟩ (.bool n3)).setCell ⟨p1, 1, none⟩ (.slice a3 c3 d3)) := ⟨_, Lib.hid rfl⟩
      rw [← HW18.out]
      clear rp10 rp11 fp10 fp11
      have ST19 := Lib.hid (ST17.out.store (ne_three Hp1n.out.2 Hpn.out.2.1 Hpn.out.1) HW18.out)
      obtain ⟨qp20, qp21⟩ := ST19.out.cells (b := p2) (n := g2) (s := .slice a2 n2 cap2) (by simp)
      go_wp2_with (go_at_call 83; refine hold ?_)
      refine Hold.mk ?_
      have WW4 := Lib.hid (IntV.words (ST19.out.get (v := (.agg #[.bool g2, .slice a2 n2 cap2])) (g := g2) (z := z2) (by simp)))
      have C20 := Lib.hid (rform_k WW4.out.2.1 WW4.out.2.2.2 WW4.out.2.2.1 (Hx2.out))
      refine C20.out.mono ?_
      rintro e W20 ⟨⟨n4, a4, c4, d4, rfl, hv⟩, hb⟩
      clear qp20 qp21
      have ST21 := Lib.hid (ST19.out.next hb hv)
      clear hb hv
      obtain ⟨⟨rp20, rp21⟩, fp20, fp21⟩ := box_cells (ST21.out.boxes (p2, g2, .slice a2 n2 cap2) (by simp))
      go_upto_region 5 with fail
      have ST22 := Lib.hid (ST21.out.front2)
      obtain ⟨W23, HW23⟩ : ∃ W', Hid (W' = (W20.setCell ⟨p2, 0, none⟩ (.bool n4)).setCell ⟨p2, 1, none⟩ (.slice a4 c4 d4)) := ⟨_, Lib.hid rfl⟩
      rw [← HW23.out]
      clear rp20 rp21 fp20 fp21
      have ST24 := Lib.hid (ST22.out.store (ne_three Hp2n.out.2 (Ne.symm Hpn.out.1) Hpn.out.2.2) HW23.out)
      have WWa := Lib.hid (IntV.words (ST24.out.get (v := (.agg #[.bool n3, .slice a3 c3 d3])) (g := decide (x1 < 0)) (z := canW (x1).natAbs) (by simp)))
      have WWb := Lib.hid (IntV.words (ST24.out.get (v := (.agg #[.bool n4, .slice a4 c4 d4])) (g := decide (x2 < 0)) (z := canW (x2).natAbs) (by simp)))
      have Hs1 := Lib.hid WWa.out.1
      have Hs2 := Lib.hid WWb.out.1
      cases n3 with
      | true =>
        cases n4 with
        | true =>
          have HS1 := Lib.hid (of_decide_eq_true Hs1.out.symm)
          have HS2 := Lib.hid (of_decide_eq_true Hs2.out.symm)
          obtain ⟨qp20, qp21⟩ := ST24.out.cells (b := p2) (n := true) (s := .slice a4 c4 d4) (by simp)
          obtain ⟨qp10, qp11⟩ := ST24.out.cells (b := p1) (n := true) (s := .slice a3 c3 d3) (by simp)
          go_upto_region 6 with fail
          clear qp20 qp21 qp10 qp11
          have HC6 : Hid (∀ wx, Below W23.heap.size W23 wx → (fun w' : World => w'.cell? ⟨p2, 0, none⟩ = some (.bool true) ∧ w'.cell? ⟨p2, 1, none⟩ = some (.slice a4 c4 d4) ∧ w'.cell? ⟨p1, 0, none⟩ = some (.bool true) ∧ w'.cell? ⟨p1, 1, none⟩ = some (.slice a3 c3 d3) ∧ w'.cell? ⟨bo, 0, none⟩ = some (.bool false) ∧ w'.cell? ⟨bo, 1, none⟩ = some (.slice none 0 0)) wx) := Lib.hid fun wx hx => by
            have h := ST24.out.go hx
            exact ⟨(h.cells (b := p2) (n := true) (s := .slice a4 c4 d4) (by simp)).1, (h.cells (b := p2) (n := true) (s := .slice a4 c4 d4) (by simp)).2, (h.cells (b := p1) (n := true) (s := .slice a3 c3 d3) (by simp)).1, (h.cells (b := p1) (n := true) (s := .slice a3 c3 d3) (by simp)).2, (h.cells (b := bo) (n := false) (s := .slice none 0 0) (by simp)).1, (h.cells (b := bo) (n := false) (s := .slice none 0 0) (by simp)).2⟩
          have hD6 := Lib.hid (Below.refl W23.heap.size W23).drew
          have ST25 := Lib.hid (ST24.out.go hD6.out)
          have HS := HC6.out W23.drew hD6.out
          refine wp_region_pi (fun w' : World => w'.cell? ⟨p2, 0, none⟩ = some (.bool true) ∧ w'.cell? ⟨p2, 1, none⟩ = some (.slice a4 c4 d4) ∧ w'.cell? ⟨p1, 0, none⟩ = some (.bool true) ∧ w'.cell? ⟨p1, 1, none⟩ = some (.slice a3 c3 d3) ∧ w'.cell? ⟨bo, 0, none⟩ = some (.bool false) ∧ w'.cell? ⟨bo, 1, none⟩ = some (.slice none 0 0)) [(0, 1), (1, 0), (2, 1), (3, 0), (4, 1), (5, 0), (6, 2), (7, 3), (8, 3), (9, 1), (10, 3), (11, 3), (12, 3)] [(7, [1]), (7, [6, 3]), (7, [6, 5]), (8, [7, 1]), (8, [7, 6, 3]), (8, [7, 6, 5]), (10, [8, 7, 1]), (10, [8, 7, 6, 3]), (10, [8, 7, 6, 5]), (11, [1]), (11, [3]), (11, [5]), (12, [1]), (12, [3]), (12, [5])] (by kernel_rfl) (by kernel_rfl) (fun _ _ _ _ _ h => h) (HS) ?_
          refine pd_pu (some 29) rfl rfl (by rfl) (fun ws => by go_simp; try with_reducible rfl) ?_; go_frame   -- 0 Op.fieldAddr 25 (Operand.tmp 2) 0
          refine pd_ld (some 30) rfl rfl (by rfl) (fun ws HS => by go_split_ands; go_simp; try with_reducible rfl) ?_; go_frame   -- 1 Op.load 4 (Operand.tmp 29)
          refine pd_pu (some 31) rfl rfl (by rfl) (fun ws => by go_simp; try with_reducible rfl) ?_; go_frame   -- 2 Op.fieldAddr 25 (Operand.tmp 2) 1
          refine pd_ld (some 32) rfl rfl (by rfl) (fun ws HS => by go_split_ands; go_simp; try with_reducible rfl) ?_; go_frame   -- 3 Op.load 23 (Operand.tmp 31)
          refine pd_pu (some 33) rfl rfl (by rfl) (fun ws => by go_simp; try with_reducible rfl) ?_; go_frame   -- 4 Op.fieldAddr 25 (Operand.tmp 3) 1
          refine pd_ld (some 34) rfl rfl (by rfl) (fun ws HS => by go_split_ands; go_simp; try with_reducible rfl) ?_; go_frame   -- 5 Op.load 23 (Operand.tmp 33)
          refine pi_ke rfl (fun J hJ => ?_)   -- pi_ke 6 Op.call { callee := Callee.value (Operand.func 85), args := #[Operand.tmp 32, Operand.tmp 34], argTypes := #[23, 23] }
          have C26 := Lib.hid (rplus_k (WWa.out.2.1.below hD6.out) (WWb.out.2.1.below hD6.out) (by rw [big_abs]; exact Hl1.out) (by rw [big_abs]; exact Hl2.out) (cap1 := d3) (cap2 := d4))
          go_wp2_with (go_at_call 85; refine C26.out.mono ?_; rintro e W26 ⟨⟨a7, n7, c7, l7, rfl, HP7⟩, hb⟩; have ST26 := Lib.hid (ST25.out.go hb); have hD26 := Lib.hid (hD6.out.trans (Below.mono hb hD6.out.size)); clear hb)
          refine hJ _ _ (HC6.out W26 hD26.out) ?_
          refine pi_dr rfl (fun J hJ => ?_)   -- pi_dr 7 Op.call { callee := Callee.value (Operand.func 83), args := #[Operand.tmp 30, Operand.tmp 35], argTypes := #[4, 23] }
          have C27 := Lib.hid (rform_k HP7.out.1 HP7.out.2.2.1 HP7.out.2.1 (i := x1 + x2) (by have h1 := HS1.out; have h2 := HS2.out; have h := HP7.out.2.2.2;  rw [valI_t, h]; omega))
          go_wp2_with (go_at_call 83; refine C27.out.mono ?_; rintro e W27 ⟨⟨n8, a8, c8, d8, rfl, hv⟩, hb⟩; have ST27 := Lib.hid (ST26.out.next hb hv); have hD27 := Lib.hid (hD26.out.trans (Below.mono hb hD26.out.size)); clear hb)
          refine hJ _ _ ?_
          clear hv
          refine pi_dr rfl (fun J hJ => ?_)   -- pi_dr 8 Op.call { callee := Callee.value (Operand.func 97), args := #[Operand.tmp 36], argTypes := #[25] }
          have CX := Lib.hid (rend_t (ST27.out.getC (v := (.agg #[.bool n8, .slice a8 c8 d8])) (i := x1 + x2) (by simp)))
          rw [HKV9.out.1, HKV9.out.2] at CX
          have C28 := Lib.hid (CX.out)
          go_wp2_with (go_at_call 97; refine C28.out.mono ?_; rintro e W28 ⟨⟨n9, a9, c9, d9, k9, rfl, hk, hv⟩, hb⟩; have ST28 := Lib.hid (ST27.out.next hb hv); have hD28 := Lib.hid (hD27.out.trans (Below.mono hb hD27.out.size)); clear hb)
          refine hJ _ _ ?_
          have Hk9 := Lib.hid hk
          clear hk hv
          refine pd_pu (some 38) rfl rfl (by rfl) (fun ws => by go_simp; try with_reducible rfl) ?_; go_frame   -- 9 Op.extract (Operand.tmp 37) 0
          refine pi_tail (by rfl) ?_; simp only [opsAt, List.getElem?_toArray, List.getElem?_cons_zero, List.getElem?_cons_succ]   -- [(10, 'Op.extract (Operand.tmp 37) 1'), (11, 'Op.store 25 (Operand.tmp 4) (Operand.tmp 38)'), (12, 'Op.assign (Operand.tmp 39)')]
          obtain ⟨⟨rbo0, rbo1⟩, fbo0, fbo1⟩ := box_cells (ST28.out.boxes (bo, false, .slice none 0 0) (by simp))
          go_wp2_with fail
          have ST29 := Lib.hid (ST28.out.front2)
          obtain ⟨W30, HW30⟩ : ∃ W', Hid (W' = (W28.setCell ⟨bo, 0, none⟩ (.bool n9)).setCell ⟨bo, 1, none⟩ (.slice a9 c9 d9)) := ⟨_, Lib.hid rfl⟩
          rw [← HW30.out]
          clear rbo0 rbo1 fbo0 fbo1
          have ST31 := Lib.hid (ST29.out.store (ne_three Hbon.out.2 (Ne.symm Hpn.out.2.2) (Ne.symm Hpn.out.2.1)) HW30.out)
          refine bodyPost_ret (results_cell_pair rfl _ _ bo 25 (.bool n9) (.slice a9 c9 d9) (0, 0) rfl (ST31.out.boxes (bo, n9, .slice a9 c9 d9) (by simp))) rfl ?_
          refine ⟨⟨_, _, _, _, _, rfl, ?_, ?_⟩, ST31.out.below⟩
          · rw [← HKV.out.1, (addK_fin Hl1.out Hl2.out).1, HKV9.out.1]
          · rw [← HKV.out.2, (addK_fin Hl1.out Hl2.out).2, HKV9.out.2]
            exact (ST31.out.getC (v := (.agg #[.bool n9, .slice a9 c9 d9])) (i := V9) (by simp))
        | false =>
          have HS1 := Lib.hid (of_decide_eq_true Hs1.out.symm)
          have HS2 := Lib.hid (of_decide_eq_false Hs2.out.symm)
          obtain ⟨qp20, qp21⟩ := ST24.out.cells (b := p2) (n := false) (s := .slice a4 c4 d4) (by simp)
          obtain ⟨qp10, qp11⟩ := ST24.out.cells (b := p1) (n := true) (s := .slice a3 c3 d3) (by simp)
          obtain ⟨t, Ht⟩ : ∃ t, Hid (cmpN x1.natAbs x2.natAbs = t) := ⟨_, Lib.hid rfl⟩
          have CS := Lib.hid (rsize_k WWa.out.2.1 WWb.out.2.1 WWa.out.2.2.2 WWb.out.2.2.2 (cap1 := d3) (cap2 := d4))
          rw [Ht.out] at CS
          go_wp2_with (go_at_call 87; refine hold ?_)
          refine Hold.mk ?_
          refine CS.out.mono ?_
          rintro e Wz ⟨rfl, hb⟩
          clear qp20 qp21 qp10 qp11
          have WWc := Lib.hid (And.intro (WWa.out.2.1.below hb) (WWb.out.2.1.below hb))
          have ST32 := Lib.hid (ST24.out.go hb)
          clear hb
          cases Int.lt_or_le t 0 with
          | inl q =>
            have HLE := Lib.hid (show x1.natAbs ≤ x2.natAbs from cmpN_lt (by rw [Ht.out]; exact q))
            go_upto_region 9 with fail
            have HC9 : Hid (∀ wx, Below Wz.heap.size Wz wx → (fun w' : World => w'.cell? ⟨p2, 0, none⟩ = some (.bool false) ∧ w'.cell? ⟨p2, 1, none⟩ = some (.slice a4 c4 d4) ∧ w'.cell? ⟨p1, 0, none⟩ = some (.bool true) ∧ w'.cell? ⟨p1, 1, none⟩ = some (.slice a3 c3 d3) ∧ w'.cell? ⟨bo, 0, none⟩ = some (.bool false) ∧ w'.cell? ⟨bo, 1, none⟩ = some (.slice none 0 0)) wx) := Lib.hid fun wx hx => by
              have h := ST32.out.go hx
              exact ⟨(h.cells (b := p2) (n := false) (s := .slice a4 c4 d4) (by simp)).1, (h.cells (b := p2) (n := false) (s := .slice a4 c4 d4) (by simp)).2, (h.cells (b := p1) (n := true) (s := .slice a3 c3 d3) (by simp)).1, (h.cells (b := p1) (n := true) (s := .slice a3 c3 d3) (by simp)).2, (h.cells (b := bo) (n := false) (s := .slice none 0 0) (by simp)).1, (h.cells (b := bo) (n := false) (s := .slice none 0 0) (by simp)).2⟩
            have hD9 := Lib.hid (Below.refl Wz.heap.size Wz).drew
            have ST33 := Lib.hid (ST32.out.go hD9.out)
            have HS := HC9.out Wz.drew hD9.out
            refine wp_region_pi (fun w' : World => w'.cell? ⟨p2, 0, none⟩ = some (.bool false) ∧ w'.cell? ⟨p2, 1, none⟩ = some (.slice a4 c4 d4) ∧ w'.cell? ⟨p1, 0, none⟩ = some (.bool true) ∧ w'.cell? ⟨p1, 1, none⟩ = some (.slice a3 c3 d3) ∧ w'.cell? ⟨bo, 0, none⟩ = some (.bool false) ∧ w'.cell? ⟨bo, 1, none⟩ = some (.slice none 0 0)) [(0, 1), (1, 0), (2, 1), (3, 0), (4, 1), (5, 0), (6, 2), (7, 3), (8, 3), (9, 1), (10, 3), (11, 3), (12, 3)] [(7, [1]), (7, [6, 3]), (7, [6, 5]), (8, [7, 1]), (8, [7, 6, 3]), (8, [7, 6, 5]), (10, [8, 7, 1]), (10, [8, 7, 6, 3]), (10, [8, 7, 6, 5]), (11, [1]), (11, [3]), (11, [5]), (12, [1]), (12, [3]), (12, [5])] (by kernel_rfl) (by kernel_rfl) (fun _ _ _ _ _ h => h) (HS) ?_
            refine pd_pu (some 58) rfl rfl (by rfl) (fun ws => by go_simp; try with_reducible rfl) ?_; go_frame   -- 0 Op.fieldAddr 25 (Operand.tmp 3) 0
            refine pd_ld (some 59) rfl rfl (by rfl) (fun ws HS => by go_split_ands; go_simp; try with_reducible rfl) ?_; go_frame   -- 1 Op.load 4 (Operand.tmp 58)
            refine pd_pu (some 60) rfl rfl (by rfl) (fun ws => by go_simp; try with_reducible rfl) ?_; go_frame   -- 2 Op.fieldAddr 25 (Operand.tmp 3) 1
            refine pd_ld (some 61) rfl rfl (by rfl) (fun ws HS => by go_split_ands; go_simp; try with_reducible rfl) ?_; go_frame   -- 3 Op.load 23 (Operand.tmp 60)
            refine pd_pu (some 62) rfl rfl (by rfl) (fun ws => by go_simp; try with_reducible rfl) ?_; go_frame   -- 4 Op.fieldAddr 25 (Operand.tmp 2) 1
            refine pd_ld (some 63) rfl rfl (by rfl) (fun ws HS => by go_split_ands; go_simp; try with_reducible rfl) ?_; go_frame   -- 5 Op.load 23 (Operand.tmp 62)
            refine pi_ke rfl (fun J hJ => ?_)   -- pi_ke 6 Op.call { callee := Callee.value (Operand.func 88), args := #[Operand.tmp 61, Operand.tmp 63], argTypes := #[23, 23] }
            have C34 := Lib.hid (rminus_k (WWc.out.2.below hD9.out) (WWc.out.1.below hD9.out) WWb.out.2.2.2 HLE.out (cap1 := d4) (cap2 := d3))
            go_wp2_with (go_at_call 88; refine C34.out.mono ?_; rintro e W34 ⟨⟨a7, n7, c7, l7, rfl, HP7⟩, hb⟩; have ST34 := Lib.hid (ST33.out.go hb); have hD34 := Lib.hid (hD9.out.trans (Below.mono hb hD9.out.size)); clear hb)
            refine hJ _ _ (HC9.out W34 hD34.out) ?_
            refine pi_dr rfl (fun J hJ => ?_)   -- pi_dr 7 Op.call { callee := Callee.value (Operand.func 83), args := #[Operand.tmp 59, Operand.tmp 64], argTypes := #[4, 23] }
            have C35 := Lib.hid (rform_k HP7.out.1 HP7.out.2.2.1 HP7.out.2.1 (i := x1 + x2) (by have h1 := HS1.out; have h2 := HS2.out; have h := HP7.out.2.2.2; have h3 := HLE.out; rw [valI_f, h]; omega))
            go_wp2_with (go_at_call 83; refine C35.out.mono ?_; rintro e W35 ⟨⟨n8, a8, c8, d8, rfl, hv⟩, hb⟩; have ST35 := Lib.hid (ST34.out.next hb hv); have hD35 := Lib.hid (hD34.out.trans (Below.mono hb hD34.out.size)); clear hb)
            refine hJ _ _ ?_
            clear hv
            refine pi_dr rfl (fun J hJ => ?_)   -- pi_dr 8 Op.call { callee := Callee.value (Operand.func 97), args := #[Operand.tmp 65], argTypes := #[25] }
            have CX := Lib.hid (rend_t (ST35.out.getC (v := (.agg #[.bool n8, .slice a8 c8 d8])) (i := x1 + x2) (by simp)))
            rw [HKV9.out.1, HKV9.out.2] at CX
            have C36 := Lib.hid (CX.out)
            go_wp2_with (go_at_call 97; refine C36.out.mono ?_; rintro e W36 ⟨⟨n9, a9, c9, d9, k9, rfl, hk, hv⟩, hb⟩; have ST36 := Lib.hid (ST35.out.next hb hv); have hD36 := Lib.hid (hD35.out.trans (Below.mono hb hD35.out.size)); clear hb)
            refine hJ _ _ ?_
            have Hk9 := Lib.hid hk
            clear hk hv
            refine pd_pu (some 67) rfl rfl (by rfl) (fun ws => by go_simp; try with_reducible rfl) ?_; go_frame   -- 9 Op.extract (Operand.tmp 66) 0
            refine pi_tail (by rfl) ?_; simp only [opsAt, List.getElem?_toArray, List.getElem?_cons_zero, List.getElem?_cons_succ]   -- [(10, 'Op.extract (Operand.tmp 66) 1'), (11, 'Op.store 25 (Operand.tmp 4) (Operand.tmp 67)'), (12, 'Op.assign (Operand.tmp 68)')]
            obtain ⟨⟨rbo0, rbo1⟩, fbo0, fbo1⟩ := box_cells (ST36.out.boxes (bo, false, .slice none 0 0) (by simp))
            go_wp2_with fail
            have ST37 := Lib.hid (ST36.out.front2)
            obtain ⟨W38, HW38⟩ : ∃ W', Hid (W' = (W36.setCell ⟨bo, 0, none⟩ (.bool n9)).setCell ⟨bo, 1, none⟩ (.slice a9 c9 d9)) := ⟨_, Lib.hid rfl⟩
            rw [← HW38.out]
            clear rbo0 rbo1 fbo0 fbo1
            have ST39 := Lib.hid (ST37.out.store (ne_three Hbon.out.2 (Ne.symm Hpn.out.2.2) (Ne.symm Hpn.out.2.1)) HW38.out)
            refine bodyPost_ret (results_cell_pair rfl _ _ bo 25 (.bool n9) (.slice a9 c9 d9) (0, 0) rfl (ST39.out.boxes (bo, n9, .slice a9 c9 d9) (by simp))) rfl ?_
            refine ⟨⟨_, _, _, _, _, rfl, ?_, ?_⟩, ST39.out.below⟩
            · rw [← HKV.out.1, (addK_fin Hl1.out Hl2.out).1, HKV9.out.1]
            · rw [← HKV.out.2, (addK_fin Hl1.out Hl2.out).2, HKV9.out.2]
              exact (ST39.out.getC (v := (.agg #[.bool n9, .slice a9 c9 d9])) (i := V9) (by simp))
          | inr q =>
            have HLE := Lib.hid (show x2.natAbs ≤ x1.natAbs from cmpN_ge (by rw [Ht.out]; exact q))
            go_upto_region 8 with fail
            have HC8 : Hid (∀ wx, Below Wz.heap.size Wz wx → (fun w' : World => w'.cell? ⟨p2, 0, none⟩ = some (.bool false) ∧ w'.cell? ⟨p2, 1, none⟩ = some (.slice a4 c4 d4) ∧ w'.cell? ⟨p1, 0, none⟩ = some (.bool true) ∧ w'.cell? ⟨p1, 1, none⟩ = some (.slice a3 c3 d3) ∧ w'.cell? ⟨bo, 0, none⟩ = some (.bool false) ∧ w'.cell? ⟨bo, 1, none⟩ = some (.slice none 0 0)) wx) := Lib.hid fun wx hx => by
              have h := ST32.out.go hx
              exact ⟨(h.cells (b := p2) (n := false) (s := .slice a4 c4 d4) (by simp)).1, (h.cells (b := p2) (n := false) (s := .slice a4 c4 d4) (by simp)).2, (h.cells (b := p1) (n := true) (s := .slice a3 c3 d3) (by simp)).1, (h.cells (b := p1) (n := true) (s := .slice a3 c3 d3) (by simp)).2, (h.cells (b := bo) (n := false) (s := .slice none 0 0) (by simp)).1, (h.cells (b := bo) (n := false) (s := .slice none 0 0) (by simp)).2⟩
            have hD8 := Lib.hid (Below.refl Wz.heap.size Wz).drew
            have ST40 := Lib.hid (ST32.out.go hD8.out)
            have HS := HC8.out Wz.drew hD8.out
            refine wp_region_pi (fun w' : World => w'.cell? ⟨p2, 0, none⟩ = some (.bool false) ∧ w'.cell? ⟨p2, 1, none⟩ = some (.slice a4 c4 d4) ∧ w'.cell? ⟨p1, 0, none⟩ = some (.bool true) ∧ w'.cell? ⟨p1, 1, none⟩ = some (.slice a3 c3 d3) ∧ w'.cell? ⟨bo, 0, none⟩ = some (.bool false) ∧ w'.cell? ⟨bo, 1, none⟩ = some (.slice none 0 0)) [(0, 1), (1, 0), (2, 1), (3, 0), (4, 1), (5, 0), (6, 2), (7, 3), (8, 3), (9, 1), (10, 3), (11, 3), (12, 3)] [(7, [1]), (7, [6, 3]), (7, [6, 5]), (8, [7, 1]), (8, [7, 6, 3]), (8, [7, 6, 5]), (10, [8, 7, 1]), (10, [8, 7, 6, 3]), (10, [8, 7, 6, 5]), (11, [1]), (11, [3]), (11, [5]), (12, [1]), (12, [3]), (12, [5])] (by kernel_rfl) (by kernel_rfl) (fun _ _ _ _ _ h => h) (HS) ?_
            refine pd_pu (some 47) rfl rfl (by rfl) (fun ws => by go_simp; try with_reducible rfl) ?_; go_frame   -- 0 Op.fieldAddr 25 (Operand.tmp 2) 0
            refine pd_ld (some 48) rfl rfl (by rfl) (fun ws HS => by go_split_ands; go_simp; try with_reducible rfl) ?_; go_frame   -- 1 Op.load 4 (Operand.tmp 47)
            refine pd_pu (some 49) rfl rfl (by rfl) (fun ws => by go_simp; try with_reducible rfl) ?_; go_frame   -- 2 Op.fieldAddr 25 (Operand.tmp 2) 1
            refine pd_ld (some 50) rfl rfl (by rfl) (fun ws HS => by go_split_ands; go_simp; try with_reducible rfl) ?_; go_frame   -- 3 Op.load 23 (Operand.tmp 49)
            refine pd_pu (some 51) rfl rfl (by rfl) (fun ws => by go_simp; try with_reducible rfl) ?_; go_frame   -- 4 Op.fieldAddr 25 (Operand.tmp 3) 1
            refine pd_ld (some 52) rfl rfl (by rfl) (fun ws HS => by go_split_ands; go_simp; try with_reducible rfl) ?_; go_frame   -- 5 Op.load 23 (Operand.tmp 51)
            refine pi_ke rfl (fun J hJ => ?_)   -- pi_ke 6 Op.call { callee := Callee.value (Operand.func 88), args := #[Operand.tmp 50, Operand.tmp 52], argTypes := #[23, 23] }
            have C41 := Lib.hid (rminus_k (WWc.out.1.below hD8.out) (WWc.out.2.below hD8.out) WWa.out.2.2.2 HLE.out (cap1 := d3) (cap2 := d4))
            go_wp2_with (go_at_call 88; refine C41.out.mono ?_; rintro e W41 ⟨⟨a7, n7, c7, l7, rfl, HP7⟩, hb⟩; have ST41 := Lib.hid (ST40.out.go hb); have hD41 := Lib.hid (hD8.out.trans (Below.mono hb hD8.out.size)); clear hb)
            refine hJ _ _ (HC8.out W41 hD41.out) ?_
            refine pi_dr rfl (fun J hJ => ?_)   -- pi_dr 7 Op.call { callee := Callee.value (Operand.func 83), args := #[Operand.tmp 48, Operand.tmp 53], argTypes := #[4, 23] }
            have C42 := Lib.hid (rform_k HP7.out.1 HP7.out.2.2.1 HP7.out.2.1 (i := x1 + x2) (by have h1 := HS1.out; have h2 := HS2.out; have h := HP7.out.2.2.2; have h3 := HLE.out; rw [valI_t, h]; omega))
            go_wp2_with (go_at_call 83; refine C42.out.mono ?_; rintro e W42 ⟨⟨n8, a8, c8, d8, rfl, hv⟩, hb⟩; have ST42 := Lib.hid (ST41.out.next hb hv); have hD42 := Lib.hid (hD41.out.trans (Below.mono hb hD41.out.size)); clear hb)
            refine hJ _ _ ?_
            clear hv
            refine pi_dr rfl (fun J hJ => ?_)   -- pi_dr 8 Op.call { callee := Callee.value (Operand.func 97), args := #[Operand.tmp 54], argTypes := #[25] }
            have CX := Lib.hid (rend_t (ST42.out.getC (v := (.agg #[.bool n8, .slice a8 c8 d8])) (i := x1 + x2) (by simp)))
            rw [HKV9.out.1, HKV9.out.2] at CX
            have C43 := Lib.hid (CX.out)
            go_wp2_with (go_at_call 97; refine C43.out.mono ?_; rintro e W43 ⟨⟨n9, a9, c9, d9, k9, rfl, hk, hv⟩, hb⟩; have ST43 := Lib.hid (ST42.out.next hb hv); have hD43 := Lib.hid (hD42.out.trans (Below.mono hb hD42.out.size)); clear hb)
            refine hJ _ _ ?_
            have Hk9 := Lib.hid hk
            clear hk hv
            refine pd_pu (some 56) rfl rfl (by rfl) (fun ws => by go_simp; try with_reducible rfl) ?_; go_frame   -- 9 Op.extract (Operand.tmp 55) 0
            refine pi_tail (by rfl) ?_; simp only [opsAt, List.getElem?_toArray, List.getElem?_cons_zero, List.getElem?_cons_succ]   -- [(10, 'Op.extract (Operand.tmp 55) 1'), (11, 'Op.store 25 (Operand.tmp 4) (Operand.tmp 56)'), (12, 'Op.assign (Operand.tmp 57)')]
            obtain ⟨⟨rbo0, rbo1⟩, fbo0, fbo1⟩ := box_cells (ST43.out.boxes (bo, false, .slice none 0 0) (by simp))
            go_wp2_with fail
            have ST44 := Lib.hid (ST43.out.front2)
            obtain ⟨W45, HW45⟩ : ∃ W', Hid (W' = (W43.setCell ⟨bo, 0, none⟩ (.bool n9)).setCell ⟨bo, 1, none⟩ (.slice a9 c9 d9)) := ⟨_, Lib.hid rfl⟩
            rw [← HW45.out]
            clear rbo0 rbo1 fbo0 fbo1
            have ST46 := Lib.hid (ST44.out.store (ne_three Hbon.out.2 (Ne.symm Hpn.out.2.2) (Ne.symm Hpn.out.2.1)) HW45.out)
            refine bodyPost_ret (results_cell_pair rfl _ _ bo 25 (.bool n9) (.slice a9 c9 d9) (0, 0) rfl (ST46.out.boxes (bo, n9, .slice a9 c9 d9) (by simp))) rfl ?_
            refine ⟨⟨_, _, _, _, _, rfl, ?_, ?_⟩, ST46.out.below⟩
            · rw [← HKV.out.1, (addK_fin Hl1.out Hl2.out).1, HKV9.out.1]
            · rw [← HKV.out.2, (addK_fin Hl1.out Hl2.out).2, HKV9.out.2]
              exact (ST46.out.getC (v := (.agg #[.bool n9, .slice a9 c9 d9])) (i := V9) (by simp))
      | false =>
        cases n4 with
        | true =>
          have HS1 := Lib.hid (of_decide_eq_false Hs1.out.symm)
          have HS2 := Lib.hid (of_decide_eq_true Hs2.out.symm)
          obtain ⟨qp20, qp21⟩ := ST24.out.cells (b := p2) (n := true) (s := .slice a4 c4 d4) (by simp)
          obtain ⟨qp10, qp11⟩ := ST24.out.cells (b := p1) (n := false) (s := .slice a3 c3 d3) (by simp)
          obtain ⟨t, Ht⟩ : ∃ t, Hid (cmpN x1.natAbs x2.natAbs = t) := ⟨_, Lib.hid rfl⟩
          have CS := Lib.hid (rsize_k WWa.out.2.1 WWb.out.2.1 WWa.out.2.2.2 WWb.out.2.2.2 (cap1 := d3) (cap2 := d4))
          rw [Ht.out] at CS
          go_wp2_with (go_at_call 87; refine hold ?_)
          refine Hold.mk ?_
          refine CS.out.mono ?_
          rintro e Wz ⟨rfl, hb⟩
          clear qp20 qp21 qp10 qp11
          have WWc := Lib.hid (And.intro (WWa.out.2.1.below hb) (WWb.out.2.1.below hb))
          have ST47 := Lib.hid (ST24.out.go hb)
          clear hb
          cases Int.lt_or_le t 0 with
          | inl q =>
            have HLE := Lib.hid (show x1.natAbs ≤ x2.natAbs from cmpN_lt (by rw [Ht.out]; exact q))
            go_upto_region 9 with fail
            have HC9 : Hid (∀ wx, Below Wz.heap.size Wz wx → (fun w' : World => w'.cell? ⟨p2, 0, none⟩ = some (.bool true) ∧ w'.cell? ⟨p2, 1, none⟩ = some (.slice a4 c4 d4) ∧ w'.cell? ⟨p1, 0, none⟩ = some (.bool false) ∧ w'.cell? ⟨p1, 1, none⟩ = some (.slice a3 c3 d3) ∧ w'.cell? ⟨bo, 0, none⟩ = some (.bool false) ∧ w'.cell? ⟨bo, 1, none⟩ = some (.slice none 0 0)) wx) := Lib.hid fun wx hx => by
              have h := ST47.out.go hx
              exact ⟨(h.cells (b := p2) (n := true) (s := .slice a4 c4 d4) (by simp)).1, (h.cells (b := p2) (n := true) (s := .slice a4 c4 d4) (by simp)).2, (h.cells (b := p1) (n := false) (s := .slice a3 c3 d3) (by simp)).1, (h.cells (b := p1) (n := false) (s := .slice a3 c3 d3) (by simp)).2, (h.cells (b := bo) (n := false) (s := .slice none 0 0) (by simp)).1, (h.cells (b := bo) (n := false) (s := .slice none 0 0) (by simp)).2⟩
            have hD9 := Lib.hid (Below.refl Wz.heap.size Wz).drew
            have ST48 := Lib.hid (ST47.out.go hD9.out)
            have HS := HC9.out Wz.drew hD9.out
            refine wp_region_pi (fun w' : World => w'.cell? ⟨p2, 0, none⟩ = some (.bool true) ∧ w'.cell? ⟨p2, 1, none⟩ = some (.slice a4 c4 d4) ∧ w'.cell? ⟨p1, 0, none⟩ = some (.bool false) ∧ w'.cell? ⟨p1, 1, none⟩ = some (.slice a3 c3 d3) ∧ w'.cell? ⟨bo, 0, none⟩ = some (.bool false) ∧ w'.cell? ⟨bo, 1, none⟩ = some (.slice none 0 0)) [(0, 1), (1, 0), (2, 1), (3, 0), (4, 1), (5, 0), (6, 2), (7, 3), (8, 3), (9, 1), (10, 3), (11, 3), (12, 3)] [(7, [1]), (7, [6, 3]), (7, [6, 5]), (8, [7, 1]), (8, [7, 6, 3]), (8, [7, 6, 5]), (10, [8, 7, 1]), (10, [8, 7, 6, 3]), (10, [8, 7, 6, 5]), (11, [1]), (11, [3]), (11, [5]), (12, [1]), (12, [3]), (12, [5])] (by kernel_rfl) (by kernel_rfl) (fun _ _ _ _ _ h => h) (HS) ?_
            refine pd_pu (some 58) rfl rfl (by rfl) (fun ws => by go_simp; try with_reducible rfl) ?_; go_frame   -- 0 Op.fieldAddr 25 (Operand.tmp 3) 0
            refine pd_ld (some 59) rfl rfl (by rfl) (fun ws HS => by go_split_ands; go_simp; try with_reducible rfl) ?_; go_frame   -- 1 Op.load 4 (Operand.tmp 58)
            refine pd_pu (some 60) rfl rfl (by rfl) (fun ws => by go_simp; try with_reducible rfl) ?_; go_frame   -- 2 Op.fieldAddr 25 (Operand.tmp 3) 1
            refine pd_ld (some 61) rfl rfl (by rfl) (fun ws HS => by go_split_ands; go_simp; try with_reducible rfl) ?_; go_frame   -- 3 Op.load 23 (Operand.tmp 60)
            refine pd_pu (some 62) rfl rfl (by rfl) (fun ws => by go_simp; try with_reducible rfl) ?_; go_frame   -- 4 Op.fieldAddr 25 (Operand.tmp 2) 1
            refine pd_ld (some 63) rfl rfl (by rfl) (fun ws HS => by go_split_ands; go_simp; try with_reducible rfl) ?_; go_frame   -- 5 Op.load 23 (Operand.tmp 62)
            refine pi_ke rfl (fun J hJ => ?_)   -- pi_ke 6 Op.call { callee := Callee.value (Operand.func 88), args := #[Operand.tmp 61, Operand.tmp 63], argTypes := #[23, 23] }
            have C49 := Lib.hid (rminus_k (WWc.out.2.below hD9.out) (WWc.out.1.below hD9.out) WWb.out.2.2.2 HLE.out (cap1 := d4) (cap2 := d3))
            go_wp2_with (go_at_call 88; refine C49.out.mono ?_; rintro e W49 ⟨⟨a7, n7, c7, l7, rfl, HP7⟩, hb⟩; have ST49 := Lib.hid (ST48.out.go hb); have hD49 := Lib.hid (hD9.out.trans (Below.mono hb hD9.out.size)); clear hb)
            refine hJ _ _ (HC9.out W49 hD49.out) ?_
            refine pi_dr rfl (fun J hJ => ?_)   -- pi_dr 7 Op.call { callee := Callee.value (Operand.func 83), args := #[Operand.tmp 59, Operand.tmp 64], argTypes := #[4, 23] }
            have C50 := Lib.hid (rform_k HP7.out.1 HP7.out.2.2.1 HP7.out.2.1 (i := x1 + x2) (by have h1 := HS1.out; have h2 := HS2.out; have h := HP7.out.2.2.2; have h3 := HLE.out; rw [valI_t, h]; omega))
            go_wp2_with (go_at_call 83; refine C50.out.mono ?_; rintro e W50 ⟨⟨n8, a8, c8, d8, rfl, hv⟩, hb⟩; have ST50 := Lib.hid (ST49.out.next hb hv); have hD50 := Lib.hid (hD49.out.trans (Below.mono hb hD49.out.size)); clear hb)
            refine hJ _ _ ?_
            clear hv
            refine pi_dr rfl (fun J hJ => ?_)   -- pi_dr 8 Op.call { callee := Callee.value (Operand.func 97), args := #[Operand.tmp 65], argTypes := #[25] }
            have CX := Lib.hid (rend_t (ST50.out.getC (v := (.agg #[.bool n8, .slice a8 c8 d8])) (i := x1 + x2) (by simp)))
            rw [HKV9.out.1, HKV9.out.2] at CX
            have C51 := Lib.hid (CX.out)
            go_wp2_with (go_at_call 97; refine C51.out.mono ?_; rintro e W51 ⟨⟨n9, a9, c9, d9, k9, rfl, hk, hv⟩, hb⟩; have ST51 := Lib.hid (ST50.out.next hb hv); have hD51 := Lib.hid (hD50.out.trans (Below.mono hb hD50.out.size)); clear hb)
            refine hJ _ _ ?_
            have Hk9 := Lib.hid hk
            clear hk hv
            refine pd_pu (some 67) rfl rfl (by rfl) (fun ws => by go_simp; try with_reducible rfl) ?_; go_frame   -- 9 Op.extract (Operand.tmp 66) 0
            refine pi_tail (by rfl) ?_; simp only [opsAt, List.getElem?_toArray, List.getElem?_cons_zero, List.getElem?_cons_succ]   -- [(10, 'Op.extract (Operand.tmp 66) 1'), (11, 'Op.store 25 (Operand.tmp 4) (Operand.tmp 67)'), (12, 'Op.assign (Operand.tmp 68)')]
            obtain ⟨⟨rbo0, rbo1⟩, fbo0, fbo1⟩ := box_cells (ST51.out.boxes (bo, false, .slice none 0 0) (by simp))
            go_wp2_with fail
            have ST52 := Lib.hid (ST51.out.front2)
            obtain ⟨W53, HW53⟩ : ∃ W', Hid (W' = (W51.setCell ⟨bo, 0, none⟩ (.bool n9)).setCell ⟨bo, 1, none⟩ (.slice a9 c9 d9)) := ⟨_, Lib.hid rfl⟩
            rw [← HW53.out]
            clear rbo0 rbo1 fbo0 fbo1
            have ST54 := Lib.hid (ST52.out.store (ne_three Hbon.out.2 (Ne.symm Hpn.out.2.2) (Ne.symm Hpn.out.2.1)) HW53.out)
            refine bodyPost_ret (results_cell_pair rfl _ _ bo 25 (.bool n9) (.slice a9 c9 d9) (0, 0) rfl (ST54.out.boxes (bo, n9, .slice a9 c9 d9) (by simp))) rfl ?_
            refine ⟨⟨_, _, _, _, _, rfl, ?_, ?_⟩, ST54.out.below⟩
            · rw [← HKV.out.1, (addK_fin Hl1.out Hl2.out).1, HKV9.out.1]
            · rw [← HKV.out.2, (addK_fin Hl1.out Hl2.out).2, HKV9.out.2]
              exact (ST54.out.getC (v := (.agg #[.bool n9, .slice a9 c9 d9])) (i := V9) (by simp))
          | inr q =>
            have HLE := Lib.hid (show x2.natAbs ≤ x1.natAbs from cmpN_ge (by rw [Ht.out]; exact q))
            go_upto_region 8 with fail
            have HC8 : Hid (∀ wx, Below Wz.heap.size Wz wx → (fun w' : World => w'.cell? ⟨p2, 0, none⟩ = some (.bool true) ∧ w'.cell? ⟨p2, 1, none⟩ = some (.slice a4 c4 d4) ∧ w'.cell? ⟨p1, 0, none⟩ = some (.bool false) ∧ w'.cell? ⟨p1, 1, none⟩ = some (.slice a3 c3 d3) ∧ w'.cell? ⟨bo, 0, none⟩ = some (.bool false) ∧ w'.cell? ⟨bo, 1, none⟩ = some (.slice none 0 0)) wx) := Lib.hid fun wx hx => by
              have h := ST47.out.go hx
              exact ⟨(h.cells (b := p2) (n := true) (s := .slice a4 c4 d4) (by simp)).1, (h.cells (b := p2) (n := true) (s := .slice a4 c4 d4) (by simp)).2, (h.cells (b := p1) (n := false) (s := .slice a3 c3 d3) (by simp)).1, (h.cells (b := p1) (n := false) (s := .slice a3 c3 d3) (by simp)).2, (h.cells (b := bo) (n := false) (s := .slice none 0 0) (by simp)).1, (h.cells (b := bo) (n := false) (s := .slice none 0 0) (by simp)).2⟩
            have hD8 := Lib.hid (Below.refl Wz.heap.size Wz).drew
            have ST55 := Lib.hid (ST47.out.go hD8.out)
            have HS := HC8.out Wz.drew hD8.out
            refine wp_region_pi (fun w' : World => w'.cell? ⟨p2, 0, none⟩ = some (.bool true) ∧ w'.cell? ⟨p2, 1, none⟩ = some (.slice a4 c4 d4) ∧ w'.cell? ⟨p1, 0, none⟩ = some (.bool false) ∧ w'.cell? ⟨p1, 1, none⟩ = some (.slice a3 c3 d3) ∧ w'.cell? ⟨bo, 0, none⟩ = some (.bool false) ∧ w'.cell? ⟨bo, 1, none⟩ = some (.slice none 0 0)) [(0, 1), (1, 0), (2, 1), (3, 0), (4, 1), (5, 0), (6, 2), (7, 3), (8, 3), (9, 1), (10, 3), (11, 3), (12, 3)] [(7, [1]), (7, [6, 3]), (7, [6, 5]), (8, [7, 1]), (8, [7, 6, 3]), (8, [7, 6, 5]), (10, [8, 7, 1]), (10, [8, 7, 6, 3]), (10, [8, 7, 6, 5]), (11, [1]), (11, [3]), (11, [5]), (12, [1]), (12, [3]), (12, [5])] (by kernel_rfl) (by kernel_rfl) (fun _ _ _ _ _ h => h) (HS) ?_
            refine pd_pu (some 47) rfl rfl (by rfl) (fun ws => by go_simp; try with_reducible rfl) ?_; go_frame   -- 0 Op.fieldAddr 25 (Operand.tmp 2) 0
            refine pd_ld (some 48) rfl rfl (by rfl) (fun ws HS => by go_split_ands; go_simp; try with_reducible rfl) ?_; go_frame   -- 1 Op.load 4 (Operand.tmp 47)
            refine pd_pu (some 49) rfl rfl (by rfl) (fun ws => by go_simp; try with_reducible rfl) ?_; go_frame   -- 2 Op.fieldAddr 25 (Operand.tmp 2) 1
            refine pd_ld (some 50) rfl rfl (by rfl) (fun ws HS => by go_split_ands; go_simp; try with_reducible rfl) ?_; go_frame   -- 3 Op.load 23 (Operand.tmp 49)
            refine pd_pu (some 51) rfl rfl (by rfl) (fun ws => by go_simp; try with_reducible rfl) ?_; go_frame   -- 4 Op.fieldAddr 25 (Operand.tmp 3) 1
            refine pd_ld (some 52) rfl rfl (by rfl) (fun ws HS => by go_split_ands; go_simp; try with_reducible rfl) ?_; go_frame   -- 5 Op.load 23 (Operand.tmp 51)
            refine pi_ke rfl (fun J hJ => ?_)   -- pi_ke 6 Op.call { callee := Callee.value (Operand.func 88), args := #[Operand.tmp 50, Operand.tmp 52], argTypes := #[23, 23] }
            have C56 := Lib.hid (rminus_k (WWc.out.1.below hD8.out) (WWc.out.2.below hD8.out) WWa.out.2.2.2 HLE.out (cap1 := d3) (cap2 := d4))
            go_wp2_with (go_at_call 88; refine C56.out.mono ?_; rintro e W56 ⟨⟨a7, n7, c7, l7, rfl, HP7⟩, hb⟩; have ST56 := Lib.hid (ST55.out.go hb); have hD56 := Lib.hid (hD8.out.trans (Below.mono hb hD8.out.size)); clear hb)
            refine hJ _ _ (HC8.out W56 hD56.out) ?_
            refine pi_dr rfl (fun J hJ => ?_)   -- pi_dr 7 Op.call { callee := Callee.value (Operand.func 83), args := #[Operand.tmp 48, Operand.tmp 53], argTypes := #[4, 23] }
            have C57 := Lib.hid (rform_k HP7.out.1 HP7.out.2.2.1 HP7.out.2.1 (i := x1 + x2) (by have h1 := HS1.out; have h2 := HS2.out; have h := HP7.out.2.2.2; have h3 := HLE.out; rw [valI_f, h]; omega))
            go_wp2_with (go_at_call 83; refine C57.out.mono ?_; rintro e W57 ⟨⟨n8, a8, c8, d8, rfl, hv⟩, hb⟩; have ST57 := Lib.hid (ST56.out.next hb hv); have hD57 := Lib.hid (hD56.out.trans (Below.mono hb hD56.out.size)); clear hb)
            refine hJ _ _ ?_
            clear hv
            refine pi_dr rfl (fun J hJ => ?_)   -- pi_dr 8 Op.call { callee := Callee.value (Operand.func 97), args := #[Operand.tmp 54], argTypes := #[25] }
            have CX := Lib.hid (rend_t (ST57.out.getC (v := (.agg #[.bool n8, .slice a8 c8 d8])) (i := x1 + x2) (by simp)))
            rw [HKV9.out.1, HKV9.out.2] at CX
            have C58 := Lib.hid (CX.out)
            go_wp2_with (go_at_call 97; refine C58.out.mono ?_; rintro e W58 ⟨⟨n9, a9, c9, d9, k9, rfl, hk, hv⟩, hb⟩; have ST58 := Lib.hid (ST57.out.next hb hv); have hD58 := Lib.hid (hD57.out.trans (Below.mono hb hD57.out.size)); clear hb)
            refine hJ _ _ ?_
            have Hk9 := Lib.hid hk
            clear hk hv
            refine pd_pu (some 56) rfl rfl (by rfl) (fun ws => by go_simp; try with_reducible rfl) ?_; go_frame   -- 9 Op.extract (Operand.tmp 55) 0
            refine pi_tail (by rfl) ?_; simp only [opsAt, List.getElem?_toArray, List.getElem?_cons_zero, List.getElem?_cons_succ]   -- [(10, 'Op.extract (Operand.tmp 55) 1'), (11, 'Op.store 25 (Operand.tmp 4) (Operand.tmp 56)'), (12, 'Op.assign (Operand.tmp 57)')]
            obtain ⟨⟨rbo0, rbo1⟩, fbo0, fbo1⟩ := box_cells (ST58.out.boxes (bo, false, .slice none 0 0) (by simp))
            go_wp2_with fail
            have ST59 := Lib.hid (ST58.out.front2)
            obtain ⟨W60, HW60⟩ : ∃ W', Hid (W' = (W58.setCell ⟨bo, 0, none⟩ (.bool n9)).setCell ⟨bo, 1, none⟩ (.slice a9 c9 d9)) := ⟨_, Lib.hid rfl⟩
            rw [← HW60.out]
            clear rbo0 rbo1 fbo0 fbo1
            have ST61 := Lib.hid (ST59.out.store (ne_three Hbon.out.2 (Ne.symm Hpn.out.2.2) (Ne.symm Hpn.out.2.1)) HW60.out)
            refine bodyPost_ret (results_cell_pair rfl _ _ bo 25 (.bool n9) (.slice a9 c9 d9) (0, 0) rfl (ST61.out.boxes (bo, n9, .slice a9 c9 d9) (by simp))) rfl ?_
            refine ⟨⟨_, _, _, _, _, rfl, ?_, ?_⟩, ST61.out.below⟩
            · rw [← HKV.out.1, (addK_fin Hl1.out Hl2.out).1, HKV9.out.1]
            · rw [← HKV.out.2, (addK_fin Hl1.out Hl2.out).2, HKV9.out.2]
              exact (ST61.out.getC (v := (.agg #[.bool n9, .slice a9 c9 d9])) (i := V9) (by simp))
        | false =>
          have HS1 := Lib.hid (of_decide_eq_false Hs1.out.symm)
          have HS2 := Lib.hid (of_decide_eq_false Hs2.out.symm)
          obtain ⟨qp20, qp21⟩ := ST24.out.cells (b := p2) (n := false) (s := .slice a4 c4 d4) (by simp)
          obtain ⟨qp10, qp11⟩ := ST24.out.cells (b := p1) (n := false) (s := .slice a3 c3 d3) (by simp)
          go_upto_region 6 with fail
          clear qp20 qp21 qp10 qp11
          have HC6 : Hid (∀ wx, Below W23.heap.size W23 wx → (fun w' : World => w'.cell? ⟨p2, 0, none⟩ = some (.bool false) ∧ w'.cell? ⟨p2, 1, none⟩ = some (.slice a4 c4 d4) ∧ w'.cell? ⟨p1, 0, none⟩ = some (.bool false) ∧ w'.cell? ⟨p1, 1, none⟩ = some (.slice a3 c3 d3) ∧ w'.cell? ⟨bo, 0, none⟩ = some (.bool false) ∧ w'.cell? ⟨bo, 1, none⟩ = some (.slice none 0 0)) wx) := Lib.hid fun wx hx => by
            have h := ST24.out.go hx
            exact ⟨(h.cells (b := p2) (n := false) (s := .slice a4 c4 d4) (by simp)).1, (h.cells (b := p2) (n := false) (s := .slice a4 c4 d4) (by simp)).2, (h.cells (b := p1) (n := false) (s := .slice a3 c3 d3) (by simp)).1, (h.cells (b := p1) (n := false) (s := .slice a3 c3 d3) (by simp)).2, (h.cells (b := bo) (n := false) (s := .slice none 0 0) (by simp)).1, (h.cells (b := bo) (n := false) (s := .slice none 0 0) (by simp)).2⟩
          have hD6 := Lib.hid (Below.refl W23.heap.size W23).drew
          have ST62 := Lib.hid (ST24.out.go hD6.out)
          have HS := HC6.out W23.drew hD6.out
          refine wp_region_pi (fun w' : World => w'.cell? ⟨p2, 0, none⟩ = some (.bool false) ∧ w'.cell? ⟨p2, 1, none⟩ = some (.slice a4 c4 d4) ∧ w'.cell? ⟨p1, 0, none⟩ = some (.bool false) ∧ w'.cell? ⟨p1, 1, none⟩ = some (.slice a3 c3 d3) ∧ w'.cell? ⟨bo, 0, none⟩ = some (.bool false) ∧ w'.cell? ⟨bo, 1, none⟩ = some (.slice none 0 0)) [(0, 1), (1, 0), (2, 1), (3, 0), (4, 1), (5, 0), (6, 2), (7, 3), (8, 3), (9, 1), (10, 3), (11, 3), (12, 3)] [(7, [1]), (7, [6, 3]), (7, [6, 5]), (8, [7, 1]), (8, [7, 6, 3]), (8, [7, 6, 5]), (10, [8, 7, 1]), (10, [8, 7, 6, 3]), (10, [8, 7, 6, 5]), (11, [1]), (11, [3]), (11, [5]), (12, [1]), (12, [3]), (12, [5])] (by kernel_rfl) (by kernel_rfl) (fun _ _ _ _ _ h => h) (HS) ?_
          refine pd_pu (some 29) rfl rfl (by rfl) (fun ws => by go_simp; try with_reducible rfl) ?_; go_frame   -- 0 Op.fieldAddr 25 (Operand.tmp 2) 0
          refine pd_ld (some 30) rfl rfl (by rfl) (fun ws HS => by go_split_ands; go_simp; try with_reducible rfl) ?_; go_frame   -- 1 Op.load 4 (Operand.tmp 29)
          refine pd_pu (some 31) rfl rfl (by rfl) (fun ws => by go_simp; try with_reducible rfl) ?_; go_frame   -- 2 Op.fieldAddr 25 (Operand.tmp 2) 1
          refine pd_ld (some 32) rfl rfl (by rfl) (fun ws HS => by go_split_ands; go_simp; try with_reducible rfl) ?_; go_frame   -- 3 Op.load 23 (Operand.tmp 31)
          refine pd_pu (some 33) rfl rfl (by rfl) (fun ws => by go_simp; try with_reducible rfl) ?_; go_frame   -- 4 Op.fieldAddr 25 (Operand.tmp 3) 1
          refine pd_ld (some 34) rfl rfl (by rfl) (fun ws HS => by go_split_ands; go_simp; try with_reducible rfl) ?_; go_frame   -- 5 Op.load 23 (Operand.tmp 33)
          refine pi_ke rfl (fun J hJ => ?_)   -- pi_ke 6 Op.call { callee := Callee.value (Operand.func 85), args := #[Operand.tmp 32, Operand.tmp 34], argTypes := #[23, 23] }
          have C63 := Lib.hid (rplus_k (WWa.out.2.1.below hD6.out) (WWb.out.2.1.below hD6.out) (by rw [big_abs]; exact Hl1.out) (by rw [big_abs]; exact Hl2.out) (cap1 := d3) (cap2 := d4))
          go_wp2_with (go_at_call 85; refine C63.out.mono ?_; rintro e W63 ⟨⟨a7, n7, c7, l7, rfl, HP7⟩, hb⟩; have ST63 := Lib.hid (ST62.out.go hb); have hD63 := Lib.hid (hD6.out.trans (Below.mono hb hD6.out.size)); clear hb)
          refine hJ _ _ (HC6.out W63 hD63.out) ?_
          refine pi_dr rfl (fun J hJ => ?_)   -- pi_dr 7 Op.call { callee := Callee.value (Operand.func 83), args := #[Operand.tmp 30, Operand.tmp 35], argTypes := #[4, 23] }
          have C64 := Lib.hid (rform_k HP7.out.1 HP7.out.2.2.1 HP7.out.2.1 (i := x1 + x2) (by have h1 := HS1.out; have h2 := HS2.out; have h := HP7.out.2.2.2;  rw [valI_f, h]; omega))
          go_wp2_with (go_at_call 83; refine C64.out.mono ?_; rintro e W64 ⟨⟨n8, a8, c8, d8, rfl, hv⟩, hb⟩; have ST64 := Lib.hid (ST63.out.next hb hv); have hD64 := Lib.hid (hD63.out.trans (Below.mono hb hD63.out.size)); clear hb)
          refine hJ _ _ ?_
          clear hv
          refine pi_dr rfl (fun J hJ => ?_)   -- pi_dr 8 Op.call { callee := Callee.value (Operand.func 97), args := #[Operand.tmp 36], argTypes := #[25] }
          have CX := Lib.hid (rend_t (ST64.out.getC (v := (.agg #[.bool n8, .slice a8 c8 d8])) (i := x1 + x2) (by simp)))
          rw [HKV9.out.1, HKV9.out.2] at CX
          have C65 := Lib.hid (CX.out)
          go_wp2_with (go_at_call 97; refine C65.out.mono ?_; rintro e W65 ⟨⟨n9, a9, c9, d9, k9, rfl, hk, hv⟩, hb⟩; have ST65 := Lib.hid (ST64.out.next hb hv); have hD65 := Lib.hid (hD64.out.trans (Below.mono hb hD64.out.size)); clear hb)
          refine hJ _ _ ?_
          have Hk9 := Lib.hid hk
          clear hk hv
          refine pd_pu (some 38) rfl rfl (by rfl) (fun ws => by go_simp; try with_reducible rfl) ?_; go_frame   -- 9 Op.extract (Operand.tmp 37) 0
          refine pi_tail (by rfl) ?_; simp only [opsAt, List.getElem?_toArray, List.getElem?_cons_zero, List.getElem?_cons_succ]   -- [(10, 'Op.extract (Operand.tmp 37) 1'), (11, 'Op.store 25 (Operand.tmp 4) (Operand.tmp 38)'), (12, 'Op.assign (Operand.tmp 39)')]
          obtain ⟨⟨rbo0, rbo1⟩, fbo0, fbo1⟩ := box_cells (ST65.out.boxes (bo, false, .slice none 0 0) (by simp))
          go_wp2_with fail
          have ST66 := Lib.hid (ST65.out.front2)
          obtain ⟨W67, HW67⟩ : ∃ W', Hid (W' = (W65.setCell ⟨bo, 0, none⟩ (.bool n9)).setCell ⟨bo, 1, none⟩ (.slice a9 c9 d9)) := ⟨_, Lib.hid rfl⟩
          rw [← HW67.out]
          clear rbo0 rbo1 fbo0 fbo1
          have ST68 := Lib.hid (ST66.out.store (ne_three Hbon.out.2 (Ne.symm Hpn.out.2.2) (Ne.symm Hpn.out.2.1)) HW67.out)
          refine bodyPost_ret (results_cell_pair rfl _ _ bo 25 (.bool n9) (.slice a9 c9 d9) (0, 0) rfl (ST68.out.boxes (bo, n9, .slice a9 c9 d9) (by simp))) rfl ?_
          refine ⟨⟨_, _, _, _, _, rfl, ?_, ?_⟩, ST68.out.below⟩
          · rw [← HKV.out.1, (addK_fin Hl1.out Hl2.out).1, HKV9.out.1]
          · rw [← HKV.out.2, (addK_fin Hl1.out Hl2.out).2, HKV9.out.2]
            exact (ST68.out.getC (v := (.agg #[.bool n9, .slice a9 c9 d9])) (i := V9) (by simp))
set_option maxRecDepth 100000 in
set_option maxHeartbeats 6400000 in
theorem rsub_k {v1 v2 : Value} {g1 g2 : Bool} {z1 z2 : List Nat} {w : World} {x1 x2 : Int} (h1 : IntV w v1 g1 z1) (h2 : IntV w v2 g2 z2) (hx1 : valI g1 z1 = x1) (hx2 : valI g2 z2 = x2) :
    Calls Tryd.prog 56 #[v1, v2] w fun e w' => Told w' e (subK x1 x2) (subV x1 x2) ∧ Below w.heap.size w w' := by
  obtain ⟨a1, n1, cap1, rfl, hw1, hc1, hn1⟩ := id h1
  have Hx1 := Lib.hid hx1
  clear hx1
  have Hx2 := Lib.hid hx2
  clear hx2
  have HN1 := Lib.hid (And.intro hc1 hn1)
  obtain ⟨a2, n2, cap2, rfl, hw2, hc2, hn2⟩ := id h2
  have HN2 := Lib.hid (And.intro hc2 hn2)
  have ST0 := Lib.hid (((St.start w).num h1).num h2)
  clear h1 hw1 hc1 hn1
  clear h2 hw2 hc2 hn2
  go_enter Tryd.func56, Tryd.ntmps56
  obtain ⟨K, V, HKV⟩ : ∃ K V, Hid (subK x1 x2 = K ∧ subV x1 x2 = V) := ⟨_, _, Lib.hid ⟨rfl, rfl⟩⟩
  rw [HKV.out.1, HKV.out.2]
  go_wp2_with (go_at_call 54; refine hold ?_)
  obtain ⟨W1, HW1⟩ : ∃ W', Hid (W' = w.alloc (.cells #[.bool g1, .slice a1 n1 cap1] 25)) := ⟨_, Lib.hid rfl⟩
  obtain ⟨p1, Hp1⟩ : ∃ b, Hid (b = w.heap.size) := ⟨_, Lib.hid rfl⟩
  have Hp1n := Lib.hid (ST0.out.old Hp1.out)
  have ST2 := Lib.hid (ST0.out.box Hp1.out HW1.out)
  obtain ⟨W3, HW3⟩ : ∃ W', Hid (W' = W1.alloc (.cells #[.bool g2, .slice a2 n2 cap2] 25)) := ⟨_, Lib.hid rfl⟩
  obtain ⟨p2, Hp2⟩ : ∃ b, Hid (b = W1.heap.size) := ⟨_, Lib.hid rfl⟩
  have Hp2n := Lib.hid (ST2.out.old Hp2.out)
  have ST4 := Lib.hid (ST2.out.box Hp2.out HW3.out)
  obtain ⟨W5, HW5⟩ : ∃ W', Hid (W' = W3.alloc (.cells #[.bool false, .slice none 0 0] 25)) := ⟨_, Lib.hid rfl⟩
  obtain ⟨bo, Hbo⟩ : ∃ b, Hid (b = W3.heap.size) := ⟨_, Lib.hid rfl⟩
  have Hbon := Lib.hid (ST4.out.old Hbo.out)
  have ST6 := Lib.hid (ST4.out.box Hbo.out HW5.out)
  have hz2 : w.heap.size + 2 = bo := by rw [Hbo.out, HW3.out, World.size_alloc, HW1.out, World.size_alloc]
  have hz1 : w.heap.size + 1 = p2 := by rw [Hp2.out, HW1.out, World.size_alloc]
  rw [← HW1.out, ← HW3.out, ← HW5.out]
  try rw [hz2]
  try rw [hz1]
  try rw [← Hp1.out]
  clear hz1 hz2
  refine Hold.mk ?_
  have C7 := Lib.hid (radd_k (ST6.out.get (v := (.agg #[.bool g1, .slice a1 n1 cap1])) (g := g1) (z := z1) (by simp)) (IntV.flip (ST6.out.get (v := (.agg #[.bool g2, .slice a2 n2 cap2])) (g := g2) (z := z2) (by simp))) Hx1.out (show valI (!g2) z2 = -x2 from by rw [valI_neg, Hx2.out]))
  refine C7.out.mono ?_
  rintro e W7 ⟨⟨n9, a9, c9, d9, k9, rfl, hk, hv⟩, hb⟩
  have ST8 := Lib.hid (ST6.out.next hb hv)
  clear hb hv
  have Hk9 := Lib.hid hk
  clear hk
  obtain ⟨⟨rbo0, rbo1⟩, fbo0, fbo1⟩ := box_cells (ST8.out.boxes (bo, false, .slice none 0 0) (by simp))
  go_wp2_with fail
  obtain ⟨W9, HW9⟩ : ∃ W', Hid (W' = (W7.setCell ⟨bo, 0, none⟩ (.bool n9)).setCell ⟨bo, 1, none⟩ (.slice a9 c9 d9)) := ⟨_, Lib.hid rfl⟩
  rw [← HW9.out]
  clear rbo0 rbo1 fbo0 fbo1
  have ST10 := Lib.hid (ST8.out.store (Hbon.out) HW9.out)
  refine bodyPost_ret (results_cell_pair rfl _ _ bo 25 (.bool n9) (.slice a9 c9 d9) (0, 0) rfl (ST10.out.boxes (bo, n9, .slice a9 c9 d9) (by simp))) rfl ?_
  refine ⟨⟨_, _, _, _, _, rfl, ?_, ?_⟩, ST10.out.below⟩
  · rw [Hk9.out, ← HKV.out.1, (sub_add _ _).1]
  · rw [← HKV.out.2, (sub_add _ _).2]
    exact (ST10.out.getC (v := (.agg #[.bool n9, .slice a9 c9 d9])) (i := addV x1 (-x2)) (by simp))
end Go.Proofs.YtcnakbhogmnddaaDoor
