/- recastref2.Quo. No condition. -/
import Derived.Test.YtcnakbhogmnddaaDoorRfSum
namespace Go.Proofs.YtcnakbhogmnddaaDoor
open Go.RowKit

theorem ne_four {x0 x1 x2 : Nat × Bool × Value} {b B : Nat} (hb : B ≤ b) (h0 : x0.1 ≠ b) (h1 : x1.1 ≠ b) (h2 : x2.1 ≠ b) : (∀ x ∈ [x0, x1, x2], x.1 ≠ b) ∧ B ≤ b := ⟨fun x hx => by simp at hx; rcases hx with hx | hx | hx <;> rw [hx] <;> assumption, hb⟩
theorem St.front3 {w W : World} {x0 x1 x2 x3 : Nat × Bool × Value} {LB : List (Nat × Bool × Value)} {LN : List (Value × Bool × List Nat)} (h : St w W (x0 :: x1 :: x2 :: x3 :: LB) LN) : St w W (x3 :: x0 :: x1 :: x2 :: LB) LN := ⟨h.below, fun x hx => h.boxes x (by simp at hx ⊢; rcases hx with hx | hx | hx | hx | hx <;> simp [hx]), h.nums⟩
/-- Two numbers and an error, told. -/
def QTold (w' : World) (e : Ending) (K V M : Int) : Prop := ∃ (b : Bool) (a : Option Addr) (n c : Nat) (b' : Bool) (a' : Option Addr) (n' c' : Nat) (k : Int), e = .returned (.tuple #[.agg #[.bool b, .slice a n c], .agg #[.bool b', .slice a' n' c'], .int .i64 k]) ∧ k = K ∧ IntC w' (.agg #[.bool b, .slice a n c]) V ∧ IntC w' (.agg #[.bool b', .slice a' n' c']) M
theorem quoK_bad {x y : Int} (h : big x = true ∨ big y = true) : quoK x y = 2 ∧ quoV x y = 0 ∧ remV x y = 0 := by
  have hb : quoK x y = 2 := by
    unfold quoK
    rw [if_pos]
    rcases h with h | h <;> rw [h] <;> simp
  unfold quoV remV
  rw [hb]
  exact ⟨rfl, rfl, rfl⟩
theorem quoK_zero {x y : Int} (h1 : big x = false) (h2 : big y = false) (h : y = 0) : quoK x y = 5 ∧ quoV x y = 0 ∧ remV x y = 0 := by
  have hb : quoK x y = 5 := by
    unfold quoK
    rw [h1, h2, if_neg (by decide), if_pos h]
  unfold quoV remV
  rw [hb]
  exact ⟨rfl, rfl, rfl⟩
theorem quoK_ok {x y : Int} (h1 : big x = false) (h2 : big y = false) (h : y ≠ 0) : quoK x y = 0 ∧ quoV x y = x.tdiv y ∧ remV x y = x.tmod y := by
  have hb : quoK x y = 0 := by
    unfold quoK
    rw [h1, h2, if_neg (by decide), if_neg h]
  unfold quoV remV
  rw [hb]
  exact ⟨rfl, rfl, rfl⟩
theorem one_row (w : World) (U : Int) (u : Nat) (hU : U = (u : Int)) (hu : u < 4294967296) : WordsAt (w.alloc (.cells #[.int .u32 U] 82)) (some ⟨w.heap.size, 0, none⟩) 1 [u] := by
  subst hU
  refine ⟨rfl, Words.cons.2 ⟨hu, Words.nil⟩, fun i hi => ⟨_, rfl, ?_⟩⟩
  have : i = 0 := by omega
  subst this
  rw [addW]
  rw [cell_of_row _ _ _ _ _ _ (heap_alloc_new w _)]
  rfl

set_option maxRecDepth 100000 in
set_option maxHeartbeats 6400000 in
theorem rquo_k {v1 v2 : Value} {g1 g2 : Bool} {z1 z2 : List Nat} {w : World} {x1 x2 : Int} (h1 : IntV w v1 g1 z1) (h2 : IntV w v2 g2 z2) (hx1 : valI g1 z1 = x1) (hx2 : valI g2 z2 = x2) :
    Calls Tryd.prog 39 #[v1, v2] w fun e w' => QTold w' e (quoK x1 x2) (quoV x1 x2) (remV x1 x2) ∧ Below w.heap.size w w' := by
  obtain ⟨a1, n1, cap1, rfl, hw1, hc1, hn1⟩ := id h1
  have Hx1 := Lib.hid hx1
  clear hx1
  have Hx2 := Lib.hid hx2
  clear hx2
  have HN1 := Lib.hid (And.intro hc1 hn1)
  obtain ⟨a2, n2, cap2, rfl, hw2, hc2, hn2⟩ := id h2
  have HN2 := Lib.hid (And.intro hc2 hn2)
  have ST0 := Lib.hid (((St.start w).num h1).num h2)
  clear h1 hw1 hc1 hn1
  clear h2 hw2 hc2 hn2
  go_enter Tryd.func39, Tryd.ntmps39
  obtain ⟨K, V, M, HKV⟩ : ∃ K V M, Hid (quoK x1 x2 = K ∧ quoV x1 x2 = V ∧ remV x1 x2 = M) := ⟨_, _, _, Lib.hid ⟨rfl, rfl, rfl⟩⟩
  rw [HKV.out.1, HKV.out.2.1, HKV.out.2.2]
  obtain ⟨l1, Hl1⟩ : ∃ l, Hid (big x1 = l) := ⟨_, Lib.hid rfl⟩
  obtain ⟨l2, Hl2⟩ : ∃ l, Hid (big x2 = l) := ⟨_, Lib.hid rfl⟩
  go_wp2_with (go_at_call 82; refine hold ?_)
  obtain ⟨W1, HW1⟩ : ∃ W', Hid (W' = w.alloc (.cells #[.bool g1, .slice a1 n1 cap1] 25)) := ⟨_, Lib.hid rfl⟩
  obtain ⟨p1, Hp1⟩ : ∃ b, Hid (b = w.heap.size) := ⟨_, Lib.hid rfl⟩
  have Hp1n := Lib.hid (ST0.out.old Hp1.out)
  have ST2 := Lib.hid (ST0.out.box Hp1.out HW1.out)
  obtain ⟨W3, HW3⟩ : ∃ W', Hid (W' = W1.alloc (.cells #[.bool g2, .slice a2 n2 cap2] 25)) := ⟨_, Lib.hid rfl⟩
  obtain ⟨p2, Hp2⟩ : ∃ b, Hid (b = W1.heap.size) := ⟨_, Lib.hid rfl⟩
  have Hp2n := Lib.hid (ST2.out.old Hp2.out)
  have ST4 := Lib.hid (ST2.out.box Hp2.out HW3.out)
  obtain ⟨W5, HW5⟩ : ∃ W', Hid (W' = W3.alloc (.cells #[.bool false, .slice none 0 0] 25)) := ⟨_, Lib.hid rfl⟩
  obtain ⟨bo, Hbo⟩ : ∃ b, Hid (b = W3.heap.size) := ⟨_, Lib.hid rfl⟩
  have Hbon := Lib.hid (ST4.out.old Hbo.out)
  have ST6 := Lib.hid (ST4.out.box Hbo.out HW5.out)
  obtain ⟨W7, HW7⟩ : ∃ W', Hid (W' = W5.alloc (.cells #[.bool false, .slice none 0 0] 25)) := ⟨_, Lib.hid rfl⟩
  obtain ⟨bp, Hbp⟩ : ∃ b, Hid (b = W5.heap.size) := ⟨_, Lib.hid rfl⟩
  have Hbpn := Lib.hid (ST6.out.old Hbp.out)
  have ST8 := Lib.hid (ST6.out.box Hbp.out HW7.out)
  have hz3 : w.heap.size + 3 = bp := by rw [Hbp.out, HW5.out, World.size_alloc, HW3.out, World.size_alloc, HW1.out, World.size_alloc]
  have hz2 : w.heap.size + 2 = bo := by rw [Hbo.out, HW3.out, World.size_alloc, HW1.out, World.size_alloc]
  have hz1 : w.heap.size + 1 = p2 := by rw [Hp2.out, HW1.out, World.size_alloc]
  rw [← HW1.out, ← HW3.out, ← HW5.out, ← HW7.out]
  try rw [hz3]
  try rw [hz2]
  try rw [hz1]
  try rw [← Hp1.out]
  clear hz1 hz2 hz3
  have Hd_p1_p2 := Lib.hid (show p1 ≠ p2 from Hp2n.out.1 (p1, g1, .slice a1 n1 cap1) (by simp))
  have Hd_p2_p1 := Lib.hid (Ne.symm Hd_p1_p2.out)
  have Hd_p1_bo := Lib.hid (show p1 ≠ bo from Hbon.out.1 (p1, g1, .slice a1 n1 cap1) (by simp))
  have Hd_bo_p1 := Lib.hid (Ne.symm Hd_p1_bo.out)
  have Hd_p2_bo := Lib.hid (show p2 ≠ bo from Hbon.out.1 (p2, g2, .slice a2 n2 cap2) (by simp))
  have Hd_bo_p2 := Lib.hid (Ne.symm Hd_p2_bo.out)
  have Hd_p1_bp := Lib.hid (show p1 ≠ bp from Hbpn.out.1 (p1, g1, .slice a1 n1 cap1) (by simp))
  have Hd_bp_p1 := Lib.hid (Ne.symm Hd_p1_bp.out)
  have Hd_p2_bp := Lib.hid (show p2 ≠ bp from Hbpn.out.1 (p2, g2, .slice a2 n2 cap2) (by simp))
  have Hd_bp_p2 := Lib.hid (Ne.symm Hd_p2_bp.out)
  have Hd_bo_bp := Lib.hid (show bo ≠ bp from Hbpn.out.1 (bo, false, .slice none 0 0) (by simp))
  have Hd_bp_bo := Lib.hid (Ne.symm Hd_bo_bp.out)
  refine Hold.mk ?_
  have C9 := Lib.hid (rlarge_k (ST8.out.get (v := (.agg #[.bool g1, .slice a1 n1 cap1])) (g := g1) (z := z1) (by simp)) Hx1.out)
  rw [Hl1.out] at C9
  refine C9.out.mono ?_
  rintro e W9 ⟨rfl, hb⟩
  have ST10 := Lib.hid (ST8.out.go hb)
  clear hb
  cases l1 with
  | true =>
    obtain ⟨⟨rbo0, rbo1⟩, fbo0, fbo1⟩ := box_cells (ST10.out.boxes (bo, false, .slice none 0 0) (by simp))
    obtain ⟨⟨rbp0, rbp1⟩, fbp0, fbp1⟩ := box_cells (ST10.out.boxes (bp, false, .slice none 0 0) (by simp))
    have hdn1 := Hd_bo_bp.out
    have hdn2 := Hd_bp_bo.out
    go_wp2_with fail
    clear hdn1 hdn2
    clear rbo0 rbo1 fbo0 fbo1 rbp0 rbp1 fbp0 fbp1
    have ST11 := Lib.hid (ST10.out.front1)
    obtain ⟨W12, HW12⟩ : ∃ W', Hid (W' = (W9.setCell ⟨bo, 0, none⟩ (.bool false)).setCell ⟨bo, 1, none⟩ (.slice none 0 0)) := ⟨_, Lib.hid rfl⟩
    rw [← HW12.out]
    have ST13 := Lib.hid (ST11.out.store (ne_four Hbon.out.2 Hd_bp_bo.out Hd_p2_bo.out Hd_p1_bo.out) HW12.out)
    have ST14 := Lib.hid (ST13.out.front1)
    obtain ⟨W15, HW15⟩ : ∃ W', Hid (W' = (W12.setCell ⟨bp, 0, none⟩ (.bool false)).setCell ⟨bp, 1, none⟩ (.slice none 0 0)) := ⟨_, Lib.hid rfl⟩
    rw [← HW15.out]
    have ST16 := Lib.hid (ST14.out.store (ne_four Hbpn.out.2 Hd_bo_bp.out Hd_p2_bp.out Hd_p1_bp.out) HW15.out)
    refine bodyPost_ret (results_cell3 rfl _ _ bo bp 25 25 (.bool false) (.slice none 0 0) (.bool false) (.slice none 0 0) (0, 0) (0, 0) rfl rfl (ST16.out.boxes (bo, false, .slice none 0 0) (by simp)) (ST16.out.boxes (bp, false, .slice none 0 0) (by simp))) rfl ?_
    refine ⟨⟨_, _, _, _, _, _, _, _, _, rfl, ?_, ?_, ?_⟩, ST16.out.below⟩
    · rw [← HKV.out.1, (quoK_bad (.inl Hl1.out)).1]
    · rw [← HKV.out.2.1, (quoK_bad (.inl Hl1.out)).2.1]
      exact intC_zero _
    · rw [← HKV.out.2.2, (quoK_bad (.inl Hl1.out)).2.2]
      exact intC_zero _
  | false =>
    obtain ⟨qp20, qp21⟩ := ST10.out.cells (b := p2) (n := g2) (s := .slice a2 n2 cap2) (by simp)
    go_wp2_with (go_at_call 82; refine hold ?_)
    refine Hold.mk ?_
    have C17 := Lib.hid (rlarge_k (ST10.out.get (v := (.agg #[.bool g2, .slice a2 n2 cap2])) (g := g2) (z := z2) (by simp)) Hx2.out)
    rw [Hl2.out] at C17
    refine C17.out.mono ?_
    rintro e W17 ⟨rfl, hb⟩
    clear qp20 qp21
    have ST18 := Lib.hid (ST10.out.go hb)
    clear hb
    cases l2 with
    | true =>
      obtain ⟨⟨rbo0, rbo1⟩, fbo0, fbo1⟩ := box_cells (ST18.out.boxes (bo, false, .slice none 0 0) (by simp))
      obtain ⟨⟨rbp0, rbp1⟩, fbp0, fbp1⟩ := box_cells (ST18.out.boxes (bp, false, .slice none 0 0) (by simp))
      have hdn1 := Hd_bo_bp.out
      have hdn2 := Hd_bp_bo.out
      go_wp2_with fail
      clear hdn1 hdn2
      clear rbo0 rbo1 fbo0 fbo1 rbp0 rbp1 fbp0 fbp1
      have ST19 := Lib.hid (ST18.out.front1)
      obtain ⟨W20, HW20⟩ : ∃ W', Hid (W' = (W17.setCell ⟨bo, 0, none⟩ (.bool false)).setCell ⟨bo, 1, none⟩ (.slice none 0 0)) := ⟨_, Lib.hid rfl⟩
      rw [← HW20.out]
      have ST21 := Lib.hid (ST19.out.store (ne_four Hbon.out.2 Hd_bp_bo.out Hd_p2_bo.out Hd_p1_bo.out) HW20.out)
      have ST22 := Lib.hid (ST21.out.front1)
      obtain ⟨W23, HW23⟩ : ∃ W', Hid (W' = (W20.setCell ⟨bp, 0, none⟩ (.bool false)).setCell ⟨bp, 1, none⟩ (.slice none 0 0)) := ⟨_, Lib.hid rfl⟩
      rw [← HW23.out]
      have ST24 := Lib.hid (ST22.out.store (ne_four Hbpn.out.2 Hd_bo_bp.out Hd_p2_bp.out Hd_p1_bp.out) HW23.out)
      refine bodyPost_ret (results_cell3 rfl _ _ bo bp 25 25 (.bool false) (.slice none 0 0) (.bool false) (.slice none 0 0) (0, 0) (0, 0) rfl rfl (ST24.out.boxes (bo, false, .slice none 0 0) (by simp)) (ST24.out.boxes (bp, false, .slice none 0 0) (by simp))) rfl ?_
      refine ⟨⟨_, _, _, _, _, _, _, _, _, rfl, ?_, ?_, ?_⟩, ST24.out.below⟩
      · rw [← HKV.out.1, (quoK_bad (.inr Hl2.out)).1]
      · rw [← HKV.out.2.1, (quoK_bad (.inr Hl2.out)).2.1]
        exact intC_zero _
      · rw [← HKV.out.2.2, (quoK_bad (.inr Hl2.out)).2.2]
        exact intC_zero _
    | false =>
      obtain ⟨qp10, qp11⟩ := ST18.out.cells (b := p1) (n := g1) (s := .slice a1 n1 cap1) (by simp)
      go_wp2_with (go_at_call 83; refine hold ?_)
      refine Hold.mk ?_
      have WW3 := Lib.hid (IntV.words (ST18.out.get (v := (.agg #[.bool g1, .slice a1 n1 cap1])) (g := g1) (z := z1) (by simp)))
      have C25 := Lib.hid (rform_k WW3.out.2.1 WW3.out.2.2.2 WW3.out.2.2.1 (Hx1.out))
      refine C25.out.mono ?_
      rintro e W25 ⟨⟨n3, a3, c3, d3, rfl, hv⟩, hb⟩
      clear qp10 qp11
      have ST26 := Lib.hid (ST18.out.next hb hv)
      clear hb hv
      obtain ⟨⟨rp10, rp11⟩, fp10, fp11⟩ := box_cells (ST26.out.boxes (p1, g1, .slice a1 n1 cap1) (by simp))
      go_upto_region 4 with fail
      have ST27 := Lib.hid (ST26.out.front3)
      obtain ⟨W28, HW28⟩ : ∃ W', Hid (W' = (W25.setCell ⟨p1, 0, none⟩ (.bool n3)).setCell ⟨p1, 1, none⟩ (.slice a3 c3 d3)) := ⟨_, Lib.hid rfl⟩
      rw [← HW28.out]
      clear rp10 rp11 fp10 fp11
      have ST29 := Lib.hid (ST27.out.store (ne_four Hp1n.out.2 Hd_bp_p1.out Hd_bo_p1.out Hd_p2_p1.out) HW28.out)
      obtain ⟨qp20, qp21⟩ := ST29.out.cells (b := p2) (n := g2) (s := .slice a2 n2 cap2) (by simp)
      go_wp2_with (go_at_call 83; refine hold ?_)
      refine Hold.mk ?_
      have WW4 := Lib.hid (IntV.words (ST29.out.get (v := (.agg #[.bool g2, .slice a2 n2 cap2])) (g := g2) (z := z2) (by simp)))
      have C30 := Lib.hid (rform_k WW4.out.2.1 WW4.out.2.2.2 WW4.out.2.2.1 (Hx2.out))
      refine C30.out.mono ?_
      rintro e W30 ⟨⟨n4, a4, c4, d4, rfl, hv⟩, hb⟩
      clear qp20 qp21
      have ST31 := Lib.hid (ST29.out.next hb hv)
      clear hb hv
      obtain ⟨⟨rp20, rp21⟩, fp20, fp21⟩ := box_cells (ST31.out.boxes (p2, g2, .slice a2 n2 cap2) (by simp))
      go_upto_region 5 with fail
      have ST32 := Lib.hid (ST31.out.front3)
      obtain ⟨W33, HW33⟩ : ∃ W', Hid (W' = (W30.setCell ⟨p2, 0, none⟩ (.bool n4)).setCell ⟨p2, 1, none⟩ (.slice a4 c4 d4)) := ⟨_, Lib.hid rfl⟩
      rw [← HW33.out]
      clear rp20 rp21 fp20 fp21
      have ST34 := Lib.hid (ST32.out.store (ne_four Hp2n.out.2 Hd_p1_p2.out Hd_bp_p2.out Hd_bo_p2.out) HW33.out)
      have WWa := Lib.hid (IntV.words (ST34.out.get (v := (.agg #[.bool n3, .slice a3 c3 d3])) (g := decide (x1 < 0)) (z := canW (x1).natAbs) (by simp)))
      have WWb := Lib.hid (IntV.words (ST34.out.get (v := (.agg #[.bool n4, .slice a4 c4 d4])) (g := decide (x2 < 0)) (z := canW (x2).natAbs) (by simp)))
      obtain ⟨A, HA⟩ : ∃ A, Hid (x1.natAbs = A) := ⟨_, Lib.hid rfl⟩
      obtain ⟨B, HB⟩ : ∃ B, Hid (x2.natAbs = B) := ⟨_, Lib.hid rfl⟩
      rw [HA.out] at WWa
      rw [HB.out] at WWb
      have HS2 := Lib.hid (show A < 2 ^ 512 ∧ B < 2 ^ 512 from by
        have h1 := Hl1.out; have h2 := Hl2.out; unfold big at h1 h2; have h1 := of_decide_eq_false h1; have h2 := of_decide_eq_false h2; rw [HA.out] at h1; rw [HB.out] at h2; exact ⟨Nat.not_le.1 h1, Nat.not_le.1 h2⟩)
      have hc16 : c3 ≤ 16 := by
        rw [← WWa.out.2.1.1]
        exact canW_le (by rw [pow16]; exact HS2.out.1)
      have Hsg := Lib.hid (show valI n3 (canW A) = x1 ∧ valI n4 (canW B) = x2 from by rw [WWa.out.1, WWb.out.1, ← HA.out, ← HB.out]; exact ⟨valI_can _, valI_can _⟩)
      obtain ⟨qp20, qp21⟩ := ST34.out.cells (b := p2) (n := n4) (s := .slice a4 c4 d4) (by simp)
      obtain ⟨qp10, qp11⟩ := ST34.out.cells (b := p1) (n := n3) (s := .slice a3 c3 d3) (by simp)
      by_cases hc0 : c4 = 0
      · have hx20 := Lib.hid (show x2 = 0 from by
          have h := WWb.out.2.1.1
          rw [hc0] at h
          have := canW_len.1 h
          have := HB.out
          omega)
        have hq : ((c4 : Int) == 0) = true := by simp; omega
        clear hc0
        obtain ⟨⟨rbo0, rbo1⟩, fbo0, fbo1⟩ := box_cells (ST34.out.boxes (bo, false, .slice none 0 0) (by simp))
        obtain ⟨⟨rbp0, rbp1⟩, fbp0, fbp1⟩ := box_cells (ST34.out.boxes (bp, false, .slice none 0 0) (by simp))
        have hdn1 := Hd_bo_bp.out
        have hdn2 := Hd_bp_bo.out
        go_wp2_with fail
        clear hdn1 hdn2
        clear qp20 qp21 qp10 qp11 rbo0 rbo1 fbo0 fbo1 rbp0 rbp1 fbp0 fbp1
        have ST35 := Lib.hid (ST34.out.front3)
        obtain ⟨W36, HW36⟩ : ∃ W', Hid (W' = (W33.setCell ⟨bo, 0, none⟩ (.bool false)).setCell ⟨bo, 1, none⟩ (.slice none 0 0)) := ⟨_, Lib.hid rfl⟩
        rw [← HW36.out]
        have ST37 := Lib.hid (ST35.out.store (ne_four Hbon.out.2 Hd_p2_bo.out Hd_p1_bo.out Hd_bp_bo.out) HW36.out)
        have ST38 := Lib.hid (ST37.out.front3)
        obtain ⟨W39, HW39⟩ : ∃ W', Hid (W' = (W36.setCell ⟨bp, 0, none⟩ (.bool false)).setCell ⟨bp, 1, none⟩ (.slice none 0 0)) := ⟨_, Lib.hid rfl⟩
        rw [← HW39.out]
        have ST40 := Lib.hid (ST38.out.store (ne_four Hbpn.out.2 Hd_bo_bp.out Hd_p2_bp.out Hd_p1_bp.out) HW39.out)
        refine bodyPost_ret (results_cell3 rfl _ _ bo bp 25 25 (.bool false) (.slice none 0 0) (.bool false) (.slice none 0 0) (0, 0) (0, 0) rfl rfl (ST40.out.boxes (bo, false, .slice none 0 0) (by simp)) (ST40.out.boxes (bp, false, .slice none 0 0) (by simp))) rfl ?_
        refine ⟨⟨_, _, _, _, _, _, _, _, _, rfl, ?_, ?_, ?_⟩, ST40.out.below⟩
        · rw [← HKV.out.1, (quoK_zero Hl1.out Hl2.out hx20.out).1]
        · rw [← HKV.out.2.1, (quoK_zero Hl1.out Hl2.out hx20.out).2.1]
          exact intC_zero _
        · rw [← HKV.out.2.2, (quoK_zero Hl1.out Hl2.out hx20.out).2.2]
          exact intC_zero _
      · have hB0 : 0 < B := by
          refine Nat.pos_of_ne_zero fun h => hc0 ?_
          rw [← WWb.out.2.1.1, h]
          exact canW_len.2 rfl
        have hq0 : ((c4 : Int) == 0) = false := by simp; omega
        have HB0 := Lib.hid hB0
        clear hB0 hc0
        go_wp2_with (refine wpList_makeW _ rfl _ _ rfl _ _ c3 rfl rfl (by go_num) (by go_num) (by omega) ?_; intro w4 ho hb; have HO := Lib.hid (And.intro ho hb); obtain ⟨s0, s1⟩ := (ST34.out.go hb).cells (b := p1) (n := n3) (s := .slice a3 c3 d3) (by simp); clear ho hb)
        clear qp20 qp21 qp10 qp11
        clear s0 s1
        obtain ⟨gq, Hgq⟩ : ∃ q, Hid (q = W33.heap.size) := ⟨_, Lib.hid rfl⟩
        rw [← Hgq.out]
        have Hs4 := Lib.hid (show gq < w4.heap.size from by rw [Hgq.out]; exact HO.out.1.lt)
        go_loopg [8, 9] (32 * c3) (fun gg v8 v9 wr => ∃ k : Nat, k ≤ 32 * c3 ∧ v9 = .int .i64 ((k : Int) - 1) ∧ gg = k ∧ Hid (QuoL W33 wr gq c3 A B k ∧ RowO wr w4.heap.size v8 (canW (A / 2 ^ k % B)) ∧ w4.heap.size ≤ wr.heap.size))
        case atStart =>
          have hA : A < 2 ^ (32 * c3) := by
            have h := ofW_lt WWa.out.2.1.2.1
            rw [WWa.out.2.1.1, (canW_words _).2] at h
            rw [Nat.pow_mul]
            exact h
          refine ⟨32 * c3, Nat.le_refl _, by go_num, rfl, Lib.hid ⟨⟨_, by rw [Hgq.out]; exact HO.out.1, by simp, words_zero _, ?_, HO.out.2⟩, ?_, Nat.le_refl _⟩⟩
          · rw [zero_ofW, Nat.div_eq_of_lt hA]
            simp
          · rw [Nat.div_eq_of_lt hA]
            simp [canW, RowO.nil]
        case round =>
          obtain ⟨k, hk, rfl, hgg, Hr⟩ := hrel
          cases k with
          | zero =>
            have e : (((0 : Nat) : Int) - 1) = -1 := by decide
            rw [e]
            clear e
            obtain ⟨⟨l, q1, q2, q3, q4, q5⟩, h2, h3⟩ := Hr.out
            rw [Nat.pow_zero, Nat.div_one] at h2
            rw [Nat.pow_zero, Nat.div_one, Nat.mul_one] at q4
            obtain ⟨a9, c9, rfl, hc9, _⟩ := h2.shape
            obtain ⟨n9, Hn9⟩ : ∃ n, Hid ((canW (A % B)).length = n) := ⟨_, Lib.hid rfl⟩
            rw [Hn9.out] at h2 hc9 ⊢
            have hn9 : n9 ≤ 16 := by
              rw [← Hn9.out]
              refine canW_le ?_
              have e := pow16
              have h8 := HS2.out.2
              have := Nat.mod_lt A HB0.out
              omega
            have STr := Lib.hid (ST34.out.go q5)
            have HQ := Lib.hid (And.intro q1 (And.intro q2 (And.intro q3 q4)))
            have HR := Lib.hid (h2.wordsAt (canW_words _).1)
            have VQ := Lib.hid (show valI (!(n3 == n4)) l = x1.tdiv x2 from by have h := valI_quo n3 n4 (canW A) (canW B) l (by rw [(canW_words _).2, (canW_words _).2]; exact q4); rw [Hsg.out.1, Hsg.out.2] at h; exact h)
            have VR := Lib.hid (show valI n3 (canW (A % B)) = x1.tmod x2 from by have h := valI_rem n3 n4 (canW A) (canW B) (canW (A % B)) (by rw [(canW_words _).2, (canW_words _).2, (canW_words _).2]); rw [Hsg.out.1, Hsg.out.2] at h; exact h)
            clear q1 q2 q3 q4 q5 h2 h3 Hr
            go_upto_region 18 with fail
            have HC18 : Hid (∀ wx, Below wr.heap.size wr wx → (fun w' : World => w'.cell? ⟨p2, 0, none⟩ = some (.bool n4) ∧ w'.cell? ⟨p2, 1, none⟩ = some (.slice a4 c4 d4) ∧ w'.cell? ⟨p1, 0, none⟩ = some (.bool n3) ∧ w'.cell? ⟨p1, 1, none⟩ = some (.slice a3 c3 d3) ∧ w'.cell? ⟨bp, 0, none⟩ = some (.bool false) ∧ w'.cell? ⟨bp, 1, none⟩ = some (.slice none 0 0) ∧ w'.cell? ⟨bo, 0, none⟩ = some (.bool false) ∧ w'.cell? ⟨bo, 1, none⟩ = some (.slice none 0 0)) wx) := Lib.hid fun wx hx => by
              have h := STr.out.go hx
              exact ⟨(h.cells (b := p2) (n := n4) (s := .slice a4 c4 d4) (by simp)).1, (h.cells (b := p2) (n := n4) (s := .slice a4 c4 d4) (by simp)).2, (h.cells (b := p1) (n := n3) (s := .slice a3 c3 d3) (by simp)).1, (h.cells (b := p1) (n := n3) (s := .slice a3 c3 d3) (by simp)).2, (h.cells (b := bp) (n := false) (s := .slice none 0 0) (by simp)).1, (h.cells (b := bp) (n := false) (s := .slice none 0 0) (by simp)).2, (h.cells (b := bo) (n := false) (s := .slice none 0 0) (by simp)).1, (h.cells (b := bo) (n := false) (s := .slice none 0 0) (by simp)).2⟩
            have hD18 := Lib.hid (Below.refl wr.heap.size wr).drew
            have ST41 := Lib.hid (STr.out.go hD18.out)
            have HS := HC18.out wr.drew hD18.out
            refine wp_region_pi (fun w' : World => w'.cell? ⟨p2, 0, none⟩ = some (.bool n4) ∧ w'.cell? ⟨p2, 1, none⟩ = some (.slice a4 c4 d4) ∧ w'.cell? ⟨p1, 0, none⟩ = some (.bool n3) ∧ w'.cell? ⟨p1, 1, none⟩ = some (.slice a3 c3 d3) ∧ w'.cell? ⟨bp, 0, none⟩ = some (.bool false) ∧ w'.cell? ⟨bp, 1, none⟩ = some (.slice none 0 0) ∧ w'.cell? ⟨bo, 0, none⟩ = some (.bool false) ∧ w'.cell? ⟨bo, 1, none⟩ = some (.slice none 0 0)) [(0, 1), (1, 0), (2, 1), (3, 0), (4, 1), (5, 1), (7, 1), (8, 0), (9, 1), (6, 2), (10, 3), (11, 3), (12, 3), (13, 3)] [(10, [6, 4, 1]), (10, [6, 4, 3]), (10, [8]), (11, [1]), (11, [3]), (11, [10, 8]), (12, [1]), (12, [3]), (12, [8]), (13, [1]), (13, [3]), (13, [8])] (by kernel_rfl) (by kernel_rfl) (fun _ _ _ _ _ h => h) (HS) ?_
            refine pd_pu (some 88) rfl rfl (by rfl) (fun ws => by go_simp; try with_reducible rfl) ?_; go_frame   -- 0 Op.fieldAddr 25 (Operand.tmp 2) 0
            refine pd_ld (some 89) rfl rfl (by rfl) (fun ws HS => by go_split_ands; go_simp; try with_reducible rfl) ?_; go_frame   -- 1 Op.load 4 (Operand.tmp 88)
            refine pd_pu (some 90) rfl rfl (by rfl) (fun ws => by go_simp; try with_reducible rfl) ?_; go_frame   -- 2 Op.fieldAddr 25 (Operand.tmp 3) 0
            refine pd_ld (some 91) rfl rfl (by rfl) (fun ws HS => by go_split_ands; go_simp; try with_reducible rfl) ?_; go_frame   -- 3 Op.load 4 (Operand.tmp 90)
            refine pd_pu (some 92) rfl rfl (by rfl) (fun ws => by go_simp; try with_reducible rfl) ?_; go_frame   -- 4 Op.binOp BinOp.neq 4 (Operand.tmp 89) (Operand.tmp 91) 4
            refine pd_pu (some 93) rfl rfl (by rfl) (fun ws => by go_simp; try with_reducible rfl) ?_; go_frame   -- 5 Op.move (Operand.tmp 7)
            refine pd_pu (some 95) rfl rfl (by rfl) (fun ws => by go_simp; try with_reducible rfl) ?_; go_frame   -- 7 Op.fieldAddr 25 (Operand.tmp 2) 0
            refine pd_ld (some 96) rfl rfl (by rfl) (fun ws HS => by go_split_ands; go_simp; try with_reducible rfl) ?_; go_frame   -- 8 Op.load 4 (Operand.tmp 95)
            refine pd_pu (some 97) rfl rfl (by rfl) (fun ws => by go_simp; try with_reducible rfl) ?_; go_frame   -- 9 Op.move (Operand.tmp 8)
            refine pi_ke rfl (fun J hJ => ?_)   -- pi_ke 6 Op.call { callee := Callee.value (Operand.func 83), args := #[Operand.tmp 92, Operand.tmp 93], argTypes := #[4, 23] }
            have C42 := Lib.hid (rform_k (g := !(n3 == n4)) (cap := c3) (by have h := (HQ.out.1.below hD18.out).words HQ.out.2.2.1; rw [HQ.out.2.1] at h; exact h) (by omega) (Nat.le_refl _) VQ.out)
            go_wp2_with (go_at_call 83; refine C42.out.mono ?_; rintro e W42 ⟨⟨n7, a7, c7, d7, rfl, hv⟩, hb⟩; have ST42 := Lib.hid (ST41.out.next hb hv); have hD42 := Lib.hid (hD18.out.trans (Below.mono hb hD18.out.size)); clear hb)
            refine hJ _ _ (HC18.out W42 hD42.out) ?_
            clear hv
            refine pi_tail (by rfl) ?_; simp only [opsAt, List.getElem?_toArray, List.getElem?_cons_zero, List.getElem?_cons_succ]   -- [(10, 'Op.call { callee := Callee.value (Operand.func 83), args := #[Operand.tmp 96, Operand.tmp 97], argTypes := #[4, 23] }'), (11, 'Op.store 25 (Operand.tmp 4) (Operand.tmp 94)'), (12, 'Op.store 25 (Operand.tmp 5) (Operand.tmp 98)'), (13, 'Op.assign (Operand.const (Value.int IntKind.i64 0))')]
            go_wp2_with (go_at_call 83; refine hold ?_)
            refine Hold.mk ?_
            have C43 := Lib.hid (rform_k (g := n3) (cap := c9) (HR.out.below hD42.out) (by omega) hc9 VR.out)
            refine C43.out.mono ?_
            rintro e W43 ⟨⟨n8, a8, c8, d8, rfl, hv⟩, hb⟩
            have ST44 := Lib.hid (ST42.out.next hb hv)
            clear hb hv
            obtain ⟨⟨rbo0, rbo1⟩, fbo0, fbo1⟩ := box_cells (ST44.out.boxes (bo, false, .slice none 0 0) (by simp))
            obtain ⟨⟨rbp0, rbp1⟩, fbp0, fbp1⟩ := box_cells (ST44.out.boxes (bp, false, .slice none 0 0) (by simp))
            have hdn1 := Hd_bo_bp.out
            have hdn2 := Hd_bp_bo.out
            go_wp2_with fail
            clear hdn1 hdn2
            clear rbo0 rbo1 fbo0 fbo1 rbp0 rbp1 fbp0 fbp1
            have ST45 := Lib.hid (ST44.out.front3)
            obtain ⟨W46, HW46⟩ : ∃ W', Hid (W' = (W43.setCell ⟨bo, 0, none⟩ (.bool n7)).setCell ⟨bo, 1, none⟩ (.slice a7 c7 d7)) := ⟨_, Lib.hid rfl⟩
            rw [← HW46.out]
            have ST47 := Lib.hid (ST45.out.store (ne_four Hbon.out.2 Hd_p2_bo.out Hd_p1_bo.out Hd_bp_bo.out) HW46.out)
            have ST48 := Lib.hid (ST47.out.front3)
            obtain ⟨W49, HW49⟩ : ∃ W', Hid (W' = (W46.setCell ⟨bp, 0, none⟩ (.bool n8)).setCell ⟨bp, 1, none⟩ (.slice a8 c8 d8)) := ⟨_, Lib.hid rfl⟩
            rw [← HW49.out]
            have ST50 := Lib.hid (ST48.out.store (ne_four Hbpn.out.2 Hd_bo_bp.out Hd_p2_bp.out Hd_p1_bp.out) HW49.out)
            refine bodyPost_ret (results_cell3 rfl _ _ bo bp 25 25 (.bool n7) (.slice a7 c7 d7) (.bool n8) (.slice a8 c8 d8) (0, 0) (0, 0) rfl rfl (ST50.out.boxes (bo, n7, .slice a7 c7 d7) (by simp)) (ST50.out.boxes (bp, n8, .slice a8 c8 d8) (by simp))) rfl ?_
            refine ⟨⟨_, _, _, _, _, _, _, _, _, rfl, ?_, ?_, ?_⟩, ST50.out.below⟩
            · rw [← HKV.out.1, (quoK_ok Hl1.out Hl2.out (show x2 ≠ 0 from by have := HB0.out; have := HB.out; omega)).1]
            · rw [← HKV.out.2.1, (quoK_ok Hl1.out Hl2.out (show x2 ≠ 0 from by have := HB0.out; have := HB.out; omega)).2.1]
              exact (ST50.out.getC (v := (.agg #[.bool n7, .slice a7 c7 d7])) (i := x1.tdiv x2) (by simp))
            · rw [← HKV.out.2.2, (quoK_ok Hl1.out Hl2.out (show x2 ≠ 0 from by have := HB0.out; have := HB.out; omega)).2.2]
              exact (ST50.out.getC (v := (.agg #[.bool n8, .slice a8 c8 d8])) (i := x1.tmod x2) (by simp))
          | succ k =>
            have e : (((k + 1 : Nat) : Int) - 1) = (k : Int) := by omega
            rw [e]
            clear e
            obtain ⟨q, Hq⟩ : ∃ q, Hid (k / 32 = q) := ⟨_, Lib.hid rfl⟩
            obtain ⟨r, Hr9⟩ : ∃ q, Hid (k % 32 = q) := ⟨_, Lib.hid rfl⟩
            have hq : (k : Int) / 32 = (q : Int) := by have := Hq.out; omega
            have hr : (k : Int) % 32 = (r : Int) := by have := Hr9.out; omega
            have hr9 : r < 32 := by have := Hr9.out; omega
            have hqm : q < c3 := by have := Hq.out; omega
            obtain ⟨⟨l, q1, q2, q3, q4, q5⟩, h2, h3⟩ := Hr.out
            obtain ⟨u, Hu⟩ : ∃ u, Hid ((canW A).getD q 0 = u) := ⟨_, Lib.hid rfl⟩
            have hu9 : u < 4294967296 := by rw [← Hu.out]; exact (canW_words A).1.get q
            obtain ⟨a9, c9, rfl, hc9, _⟩ := h2.shape
            obtain ⟨n9, Hn9⟩ : ∃ n, Hid ((canW (A / 2 ^ (k + 1) % B)).length = n) := ⟨_, Lib.hid rfl⟩
            rw [Hn9.out] at h2 hc9 ⊢
            obtain ⟨R, HR⟩ : ∃ R, Hid (A / 2 ^ (k + 1) % B = R) := ⟨_, Lib.hid rfl⟩
            obtain ⟨d, Hd⟩ : ∃ d, Hid (A / 2 ^ k % 2 = d) := ⟨_, Lib.hid rfl⟩
            have hd1 : d ≤ 1 := by have := Hd.out; omega
            have hdig : bits .and .u32 ((u : Int) / 2 ^ r) 1 = (d : Int) := by
              have h1 := digit_at (canW_words A).1 q r hr9
              have h4 := Hq.out
              have h5 := Hr9.out
              rw [show 32 * q + r = k by omega, Hu.out, (canW_words A).2, Hd.out] at h1
              have h6 : ((u : Int) / 2 ^ r) = ((u / 2 ^ r : Nat) : Int) := by simp
              have h7 : u / 2 ^ r < 4294967296 := Nat.lt_of_le_of_lt (Nat.div_le_self _ _) hu9
              have h8 := (bits_u32_nat (u / 2 ^ r) 1 h7 (by decide)).1
              rw [h6]
              rw [Nat.and_one_is_mod, h1] at h8
              exact h8
            have hRB : R < B := by rw [← HR.out]; exact Nat.mod_lt _ HB0.out
            rw [HR.out] at h2 Hn9
            have hn9 : n9 ≤ 16 := by
              rw [← Hn9.out]
              refine canW_le ?_
              have e := pow16
              have := HS2.out.2
              omega
            have HX9 := Lib.hid (And.intro q5 h3)
            have STr := Lib.hid (ST34.out.go q5)
            have HR9 := Lib.hid (h2.wordsAt (canW_words R).1)
            have HB5 := Lib.hid q5
            clear q1 q2 q3 q4 q5 h2 h3
            go_wp2_with (go_at_call 84; refine hold ?_)
            obtain ⟨wa, Hwa⟩ : ∃ wa, Hid (wa = wr.alloc (.cells #[.int .u32 2] 82)) := ⟨_, Lib.hid rfl⟩
            rw [← Hwa.out]
            have Hba := Lib.hid (show Below wr.heap.size wr wa from by rw [Hwa.out]; exact (Below.refl _ wr).alloc (Nat.le_refl _) _)
            refine Hold.mk ?_
            have K9 := Lib.hid (rtimes_any a9 (some ⟨wr.heap.size, 0, none⟩) n9 1 c9 1 (canW R) [2] wa (HR9.out.below Hba.out) (by rw [Hwa.out]; exact one_row wr 2 2 rfl (by decide)) (by omega) (by decide))
            refine K9.out.mono ?_
            rintro e w8 ⟨g8, l8, rfl, p0, p1, p2, p3, p4, hb8⟩
            have HP8 := Lib.hid (show WordsAt w8 (some ⟨g8, 0, none⟩) (n9 + 1) l8 ∧ ofW l8 = 2 * R ∧ Below wr.heap.size wr w8 from ⟨by have h := p1.words p3; rw [p2] at h; exact h, by rw [p4, (canW_words R).2]; simp [ofW]; omega, Hba.out.trans (Below.mono hb8 Hba.out.size)⟩)
            clear p0 p1 p2 p3 p4 hb8
            have ST8 := Lib.hid (STr.out.go HP8.out.2.2)
            have HA8 := Lib.hid ((WWa.out.2.1.below HB5.out).below (Below.mono HP8.out.2.2 (by first | exact Nat.le_refl _ | omega)))
            obtain ⟨x1', e1, hx⟩ := HA8.out.2.2 q hqm
            rw [Hu.out] at hx
            subst e1
            obtain ⟨s0, s1⟩ := ST8.out.cells (b := p1) (n := n3) (s := .slice (some x1') c3 d3) (by simp)
            go_wp2_with (go_at_call 85; refine hold ?_)
            obtain ⟨wb, Hwb⟩ : ∃ wb, Hid (wb = w8.alloc (.cells #[.int .u32 (d : Int)] 82)) := ⟨_, Lib.hid rfl⟩
            rw [← Hwb.out]
            have Hbb := Lib.hid (show Below w8.heap.size w8 wb from by rw [Hwb.out]; exact (Below.refl _ w8).alloc (Nat.le_refl _) _)
            refine Hold.mk ?_
            have K10 := Lib.hid (rplus_any (some ⟨g8, 0, none⟩) (some ⟨w8.heap.size, 0, none⟩) (n9 + 1) 1 (n9 + 1) 1 l8 [d] wb (HP8.out.1.below Hbb.out) (by rw [Hwb.out]; exact one_row w8 d d rfl (by omega)) (by omega) (by decide))
            refine K10.out.mono ?_
            rintro e w9 ⟨a10, n10, c10, l10, rfl, p1, p2, p3, p4, hb9⟩
            obtain ⟨R', HR'⟩ : ∃ R', Hid (2 * R + d = R') := ⟨_, Lib.hid rfl⟩
            have HP9 := Lib.hid (show WordsAt w9 a10 n10 l10 ∧ n10 ≤ c10 ∧ n10 ≤ 18 ∧ trimZ l10 = canW R' ∧ Below wr.heap.size wr w9 from by
              have e4 : ofW l10 = R' := by rw [p4, HP8.out.2.1, ← HR'.out]; simp [ofW]
              refine ⟨p1, p2, ?_, by rw [trim_can p1.2.1, e4], ?_⟩
              · have : max (n9 + 1) 1 ≤ 17 := Nat.max_le.2 ⟨by omega, by omega⟩
                omega
              · exact (HP8.out.2.2.trans (Below.mono Hbb.out HP8.out.2.2.size)).trans (Below.mono hb9 (by have := HP8.out.2.2.size; have := Hbb.out.size; omega)))
            clear p1 p2 p3 p4 hb9 s0 s1 hx
            go_wp2_with (go_at_call 86; refine hold ?_)
            refine Hold.mk ?_
            have K11 := Lib.hid (rtrim_any a10 n10 c10 l10 w9 HP9.out.1 (by have := HP9.out.2.2.1; omega) HP9.out.2.1)
            rw [HP9.out.2.2.2.1] at K11
            refine K11.out.mono ?_
            rintro e w10 ⟨v11, rfl, hv, hb⟩
            obtain ⟨a11, c11, rfl, hc11, _⟩ := hv.shape
            obtain ⟨n11, Hn11⟩ : ∃ n, Hid ((canW R').length = n) := ⟨_, Lib.hid rfl⟩
            rw [Hn11.out] at hv hc11 ⊢
            have hn11 : n11 ≤ 17 := by
              rw [← Hn11.out]
              refine canW_le ?_
              have e := pow17
              have := HS2.out.2
              have := HR'.out
              omega
            have HP10 := Lib.hid (show RowO w10 w9.heap.size (.slice a11 n11 c11) (canW R') ∧ Below wr.heap.size wr w10 from ⟨hv, HP9.out.2.2.2.2.trans (Below.mono hb HP9.out.2.2.2.2.size)⟩)
            clear hv hb
            have ST10 := Lib.hid (STr.out.go HP10.out.2)
            have HB10 := Lib.hid ((WWb.out.2.1.below HB5.out).below (Below.mono HP10.out.2 (by first | exact Nat.le_refl _ | omega)))
            obtain ⟨s0, s1⟩ := ST10.out.cells (b := p2) (n := n4) (s := .slice a4 c4 d4) (by simp)
            obtain ⟨c, Hc⟩ : ∃ c, Hid (cmpN R' B = c) := ⟨_, Lib.hid rfl⟩
            have K12 := Lib.hid (rsize_k (cap1 := c11) (cap2 := d4) (HP10.out.1.wordsAt (canW_words R').1) HB10.out (by omega) WWb.out.2.2.2)
            rw [Hc.out] at K12
            go_wp2_with (go_at_call 87; refine hold ?_)
            refine Hold.mk ?_
            refine K12.out.mono ?_
            rintro e w11 ⟨rfl, hb⟩
            have HP11 := Lib.hid (show RowO w11 w9.heap.size (.slice a11 n11 c11) (canW R') ∧ Below wr.heap.size wr w11 ∧ WordsAt w11 a4 c4 (canW B) from ⟨HP10.out.1.below hb (Nat.le_refl _), HP10.out.2.trans (Below.mono hb HP10.out.2.size), HB10.out.below hb⟩)
            clear hb s0 s1
            have ST11 := Lib.hid (STr.out.go HP11.out.2.1)
            obtain ⟨s0, s1⟩ := ST11.out.cells (b := p2) (n := n4) (s := .slice a4 c4 d4) (by simp)
            have HSZ := Lib.hid (show w4.heap.size ≤ w9.heap.size from Nat.le_trans HX9.out.2 HP9.out.2.2.2.2.size)
            by_cases hc0 : 0 ≤ c
            · have hle : B ≤ R' := cmpN_ge (by rw [Hc.out]; exact hc0)
              have K13 := Lib.hid (rminus_k (cap1 := c11) (cap2 := d4) (HP11.out.1.wordsAt (canW_words R').1) HP11.out.2.2 (by omega) hle)
              go_wp2_with (go_at_call 88; refine hold ?_)
              refine Hold.mk ?_
              refine K13.out.mono ?_
              rintro e w12 ⟨⟨a12, n12, c12, l12, rfl, HP12⟩, hb⟩
              have HB12 := Lib.hid (HP11.out.2.1.trans (Below.mono hb HP11.out.2.1.size))
              have K14 := Lib.hid (rtrim_any a12 n12 c12 l12 w12 HP12.out.1 HP12.out.2.2.1 HP12.out.2.1)
              rw [trim_can HP12.out.1.2.1, HP12.out.2.2.2] at K14
              clear hb s0 s1
              go_wp2_with (go_at_call 86; refine hold ?_)
              refine Hold.mk ?_
              refine K14.out.mono ?_
              rintro e w13 ⟨v13, rfl, hv, hb⟩
              have HP13 := Lib.hid (show RowO w13 w4.heap.size v13 (canW (R' - B)) ∧ Below wr.heap.size wr w13 ∧ w4.heap.size ≤ w13.heap.size from ⟨hv.mono (Nat.le_trans HX9.out.2 HB12.out.size), HB12.out.trans (Below.mono hb HB12.out.size), by have := HX9.out.2; have := HB12.out.size; have := hb.size; omega⟩)
              clear hv hb
              go_upto_region 17 with fail
              obtain ⟨wq, Hwq⟩ : ∃ wq, Hid (wq = w13.drew) := ⟨_, Lib.hid rfl⟩
              have HPq := Lib.hid (show RowO wq w4.heap.size v13 (canW (R' - B)) ∧ Below wr.heap.size wr wq ∧ w4.heap.size ≤ wq.heap.size from by rw [Hwq.out]; exact ⟨HP13.out.1.below (Below.refl _ w13).drew (Nat.le_refl _), HP13.out.2.1.trans (Below.mono (Below.refl _ w13).drew HP13.out.2.1.size), HP13.out.2.2⟩)
              have HQq := Lib.hid (Hr.out.1.below HPq.out.2.1)
              obtain ⟨lq, q1, q2, q3, q4, q5⟩ := HQq.out
              obtain ⟨xw, Hxw⟩ : ∃ x, Hid (lq.getD q 0 = x) := ⟨_, Lib.hid rfl⟩
              have hxw9 : xw < 4294967296 := by rw [← Hxw.out]; exact q3.get q
              have hcell := q1.cell q (by omega)
              have hfz := q1.frozen q
              rw [Hxw.out] at hcell
              have HS17 : (fun w' => w'.cell? ⟨gq, q, none⟩ = some (.int .u32 (xw : Int))) w13.drew := by rw [← Hwq.out]; exact hcell
              clear q1 q2 q3 q4 q5
              have hwq : IntKind.i64.wrap (q : Int) = (q : Int) := by
                simp [IntKind.wrap, IntKind.bits, IntKind.signed]
                omega
              have hwr : IntKind.i64.wrap (r : Int) = (r : Int) := by
                simp [IntKind.wrap, IntKind.bits, IntKind.signed]
                omega
              have hkt : (k : Int).tmod 32 = (r : Int) := by
                rw [Int.tmod_eq_emod_of_nonneg (by omega)]
                exact hr
              refine wp_region_pi (fun w' => w'.cell? ⟨gq, q, none⟩ = some (.int .u32 (xw : Int))) [(0, 1), (1, 1), (2, 1), (3, 1), (4, 1), (5, 1), (6, 1), (7, 0), (8, 1), (9, 1), (10, 1), (11, 1), (12, 1), (13, 3)] [(13, [7])] (by kernel_rfl) (by kernel_rfl) (fun _ _ _ _ _ h => h) (HS17) ?_
              refine pd_pu (some 75) rfl rfl (by rfl) (fun ws => by go_simp; try with_reducible rfl) ?_; go_frame   -- 0 Op.move (Operand.tmp 7)
              refine pd_pu (some 76) rfl rfl (by rfl) (fun ws => by go_simp; try with_reducible rfl) ?_; go_frame   -- 1 Op.move (Operand.tmp 9)
              refine pd_pu (some 77) rfl rfl (by rfl) (fun ws => by go_simp; try with_reducible rfl) ?_; go_frame   -- 2 Op.binOp BinOp.quo 3 (Operand.tmp 76) (Operand.const (Value.int IntKind.i64 32)) 3
              refine pd_pu (some 78) rfl rfl (by rfl) (fun ws => by go_simp; try with_reducible rfl) ?_; go_frame   -- 3 Op.move (Operand.tmp 7)
              refine pd_pu (some 79) rfl rfl (by rfl) (fun ws => by go_simp; try with_reducible rfl) ?_; go_frame   -- 4 Op.move (Operand.tmp 9)
              refine pd_pu (some 80) rfl rfl (by rfl) (fun ws => by go_simp; try with_reducible rfl) ?_; go_frame   -- 5 Op.binOp BinOp.quo 3 (Operand.tmp 79) (Operand.const (Value.int IntKind.i64 32)) 3
              refine pd_pu (some 81) rfl rfl (by rfl) (fun ws => by go_simp; try with_reducible rfl) ?_; go_frame   -- 6 Op.indexAddr 23 (Operand.tmp 78) (Operand.tmp 80)
              refine pd_ld (some 82) rfl rfl (by rfl) (fun ws HS => by go_split_ands; go_simp; try with_reducible rfl) ?_; go_frame   -- 7 Op.load 82 (Operand.tmp 81)
              refine pd_pu (some 83) rfl rfl (by rfl) (fun ws => by go_simp; try with_reducible rfl) ?_; go_frame   -- 8 Op.move (Operand.tmp 9)
              refine pd_pu (some 84) rfl rfl (by rfl) (fun ws => by go_simp; try with_reducible rfl) ?_; go_frame   -- 9 Op.binOp BinOp.rem 3 (Operand.tmp 83) (Operand.const (Value.int IntKind.i64 32)) 3
              refine pd_pu (some 85) rfl rfl (by rfl) (fun ws => by go_simp; try with_reducible rfl) ?_; go_frame   -- 10 Op.binOp BinOp.shl 82 (Operand.const (Value.int IntKind.u32 1)) (Operand.tmp 84) 3
              refine pd_pu (some 86) rfl rfl (by rfl) (fun ws => by go_simp; try with_reducible rfl) ?_; go_frame   -- 11 Op.binOp BinOp.or 82 (Operand.tmp 82) (Operand.tmp 85) 82
              refine pd_pu (some 87) rfl rfl (by rfl) (fun ws => by go_simp; try with_reducible rfl) ?_; go_frame   -- 12 Op.indexAddr 23 (Operand.tmp 75) (Operand.tmp 77)
              refine pi_tail (by rfl) ?_; simp only [opsAt, List.getElem?_toArray, List.getElem?_cons_zero, List.getElem?_cons_succ]   -- [(13, 'Op.store 82 (Operand.tmp 87) (Operand.tmp 86)')]
              rw [← Hwq.out]
              have HF := Lib.hid (show QuoL W33 (wq.setCell ⟨gq, q, none⟩ (.int .u32 (bits .or .u32 (xw : Int) (2 ^ r % 4294967296)))) gq c3 A B k ∧ RowO (wq.setCell ⟨gq, q, none⟩ (.int .u32 (bits .or .u32 (xw : Int) (2 ^ r % 4294967296)))) w4.heap.size v13 (canW (A / 2 ^ k % B)) ∧ w4.heap.size ≤ (wq.setCell ⟨gq, q, none⟩ (.int .u32 (bits .or .u32 (xw : Int) (2 ^ r % 4294967296)))).heap.size from by
                have hpow : 2 ^ r < 4294967296 := Nat.lt_of_lt_of_eq (Nat.pow_lt_pow_right (show 1 < 2 by decide) hr9) (by decide)
                have e0 : bits .or .u32 (xw : Int) (2 ^ r % 4294967296) = ((xw ||| 2 ^ r : Nat) : Int) := by
                  have h1 : ((2 : Int) ^ r % 4294967296) = ((2 ^ r : Nat) : Int) := by
                    rw [show ((2 : Int) ^ r) = ((2 ^ r : Nat) : Int) by simp]
                    exact Int.emod_eq_of_lt (Int.natCast_nonneg _) (Int.ofNat_lt.2 hpow)
                  rw [h1]
                  exact (bits_u32_nat xw (2 ^ r) hxw9 hpow).2
                rw [e0]
                have hkk : k = 32 * q + r := by have := Hq.out; have := Hr9.out; omega
                have hstep := HQq.out.yes HB0.out (by rw [HR.out, Hd.out, HR'.out]; exact hle) hkk hr9 hqm (by rw [Hgq.out]; exact Nat.le_refl _) hcell
                rw [HR.out, Hd.out, HR'.out] at hstep
                refine ⟨hstep.1, ?_, ?_⟩
                · rw [hstep.2]
                  exact HPq.out.1.other (p := ⟨gq, q, none⟩) Hs4.out _
                · have := HPq.out.2.2
                  simpa using this)
              clear HS17
              go_wp2_with fail
              go_roundg k
              case measure => omega
              case rel => exact ⟨k, by omega, by go_num, rfl, HF⟩
            · have hlt : R' < B := by
                have h := Hc.out
                unfold cmpN at h
                split at h
                · assumption
                · split at h <;> omega
              have HF := Lib.hid (show QuoL W33 w11 gq c3 A B k ∧ RowO w11 w4.heap.size (.slice a11 n11 c11) (canW (A / 2 ^ k % B)) ∧ w4.heap.size ≤ w11.heap.size from by
                have hstep := (Hr.out.1.below HP11.out.2.1).no HB0.out (by rw [HR.out, Hd.out, HR'.out]; exact hlt)
                rw [HR.out, Hd.out, HR'.out] at hstep
                refine ⟨hstep.1, by rw [hstep.2]; exact HP11.out.1.mono HSZ.out, ?_⟩
                have := HX9.out.2
                have := HP11.out.2.1.size
                omega)
              clear hlt
              go_wp2_with fail
              go_roundg k
              case measure => omega
              case rel => exact ⟨k, by omega, by go_num, rfl, HF⟩
end Go.Proofs.YtcnakbhogmnddaaDoor
