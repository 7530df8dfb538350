/- exact.Compare, fits, Of. No condition. -/
import Derived.Test.YtahgbbnpbhfaeaaDoorExSizes
namespace Go.Proofs.YtahgbbnpbhfaeaaDoor
open Go.RowKit

theorem box2 (w : World) (n1 n2 : Bool) (s1 s2 : Value) : ∀ wx : World, Below ((w.alloc (.cells #[.bool n1, s1] 24)).alloc (.cells #[.bool n2, s2] 24)).heap.size ((w.alloc (.cells #[.bool n1, s1] 24)).alloc (.cells #[.bool n2, s2] 24)) wx →
    wx.cell? ⟨w.heap.size, 0, none⟩ = some (.bool n1) ∧ wx.cell? ⟨w.heap.size, 1, none⟩ = some s1 ∧ wx.cell? ⟨w.heap.size + 1, 0, none⟩ = some (.bool n2) ∧ wx.cell? ⟨w.heap.size + 1, 1, none⟩ = some s2 := fun wx hx => by
  have q1 : ((w.alloc (.cells #[.bool n1, s1] 24)).alloc (.cells #[.bool n2, s2] 24)).heap[w.heap.size]? = some (.cells #[.bool n1, s1] 24 (0, 0)) :=
    (Below.heap_alloc _ _ _ (by simp)).trans (heap_alloc_new w _)
  have q2 : ((w.alloc (.cells #[.bool n1, s1] 24)).alloc (.cells #[.bool n2, s2] 24)).heap[w.heap.size + 1]? = some (.cells #[.bool n2, s2] 24 (0, 0)) := by
    have := heap_alloc_new (w.alloc (.cells #[.bool n1, s1] 24)) (.cells #[.bool n2, s2] 24)
    rwa [World.size_alloc] at this
  have e1 := (hx.block _ (by simp; omega)).trans q1
  have e2 := (hx.block _ (by simp)).trans q2
  refine ⟨?_, ?_, ?_, ?_⟩ <;> first | (simp only [World.cell?, e1]; rfl) | (simp only [World.cell?, e2]; rfl)

theorem cmpN_I (a b : Nat) : cmpN a b = cmpI (a : Int) (b : Int) := by
  have h1 : ((a : Int) < b) = (a < b) := propext (by omega)
  have h2 : ((a : Int) = b) = (a = b) := propext (by omega)
  unfold cmpN cmpI
  simp only [h1, h2]
theorem cmpI_neg (a b : Int) : cmpI (-a) (-b) = cmpI b a := by
  have h1 : (-a < -b) = (b < a) := propext (by omega)
  have h2 : (-a = -b) = (b = a) := propext (by omega)
  unfold cmpI
  simp only [h1, h2]

set_option maxRecDepth 100000 in
set_option maxHeartbeats 1600000 in
theorem compare_any (v1 v2 : Value) (g1 g2 : Bool) (z1 z2 : List Nat) (w : World) (h1 : IntV w v1 g1 z1) (h2 : IntV w v2 g2 z2) :
    Calls Tryd.prog 50 #[v1, v2] w fun e w' => e = .returned (.int .i64 (cmpI (valI g1 z1) (valI g2 z2))) ∧ Below w.heap.size w w' := by
  obtain ⟨a1, n1, cap1, rfl, hw1, hc1, hn1⟩ := id h1
  obtain ⟨a2, n2, cap2, rfl, hw2, hc2, hn2⟩ := id h2
  obtain ⟨w2, Hw2⟩ : ∃ w2, Hid (w2 = (w.alloc (.cells #[.bool g1, .slice a1 n1 cap1] 24)).alloc (.cells #[.bool g2, .slice a2 n2 cap2] 24)) := ⟨_, Lib.hid rfl⟩
  obtain ⟨bn, Hbn⟩ : ∃ b, Hid (b = w.heap.size) := ⟨_, Lib.hid rfl⟩
  obtain ⟨bm, Hbm⟩ : ∃ b, Hid (b = w.heap.size + 1) := ⟨_, Lib.hid rfl⟩
  have hB : Below w.heap.size w w2 := by
    rw [Hw2.out]
    exact ((Below.refl _ w).alloc (Nat.le_refl _) _).alloc (by simp) _
  have HC := Lib.hid (box2 w g1 g2 (.slice a1 n1 cap1) (.slice a2 n2 cap2))
  rw [← Hw2.out, ← Hbm.out, ← Hbn.out] at HC
  have HB := Lib.hid hB
  have K1 := Lib.hid (fun wx (hx : Below w2.heap.size w2 wx) => negative_any (.agg #[.bool g1, .slice a1 n1 cap1]) g1 z1 wx ((h1.below hB).below hx))
  have K2 := Lib.hid (fun wx (hx : Below w2.heap.size w2 wx) => negative_any (.agg #[.bool g2, .slice a2 n2 cap2]) g2 z2 wx ((h2.below hB).below hx))
  have K3 := Lib.hid (fun wx (hx : Below w2.heap.size w2 wx) => sizes_any a1 a2 n1 n2 cap1 cap2 z1 z2 wx ((hw1.below hB).below hx) ((hw2.below hB).below hx) hn1 hn2 hc1 hc2)
  have K4 := Lib.hid (fun wx (hx : Below w2.heap.size w2 wx) => sizes_any a2 a1 n2 n1 cap2 cap1 z2 z1 wx ((hw2.below hB).below hx) ((hw1.below hB).below hx) hn2 hn1 hc2 hc1)
  have HV := Lib.hid (show (valI g1 z1 < 0 → g1 = true) ∧ (valI g2 z2 < 0 → g2 = true) ∧ (¬ valI g1 z1 < 0 → valI g1 z1 = ofW z1) ∧ (¬ valI g2 z2 < 0 → valI g2 z2 = ofW z2) ∧ (valI g1 z1 < 0 → valI g1 z1 = -(ofW z1 : Int)) ∧ (valI g2 z2 < 0 → valI g2 z2 = -(ofW z2 : Int)) from by
    unfold valI
    cases g1 <;> cases g2 <;> simp <;> omega)
  obtain ⟨x, Hx⟩ : ∃ x, Hid (valI g1 z1 = x) := ⟨_, Lib.hid rfl⟩
  obtain ⟨y, Hy⟩ : ∃ y, Hid (valI g2 z2 = y) := ⟨_, Lib.hid rfl⟩
  rw [Hx.out] at K1 HV ⊢
  rw [Hy.out] at K2 HV ⊢
  obtain ⟨bx, Hbx⟩ : ∃ b, Hid (decide (x < 0) = b) := ⟨_, Lib.hid rfl⟩
  obtain ⟨by', Hby⟩ : ∃ b, Hid (decide (y < 0) = b) := ⟨_, Lib.hid rfl⟩
  simp only [Hbx.out] at K1
  simp only [Hby.out] at K2
  clear h1 h2 hw1 hw2 hB
  go_enter Tryd.func50, Tryd.ntmps50
  go_upto_region 1 with fail
  rw [← Hw2.out]
  try rw [← Hbm.out]
  try rw [← Hbn.out]
  have hD := Lib.hid (Below.refl w2.heap.size w2).drew
  have HS := HC.out w2.drew hD.out
  refine wp_region_pi (fun w' => w'.cell? ⟨bn, 0, none⟩ = some (.bool g1) ∧ w'.cell? ⟨bn, 1, none⟩ = some (.slice a1 n1 cap1) ∧ w'.cell? ⟨bm, 0, none⟩ = some (.bool g2) ∧ w'.cell? ⟨bm, 1, none⟩ = some (.slice a2 n2 cap2)) [(0, 0), (2, 0), (1, 2), (3, 3), (4, 3), (5, 3)] [(3, [1, 0]), (3, [2]), (4, [0]), (4, [3, 2]), (5, [0]), (5, [2])] (by kernel_rfl) (by kernel_rfl) (fun _ _ _ _ _ h => h) (HS) ?_
  refine pd_ld (some 7) rfl rfl (by rfl) (fun ws HS => by go_split_ands; go_simp; try with_reducible rfl) ?_; go_frame   -- 0 Op.load 24 (Operand.tmp 2)
  refine pd_ld (some 9) rfl rfl (by rfl) (fun ws HS => by go_split_ands; go_simp; try with_reducible rfl) ?_; go_frame   -- 2 Op.load 24 (Operand.tmp 3)
  refine pi_ke rfl (fun J hJ => ?_)   -- pi_ke 1 Op.call { callee := Callee.value (Operand.func 68), args := #[Operand.tmp 7], argTypes := #[24] }
  go_wp2_with (go_at_call 68; refine (K1.out w2.drew hD.out).mono ?_; rintro e w3 ⟨rfl, hb⟩; have hE := Lib.hid (hD.out.trans (Below.mono hb hD.out.size)); clear hb)
  refine hJ _ _ (HC.out w3 hE.out) ?_
  refine pi_tail (by rfl) ?_; simp only [opsAt, List.getElem?_toArray, List.getElem?_cons_zero, List.getElem?_cons_succ]   -- [(3, 'Op.call { callee := Callee.value (Operand.func 68), args := #[Operand.tmp 9], argTypes := #[24] }'), (4, 'Op.assign (Operand.tmp 8)'), (5, 'Op.assign (Operand.tmp 10)')]
  go_upto_region 2 with (go_at_call 68; refine (K2.out w3 hE.out).mono ?_; rintro e w4 ⟨rfl, hb⟩; have hF := Lib.hid (hE.out.trans (Below.mono hb hE.out.size)); clear hb)
  obtain ⟨s0, s1, s2, s3⟩ := HC.out w4 hF.out
  have hfin : ∀ r : Int, r = cmpI x y → Ending.returned (.int .i64 r) = .returned (.int .i64 (cmpI x y)) := fun r h => by rw [h]
  have HFin := Lib.hid hfin
  clear hfin
  cases bx with
  | true =>
    cases by' with
    | true =>
      go_wp2_with (go_at_call 69; refine (K4.out w4 hF.out).mono ?_; rintro e w5 ⟨rfl, hb⟩; have hG := Lib.hid (hF.out.trans (Below.mono hb hF.out.size)); clear hb)
      go_ret
      refine ⟨HFin.out _ ?_, HB.out.trans (Below.mono hG.out HB.out.size)⟩
      have hx := of_decide_eq_true Hbx.out
      have hy := of_decide_eq_true Hby.out
      obtain ⟨_, _, _, _, e1, e2⟩ := HV.out
      have e1 := e1 (by omega)
      have e2 := e2 (by omega)
      rw [cmpN_I, e1, e2, cmpI_neg]
    | false =>
      go_wp2_with fail
      go_ret
      refine ⟨HFin.out _ ?_, HB.out.trans (Below.mono hF.out HB.out.size)⟩
      have hx := of_decide_eq_true Hbx.out
      have hy := of_decide_eq_false Hby.out
      unfold cmpI
      rw [if_pos (by omega)]
  | false =>
    cases by' with
    | true =>
      go_wp2_with fail
      go_ret
      refine ⟨HFin.out _ ?_, HB.out.trans (Below.mono hF.out HB.out.size)⟩
      have hx := of_decide_eq_false Hbx.out
      have hy := of_decide_eq_true Hby.out
      unfold cmpI
      rw [if_neg (by omega), if_neg (by omega)]
    | false =>
      go_wp2_with (go_at_call 69; refine (K3.out w4 hF.out).mono ?_; rintro e w5 ⟨rfl, hb⟩; have hG := Lib.hid (hF.out.trans (Below.mono hb hF.out.size)); clear hb)
      go_ret
      refine ⟨HFin.out _ ?_, HB.out.trans (Below.mono hG.out HB.out.size)⟩
      have hx := of_decide_eq_false Hbx.out
      have hy := of_decide_eq_false Hby.out
      obtain ⟨_, _, e1, e2, _, _⟩ := HV.out
      have e1 := e1 (by omega)
      have e2 := e2 (by omega)
      rw [cmpN_I, e1, e2]
end Go.Proofs.YtahgbbnpbhfaeaaDoor
