/- exact.Sub. No condition. -/
import Derived.Test.YtahgbbnpbhfaeaaDoorExAdd
namespace Go.Proofs.YtahgbbnpbhfaeaaDoor
open Go.RowKit

theorem big_neg (i : Int) : big (-i) = big i := by unfold big; rw [Int.natAbs_neg]
set_option maxRecDepth 100000 in
set_option maxHeartbeats 3200000 in
theorem sub_any (v1 v2 : Value) (g1 g2 : Bool) (z1 z2 : List Nat) (w : World) (h1 : IntV w v1 g1 z1) (h2 : IntV w v2 g2 z2) :
    Calls Tryd.prog 65 #[v1, v2] w fun e w' => AnsB w' e (big (valI g1 z1) || big (valI g2 z2) || big (valI g1 z1 - valI g2 z2)) (valI g1 z1 - valI g2 z2) ∧ Below w.heap.size w w' := by
  obtain ⟨a1, n1, cap1, rfl, hw1, hc1, hn1⟩ := id h1
  obtain ⟨a2, n2, cap2, rfl, hw2, hc2, hn2⟩ := id h2
  obtain ⟨w2, Hw2⟩ : ∃ w2, Hid (w2 = ((w.alloc (.cells #[.bool g1, .slice a1 n1 cap1] 24)).alloc (.cells #[.bool g2, .slice a2 n2 cap2] 24)).alloc (.cells #[.bool false, .slice none 0 0] 24)) := ⟨_, Lib.hid rfl⟩
  obtain ⟨bn, Hbn⟩ : ∃ b, Hid (b = w.heap.size) := ⟨_, Lib.hid rfl⟩
  obtain ⟨bm, Hbm⟩ : ∃ b, Hid (b = w.heap.size + 1) := ⟨_, Lib.hid rfl⟩
  obtain ⟨bo, Hbo⟩ : ∃ b, Hid (b = w.heap.size + 2) := ⟨_, Lib.hid rfl⟩
  have HC := Lib.hid (box3 w g1 g2 (.slice a1 n1 cap1) (.slice a2 n2 cap2))
  unfold three at HC
  rw [← Hw2.out, ← Hbm.out, ← Hbo.out] at HC
  have HB := Lib.hid HC.out.1
  rw [← Hbn.out] at HC
  have hB := HB.out
  have K1 := Lib.hid (fun wx (hx : Below w2.heap.size w2 wx) => neg_any (.agg #[.bool g2, .slice a2 n2 cap2]) g2 z2 wx ((h2.below hB).below hx))
  have K2 := Lib.hid (fun wx (hx : Below w2.heap.size w2 wx) (v : Value) (hv : IntC wx v (-valI g2 z2)) => add_any (.agg #[.bool g1, .slice a1 n1 cap1]) v g1 _ z1 _ wx ((h1.below hB).below hx) hv)
  clear h1 h2 hw1 hw2 hB
  have FIN := Lib.hid (show ∀ (wx : World) (b : Bool) (a : Option Addr) (n c : Nat) (i : Int), Below w2.heap.size w2 wx → IntC wx (.agg #[.bool b, .slice a n c]) i →
      (IntC ((wx.setCell ⟨bo, 0, none⟩ (.bool b)).setCell ⟨bo, 1, none⟩ (.slice a n c)) (.agg #[.bool b, .slice a n c]) i ∧ ((wx.setCell ⟨bo, 0, none⟩ (.bool b)).setCell ⟨bo, 1, none⟩ (.slice a n c)).heap[bo]? = some (.cells #[.bool b, .slice a n c] 24 (0, 0))) ∧
      Below w.heap.size w ((wx.setCell ⟨bo, 0, none⟩ (.bool b)).setCell ⟨bo, 1, none⟩ (.slice a n c)) from fun wx b a n c i hx hi =>
    ⟨hi.store ((HC.out.2 wx hx).2), ((HB.out.trans (Below.mono hx HB.out.size)).setCell (by have := Hbo.out; simp only; omega) _).setCell (by have := Hbo.out; simp only; omega) _⟩)
  have Hbo2 := Lib.hid (show bo = bm + 1 from by have := Hbo.out; have := Hbm.out; omega)
  go_enter Tryd.func65, Tryd.ntmps65
  go_upto_region 1 with fail
  rw [← Hw2.out]
  try rw [← Hbm.out]
  try rw [← Hbn.out]
  rw [← Hbo2.out]
  have hD := Lib.hid (Below.refl w2.heap.size w2).drew
  have HS := (HC.out.2 w2.drew hD.out).1
  refine wp_region_pi (fun w' => w'.cell? ⟨bn, 0, none⟩ = some (.bool g1) ∧ w'.cell? ⟨bn, 1, none⟩ = some (.slice a1 n1 cap1) ∧ w'.cell? ⟨bm, 0, none⟩ = some (.bool g2) ∧ w'.cell? ⟨bm, 1, none⟩ = some (.slice a2 n2 cap2)) [(0, 0), (1, 0), (2, 2), (3, 3), (4, 1), (5, 3), (6, 3), (7, 3)] [(3, [0]), (3, [2, 1]), (5, [3, 0]), (5, [3, 2, 1]), (6, [0]), (6, [1]), (7, [0]), (7, [1])] (by kernel_rfl) (by kernel_rfl) (fun _ _ _ _ _ h => h) (HS) ?_
  refine pd_ld (some 6) rfl rfl (by rfl) (fun ws HS => by go_split_ands; go_simp; try with_reducible rfl) ?_; go_frame   -- 0 Op.load 24 (Operand.tmp 2)
  refine pd_ld (some 7) rfl rfl (by rfl) (fun ws HS => by go_split_ands; go_simp; try with_reducible rfl) ?_; go_frame   -- 1 Op.load 24 (Operand.tmp 3)
  refine pi_ke rfl (fun J hJ => ?_)   -- pi_ke 2 Op.call { callee := Callee.value (Operand.func 25), args := #[Operand.tmp 7], argTypes := #[24] }
  go_wp2_with (go_at_call 25; refine (K1.out w2.drew hD.out).mono ?_; rintro e w3 ⟨v, rfl, hv, hb⟩; have hE := Lib.hid (And.intro (hD.out.trans (Below.mono hb hD.out.size)) hv); clear hb hv)
  refine hJ _ _ (HC.out.2 w3 hE.out.1).1 ?_
  have K3 := Lib.hid (K2.out w3 hE.out.1 v hE.out.2)
  rw [valI_can] at K3
  refine pi_dr rfl (fun J hJ => ?_)   -- pi_dr 3 Op.call { callee := Callee.value (Operand.func 64), args := #[Operand.tmp 6, Operand.tmp 8], argTypes := #[24, 24] }
  go_wp2_with (go_at_call 64; refine hold ?_)
  refine Hold.mk ?_
  refine K3.out.mono ?_
  rintro e w9 ⟨⟨v9, rfl, hv⟩, hb⟩
  have hJ9 := Lib.hid (hE.out.1.trans (Below.mono hb hE.out.1.size))
  obtain ⟨⟨s0, s1, s2, s3⟩, sq⟩ := HC.out.2 w9 hJ9.out
  obtain ⟨⟨r0, r1⟩, f0, f1⟩ := box_cells sq
  obtain ⟨b9, a9, n9, c9, rfl⟩ := hv.agg
  have HX := Lib.hid (FIN.out w9 b9 a9 n9 c9 _ hJ9.out hv)
  have hbe : (big (valI g1 z1) || big (-valI g2 z2) || big (valI g1 z1 + -valI g2 z2)) = (big (valI g1 z1) || big (valI g2 z2) || big (valI g1 z1 - valI g2 z2)) := by rw [big_neg]; rfl
  rw [hbe] at HX ⊢
  clear sq hv hb hbe
  obtain ⟨k9, Hk9⟩ : ∃ k : Int, Hid ((if (big (valI g1 z1) || big (valI g2 z2) || big (valI g1 z1 - valI g2 z2)) then 2 else 0) = k) := ⟨_, Lib.hid rfl⟩
  rw [Hk9.out]
  go_wp2_with fail
  refine hJ _ _ ?_
  refine pd_pu (some 10) rfl rfl (by rfl) (fun ws => by go_simp; try with_reducible rfl) ?_; go_frame   -- 4 Op.extract (Operand.tmp 9) 0
  refine pi_tail (by rfl) ?_; simp only [opsAt, List.getElem?_toArray, List.getElem?_cons_zero, List.getElem?_cons_succ]   -- [(5, 'Op.extract (Operand.tmp 9) 1'), (6, 'Op.store 24 (Operand.tmp 4) (Operand.tmp 10)'), (7, 'Op.assign (Operand.tmp 11)')]
  go_wp2_with fail
  obtain ⟨⟨h1, h2⟩, h3⟩ := HX.out
  refine bodyPost_ret (results_cell_pair rfl _ _ bo 24 (.bool b9) (.slice a9 n9 c9) (0, 0) rfl h2) rfl ?_
  refine ⟨⟨_, ?_, h1⟩, h3⟩
  rw [Hk9.out]
  rfl
end Go.Proofs.YtahgbbnpbhfaeaaDoor
