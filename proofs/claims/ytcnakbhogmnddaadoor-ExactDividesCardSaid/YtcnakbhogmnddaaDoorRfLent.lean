/- recastlaw2.lent, back. No condition. -/
import Derived.Test.YtcnakbhogmnddaaDoorRfSt
namespace Go.Proofs.YtcnakbhogmnddaaDoor
open Go.RowKit

theorem RowW.box {w : World} {g cap b : Nat} {l : List Nat} {x : Bool} {a' : Option Addr} {n' c' : Nat} {t : TypeId} (h : RowW w g cap l) (hb : w.heap[b]? = some (.cells #[.bool x, .slice a' n' c'] t (0, 0))) (hne : g ≠ b) (u0 u1 : Value) : RowW ((w.setCell ⟨b, 0, none⟩ u0).setCell ⟨b, 1, none⟩ u1) g cap l :=
  (h.other (show (⟨b, 0, none⟩ : Addr).block ≠ g from Ne.symm hne) u0).other (show (⟨b, 1, none⟩ : Addr).block ≠ g from Ne.symm hne) u1
/-- A number of one's own, and a word behind it. -/
def Lent (w' : World) (e : Ending) (g : Bool) (n : Nat) (z : List Nat) : Prop :=
  ∃ (a : Addr) (c : Nat), e = .returned (.agg #[.bool g, .slice (some a) n c]) ∧ IntV w' (.agg #[.bool g, .slice (some a) n c]) g z ∧ IntV w' (.agg #[.bool g, .slice (some a) (n + 1) c]) g (z ++ [77])
theorem RowW.lent {w : World} {g cap n : Nat} {z : List Nat} (h : RowW w g cap (z ++ [77])) (hw : Words z) (hl : z.length = n) (hn : n ≤ 40) (s : Bool) : IntV w (.agg #[.bool s, .slice (some ⟨g, 0, none⟩) n cap]) s z ∧ IntV w (.agg #[.bool s, .slice (some ⟨g, 0, none⟩) (n + 1) cap]) s (z ++ [77]) := by
  have hw2 : Words (z ++ [77]) := Words.append.2 ⟨hw, Words.cons.2 ⟨by decide, Words.nil⟩⟩
  have h1 := h.words hw2
  have h2 := h.1
  rw [List.length_append, hl] at h1 h2
  refine ⟨⟨_, n, cap, rfl, ?_, by simp at h2; omega, by omega⟩, ⟨_, n + 1, cap, rfl, h1, h2, by omega⟩⟩
  have h3 := h1.take (m := n) (by simp)
  rw [List.take_left' hl] at h3
  exact h3

set_option maxRecDepth 100000 in
set_option maxHeartbeats 1600000 in
theorem lent_any {v1 : Value} {g1 : Bool} {z1 : List Nat} {w : World} (h1 : IntV w v1 g1 z1) (hz : z1.length ≤ 40) :
    Calls Tryd.prog 37 #[v1] w fun e w' => Lent w' e g1 z1.length z1 ∧ Below w.heap.size w w' := by
  obtain ⟨a1, n1, cap1, rfl, hw1, hc1, hn1⟩ := id h1
  obtain ⟨w2, Hw2⟩ : ∃ w2, Hid (w2 = (w.alloc (.cells #[.bool g1, .slice a1 n1 cap1] 25)).alloc (.cells #[.bool false, .slice none 0 0] 25)) := ⟨_, Lib.hid rfl⟩
  obtain ⟨bn, Hbn⟩ : ∃ b, Hid (b = w.heap.size) := ⟨_, Lib.hid rfl⟩
  obtain ⟨bm, Hbm⟩ : ∃ b, Hid (b = w.heap.size + 1) := ⟨_, Lib.hid rfl⟩
  have hB : Below w.heap.size w w2 := by
    rw [Hw2.out]
    exact ((Below.refl _ w).alloc (Nat.le_refl _) _).alloc (by simp) _
  have HC := Lib.hid (box2 w g1 false (.slice a1 n1 cap1) (.slice none 0 0))
  rw [← Hw2.out, ← Hbm.out, ← Hbn.out] at HC
  have q2 : w2.heap[bm]? = some (.cells #[.bool false, .slice none 0 0] 25 (0, 0)) := by
    have := heap_alloc_new (w.alloc (.cells #[.bool g1, .slice a1 n1 cap1] 25)) (.cells #[.bool false, .slice none 0 0] 25)
    rw [World.size_alloc] at this
    rw [Hw2.out, Hbm.out]
    exact this
  have hl1 := hw1.1
  have hn40 : n1 ≤ 40 := by omega
  have Hl1 := Lib.hid hl1
  have HB := Lib.hid (And.intro hB q2)
  have HW := Lib.hid (hw1.below hB)
  have Hs2 := Lib.hid (show w2.heap.size = bm + 1 from by rw [Hw2.out, Hbm.out]; simp)
  rw [hl1]
  clear h1 hw1 hB q2 hl1 hz hn1
  -- the two appends leave a row of one's own
  have FIN := Lib.hid (show ∀ (wx : World) (g cap : Nat), RowW wx g cap (z1 ++ [77]) → w2.heap.size ≤ g → Below w2.heap.size w2 wx → RowW wx.drew g cap (z1 ++ [77]) ∧ w2.heap.size ≤ g ∧ Below w2.heap.size w2 wx.drew from fun wx g cap h1 h2 h3 => ⟨h1.below (Below.refl wx.heap.size wx).drew h1.lt, h2, h3.trans (Below.mono (Below.refl _ wx).drew h3.size)⟩)
  obtain ⟨s0, s1, s2, s3⟩ := HC.out w2 (Below.refl _ _)
  have END := Lib.hid (show ∀ (wx : World) (g cap : Nat), RowW wx g cap (z1 ++ [77]) ∧ w2.heap.size ≤ g ∧ Below w2.heap.size w2 wx →
      (IntV ((wx.setCell ⟨bm, 0, none⟩ (.bool g1)).setCell ⟨bm, 1, none⟩ (.slice (some ⟨g, 0, none⟩) n1 cap)) (.agg #[.bool g1, .slice (some ⟨g, 0, none⟩) n1 cap]) g1 z1 ∧ IntV ((wx.setCell ⟨bm, 0, none⟩ (.bool g1)).setCell ⟨bm, 1, none⟩ (.slice (some ⟨g, 0, none⟩) n1 cap)) (.agg #[.bool g1, .slice (some ⟨g, 0, none⟩) (n1 + 1) cap]) g1 (z1 ++ [77])) ∧
      ((wx.setCell ⟨bm, 0, none⟩ (.bool g1)).setCell ⟨bm, 1, none⟩ (.slice (some ⟨g, 0, none⟩) n1 cap)).heap[bm]? = some (.cells #[.bool g1, .slice (some ⟨g, 0, none⟩) n1 cap] 25 (0, 0)) ∧ Below w.heap.size w ((wx.setCell ⟨bm, 0, none⟩ (.bool g1)).setCell ⟨bm, 1, none⟩ (.slice (some ⟨g, 0, none⟩) n1 cap)) from fun wx g cap ⟨h1, h2, h3⟩ => by
    have q := (h3.block bm (by have := Hs2.out; omega)).trans HB.out.2
    have h4 := (h1.box q (by have := Hs2.out; omega) (.bool g1) (.slice (some ⟨g, 0, none⟩) n1 cap)).lent HW.out.2.1 Hl1.out hn40 g1
    exact ⟨h4, (setCell_same2 (setCell_same2 q _) _).trans rfl, ((HB.out.1.trans (Below.mono h3 HB.out.1.size)).setCell (by have := Hbm.out; simp only; omega) _).setCell (by have := Hbm.out; simp only; omega) _⟩)
  have hfin : ∀ (wx : World) (g cap : Nat), True → True := fun _ _ _ h => h
  clear hfin
  cases a1 with
  | none =>
    have h0 : n1 = 0 := by
      cases n1 with
      | zero => rfl
      | succ n =>
        obtain ⟨x, e, _⟩ := HW.out.2.2 0 (by omega)
        cases e
    subst h0
    have hz0 : z1 = [] := List.length_eq_zero_iff.1 Hl1.out
    subst hz0
    go_enter Tryd.func37, Tryd.ntmps37
    go_upto_region 3 with (refine wpList_appE _ rfl _ _ rfl none 0 0 _ _ rfl rfl (by omega) ?_)
    rw [← Hw2.out, ← Hbm.out, ← Hbn.out]
    obtain ⟨v3, Hv3⟩ : ∃ v, Hid (v = Value.slice none 0 0) := ⟨_, Lib.hid rfl⟩
    rw [← Hv3.out]
    go_wp2_with (refine wpList_app1 w2 rfl _ _ rfl w2.heap.size v3 [] _ 77 rfl rfl (by rw [Hv3.out]; exact RowO.nil) rfl (by simp) (Nat.le_refl _) ?_; intro g cap w' h1 h2 h3; refine hold ?_)
    refine Hold.mk ?_
    have HQ := Lib.hid (FIN.out w' g cap (by simpa using h1) h2 h3)
    clear h1 h2 h3 s0 s1 s2 s3
    go_upto_region 4 with fail
    have HS := HC.out w'.drew HQ.out.2.2
    have hcap : 0 + 1 ≤ cap := by have := HQ.out.1.1; simp at this; have := Hl1.out; omega
    have hcap2 : 0 ≤ cap := by omega
    refine wp_region_pi (fun w' => w'.cell? ⟨bn, 0, none⟩ = some (.bool g1) ∧ w'.cell? ⟨bn, 1, none⟩ = some (.slice none 0 cap1) ∧ w'.cell? ⟨bm, 0, none⟩ = some (.bool false) ∧ w'.cell? ⟨bm, 1, none⟩ = some (.slice none 0 0)) [(0, 1), (1, 0), (2, 1), (3, 1), (4, 0), (5, 1), (6, 1), (7, 1), (8, 3)] [(8, [1]), (8, [4])] (by kernel_rfl) (by kernel_rfl) (fun _ _ _ _ _ h => h) (HS) ?_
    refine pd_pu (some 11) rfl rfl (by rfl) (fun ws => by go_simp; try with_reducible rfl) ?_; go_frame   -- 0 Op.fieldAddr 25 (Operand.tmp 1) 0
    refine pd_ld (some 12) rfl rfl (by rfl) (fun ws HS => by go_split_ands; go_simp; try with_reducible rfl) ?_; go_frame   -- 1 Op.load 4 (Operand.tmp 11)
    refine pd_pu (some 13) rfl rfl (by rfl) (fun ws => by go_simp; try with_reducible rfl) ?_; go_frame   -- 2 Op.move (Operand.tmp 3)
    refine pd_pu (some 14) rfl rfl (by rfl) (fun ws => by go_simp; try with_reducible rfl) ?_; go_frame   -- 3 Op.fieldAddr 25 (Operand.tmp 1) 1
    refine pd_ld (some 15) rfl rfl (by rfl) (fun ws HS => by go_split_ands; go_simp; try with_reducible rfl) ?_; go_frame   -- 4 Op.load 23 (Operand.tmp 14)
    refine pd_pu (some 16) rfl rfl (by rfl) (fun ws => by go_simp; try with_reducible rfl) ?_; go_frame   -- 5 Op.call { callee := Callee.builtin Builtin.len, args := #[Operand.tmp 15], argTypes := #[23] }
    refine pd_pu (some 17) rfl rfl (by rfl) (fun ws => by go_simp; try with_reducible rfl) ?_; go_frame   -- 6 Op.slice 23 (Operand.tmp 13) none (some (Operand.tmp 16)) none
    refine pd_pu (some 18) rfl rfl (by rfl) (fun ws => by go_simp; try with_reducible rfl) ?_; go_frame   -- 7 Op.build 25 #[(0, Operand.tmp 12), (1, Operand.tmp 17)]
    refine pi_tail (by rfl) ?_; simp only [opsAt, List.getElem?_toArray, List.getElem?_cons_zero, List.getElem?_cons_succ]   -- [(8, 'Op.store 25 (Operand.tmp 2) (Operand.tmp 18)')]
    obtain ⟨wq, Hwq⟩ : ∃ wq, Hid (wq = w'.drew) := ⟨_, Lib.hid rfl⟩
    rw [← Hwq.out] at HQ ⊢
    clear HS
    obtain ⟨⟨r0, r1⟩, f0, f1⟩ := box_cells ((HQ.out.2.2.block bm (by have := Hs2.out; omega)).trans HB.out.2)
    have HE := Lib.hid (END.out _ g cap HQ.out)
    go_wp2_with fail
    obtain ⟨⟨e1, e2⟩, e3, e4⟩ := HE.out
    refine bodyPost_ret (results_cell_row rfl _ _ bm 25 #[.bool g1, .slice (some ⟨g, 0, none⟩) 0 cap] (0, 0) _ rfl e3 Tryd.underlying25 rfl (by kernel_rfl)) rfl ?_
    exact ⟨⟨_, _, rfl, e1, e2⟩, e4⟩
  | some ad =>
    by_cases h0 : n1 = 0
    · subst h0
      have hz0 : z1 = [] := List.length_eq_zero_iff.1 Hl1.out
      subst hz0
      go_enter Tryd.func37, Tryd.ntmps37
      go_upto_region 3 with (refine wpList_appE _ rfl _ _ rfl none 0 0 _ _ rfl rfl (by omega) ?_)
      rw [← Hw2.out, ← Hbm.out, ← Hbn.out]
      obtain ⟨v3, Hv3⟩ : ∃ v, Hid (v = Value.slice none 0 0) := ⟨_, Lib.hid rfl⟩
      rw [← Hv3.out]
      go_wp2_with (refine wpList_app1 w2 rfl _ _ rfl w2.heap.size v3 [] _ 77 rfl rfl (by rw [Hv3.out]; exact RowO.nil) rfl (by simp) (Nat.le_refl _) ?_; intro g cap w' h1 h2 h3; refine hold ?_)
      refine Hold.mk ?_
      have HQ := Lib.hid (FIN.out w' g cap (by simpa using h1) h2 h3)
      clear h1 h2 h3 s0 s1 s2 s3
      go_upto_region 4 with fail
      have HS := HC.out w'.drew HQ.out.2.2
      have hcap : 0 + 1 ≤ cap := by have := HQ.out.1.1; simp at this; have := Hl1.out; omega
      have hcap2 : 0 ≤ cap := by omega
      refine wp_region_pi (fun w' => w'.cell? ⟨bn, 0, none⟩ = some (.bool g1) ∧ w'.cell? ⟨bn, 1, none⟩ = some (.slice (some ad) 0 cap1) ∧ w'.cell? ⟨bm, 0, none⟩ = some (.bool false) ∧ w'.cell? ⟨bm, 1, none⟩ = some (.slice none 0 0)) [(0, 1), (1, 0), (2, 1), (3, 1), (4, 0), (5, 1), (6, 1), (7, 1), (8, 3)] [(8, [1]), (8, [4])] (by kernel_rfl) (by kernel_rfl) (fun _ _ _ _ _ h => h) (HS) ?_
      refine pd_pu (some 11) rfl rfl (by rfl) (fun ws => by go_simp; try with_reducible rfl) ?_; go_frame   -- 0 Op.fieldAddr 25 (Operand.tmp 1) 0
      refine pd_ld (some 12) rfl rfl (by rfl) (fun ws HS => by go_split_ands; go_simp; try with_reducible rfl) ?_; go_frame   -- 1 Op.load 4 (Operand.tmp 11)
      refine pd_pu (some 13) rfl rfl (by rfl) (fun ws => by go_simp; try with_reducible rfl) ?_; go_frame   -- 2 Op.move (Operand.tmp 3)
      refine pd_pu (some 14) rfl rfl (by rfl) (fun ws => by go_simp; try with_reducible rfl) ?_; go_frame   -- 3 Op.fieldAddr 25 (Operand.tmp 1) 1
      refine pd_ld (some 15) rfl rfl (by rfl) (fun ws HS => by go_split_ands; go_simp; try with_reducible rfl) ?_; go_frame   -- 4 Op.load 23 (Operand.tmp 14)
      refine pd_pu (some 16) rfl rfl (by rfl) (fun ws => by go_simp; try with_reducible rfl) ?_; go_frame   -- 5 Op.call { callee := Callee.builtin Builtin.len, args := #[Operand.tmp 15], argTypes := #[23] }
      refine pd_pu (some 17) rfl rfl (by rfl) (fun ws => by go_simp; try with_reducible rfl) ?_; go_frame   -- 6 Op.slice 23 (Operand.tmp 13) none (some (Operand.tmp 16)) none
      refine pd_pu (some 18) rfl rfl (by rfl) (fun ws => by go_simp; try with_reducible rfl) ?_; go_frame   -- 7 Op.build 25 #[(0, Operand.tmp 12), (1, Operand.tmp 17)]
      refine pi_tail (by rfl) ?_; simp only [opsAt, List.getElem?_toArray, List.getElem?_cons_zero, List.getElem?_cons_succ]   -- [(8, 'Op.store 25 (Operand.tmp 2) (Operand.tmp 18)')]
      obtain ⟨wq, Hwq⟩ : ∃ wq, Hid (wq = w'.drew) := ⟨_, Lib.hid rfl⟩
      rw [← Hwq.out] at HQ ⊢
      clear HS
      obtain ⟨⟨r0, r1⟩, f0, f1⟩ := box_cells ((HQ.out.2.2.block bm (by have := Hs2.out; omega)).trans HB.out.2)
      have HE := Lib.hid (END.out _ g cap HQ.out)
      go_wp2_with fail
      obtain ⟨⟨e1, e2⟩, e3, e4⟩ := HE.out
      refine bodyPost_ret (results_cell_row rfl _ _ bm 25 #[.bool g1, .slice (some ⟨g, 0, none⟩) 0 cap] (0, 0) _ rfl e3 Tryd.underlying25 rfl (by kernel_rfl)) rfl ?_
      exact ⟨⟨_, _, rfl, e1, e2⟩, e4⟩
    · have HT := Lib.hid (show ∀ (wx : World) (g cap : Nat), RowW wx g cap ([] ++ z1) → w2.heap.size ≤ g → Below w2.heap.size w2 wx → RowO wx w2.heap.size (.slice (some ⟨g, 0, none⟩) n1 cap) z1 ∧ w2.heap.size ≤ wx.heap.size from fun wx g cap h1 h2 h3 => ⟨.inr ⟨g, cap, by rw [Hl1.out], h2, by simpa using h1⟩, h3.size⟩)
      have hpos : 0 < n1 := by omega
      clear h0
      go_enter Tryd.func37, Tryd.ntmps37
      go_wp2_with (rw [← Hw2.out]; rw [← Hbm.out]; rw [← Hbn.out]; refine wpList_appN _ rfl _ _ rfl w2.heap.size (.slice none 0 0) [] ad n1 cap1 z1 rfl rfl RowO.nil HW.out (by omega) (by simp; omega) (Nat.le_refl _) ?_; intro g0 cap0 w0 k1 k2 k3; refine hold ?_)
      refine Hold.mk ?_
      have HT1 := Lib.hid (HT.out w0 g0 cap0 k1 k2 k3)
      have HT2 := Lib.hid k3
      have e0 : (0 : Nat) + n1 = n1 := Nat.zero_add _
      clear k1 k2 k3 s0 s1 s2 s3
      go_wp2_with (refine wpList_app1 w0 rfl _ _ rfl w2.heap.size (.slice (some ⟨g0, 0, none⟩) n1 cap0) z1 _ 77 (by first | rfl | simp) rfl HT1.out.1 rfl (by rw [Hl1.out]; omega) HT1.out.2 ?_; intro g cap w' h1 h2 h3; rw [Hl1.out]; replace h3 := HT2.out.trans h3; refine hold ?_)
      refine Hold.mk ?_
      have HQ := Lib.hid (FIN.out w' g cap h1 h2 h3)
      clear h1 h2 h3
      go_upto_region 4 with fail
      have HS := HC.out w'.drew HQ.out.2.2
      have hcap : n1 + 1 ≤ cap := by have := HQ.out.1.1; simp at this; have := Hl1.out; omega
      have hcap2 : n1 ≤ cap := by omega
      refine wp_region_pi (fun w' => w'.cell? ⟨bn, 0, none⟩ = some (.bool g1) ∧ w'.cell? ⟨bn, 1, none⟩ = some (.slice (some ad) n1 cap1) ∧ w'.cell? ⟨bm, 0, none⟩ = some (.bool false) ∧ w'.cell? ⟨bm, 1, none⟩ = some (.slice none 0 0)) [(0, 1), (1, 0), (2, 1), (3, 1), (4, 0), (5, 1), (6, 1), (7, 1), (8, 3)] [(8, [1]), (8, [4])] (by kernel_rfl) (by kernel_rfl) (fun _ _ _ _ _ h => h) (HS) ?_
      refine pd_pu (some 11) rfl rfl (by rfl) (fun ws => by go_simp; try with_reducible rfl) ?_; go_frame   -- 0 Op.fieldAddr 25 (Operand.tmp 1) 0
      refine pd_ld (some 12) rfl rfl (by rfl) (fun ws HS => by go_split_ands; go_simp; try with_reducible rfl) ?_; go_frame   -- 1 Op.load 4 (Operand.tmp 11)
      refine pd_pu (some 13) rfl rfl (by rfl) (fun ws => by go_simp; try with_reducible rfl) ?_; go_frame   -- 2 Op.move (Operand.tmp 3)
      refine pd_pu (some 14) rfl rfl (by rfl) (fun ws => by go_simp; try with_reducible rfl) ?_; go_frame   -- 3 Op.fieldAddr 25 (Operand.tmp 1) 1
      refine pd_ld (some 15) rfl rfl (by rfl) (fun ws HS => by go_split_ands; go_simp; try with_reducible rfl) ?_; go_frame   -- 4 Op.load 23 (Operand.tmp 14)
      refine pd_pu (some 16) rfl rfl (by rfl) (fun ws => by go_simp; try with_reducible rfl) ?_; go_frame   -- 5 Op.call { callee := Callee.builtin Builtin.len, args := #[Operand.tmp 15], argTypes := #[23] }
      refine pd_pu (some 17) rfl rfl (by rfl) (fun ws => by go_simp; try with_reducible rfl) ?_; go_frame   -- 6 Op.slice 23 (Operand.tmp 13) none (some (Operand.tmp 16)) none
      refine pd_pu (some 18) rfl rfl (by rfl) (fun ws => by go_simp; try with_reducible rfl) ?_; go_frame   -- 7 Op.build 25 #[(0, Operand.tmp 12), (1, Operand.tmp 17)]
      refine pi_tail (by rfl) ?_; simp only [opsAt, List.getElem?_toArray, List.getElem?_cons_zero, List.getElem?_cons_succ]   -- [(8, 'Op.store 25 (Operand.tmp 2) (Operand.tmp 18)')]
      obtain ⟨wq, Hwq⟩ : ∃ wq, Hid (wq = w'.drew) := ⟨_, Lib.hid rfl⟩
      rw [← Hwq.out] at HQ ⊢
      clear HS
      obtain ⟨⟨r0, r1⟩, f0, f1⟩ := box_cells ((HQ.out.2.2.block bm (by have := Hs2.out; omega)).trans HB.out.2)
      have HE := Lib.hid (END.out _ g cap HQ.out)
      go_wp2_with fail
      obtain ⟨⟨e1, e2⟩, e3, e4⟩ := HE.out
      refine bodyPost_ret (results_cell_row rfl _ _ bm 25 #[.bool g1, .slice (some ⟨g, 0, none⟩) n1 cap] (0, 0) _ rfl e3 Tryd.underlying25 rfl (by kernel_rfl)) rfl ?_
      exact ⟨⟨_, _, rfl, e1, e2⟩, e4⟩
end Go.Proofs.YtcnakbhogmnddaaDoor
