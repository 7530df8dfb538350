/- slices.Clone of words; exact.Neg. No condition. -/
import Derived.Test.YtahgbbnpbhfaeaaDoorJ3
namespace Go.Proofs.YtahgbbnpbhfaeaaDoor
open Go.RowKit

theorem valI_neg (neg : Bool) (z : List Nat) : valI (!neg) z = -valI neg z := by unfold valI; cases neg <;> simp
theorem valI_abs (neg : Bool) (z : List Nat) : (valI neg z).natAbs = ofW z := by unfold valI; cases neg <;> simp
theorem canW_le {n k : Nat} (h : n < 4294967296 ^ k) : (canW n).length ≤ k := by
  by_cases h0 : canW n = []
  · rw [h0]; exact Nat.zero_le _
  · have h1 := trim_top (can_trim n) h0
    rw [(canW_words n).2] at h1
    have := (Nat.pow_lt_pow_iff_right (show 1 < 4294967296 by decide)).1 (Nat.lt_of_le_of_lt h1 h)
    omega
/-- Clone's row. -/
theorem cloneW_any (a : Option Addr) (n cap : Nat) (z : List Nat) (w : World) (h : WordsAt w a n z) (hn : n ≤ 1000000) (_hc : n ≤ cap) :
    Calls Tryd.prog 48 #[.slice a n cap] w fun e w' => ∃ v, e = .returned v ∧ RowO w' w.heap.size v z ∧ Below w.heap.size w w' := by
  have q := fun (w : World) (a : Option Addr) (n c : Nat) => Lib.run_eql_slice_nil (P := Tryd.prog) w 22 68 a n c 0 0 Tryd.underlying22
  have HZ := Lib.hid h
  clear h
  cases a with
  | none =>
    have h0 : n = 0 := by
      cases n with
      | zero => rfl
      | succ n =>
        obtain ⟨x, e, _⟩ := HZ.out.2.2 0 (by omega)
        cases e
    subst h0
    go_enter Tryd.func48, Tryd.ntmps48
    go_wp2
    go_ret
    rw [List.length_eq_zero_iff.1 HZ.out.1]
    exact ⟨_, rfl, RowO.nil, Below.refl _ _⟩
  | some ad =>
    have hb1 := (Below.refl w.heap.size w).alloc (Nat.le_refl _) (.cells #[] 68)
    have hrow : RowW (w.alloc (.cells #[] 68)) w.heap.size 0 [] := ⟨Nat.le_refl _, Nat.zero_le _, #[], heap_alloc_new w _, rfl, rfl⟩
    have HX := Lib.hid (And.intro hb1 hrow)
    clear hb1 hrow
    by_cases h0 : n = 0
    · subst h0
      go_enter Tryd.func48, Tryd.ntmps48
      go_wp2_with (refine wpList_appE _ rfl _ _ rfl _ 0 0 _ _ rfl rfl (by omega) ?_)
      go_ret
      refine ⟨_, rfl, ?_, HX.out.1⟩
      rw [List.length_eq_zero_iff.1 HZ.out.1]
      exact .inr ⟨w.heap.size, 0, rfl, Nat.le_refl _, HX.out.2⟩
    · have HY := Lib.hid (HZ.out.below HX.out.1)
      go_enter Tryd.func48, Tryd.ntmps48
      go_wp2_with (refine wpList_appN _ rfl _ _ rfl w.heap.size (.slice (some ⟨w.heap.size, 0, none⟩) 0 0) [] ad n cap z rfl rfl (.inr ⟨w.heap.size, 0, rfl, Nat.le_refl _, HX.out.2⟩) HY.out (by omega) (by simp; omega) (by simp) ?_; intro g c w' h1 h2 h3; have HQ := Lib.hid (And.intro h1 (And.intro h2 h3)); clear h1 h2 h3)
      go_ret
      obtain ⟨h1, h2, h3⟩ := HQ.out
      refine ⟨_, rfl, .inr ⟨g, c, ?_, h2, h1⟩, HX.out.1.trans h3⟩
      rw [HZ.out.1]
      simp

/-- A number put into a box. -/
theorem IntC.store {w : World} {bo n cap : Nat} {a : Option Addr} {b : Bool} {i : Int} {t : TypeId} (h : IntC w (.agg #[.bool b, .slice a n cap]) i) (q : w.heap[bo]? = some (.cells #[.bool false, .slice none 0 0] t (0, 0))) :
    IntC ((w.setCell ⟨bo, 0, none⟩ (.bool b)).setCell ⟨bo, 1, none⟩ (.slice a n cap)) (.agg #[.bool b, .slice a n cap]) i ∧ ((w.setCell ⟨bo, 0, none⟩ (.bool b)).setCell ⟨bo, 1, none⟩ (.slice a n cap)).heap[bo]? = some (.cells #[.bool b, .slice a n cap] t (0, 0)) := by
  obtain ⟨a', n', cap', e, hw, hc, hn⟩ := h
  refine ⟨⟨a', n', cap', e, hw.box q _ _, hc, hn⟩, (setCell_same2 (setCell_same2 q _) _).trans rfl⟩
theorem IntC.agg {w : World} {v : Value} {i : Int} (h : IntC w v i) : ∃ b a n cap, v = .agg #[.bool b, .slice a n cap] := by
  obtain ⟨a, n, cap, e, _⟩ := h
  exact ⟨_, _, _, _, e⟩
theorem box_cells {w : World} {bo : Nat} {x : Bool} {s : Value} {t : TypeId} (q : w.heap[bo]? = some (.cells #[.bool x, s] t (0, 0))) : (w.cell? ⟨bo, 0, none⟩ = some (.bool x) ∧ w.cell? ⟨bo, 1, none⟩ = some s) ∧ w.frozen? ⟨bo, 0, none⟩ = false ∧ w.frozen? ⟨bo, 1, none⟩ = false := by
  refine ⟨⟨?_, ?_⟩, ?_, ?_⟩
  · simp only [World.cell?, q]; rfl
  · simp only [World.cell?, q]; rfl
  · simp only [World.frozen?, q]; simp
  · simp only [World.frozen?, q]; simp

set_option maxRecDepth 100000 in
set_option maxHeartbeats 1600000 in
theorem neg_any (v1 : Value) (g1 : Bool) (z1 : List Nat) (w : World) (h1 : IntV w v1 g1 z1) :
    Calls Tryd.prog 25 #[v1] w fun e w' => ∃ v, e = .returned v ∧ IntC w' v (-valI g1 z1) ∧ Below w.heap.size w w' := by
  obtain ⟨a1, n1, cap1, rfl, hw1, hc1, hn1⟩ := id h1
  obtain ⟨w2, Hw2⟩ : ∃ w2, Hid (w2 = (w.alloc (.cells #[.bool g1, .slice a1 n1 cap1] 24)).alloc (.cells #[.bool false, .slice none 0 0] 24)) := ⟨_, Lib.hid rfl⟩
  obtain ⟨bn, Hbn⟩ : ∃ b, Hid (b = w.heap.size) := ⟨_, Lib.hid rfl⟩
  obtain ⟨bm, Hbm⟩ : ∃ b, Hid (b = w.heap.size + 1) := ⟨_, Lib.hid rfl⟩
  have hB : Below w.heap.size w w2 := by
    rw [Hw2.out]
    exact ((Below.refl _ w).alloc (Nat.le_refl _) _).alloc (by simp) _
  have HC := Lib.hid (box2 w g1 false (.slice a1 n1 cap1) (.slice none 0 0))
  rw [← Hw2.out, ← Hbm.out, ← Hbn.out] at HC
  have q2 : w2.heap[bm]? = some (.cells #[.bool false, .slice none 0 0] 24 (0, 0)) := by
    have := heap_alloc_new (w.alloc (.cells #[.bool g1, .slice a1 n1 cap1] 24)) (.cells #[.bool false, .slice none 0 0] 24)
    rw [World.size_alloc] at this
    rw [Hw2.out, Hbm.out]
    exact this
  have HB := Lib.hid (And.intro hB q2)
  have K1 := Lib.hid (cloneW_any a1 n1 cap1 z1 w2.drew (hw1.below (hB.trans (Below.refl _ w2).drew)) hn1 hc1)
  have HW := Lib.hid hw1
  clear h1 hw1 hB q2
  go_enter Tryd.func25, Tryd.ntmps25
  go_upto_region 1 with fail
  rw [← Hw2.out]
  try rw [← Hbm.out]
  try rw [← Hbn.out]
  have hD := Lib.hid (Below.refl w2.heap.size w2).drew
  have HS := HC.out w2.drew hD.out
  refine wp_region_pi (fun w' => w'.cell? ⟨bn, 0, none⟩ = some (.bool g1) ∧ w'.cell? ⟨bn, 1, none⟩ = some (.slice a1 n1 cap1) ∧ w'.cell? ⟨bm, 0, none⟩ = some (.bool false) ∧ w'.cell? ⟨bm, 1, none⟩ = some (.slice none 0 0)) [(0, 1), (1, 0), (2, 1), (3, 1), (4, 0), (5, 2), (6, 3), (7, 3)] [(6, [2, 1]), (6, [5, 4]), (7, [1]), (7, [4])] (by kernel_rfl) (by kernel_rfl) (fun _ _ _ _ _ h => h) (HS) ?_
  refine pd_pu (some 3) rfl rfl (by rfl) (fun ws => by go_simp; try with_reducible rfl) ?_; go_frame   -- 0 Op.fieldAddr 24 (Operand.tmp 1) 0
  refine pd_ld (some 4) rfl rfl (by rfl) (fun ws HS => by go_split_ands; go_simp; try with_reducible rfl) ?_; go_frame   -- 1 Op.load 4 (Operand.tmp 3)
  refine pd_pu (some 5) rfl rfl (by rfl) (fun ws => by go_simp; try with_reducible rfl) ?_; go_frame   -- 2 Op.unOp UnOp.not 4 (Operand.tmp 4)
  refine pd_pu (some 6) rfl rfl (by rfl) (fun ws => by go_simp; try with_reducible rfl) ?_; go_frame   -- 3 Op.fieldAddr 24 (Operand.tmp 1) 1
  refine pd_ld (some 7) rfl rfl (by rfl) (fun ws HS => by go_split_ands; go_simp; try with_reducible rfl) ?_; go_frame   -- 4 Op.load 22 (Operand.tmp 6)
  refine pi_ke rfl (fun J hJ => ?_)   -- pi_ke 5 Op.call { callee := Callee.value (Operand.func 48), args := #[Operand.tmp 7], argTypes := #[22] }
  go_wp2_with (go_at_call 48; refine K1.out.mono ?_; rintro e w3 ⟨v, rfl, hr, hb⟩; have hE := Lib.hid (And.intro (hD.out.trans (Below.mono hb hD.out.size)) hr); clear hb hr)
  refine hJ _ _ (HC.out w3 hE.out.1) ?_
  obtain ⟨a3, n3, rfl⟩ : ∃ a c, v = .slice a n1 c := by
    obtain ⟨a, c, e, _⟩ := hE.out.2.shape
    have hl := HW.out.1
    exact ⟨a, c, by rw [e, hl]⟩
  have K2 := Lib.hid (form_any (!g1) a3 n1 n3 z1 w3 (hE.out.2.wordsAt HW.out.2.1) hn1 (by
    obtain ⟨a, c, e, h, _⟩ := hE.out.2.shape
    cases e
    have hl := HW.out.1
    omega))
  refine pi_tail (by rfl) ?_; simp only [opsAt, List.getElem?_toArray, List.getElem?_cons_zero, List.getElem?_cons_succ]   -- [(6, 'Op.call { callee := Callee.value (Operand.func 47), args := #[Operand.tmp 5, Operand.tmp 8], argTypes := #[4, 22] }'), (7, 'Op.store 24 (Operand.tmp 2) (Operand.tmp 9)')]
  go_wp2_with (go_at_call 47; refine hold ?_)
  refine Hold.mk ?_
  refine K2.out.mono ?_
  rintro e w4 ⟨v4, rfl, hv, hb⟩
  obtain ⟨b4, a4, n4, c4, rfl⟩ := hv.agg
  have hF := hE.out.1.trans (Below.mono hb hE.out.1.size)
  have q4 := (hF.block bm (Array.getElem?_eq_some_iff.1 HB.out.2).1).trans HB.out.2
  obtain ⟨⟨r0, r1⟩, f0, f1⟩ := box_cells q4
  have HX := Lib.hid (And.intro q4 (And.intro hv (HB.out.1.trans (Below.mono hF HB.out.1.size))))
  clear q4 hv hF hb
  go_wp2_with fail
  obtain ⟨q4, hv, hb⟩ := HX.out
  obtain ⟨h5, h6⟩ := hv.store q4
  refine bodyPost_ret (results_cell_row rfl _ _ bm 24 #[.bool b4, .slice a4 n4 c4] (0, 0) _ rfl h6 Tryd.underlying24 rfl (by kernel_rfl)) rfl ?_
  rw [← valI_neg]
  exact ⟨_, rfl, h5, (hb.setCell (by have := Hbm.out; simp only; omega) _).setCell (by have := Hbm.out; simp only; omega) _⟩
end Go.Proofs.YtahgbbnpbhfaeaaDoor
