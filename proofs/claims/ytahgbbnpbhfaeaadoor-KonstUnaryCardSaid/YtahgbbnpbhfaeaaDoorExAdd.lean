/- exact.Add. No condition. -/
import Derived.Test.YtahgbbnpbhfaeaaDoorExNeg
namespace Go.Proofs.YtahgbbnpbhfaeaaDoor
open Go.RowKit

/-- A number told, or that it is large. -/
def AnsB (w' : World) (e : Ending) (bad : Bool) (i : Int) : Prop := ∃ v, e = .returned (.tuple #[v, .int .i64 (if bad then 2 else 0)]) ∧ IntC w' v (if bad then 0 else i)
def big (i : Int) : Bool := decide (2 ^ 512 ≤ i.natAbs)
theorem if_big {α : Type} (i : Int) (a b : α) : (if 2 ^ 512 ≤ i.natAbs then a else b) = if big i then a else b := by
  unfold big
  by_cases h : 2 ^ 512 ≤ i.natAbs
  · rw [if_pos h, if_pos (decide_eq_true h)]
  · rw [if_neg h, if_neg (by rw [decide_eq_false h]; exact Bool.false_ne_true)]
/-- Two boxes with numbers, and one for the answer. -/
def three (w : World) (n1 n2 : Bool) (s1 s2 : Value) : World := ((w.alloc (.cells #[.bool n1, s1] 24)).alloc (.cells #[.bool n2, s2] 24)).alloc (.cells #[.bool false, .slice none 0 0] 24)
theorem box3 (w : World) (n1 n2 : Bool) (s1 s2 : Value) : Below w.heap.size w (three w n1 n2 s1 s2) ∧ ∀ wx : World, Below (three w n1 n2 s1 s2).heap.size (three w n1 n2 s1 s2) wx →
    (wx.cell? ⟨w.heap.size, 0, none⟩ = some (.bool n1) ∧ wx.cell? ⟨w.heap.size, 1, none⟩ = some s1 ∧ wx.cell? ⟨w.heap.size + 1, 0, none⟩ = some (.bool n2) ∧ wx.cell? ⟨w.heap.size + 1, 1, none⟩ = some s2) ∧ wx.heap[w.heap.size + 2]? = some (.cells #[.bool false, .slice none 0 0] 24 (0, 0)) := by
  unfold three
  have hb2 := ((Below.refl w.heap.size w).alloc (Nat.le_refl _) (.cells #[.bool n1, s1] 24)).alloc (by simp) (.cells #[.bool n2, s2] 24)
  refine ⟨hb2.alloc (by simp; omega) _, fun wx hx => ?_⟩
  have hb3 : Below ((w.alloc (.cells #[.bool n1, s1] 24)).alloc (.cells #[.bool n2, s2] 24)).heap.size ((w.alloc (.cells #[.bool n1, s1] 24)).alloc (.cells #[.bool n2, s2] 24)) wx :=
    ((Below.refl _ _).alloc (Nat.le_refl _) _).trans (Below.mono hx (by simp))
  refine ⟨box2 w n1 n2 s1 s2 wx hb3, ?_⟩
  refine (hx.block _ (by simp)).trans ?_
  have := heap_alloc_new ((w.alloc (.cells #[.bool n1, s1] 24)).alloc (.cells #[.bool n2, s2] 24)) (.cells #[.bool false, .slice none 0 0] 24)
  rw [World.size_alloc, World.size_alloc] at this
  exact this

set_option maxRecDepth 100000 in
set_option maxHeartbeats 3200000 in
theorem add_any (v1 v2 : Value) (g1 g2 : Bool) (z1 z2 : List Nat) (w : World) (h1 : IntV w v1 g1 z1) (h2 : IntV w v2 g2 z2) :
    Calls Tryd.prog 64 #[v1, v2] w fun e w' => AnsB w' e (big (valI g1 z1) || big (valI g2 z2) || big (valI g1 z1 + valI g2 z2)) (valI g1 z1 + valI g2 z2) ∧ Below w.heap.size w w' := by
  obtain ⟨a1, n1, cap1, rfl, hw1, hc1, hn1⟩ := id h1
  obtain ⟨a2, n2, cap2, rfl, hw2, hc2, hn2⟩ := id h2
  obtain ⟨w2, Hw2⟩ : ∃ w2, Hid (w2 = ((w.alloc (.cells #[.bool g1, .slice a1 n1 cap1] 24)).alloc (.cells #[.bool g2, .slice a2 n2 cap2] 24)).alloc (.cells #[.bool false, .slice none 0 0] 24)) := ⟨_, Lib.hid rfl⟩
  obtain ⟨bn, Hbn⟩ : ∃ b, Hid (b = w.heap.size) := ⟨_, Lib.hid rfl⟩
  obtain ⟨bm, Hbm⟩ : ∃ b, Hid (b = w.heap.size + 1) := ⟨_, Lib.hid rfl⟩
  obtain ⟨bo, Hbo⟩ : ∃ b, Hid (b = w.heap.size + 2) := ⟨_, Lib.hid rfl⟩
  have HC := Lib.hid (box3 w g1 g2 (.slice a1 n1 cap1) (.slice a2 n2 cap2))
  unfold three at HC
  rw [← Hw2.out, ← Hbm.out, ← Hbo.out] at HC
  have HB := Lib.hid HC.out.1
  rw [← Hbn.out] at HC
  have hB := HB.out
  have L1 := Lib.hid (fun wx (hx : Below w2.heap.size w2 wx) => large_any (.agg #[.bool g1, .slice a1 n1 cap1]) g1 z1 wx ((h1.below hB).below hx))
  have L2 := Lib.hid (fun wx (hx : Below w2.heap.size w2 wx) => large_any (.agg #[.bool g2, .slice a2 n2 cap2]) g2 z2 wx ((h2.below hB).below hx))
  have K1 := Lib.hid (fun wx (hx : Below w2.heap.size w2 wx) => negative_any (.agg #[.bool g1, .slice a1 n1 cap1]) g1 z1 wx ((h1.below hB).below hx))
  have K2 := Lib.hid (fun wx (hx : Below w2.heap.size w2 wx) => negative_any (.agg #[.bool g2, .slice a2 n2 cap2]) g2 z2 wx ((h2.below hB).below hx))
  have K3 := Lib.hid (fun wx (hx : Below w2.heap.size w2 wx) => sizes_any a1 a2 n1 n2 cap1 cap2 z1 z2 wx ((hw1.below hB).below hx) ((hw2.below hB).below hx) hn1 hn2 hc1 hc2)
  have K4 := Lib.hid (fun wx (hx : Below w2.heap.size w2 wx) => plus_any a1 a2 n1 n2 cap1 cap2 z1 z2 wx ((hw1.below hB).below hx) ((hw2.below hB).below hx) hn1 hn2)
  have K5 := Lib.hid (fun wx (hx : Below w2.heap.size w2 wx) => minus_any a1 a2 n1 n2 cap1 cap2 z1 z2 wx ((hw1.below hB).below hx) ((hw2.below hB).below hx) hn1 hn2 hc1 hc2)
  have K6 := Lib.hid (fun wx (hx : Below w2.heap.size w2 wx) => minus_any a2 a1 n2 n1 cap2 cap1 z2 z1 wx ((hw2.below hB).below hx) ((hw1.below hB).below hx) hn2 hn1 hc2 hc1)
  have HL := Lib.hid (show big (valI g1 z1) = decide (2 ^ 512 ≤ ofW z1) ∧ big (valI g2 z2) = decide (2 ^ 512 ≤ ofW z2) from by unfold big; rw [valI_abs, valI_abs]; exact ⟨rfl, rfl⟩)
  have HV := Lib.hid (show (valI g1 z1 < 0 → valI g1 z1 = -(ofW z1 : Int)) ∧ (valI g2 z2 < 0 → valI g2 z2 = -(ofW z2 : Int)) ∧ (¬ valI g1 z1 < 0 → valI g1 z1 = ofW z1) ∧ (¬ valI g2 z2 < 0 → valI g2 z2 = ofW z2) from by
    unfold valI
    cases g1 <;> cases g2 <;> simp <;> omega)
  obtain ⟨x, Hx⟩ : ∃ x, Hid (valI g1 z1 = x) := ⟨_, Lib.hid rfl⟩
  obtain ⟨y, Hy⟩ : ∃ y, Hid (valI g2 z2 = y) := ⟨_, Lib.hid rfl⟩
  rw [Hx.out] at K1 HL HV ⊢
  rw [Hy.out] at K2 HL HV ⊢
  simp only [← HL.out.1] at L1
  simp only [← HL.out.2] at L2
  obtain ⟨bx, Hbx⟩ : ∃ b, Hid (decide (x < 0) = b) := ⟨_, Lib.hid rfl⟩
  obtain ⟨by', Hby⟩ : ∃ b, Hid (decide (y < 0) = b) := ⟨_, Lib.hid rfl⟩
  simp only [Hbx.out] at K1
  simp only [Hby.out] at K2
  obtain ⟨lx, Hlx⟩ : ∃ b, Hid (big x = b) := ⟨_, Lib.hid rfl⟩
  obtain ⟨ly, Hly⟩ : ∃ b, Hid (big y = b) := ⟨_, Lib.hid rfl⟩
  rw [Hlx.out] at HL ⊢
  rw [Hly.out] at HL ⊢
  simp only [Hlx.out] at L1
  simp only [Hly.out] at L2
  clear h1 h2 hw1 hw2 hB
  have FIN := Lib.hid (show ∀ (wx : World) (b : Bool) (a : Option Addr) (n c : Nat) (i : Int), Below w2.heap.size w2 wx → IntC wx (.agg #[.bool b, .slice a n c]) i →
      (IntC ((wx.setCell ⟨bo, 0, none⟩ (.bool b)).setCell ⟨bo, 1, none⟩ (.slice a n c)) (.agg #[.bool b, .slice a n c]) i ∧ ((wx.setCell ⟨bo, 0, none⟩ (.bool b)).setCell ⟨bo, 1, none⟩ (.slice a n c)).heap[bo]? = some (.cells #[.bool b, .slice a n c] 24 (0, 0))) ∧
      Below w.heap.size w ((wx.setCell ⟨bo, 0, none⟩ (.bool b)).setCell ⟨bo, 1, none⟩ (.slice a n c)) from fun wx b a n c i hx hi =>
    ⟨hi.store ((HC.out.2 wx hx).2), ((HB.out.trans (Below.mono hx HB.out.size)).setCell (by have := Hbo.out; simp only; omega) _).setCell (by have := Hbo.out; simp only; omega) _⟩)
  have Hbo2 := Lib.hid (show bo = bm + 1 from by have := Hbo.out; have := Hbm.out; omega)
  have hD := Lib.hid (Below.refl w2.heap.size w2)
  obtain ⟨⟨s0, s1, s2, s3⟩, sq⟩ := HC.out.2 w2 hD.out
  obtain ⟨⟨r0, r1⟩, f0, f1⟩ := box_cells sq
  clear sq
  go_enter Tryd.func64, Tryd.ntmps64
  go_wp2_with (go_at_call 78; refine hold ?_)
  rw [← Hw2.out]
  try rw [← Hbm.out]
  try rw [← Hbn.out]
  rw [← Hbo2.out]
  refine Hold.mk ?_
  refine (L1.out w2 hD.out).mono ?_
  rintro e w3 ⟨rfl, hb⟩
  have hE := Lib.hid hb
  clear s0 s1 s2 s3 r0 r1 f0 f1 hb
  obtain ⟨⟨s0, s1, s2, s3⟩, sq⟩ := HC.out.2 w3 hE.out
  obtain ⟨⟨r0, r1⟩, f0, f1⟩ := box_cells sq
  clear sq
  cases lx with
  | true =>
    go_wp2_with fail
    obtain ⟨⟨h1, h2⟩, h3⟩ := FIN.out w3 false none 0 0 0 hE.out (intC_zero _)
    refine bodyPost_ret (results_cell_pair rfl _ _ bo 24 (.bool false) (.slice none 0 0) (0, 0) rfl h2) rfl ?_
    exact ⟨⟨_, rfl, by simpa using h1⟩, h3⟩
  | false =>
    go_wp2_with (go_at_call 78; refine hold ?_)
    refine Hold.mk ?_
    refine (L2.out w3 hE.out).mono ?_
    rintro e w4 ⟨rfl, hb⟩
    have hF := Lib.hid (hE.out.trans (Below.mono hb hE.out.size))
    clear s0 s1 s2 s3 r0 r1 f0 f1 hb
    obtain ⟨⟨s0, s1, s2, s3⟩, sq⟩ := HC.out.2 w4 hF.out
    obtain ⟨⟨r0, r1⟩, f0, f1⟩ := box_cells sq
    clear sq
    cases ly with
    | true =>
      go_wp2_with fail
      obtain ⟨⟨h1, h2⟩, h3⟩ := FIN.out w4 false none 0 0 0 hF.out (intC_zero _)
      refine bodyPost_ret (results_cell_pair rfl _ _ bo 24 (.bool false) (.slice none 0 0) (0, 0) rfl h2) rfl ?_
      exact ⟨⟨_, rfl, by simpa using h1⟩, h3⟩
    | false =>
      have HS2 := Lib.hid (show ofW z1 < 2 ^ 512 ∧ ofW z2 < 2 ^ 512 from by
        have h1 := of_decide_eq_false HL.out.1.symm
        have h2 := of_decide_eq_false HL.out.2.symm
        omega)
      go_upto_region 3 with fail
      have hG := Lib.hid (show Below w2.heap.size w2 w4.drew from hF.out.trans (Below.mono (Below.refl _ w4).drew hF.out.size))
      clear s0 s1 s2 s3 r0 r1 f0 f1
      have HS := (HC.out.2 w4.drew hG.out).1
      refine wp_region_pi (fun w' => w'.cell? ⟨bn, 0, none⟩ = some (.bool g1) ∧ w'.cell? ⟨bn, 1, none⟩ = some (.slice a1 n1 cap1) ∧ w'.cell? ⟨bm, 0, none⟩ = some (.bool g2) ∧ w'.cell? ⟨bm, 1, none⟩ = some (.slice a2 n2 cap2)) [(0, 0), (2, 0), (1, 2), (3, 3), (4, 3), (5, 3)] [(3, [1, 0]), (3, [2]), (4, [0]), (4, [3, 2]), (5, [0]), (5, [2])] (by kernel_rfl) (by kernel_rfl) (fun _ _ _ _ _ h => h) (HS) ?_
      refine pd_ld (some 15) rfl rfl (by rfl) (fun ws HS => by go_split_ands; go_simp; try with_reducible rfl) ?_; go_frame   -- 0 Op.load 24 (Operand.tmp 2)
      refine pd_ld (some 17) rfl rfl (by rfl) (fun ws HS => by go_split_ands; go_simp; try with_reducible rfl) ?_; go_frame   -- 2 Op.load 24 (Operand.tmp 3)
      refine pi_ke rfl (fun J hJ => ?_)   -- pi_ke 1 Op.call { callee := Callee.value (Operand.func 68), args := #[Operand.tmp 15], argTypes := #[24] }
      go_wp2_with (go_at_call 68; refine (K1.out w4.drew hG.out).mono ?_; rintro e w5 ⟨rfl, hb⟩; have hH := Lib.hid (hG.out.trans (Below.mono hb hG.out.size)); clear hb)
      refine hJ _ _ (HC.out.2 w5 hH.out).1 ?_
      refine pi_tail (by rfl) ?_; simp only [opsAt, List.getElem?_toArray, List.getElem?_cons_zero, List.getElem?_cons_succ]   -- [(3, 'Op.call { callee := Callee.value (Operand.func 68), args := #[Operand.tmp 17], argTypes := #[24] }'), (4, 'Op.assign (Operand.tmp 16)'), (5, 'Op.assign (Operand.tmp 18)')]
      go_upto_region 4 with (go_at_call 68; refine (K2.out w5 hH.out).mono ?_; rintro e w6 ⟨rfl, hb⟩; have hI := Lib.hid (hH.out.trans (Below.mono hb hH.out.size)); clear hb)
      obtain ⟨⟨s0, s1, s2, s3⟩, sq⟩ := HC.out.2 w6 hI.out
      clear sq
      by_cases hxy : bx = by'
      · subst hxy
        have hq : (bx == bx) = true := by simp
        go_wp2_with (go_at_call 80; refine hold ?_)
        refine Hold.mk ?_
        refine (K4.out w6 hI.out).mono ?_
        rintro e w7 ⟨g, l, rfl, p1, p2, p3, p4, p5, hb⟩
        have hJ7 := Lib.hid (hI.out.trans (Below.mono hb hI.out.size))
        have hs := HS2.out
        have hll : (trimZ l).length ≤ 1000000 := by
          rw [trim_can p3, p4]
          have : ofW z1 + ofW z2 < 4294967296 ^ 17 := by
            have e := pow17
            omega
          have := canW_le this
          omega
        have K7 := Lib.hid (form_big bx (some ⟨g, 0, none⟩) l.length l.length l w7 (p2.words p3) (by omega) hll (Nat.le_refl _))
        have HP := Lib.hid p4
        clear p1 p2 p3 p4 p5 hb hs hll s0 s1 s2 s3
        go_wp2_with (go_at_call 47; refine hold ?_)
        refine Hold.mk ?_
        refine K7.out.mono ?_
        rintro e w8 ⟨v8, rfl, hv, hb⟩
        have hJ8 := Lib.hid (hJ7.out.trans (Below.mono hb hJ7.out.size))
        have K8 := Lib.hid (fits_any v8 _ w8 hv)
        have HVE := Lib.hid (show valI bx l = x + y from by
          obtain ⟨h1, h2, h3, h4⟩ := HV.out
          unfold valI
          rw [HP.out]
          cases bx with
          | true =>
            have e1 := h1 (of_decide_eq_true Hbx.out)
            have e2 := h2 (of_decide_eq_true Hby.out)
            simp
            omega
          | false =>
            have e1 := h3 (by have := of_decide_eq_false Hbx.out; omega)
            have e2 := h4 (by have := of_decide_eq_false Hby.out; omega)
            simp
            omega)
        rw [HVE.out] at K8
        clear hv hb
        go_wp2_with (go_at_call 79; refine hold ?_)
        refine Hold.mk ?_
        refine K8.out.mono ?_
        rintro e w9 ⟨⟨v9, rfl, hv⟩, hb⟩
        have hJ9 := Lib.hid (hJ8.out.trans (Below.mono hb hJ8.out.size))
        obtain ⟨⟨s0, s1, s2, s3⟩, sq⟩ := HC.out.2 w9 hJ9.out
        obtain ⟨⟨r0, r1⟩, f0, f1⟩ := box_cells sq
        obtain ⟨b9, a9, n9, c9, rfl⟩ := hv.agg
        have HX := Lib.hid (FIN.out w9 b9 a9 n9 c9 _ hJ9.out hv)
        obtain ⟨k9, Hk9⟩ : ∃ k : Int, Hid (k = if 2 ^ 512 ≤ (x + y).natAbs then 2 else 0) := ⟨_, Lib.hid rfl⟩
        rw [← Hk9.out]
        clear sq hv hb
        go_wp2_with fail
        obtain ⟨⟨h1, h2⟩, h3⟩ := HX.out
        refine bodyPost_ret (results_cell_pair rfl _ _ bo 24 (.bool b9) (.slice a9 n9 c9) (0, 0) rfl h2) rfl ?_
        have hk : k9 = if big (x + y) then 2 else 0 := by rw [Hk9.out, if_big]
        have hk2 : (if 2 ^ 512 ≤ (x + y).natAbs then 0 else x + y) = if big (x + y) then 0 else x + y := if_big _ _ _
        rw [hk2] at h1
        refine ⟨⟨_, ?_, by simpa using h1⟩, h3⟩
        simp only [Bool.false_or]
        rw [← hk]
        rfl
      · have hq : (bx == by') = false := by simpa using hxy
        go_wp2_with (go_at_call 69; refine hold ?_)
        refine Hold.mk ?_
        refine (K3.out w6 hI.out).mono ?_
        rintro e w7 ⟨rfl, hb⟩
        have hJ7 := Lib.hid (hI.out.trans (Below.mono hb hI.out.size))
        clear s0 s1 s2 s3 hb
        obtain ⟨⟨s0, s1, s2, s3⟩, sq⟩ := HC.out.2 w7 hJ7.out
        clear sq
        obtain ⟨c, Hc⟩ : ∃ c, Hid (cmpN (ofW z1) (ofW z2) = c) := ⟨_, Lib.hid rfl⟩
        rw [Hc.out]
        by_cases hc0 : c < 0
        · have hlt : ofW z1 < ofW z2 := by
            have := Hc.out
            unfold cmpN at this
            split at this
            · assumption
            · split at this <;> omega
          go_wp2_with (go_at_call 81; refine hold ?_)
          refine Hold.mk ?_
          refine (K6.out w7 hJ7.out (by omega)).mono ?_
          rintro e w8 ⟨g, l, rfl, p1, p2, p3, p4, p5, hb⟩
          have hJ8 := Lib.hid (hJ7.out.trans (Below.mono hb hJ7.out.size))
          have K7 := Lib.hid (form_any by' (some ⟨g, 0, none⟩) l.length l.length l w8 (p2.words p3) (by omega) (Nat.le_refl _))
          have HP := Lib.hid p4
          clear p1 p2 p3 p4 p5 hb s0 s1 s2 s3
          go_wp2_with (go_at_call 47; refine hold ?_)
          refine Hold.mk ?_
          refine K7.out.mono ?_
          rintro e w9 ⟨v9, rfl, hv, hb⟩
          have hJ9 := Lib.hid (hJ8.out.trans (Below.mono hb hJ8.out.size))
          obtain ⟨⟨s0, s1, s2, s3⟩, sq⟩ := HC.out.2 w9 hJ9.out
          obtain ⟨⟨r0, r1⟩, f0, f1⟩ := box_cells sq
          obtain ⟨b9, a9, n9, c9, rfl⟩ := hv.agg
          have HX := Lib.hid (FIN.out w9 b9 a9 n9 c9 _ hJ9.out hv)
          clear sq hv hb
          go_wp2_with fail
          obtain ⟨⟨h1, h2⟩, h3⟩ := HX.out
          refine bodyPost_ret (results_cell_pair rfl _ _ bo 24 (.bool b9) (.slice a9 n9 c9) (0, 0) rfl h2) rfl ?_
          have hs := HS2.out
          obtain ⟨e1, e2, e3, e4⟩ := HV.out
          have hx1 : (bx = true ↔ x < 0) := by rw [← Hbx.out]; simp
          have hy1 : (by' = true ↔ y < 0) := by rw [← Hby.out]; simp
          have hvv : valI by' l = x + y ∧ big (x + y) = false := by
            unfold valI
            rw [HP.out]
            unfold big
            obtain ⟨P, hP⟩ : ∃ P : Nat, 2 ^ 512 = P := ⟨_, rfl⟩
            rw [hP] at hs ⊢
            clear hP
            cases bx <;> cases by' <;> simp at hxy hx1 hy1 ⊢ <;> first | omega | (have e2 := e2 hy1; have e3 := e3 (by omega); constructor <;> omega) | (have e1 := e1 hx1; have e4 := e4 (by omega); constructor <;> omega)
          rw [hvv.1] at h1
          rw [hvv.2]
          exact ⟨⟨_, rfl, by simpa using h1⟩, h3⟩
        · have hge : ofW z2 ≤ ofW z1 := by
            have := Hc.out
            unfold cmpN at this
            split at this <;> omega
          have hc1 : 0 ≤ c := by omega
          clear hc0
          go_wp2_with (go_at_call 81; refine hold ?_)
          refine Hold.mk ?_
          refine (K5.out w7 hJ7.out (by omega)).mono ?_
          rintro e w8 ⟨g, l, rfl, p1, p2, p3, p4, p5, hb⟩
          have hJ8 := Lib.hid (hJ7.out.trans (Below.mono hb hJ7.out.size))
          have K7 := Lib.hid (form_any bx (some ⟨g, 0, none⟩) l.length l.length l w8 (p2.words p3) (by omega) (Nat.le_refl _))
          have HP := Lib.hid p4
          clear p1 p2 p3 p4 p5 hb s0 s1 s2 s3
          go_wp2_with (go_at_call 47; refine hold ?_)
          refine Hold.mk ?_
          refine K7.out.mono ?_
          rintro e w9 ⟨v9, rfl, hv, hb⟩
          have hJ9 := Lib.hid (hJ8.out.trans (Below.mono hb hJ8.out.size))
          obtain ⟨⟨s0, s1, s2, s3⟩, sq⟩ := HC.out.2 w9 hJ9.out
          obtain ⟨⟨r0, r1⟩, f0, f1⟩ := box_cells sq
          obtain ⟨b9, a9, n9, c9, rfl⟩ := hv.agg
          have HX := Lib.hid (FIN.out w9 b9 a9 n9 c9 _ hJ9.out hv)
          clear sq hv hb
          go_wp2_with fail
          obtain ⟨⟨h1, h2⟩, h3⟩ := HX.out
          refine bodyPost_ret (results_cell_pair rfl _ _ bo 24 (.bool b9) (.slice a9 n9 c9) (0, 0) rfl h2) rfl ?_
          have hs := HS2.out
          obtain ⟨e1, e2, e3, e4⟩ := HV.out
          have hx1 : (bx = true ↔ x < 0) := by rw [← Hbx.out]; simp
          have hy1 : (by' = true ↔ y < 0) := by rw [← Hby.out]; simp
          have hvv : valI bx l = x + y ∧ big (x + y) = false := by
            unfold valI
            rw [HP.out]
            unfold big
            obtain ⟨P, hP⟩ : ∃ P : Nat, 2 ^ 512 = P := ⟨_, rfl⟩
            rw [hP] at hs ⊢
            clear hP
            cases bx <;> cases by' <;> simp at hxy hx1 hy1 ⊢ <;> first | omega | (have e2 := e2 hy1; have e3 := e3 (by omega); constructor <;> omega) | (have e1 := e1 hx1; have e4 := e4 (by omega); constructor <;> omega)
          rw [hvv.1] at h1
          rw [hvv.2]
          exact ⟨⟨_, rfl, by simpa using h1⟩, h3⟩
end Go.Proofs.YtahgbbnpbhfaeaaDoor
