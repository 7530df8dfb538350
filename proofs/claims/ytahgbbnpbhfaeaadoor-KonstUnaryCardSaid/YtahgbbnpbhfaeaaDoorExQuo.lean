/- exact.Quo. No condition. -/
import Derived.Test.YtahgbbnpbhfaeaaDoorExQuoLaw
namespace Go.Proofs.YtahgbbnpbhfaeaaDoor
open Go.RowKit

/-- A quotient and a rest told, or refused. -/
def QuoA (w' : World) (e : Ending) (i1 i2 : Int) : Prop :=
  ∃ (v u : Value) (k : Int), e = .returned (.tuple #[v, u, .int .i64 k]) ∧ k = (if big i1 || big i2 then 2 else if i2 = 0 then 5 else 0) ∧ IntC w' v (if k = 0 then i1.tdiv i2 else 0) ∧ IntC w' u (if k = 0 then i1.tmod i2 else 0)
/-- Two boxes with numbers, and two for the answer. -/
def four (w : World) (n1 n2 : Bool) (s1 s2 : Value) : World := (((w.alloc (.cells #[.bool n1, s1] 24)).alloc (.cells #[.bool n2, s2] 24)).alloc (.cells #[.bool false, .slice none 0 0] 24)).alloc (.cells #[.bool false, .slice none 0 0] 24)
theorem box4 (w : World) (n1 n2 : Bool) (s1 s2 : Value) : Below w.heap.size w (four w n1 n2 s1 s2) ∧ ∀ wx : World, Below (four w n1 n2 s1 s2).heap.size (four w n1 n2 s1 s2) wx →
    (wx.cell? ⟨w.heap.size, 0, none⟩ = some (.bool n1) ∧ wx.cell? ⟨w.heap.size, 1, none⟩ = some s1 ∧ wx.cell? ⟨w.heap.size + 1, 0, none⟩ = some (.bool n2) ∧ wx.cell? ⟨w.heap.size + 1, 1, none⟩ = some s2) ∧ wx.heap[w.heap.size + 2]? = some (.cells #[.bool false, .slice none 0 0] 24 (0, 0)) ∧ wx.heap[w.heap.size + 3]? = some (.cells #[.bool false, .slice none 0 0] 24 (0, 0)) := by
  have h3 := box3 w n1 n2 s1 s2
  have e4 : four w n1 n2 s1 s2 = (three w n1 n2 s1 s2).alloc (.cells #[.bool false, .slice none 0 0] 24) := rfl
  have hsz : (three w n1 n2 s1 s2).heap.size = w.heap.size + 3 := by unfold three; simp
  rw [e4]
  refine ⟨h3.1.alloc (by omega) _, fun wx hx => ?_⟩
  have hb := ((Below.refl (three w n1 n2 s1 s2).heap.size _).alloc (Nat.le_refl _) (.cells #[.bool false, .slice none 0 0] 24)).trans (Below.mono hx (by simp))
  obtain ⟨q1, q2⟩ := h3.2 wx hb
  refine ⟨q1, q2, ?_⟩
  refine (hx.block _ (by simp; omega)).trans ?_
  have := heap_alloc_new (three w n1 n2 s1 s2) (.cells #[.bool false, .slice none 0 0] 24)
  rw [hsz] at this
  exact this
/-- Two numbers put into two boxes. -/
theorem IntC.store2 {w : World} {b1 b2 n cap n2 cap2 : Nat} {a a2 : Option Addr} {b c : Bool} {i j : Int} {t : TypeId} (h : IntC w (.agg #[.bool b, .slice a n cap]) i) (h2 : IntC w (.agg #[.bool c, .slice a2 n2 cap2]) j) (q : w.heap[b1]? = some (.cells #[.bool false, .slice none 0 0] t (0, 0))) (q2 : w.heap[b2]? = some (.cells #[.bool false, .slice none 0 0] t (0, 0))) (hne : b1 ≠ b2) (w5 : World) (e : w5 = (((w.setCell ⟨b1, 0, none⟩ (.bool b)).setCell ⟨b1, 1, none⟩ (.slice a n cap)).setCell ⟨b2, 0, none⟩ (.bool c)).setCell ⟨b2, 1, none⟩ (.slice a2 n2 cap2)) :
    IntC w5 (.agg #[.bool b, .slice a n cap]) i ∧ IntC w5 (.agg #[.bool c, .slice a2 n2 cap2]) j ∧ w5.heap[b1]? = some (.cells #[.bool b, .slice a n cap] t (0, 0)) ∧ w5.heap[b2]? = some (.cells #[.bool c, .slice a2 n2 cap2] t (0, 0)) := by
  subst e
  obtain ⟨x1, x2⟩ := h.store q
  have q2' : ((w.setCell ⟨b1, 0, none⟩ (.bool b)).setCell ⟨b1, 1, none⟩ (.slice a n cap)).heap[b2]? = some (.cells #[.bool false, .slice none 0 0] t (0, 0)) := (Below.heap_setCell _ _ _ _ (Ne.symm hne)).trans ((Below.heap_setCell _ _ _ _ (Ne.symm hne)).trans q2)
  have y1 : IntC ((w.setCell ⟨b1, 0, none⟩ (.bool b)).setCell ⟨b1, 1, none⟩ (.slice a n cap)) (.agg #[.bool c, .slice a2 n2 cap2]) j := by
    obtain ⟨a', n', cap', e, hw, hc, hn⟩ := h2
    exact ⟨a', n', cap', e, hw.box q _ _, hc, hn⟩
  obtain ⟨z1, z2⟩ := y1.store q2'
  refine ⟨?_, z1, ?_, z2⟩
  · obtain ⟨a', n', cap', e, hw, hc, hn⟩ := x1
    exact ⟨a', n', cap', e, hw.box q2' _ _, hc, hn⟩
  · exact (Below.heap_setCell _ _ _ _ hne).trans ((Below.heap_setCell _ _ _ _ hne).trans x2)
theorem IntV.box {w : World} {b n cap : Nat} {a : Option Addr} {x : Bool} {v : Value} {t : TypeId} {g : Bool} {z : List Nat} (h : IntV w v g z) (q : w.heap[b]? = some (.cells #[.bool x, .slice a n cap] t (0, 0))) (u0 u1 : Value) : IntV ((w.setCell ⟨b, 0, none⟩ u0).setCell ⟨b, 1, none⟩ u1) v g z := by
  obtain ⟨a', n', cap', e, hw, hc, hn⟩ := h
  exact ⟨a', n', cap', e, hw.box q _ _, hc, hn⟩
theorem valI_quo (g1 g2 : Bool) (z1 z2 l : List Nat) (h : ofW l = ofW z1 / ofW z2) : valI (!(g1 == g2)) l = (valI g1 z1).tdiv (valI g2 z2) := by
  unfold valI
  rw [h]
  cases g1 <;> cases g2 <;> simp [Int.neg_tdiv, Int.tdiv_neg]
theorem valI_rem (g1 g2 : Bool) (z1 z2 l : List Nat) (h : ofW l = ofW z1 % ofW z2) : valI g1 l = (valI g1 z1).tmod (valI g2 z2) := by
  unfold valI
  rw [h]
  cases g1 <;> cases g2 <;> simp [Int.neg_tmod, Int.tmod_neg] <;> exact (Int.tmod_eq_emod_of_nonneg (by omega)).symm

set_option maxRecDepth 100000 in
set_option maxHeartbeats 6400000 in
theorem quo_any (v1 v2 : Value) (g1 g2 : Bool) (z1 z2 : List Nat) (w : World) (h1 : IntV w v1 g1 z1) (h2 : IntV w v2 g2 z2) :
    Calls Tryd.prog 67 #[v1, v2] w fun e w' => QuoA w' e (valI g1 z1) (valI g2 z2) ∧ Below w.heap.size w w' := by
  obtain ⟨a1, n1, cap1, rfl, hw1, hc1, hn1⟩ := id h1
  obtain ⟨a2, n2, cap2, rfl, hw2, hc2, hn2⟩ := id h2
  obtain ⟨w2, Hw2⟩ : ∃ w2, Hid (w2 = (((w.alloc (.cells #[.bool g1, .slice a1 n1 cap1] 24)).alloc (.cells #[.bool g2, .slice a2 n2 cap2] 24)).alloc (.cells #[.bool false, .slice none 0 0] 24)).alloc (.cells #[.bool false, .slice none 0 0] 24)) := ⟨_, Lib.hid rfl⟩
  obtain ⟨bn, Hbn⟩ : ∃ b, Hid (b = w.heap.size) := ⟨_, Lib.hid rfl⟩
  obtain ⟨bm, Hbm⟩ : ∃ b, Hid (b = w.heap.size + 1) := ⟨_, Lib.hid rfl⟩
  obtain ⟨bo, Hbo⟩ : ∃ b, Hid (b = w.heap.size + 2) := ⟨_, Lib.hid rfl⟩
  obtain ⟨bp, Hbp⟩ : ∃ b, Hid (b = w.heap.size + 3) := ⟨_, Lib.hid rfl⟩
  have HC := Lib.hid (box4 w g1 g2 (.slice a1 n1 cap1) (.slice a2 n2 cap2))
  unfold four at HC
  rw [← Hw2.out, ← Hbm.out, ← Hbo.out, ← Hbp.out] at HC
  have HB := Lib.hid HC.out.1
  rw [← Hbn.out] at HC
  have hB := HB.out
  have L1 := Lib.hid (fun wx (hx : Below w2.heap.size w2 wx) => large_any (.agg #[.bool g1, .slice a1 n1 cap1]) g1 z1 wx ((h1.below hB).below hx))
  have L2 := Lib.hid (fun wx (hx : Below w2.heap.size w2 wx) => large_any (.agg #[.bool g2, .slice a2 n2 cap2]) g2 z2 wx ((h2.below hB).below hx))
  have HWs := Lib.hid (And.intro hw1.2.1 hw2.2.1)
  have Hlen := Lib.hid (And.intro hw1.1 hw2.1)
  have K1 := Lib.hid (fun wx (hx : Below w2.heap.size w2 wx) => trim_any a1 n1 cap1 z1 wx ((hw1.below hB).below hx) (by omega) hc1)
  have K2 := Lib.hid (fun wx (hx : Below w2.heap.size w2 wx) => trim_any a2 n2 cap2 z2 wx ((hw2.below hB).below hx) (by omega) hc2)
  have W2 := Lib.hid (fun wx (hx : Below w2.heap.size w2 wx) => (hw2.below hB).below hx)
  have T1 := Lib.hid (fun wx (hx : Below w2.heap.size w2 wx) => ((hw1.below hB).below hx).trim)
  have HL := Lib.hid (show big (valI g1 z1) = decide (2 ^ 512 ≤ ofW z1) ∧ big (valI g2 z2) = decide (2 ^ 512 ≤ ofW z2) ∧ (valI g2 z2 = 0 ↔ ofW z2 = 0) from by unfold big; rw [valI_abs, valI_abs]; exact ⟨rfl, rfl, by rw [← Int.natAbs_eq_zero, valI_abs]⟩)
  obtain ⟨x, Hx⟩ : ∃ x, Hid (valI g1 z1 = x) := ⟨_, Lib.hid rfl⟩
  obtain ⟨y, Hy⟩ : ∃ y, Hid (valI g2 z2 = y) := ⟨_, Lib.hid rfl⟩
  rw [Hx.out] at HL ⊢
  rw [Hy.out] at HL ⊢
  simp only [← HL.out.1] at L1
  simp only [← HL.out.2.1] at L2
  obtain ⟨lx, Hlx⟩ : ∃ b, Hid (big x = b) := ⟨_, Lib.hid rfl⟩
  obtain ⟨ly, Hly⟩ : ∃ b, Hid (big y = b) := ⟨_, Lib.hid rfl⟩
  rw [Hlx.out] at HL
  rw [Hly.out] at HL
  simp only [Hlx.out] at L1
  simp only [Hly.out] at L2
  clear h1 h2 hw1 hw2 hB
  have Hbo2 := Lib.hid (show bo = bm + 1 from by have := Hbo.out; have := Hbm.out; omega)
  have Hbp2 := Lib.hid (show bp = bo + 1 from by have := Hbo.out; have := Hbp.out; omega)
  have hne : bo ≠ bp := by have := Hbp2.out; omega
  have FIN := Lib.hid (show ∀ (wx : World) (b : Bool) (a : Option Addr) (n c : Nat) (i : Int) (b' : Bool) (a' : Option Addr) (n' c' : Nat) (j : Int), Below w2.heap.size w2 wx → IntC wx (.agg #[.bool b, .slice a n c]) i → IntC wx (.agg #[.bool b', .slice a' n' c']) j → ∀ w5, w5 = (((wx.setCell ⟨bo, 0, none⟩ (.bool b)).setCell ⟨bo, 1, none⟩ (.slice a n c)).setCell ⟨bp, 0, none⟩ (.bool b')).setCell ⟨bp, 1, none⟩ (.slice a' n' c') →
      (IntC w5 (.agg #[.bool b, .slice a n c]) i ∧ IntC w5 (.agg #[.bool b', .slice a' n' c']) j ∧ w5.heap[bo]? = some (.cells #[.bool b, .slice a n c] 24 (0, 0)) ∧ w5.heap[bp]? = some (.cells #[.bool b', .slice a' n' c'] 24 (0, 0))) ∧
      Below w.heap.size w w5 from fun wx b a n c i b' a' n' c' j hx hi hj w5 e =>
    ⟨hi.store2 hj (HC.out.2 wx hx).2.1 (HC.out.2 wx hx).2.2 hne w5 e, by
      rw [e]
      have := Hbo.out
      have := Hbp.out
      exact ((((HB.out.trans (Below.mono hx HB.out.size)).setCell (by simp only; omega) _).setCell (by simp only; omega) _).setCell (by simp only; omega) _).setCell (by simp only; omega) _⟩)
  have ZERO := Lib.hid (show ∀ (k : Int) (wx w5 : World) (tm : Array Value), Below w2.heap.size w2 wx → k = (if big x || big y then 2 else if y = 0 then 5 else 0) → k ≠ 0 → w5 = (((wx.setCell ⟨bo, 0, none⟩ (.bool false)).setCell ⟨bo, 1, none⟩ (.slice none 0 0)).setCell ⟨bp, 0, none⟩ (.bool false)).setCell ⟨bp, 1, none⟩ (.slice none 0 0) → tm.getD 4 undef = .pointer (some ⟨bo, 0, none⟩) → tm.getD 5 undef = .pointer (some ⟨bp, 0, none⟩) → tm.getD 6 undef = .int .i64 k →
      bodyPost Tryd.prog Tryd.f67 (fun e w' => QuoA w' e x y ∧ Below w.heap.size w w') .ret { tmps := tm, defers := [] } w5 from by
    intro k wx w5 tm hx hk hk0 e t4 t5 t6
    obtain ⟨⟨h1, h2, h3, h4⟩, h5⟩ := FIN.out wx false none 0 0 0 false none 0 0 0 hx (intC_zero _) (intC_zero _) w5 e
    refine bodyPost_ret (results_cell3 rfl _ _ bo bp 24 24 (.bool false) (.slice none 0 0) (.bool false) (.slice none 0 0) (0, 0) (0, 0) t4 t5 h3 h4) rfl ?_
    refine ⟨⟨_, _, k, by rw [t6], hk, ?_, ?_⟩, h5⟩
    · rw [if_neg hk0]; exact h1
    · rw [if_neg hk0]; exact h2)
  have hD := Lib.hid (Below.refl w2.heap.size w2)
  obtain ⟨⟨s0, s1, s2, s3⟩, sq, sq2⟩ := HC.out.2 w2 hD.out
  obtain ⟨⟨r0, r1⟩, f0, f1⟩ := box_cells sq
  obtain ⟨⟨r2, r3⟩, f2, f3⟩ := box_cells sq2
  clear sq sq2
  go_enter Tryd.func67, Tryd.ntmps67
  go_wp2_with (go_at_call 78; refine hold ?_)
  rw [← Hw2.out]
  try rw [← Hbm.out]
  try rw [← Hbn.out]
  rw [← Hbo2.out]
  rw [← Hbp2.out]
  refine Hold.mk ?_
  refine (L1.out w2 hD.out).mono ?_
  rintro e w3 ⟨rfl, hb⟩
  have hE := Lib.hid hb
  clear s0 s1 s2 s3 r0 r1 f0 f1 r2 r3 f2 f3 hb
  obtain ⟨⟨s0, s1, s2, s3⟩, sq, sq2⟩ := HC.out.2 w3 hE.out
  obtain ⟨⟨r0, r1⟩, f0, f1⟩ := box_cells sq
  obtain ⟨⟨r2, r3⟩, f2, f3⟩ := box_cells sq2
  clear sq sq2
  cases lx with
  | true =>
    go_wp2_with fail
    exact ZERO.out 2 w3 _ _ hE.out (by rw [Hlx.out]; rfl) (by decide) rfl rfl rfl rfl
  | false =>
    go_wp2_with (go_at_call 78; refine hold ?_)
    refine Hold.mk ?_
    refine (L2.out w3 hE.out).mono ?_
    rintro e w4 ⟨rfl, hb⟩
    have hF := Lib.hid (hE.out.trans (Below.mono hb hE.out.size))
    clear s0 s1 s2 s3 r0 r1 f0 f1 r2 r3 f2 f3 hb
    obtain ⟨⟨s0, s1, s2, s3⟩, sq, sq2⟩ := HC.out.2 w4 hF.out
    obtain ⟨⟨r0, r1⟩, f0, f1⟩ := box_cells sq
    obtain ⟨⟨r2, r3⟩, f2, f3⟩ := box_cells sq2
    clear sq sq2
    cases ly with
    | true =>
      go_wp2_with fail
      exact ZERO.out 2 w4 _ _ hF.out (by rw [Hly.out]; simp) (by decide) rfl rfl rfl rfl
    | false =>
      have HS2 := Lib.hid (show ofW z1 < 2 ^ 512 ∧ ofW z2 < 2 ^ 512 from by
        have h1 := of_decide_eq_false HL.out.1.symm
        have h2 := of_decide_eq_false HL.out.2.1.symm
        omega)
      have hm : (trimZ z1).length ≤ 16 ∧ (trimZ z2).length ≤ 16 := by
        have e := pow16
        rw [trim_can HWs.out.1, trim_can HWs.out.2]
        exact ⟨canW_le (by rw [e]; exact HS2.out.1), canW_le (by rw [e]; exact HS2.out.2)⟩
      obtain ⟨y1, Hy1⟩ : ∃ y, Hid (trimZ z1 = y ∧ ofW y = ofW z1) := ⟨_, Lib.hid ⟨rfl, ofW_trim _⟩⟩
      simp only [Hy1.out.1] at hm K1 T1
      obtain ⟨m1, Hm1⟩ : ∃ m, Hid (y1.length = m) := ⟨_, Lib.hid rfl⟩
      obtain ⟨m2, Hm2⟩ : ∃ m, Hid ((trimZ z2).length = m) := ⟨_, Lib.hid rfl⟩
      simp only [Hm1.out] at hm K1 T1
      simp only [Hm2.out] at hm K2
      obtain ⟨hm1, hm2⟩ := hm
      have HM0 := Lib.hid (show m2 = 0 ↔ ofW z2 = 0 from by rw [← Hm2.out, List.length_eq_zero_iff, trim_nil])
      go_wp2_with (go_at_call 54; refine hold ?_)
      refine Hold.mk ?_
      refine (K2.out w4 hF.out).mono ?_
      rintro e w5 ⟨rfl, rfl⟩
      by_cases hm0 : m2 = 0
      · have Hyz := Lib.hid (HL.out.2.2.2 (HM0.out.1 hm0))
        clear HM0 Hm2
        subst hm0
        go_wp2_with fail
        exact ZERO.out 5 w4 _ _ hF.out (by rw [Hlx.out, Hly.out, if_neg (by decide), if_pos Hyz.out]) (by decide) rfl rfl rfl rfl
      · have hm1' : 0 < m2 := by omega
        have Hb0 := Lib.hid (show 0 < ofW z2 from by have := HM0.out; omega)
        clear r0 r1 f0 f1 r2 r3 f2 f3 hm0
        go_wp2_with (go_at_call 54; refine hold ?_)
        refine Hold.mk ?_
        refine (K1.out w4 hF.out).mono ?_
        rintro e w5 ⟨rfl, rfl⟩
        have H1 := Lib.hid (T1.out w4 hF.out)
        go_wp2_with first
          | (refine wpList_makeW _ rfl _ _ rfl _ _ m1 rfl rfl (by go_num) (by go_num) (by omega) ?_; intro w7 ho hb; have HO := Lib.hid (And.intro ho hb); clear ho hb)
          | (go_at_call 82; refine hold ?_)
        obtain ⟨g, Hg⟩ : ∃ g, Hid (g = w4.heap.size) := ⟨_, Lib.hid rfl⟩
        rw [← Hg.out]
        obtain ⟨A, HA⟩ : ∃ A, Hid (ofW z1 = A) := ⟨_, Lib.hid rfl⟩
        obtain ⟨B, HBv⟩ : ∃ A, Hid (ofW z2 = A) := ⟨_, Lib.hid rfl⟩
        obtain ⟨L, HLn⟩ : ∃ L, Hid (bitsN A = L ∧ L ≤ 512) := ⟨_, Lib.hid ⟨rfl, (bitsN_le_iff A 512).2 (by rw [← HA.out]; exact HS2.out.1)⟩⟩
        have K8 := Lib.hid (length_any a1 m1 cap1 y1 w7 (H1.out.below HO.out.2) (by omega) (by have h1 := Hm1.out; have h2 := Hy1.out.1; have h3 := trim_le z1; rw [h2, h1] at h3; have := Hlen.out.1; omega))
        rw [Hy1.out.2, HA.out, HLn.out.1] at K8
        refine Hold.mk ?_
        refine K8.out.mono ?_
        rintro e w8 ⟨rfl, rfl⟩
        have hL9 : L ≤ 512 := HLn.out.2
        clear s0 s1 s2 s3
        go_wp2_with fail
        go_loopg [9, 10] L (fun gg v9 v10 wr => ∃ k : Nat, k ≤ L ∧ v10 = .int .i64 ((k : Int) - 1) ∧ gg = k ∧ Hid (QuoL w4 wr g m1 A B k ∧ RowO wr w7.heap.size v9 (canW (A / 2 ^ k % B)) ∧ w7.heap.size ≤ wr.heap.size))
        case atStart =>
          refine ⟨L, Nat.le_refl _, by go_num, rfl, Lib.hid ⟨⟨_, by rw [Hg.out]; exact HO.out.1, by simp, words_zero _, ?_, HO.out.2⟩, ?_, Nat.le_refl _⟩⟩
          · rw [zero_ofW, Nat.div_eq_of_lt (show A < 2 ^ L by rw [← HLn.out.1]; exact bitsN_lt A)]
            simp
          · rw [Nat.div_eq_of_lt (show A < 2 ^ L by rw [← HLn.out.1]; exact bitsN_lt A)]
            simp [canW, RowO.nil]
        case round =>
          obtain ⟨k, hk, rfl, hgg, Hr⟩ := hrel
          cases k with
          | zero =>
            have e : (((0 : Nat) : Int) - 1) = -1 := by decide
            rw [e]
            clear e
            obtain ⟨⟨l, q1, q2, q3, q4, q5⟩, h2, h3⟩ := Hr.out
            rw [Nat.pow_zero, Nat.div_one] at h2
            rw [Nat.pow_zero, Nat.div_one, Nat.mul_one] at q4
            obtain ⟨a9, c9, rfl, hc9, _⟩ := h2.shape
            obtain ⟨n9, Hn9⟩ : ∃ n, Hid ((canW (A % B)).length = n) := ⟨_, Lib.hid rfl⟩
            rw [Hn9.out] at h2 hc9 ⊢
            have hn9 : n9 ≤ 16 := by
              rw [← Hn9.out]
              refine canW_le ?_
              have e := pow16
              have h8 := HS2.out.2
              have h9 := HBv.out
              have := Nat.mod_lt A (show 0 < B by have := Hb0.out; omega)
              omega
            have hG := Lib.hid (show Below w2.heap.size w2 wr.drew from (hF.out.trans (Below.mono q5 hF.out.size)).trans (Below.mono (Below.refl _ wr).drew (by have := hF.out.size; have := q5.size; omega)))
            have K20 := Lib.hid (form_any (!(g1 == g2)) (some ⟨g, 0, none⟩) m1 m1 l wr.drew (by have := q1.words q3; rw [q2] at this; exact this.below (Below.refl _ wr).drew) (by omega) (Nat.le_refl _))
            have K21 := Lib.hid (fun wx (hx : Below wr.heap.size wr wx) => form_any g1 a9 n9 c9 (canW (A % B)) wx ((h2.wordsAt (canW_words _).1).below hx) (by omega) hc9)
            rw [valI_quo g1 g2 z1 z2 l (by rw [q4, HA.out, HBv.out]), Hx.out, Hy.out] at K20
            rw [valI_rem g1 g2 z1 z2 (canW (A % B)) (by rw [(canW_words _).2, HA.out, HBv.out]), Hx.out, Hy.out] at K21
            clear q1 q2 q3 q4 q5 h2 h3 Hr
            go_upto_region 15 with fail
            have HS := (HC.out.2 wr.drew hG.out).1
            refine wp_region_pi (fun w' => w'.cell? ⟨bn, 0, none⟩ = some (.bool g1) ∧ w'.cell? ⟨bn, 1, none⟩ = some (.slice a1 n1 cap1) ∧ w'.cell? ⟨bm, 0, none⟩ = some (.bool g2) ∧ w'.cell? ⟨bm, 1, none⟩ = some (.slice a2 n2 cap2)) [(0, 1), (1, 0), (2, 1), (3, 0), (4, 1), (5, 1), (7, 1), (8, 0), (9, 1), (6, 2), (10, 3), (11, 3), (12, 3), (13, 3)] [(10, [6, 4, 1]), (10, [6, 4, 3]), (10, [8]), (11, [1]), (11, [3]), (11, [10, 8]), (12, [1]), (12, [3]), (12, [8]), (13, [1]), (13, [3]), (13, [8])] (by kernel_rfl) (by kernel_rfl) (fun _ _ _ _ _ h => h) (HS) ?_
            refine pd_pu (some 72) rfl rfl (by rfl) (fun ws => by go_simp; try with_reducible rfl) ?_; go_frame   -- 0 Op.fieldAddr 24 (Operand.tmp 2) 0
            refine pd_ld (some 73) rfl rfl (by rfl) (fun ws HS => by go_split_ands; go_simp; try with_reducible rfl) ?_; go_frame   -- 1 Op.load 4 (Operand.tmp 72)
            refine pd_pu (some 74) rfl rfl (by rfl) (fun ws => by go_simp; try with_reducible rfl) ?_; go_frame   -- 2 Op.fieldAddr 24 (Operand.tmp 3) 0
            refine pd_ld (some 75) rfl rfl (by rfl) (fun ws HS => by go_split_ands; go_simp; try with_reducible rfl) ?_; go_frame   -- 3 Op.load 4 (Operand.tmp 74)
            refine pd_pu (some 76) rfl rfl (by rfl) (fun ws => by go_simp; try with_reducible rfl) ?_; go_frame   -- 4 Op.binOp BinOp.neq 4 (Operand.tmp 73) (Operand.tmp 75) 4
            refine pd_pu (some 77) rfl rfl (by rfl) (fun ws => by go_simp; try with_reducible rfl) ?_; go_frame   -- 5 Op.move (Operand.tmp 8)
            refine pd_pu (some 79) rfl rfl (by rfl) (fun ws => by go_simp; try with_reducible rfl) ?_; go_frame   -- 7 Op.fieldAddr 24 (Operand.tmp 2) 0
            refine pd_ld (some 80) rfl rfl (by rfl) (fun ws HS => by go_split_ands; go_simp; try with_reducible rfl) ?_; go_frame   -- 8 Op.load 4 (Operand.tmp 79)
            refine pd_pu (some 81) rfl rfl (by rfl) (fun ws => by go_simp; try with_reducible rfl) ?_; go_frame   -- 9 Op.move (Operand.tmp 9)
            refine pi_ke rfl (fun J hJ => ?_)   -- pi_ke 6 Op.call { callee := Callee.value (Operand.func 47), args := #[Operand.tmp 76, Operand.tmp 77], argTypes := #[4, 22] }
            go_wp2_with (go_at_call 47; refine K20.out.mono ?_; rintro e w9 ⟨v, rfl, hv, hb⟩; have hE9 := Lib.hid (And.intro hb hv); clear hb hv)
            have hG9 := Lib.hid (hG.out.trans (Below.mono hE9.out.1 hG.out.size))
            refine hJ _ _ (HC.out.2 w9 hG9.out).1 ?_
            have K22 := Lib.hid (K21.out w9 ((Below.refl _ wr).drew.trans hE9.out.1))
            refine pi_tail (by rfl) ?_; simp only [opsAt, List.getElem?_toArray, List.getElem?_cons_zero, List.getElem?_cons_succ]   -- [(10, 'Op.call { callee := Callee.value (Operand.func 47), args := #[Operand.tmp 80, Operand.tmp 81], argTypes := #[4, 22] }'), (11, 'Op.store 24 (Operand.tmp 4) (Operand.tmp 78)'), (12, 'Op.store 24 (Operand.tmp 5) (Operand.tmp 82)'), (13, 'Op.assign (Operand.const (Value.int IntKind.i64 0))')]
            go_wp2_with (go_at_call 47; refine hold ?_)
            refine Hold.mk ?_
            refine K22.out.mono ?_
            rintro e w10 ⟨v', rfl, hv', hb'⟩
            have hG10 := Lib.hid (hG9.out.trans (Below.mono hb' hG9.out.size))
            have hv := hE9.out.2.below hb'
            obtain ⟨b1, a1', k1, d1, rfl⟩ := hv.agg
            obtain ⟨b2, a2', k2, d2, rfl⟩ := hv'.agg
            obtain ⟨⟨s0, s1, s2, s3⟩, sq, sq2⟩ := HC.out.2 w10 hG10.out
            obtain ⟨⟨r0, r1⟩, f0, f1⟩ := box_cells sq
            obtain ⟨⟨r2, r3⟩, f2, f3⟩ := box_cells sq2
            have HX := Lib.hid (FIN.out w10 b1 a1' k1 d1 _ b2 a2' k2 d2 _ hG10.out hv hv' _ rfl)
            clear sq sq2 hv hv' hb' s0 s1 s2 s3
            go_wp2_with fail
            obtain ⟨⟨h1, h2, h3, h4⟩, h5⟩ := HX.out
            refine bodyPost_ret (results_cell3 rfl _ _ bo bp 24 24 (.bool b1) (.slice a1' k1 d1) (.bool b2) (.slice a2' k2 d2) (0, 0) (0, 0) rfl rfl h3 h4) rfl ?_
            refine ⟨⟨_, _, 0, rfl, ?_, h1, h2⟩, h5⟩
            rw [Hlx.out, Hly.out, if_neg (by decide), if_neg]
            intro h0
            have := HL.out.2.2.1 h0
            have := Hb0.out
            omega
          | succ k =>
            have e : (((k + 1 : Nat) : Int) - 1) = (k : Int) := by omega
            rw [e]
            clear e
            obtain ⟨q, Hq⟩ : ∃ q, Hid (k / 32 = q) := ⟨_, Lib.hid rfl⟩
            obtain ⟨r, Hr9⟩ : ∃ q, Hid (k % 32 = q) := ⟨_, Lib.hid rfl⟩
            have hq : (k : Int) / 32 = (q : Int) := by have := Hq.out; omega
            have hr : (k : Int) % 32 = (r : Int) := by have := Hr9.out; omega
            have hr9 : r < 32 := by have := Hr9.out; omega
            have hqm : q < m1 := by
              have h1 := HLn.out.1
              have h2 : bitsN A ≤ 32 * m1 := (bitsN_le_iff A (32 * m1)).2 (by
                have h3 := ofW_lt H1.out.2.1
                rw [Hy1.out.2, HA.out, Hm1.out] at h3
                rw [Nat.pow_mul]
                exact h3)
              have := Hq.out
              omega
            obtain ⟨⟨l, q1, q2, q3, q4, q5⟩, h2, h3⟩ := Hr.out
            obtain ⟨x1, e1, hx⟩ := (H1.out.below q5).2.2 q hqm
            obtain ⟨u, Hu⟩ : ∃ u, Hid (y1.getD q 0 = u) := ⟨_, Lib.hid rfl⟩
            have hu9 : u < 4294967296 := by rw [← Hu.out]; exact H1.out.2.1.get q
            rw [Hu.out] at hx
            subst e1
            obtain ⟨a9, c9, rfl, hc9, _⟩ := h2.shape
            obtain ⟨n9, Hn9⟩ : ∃ n, Hid ((canW (A / 2 ^ (k + 1) % B)).length = n) := ⟨_, Lib.hid rfl⟩
            rw [Hn9.out] at h2 hc9 ⊢
            obtain ⟨R, HR⟩ : ∃ R, Hid (A / 2 ^ (k + 1) % B = R) := ⟨_, Lib.hid rfl⟩
            obtain ⟨d, Hd⟩ : ∃ d, Hid (A / 2 ^ k % 2 = d) := ⟨_, Lib.hid rfl⟩
            have hd1 : d ≤ 1 := by have := Hd.out; omega
            have hdig : bits .and .u32 ((u : Int) / 2 ^ r) 1 = (d : Int) := by
              have h1 := digit_at H1.out.2.1 q r hr9
              have h4 := Hq.out
              have h5 := Hr9.out
              rw [show 32 * q + r = k by omega, Hu.out, Hy1.out.2, HA.out, Hd.out] at h1
              have h6 : ((u : Int) / 2 ^ r) = ((u / 2 ^ r : Nat) : Int) := by simp
              have h7 : u / 2 ^ r < 4294967296 := Nat.lt_of_le_of_lt (Nat.div_le_self _ _) hu9
              have h8 := (bits_u32_nat (u / 2 ^ r) 1 h7 (by decide)).1
              rw [h6]
              rw [Nat.and_one_is_mod, h1] at h8
              exact h8
            have hRB : R < B := by rw [← HR.out]; exact Nat.mod_lt _ (by have := Hb0.out; have := HBv.out; omega)
            rw [HR.out] at h2 Hn9
            have hn9 : n9 ≤ 16 := by
              rw [← Hn9.out]
              refine canW_le ?_
              have e := pow16
              have := HS2.out.2
              have := HBv.out
              omega
            have K9 := Lib.hid (twice_any a9 n9 c9 d (canW R) wr (h2.wordsAt (canW_words R).1) (by omega) hd1)
            rw [(canW_words R).2] at K9
            have HX9 := Lib.hid (And.intro q5 h3)
            clear q1 q2 q3 q4 q5
            go_wp2_with (go_at_call 83; refine hold ?_)
            refine Hold.mk ?_
            refine K9.out.mono ?_
            rintro e w8 ⟨v8, rfl, hv8, hb8⟩
            obtain ⟨a8, c8, rfl, hc8, _⟩ := hv8.shape
            obtain ⟨n8, Hn8⟩ : ∃ n, Hid ((canW (2 * R + d)).length = n) := ⟨_, Lib.hid rfl⟩
            rw [Hn8.out] at hv8 hc8 ⊢
            obtain ⟨R', HR'⟩ : ∃ R', Hid (2 * R + d = R') := ⟨_, Lib.hid rfl⟩
            rw [HR'.out] at hv8 Hn8
            have hn8 : n8 ≤ 17 := by
              rw [← Hn8.out]
              refine canW_le ?_
              have e := pow17
              have := HS2.out.2
              have := HBv.out
              have := HR'.out
              omega
            have hE8 := Lib.hid (show Below w2.heap.size w2 w8 from (hF.out.trans (Below.mono HX9.out.1 hF.out.size)).trans (Below.mono hb8 (by have := hF.out.size; have := HX9.out.1.size; omega)))
            have K10 := Lib.hid (sizes_any a8 a2 n8 n2 c8 cap2 (canW R') z2 w8 (hv8.wordsAt (canW_words R').1) (W2.out w8 hE8.out) (by omega) hn2 hc8 hc2)
            have K11 := Lib.hid (fun wx (hx : Below w8.heap.size w8 wx) (hle : B ≤ R') => minus_any a8 a2 n8 n2 c8 cap2 (canW R') z2 wx ((hv8.wordsAt (canW_words R').1).below hx) ((W2.out w8 hE8.out).below hx) (by omega) hn2 hc8 hc2 (by rw [(canW_words R').2, HBv.out]; exact hle))
            rw [(canW_words R').2, HBv.out] at K10
            obtain ⟨c, Hc⟩ : ∃ c, Hid (cmpN R' B = c) := ⟨_, Lib.hid rfl⟩
            rw [Hc.out] at K10
            obtain ⟨⟨s0, s1, s2, s3⟩, sq, sq2⟩ := HC.out.2 w8 hE8.out
            have HQ8 := Lib.hid (show QuoL w4 w8 g m1 A B (k + 1) ∧ RowO w8 w7.heap.size (.slice a8 n8 c8) (canW R') ∧ RowO w8 wr.heap.size (.slice a8 n8 c8) (canW R') ∧ w7.heap.size ≤ w8.heap.size from ⟨Hr.out.1.below hb8, hv8.mono h3, hv8, by have := hb8.size; omega⟩)
            have hg8 : g < w8.heap.size := by
              obtain ⟨⟨l, q1, q2⟩, _⟩ := Hr.out
              have := q1.lt
              have := hb8.size
              omega
            have Hg8 := Lib.hid hg8
            clear hv8 sq sq2 hb8 h2 h3 Hr hg8
            go_wp2_with (go_at_call 69; refine hold ?_)
            refine Hold.mk ?_
            refine K10.out.mono ?_
            rintro e w9 ⟨rfl, hb⟩
            have hE9 := Lib.hid hb
            clear s0 s1 s2 s3 hb
            have hE9' := Lib.hid (hE8.out.trans (Below.mono hE9.out hE8.out.size))
            obtain ⟨⟨s0, s1, s2, s3⟩, sq, sq2⟩ := HC.out.2 w9 hE9'.out
            clear sq sq2
            have hlen9 := hE9.out.size
            by_cases hc0 : 0 ≤ c
            · have hle : B ≤ R' := by
                have := Hc.out
                unfold cmpN at this
                split at this <;> omega
              have K12 := Lib.hid (K11.out w9 hE9.out hle)
              go_wp2_with (go_at_call 81; refine hold ?_)
              refine Hold.mk ?_
              refine K12.out.mono ?_
              rintro e w10 ⟨g', l, rfl, p1, p2, p3, p4, p5, hb⟩
              have hF9 := Lib.hid (hE9.out.trans (Below.mono hb hE9.out.size))
              have K13 := Lib.hid (trim_any (some ⟨g', 0, none⟩) l.length l.length l w10 (p2.words p3) (by omega) (Nat.le_refl _))
              have HP := Lib.hid (And.intro p1 (And.intro p2 (And.intro p3 (And.intro p4 p5))))
              clear p1 p2 p3 p4 p5 s0 s1 s2 s3 hb
              go_upto_region 14 with (go_at_call 54; refine K13.out.mono ?_; rintro e w11 ⟨rfl, rfl⟩)
              obtain ⟨⟨lq, q1, q2, q3, q4, q5⟩, h2, h2', h3⟩ := HQ8.out
              obtain ⟨xw, Hxw⟩ : ∃ x, Hid (lq.getD q 0 = x) := ⟨_, Lib.hid rfl⟩
              have hxw9 : xw < 4294967296 := by rw [← Hxw.out]; exact q3.get q
              have q1' := q1.below hF9.out
              have hcell := q1'.cell q (by omega)
              have hfz := q1'.frozen q
              rw [Hxw.out] at hcell
              have HS14 : (fun w' => w'.cell? ⟨g, q, none⟩ = some (.int .u32 (xw : Int))) w10.drew := hcell
              clear q1 q2 q3 q4 q5 h2 h2' h3 q1'
              have hwq : IntKind.i64.wrap (q : Int) = (q : Int) := by
                simp [IntKind.wrap, IntKind.bits, IntKind.signed]
                omega
              have hwr : IntKind.i64.wrap (r : Int) = (r : Int) := by
                simp [IntKind.wrap, IntKind.bits, IntKind.signed]
                omega
              have hkt : (k : Int).tmod 32 = (r : Int) := by
                rw [Int.tmod_eq_emod_of_nonneg (by omega)]
                exact hr
              refine wp_region_pi (fun w' => w'.cell? ⟨g, q, none⟩ = some (.int .u32 (xw : Int))) [(0, 1), (1, 1), (2, 1), (3, 1), (4, 0), (5, 1), (6, 1), (7, 1), (8, 1), (9, 1), (10, 3)] [(10, [4])] (by kernel_rfl) (by kernel_rfl) (fun _ _ _ _ _ h => h) (HS14) ?_
              refine pd_pu (some 62) rfl rfl (by rfl) (fun ws => by go_simp; try with_reducible rfl) ?_; go_frame   -- 0 Op.move (Operand.tmp 8)
              refine pd_pu (some 63) rfl rfl (by rfl) (fun ws => by go_simp; try with_reducible rfl) ?_; go_frame   -- 1 Op.move (Operand.tmp 10)
              refine pd_pu (some 64) rfl rfl (by rfl) (fun ws => by go_simp; try with_reducible rfl) ?_; go_frame   -- 2 Op.binOp BinOp.quo 3 (Operand.tmp 63) (Operand.const (Value.int IntKind.i64 32)) 3
              refine pd_pu (some 65) rfl rfl (by rfl) (fun ws => by go_simp; try with_reducible rfl) ?_; go_frame   -- 3 Op.indexAddr 22 (Operand.tmp 62) (Operand.tmp 64)
              refine pd_ld (some 66) rfl rfl (by rfl) (fun ws HS => by go_split_ands; go_simp; try with_reducible rfl) ?_; go_frame   -- 4 Op.load 68 (Operand.tmp 65)
              refine pd_pu (some 67) rfl rfl (by rfl) (fun ws => by go_simp; try with_reducible rfl) ?_; go_frame   -- 5 Op.move (Operand.tmp 10)
              refine pd_pu (some 68) rfl rfl (by rfl) (fun ws => by go_simp; try with_reducible rfl) ?_; go_frame   -- 6 Op.binOp BinOp.rem 3 (Operand.tmp 67) (Operand.const (Value.int IntKind.i64 32)) 3
              refine pd_pu (some 69) rfl rfl (by rfl) (fun ws => by go_simp; try with_reducible rfl) ?_; go_frame   -- 7 Op.binOp BinOp.shl 68 (Operand.const (Value.int IntKind.u32 1)) (Operand.tmp 68) 3
              refine pd_pu (some 70) rfl rfl (by rfl) (fun ws => by go_simp; try with_reducible rfl) ?_; go_frame   -- 8 Op.binOp BinOp.or 68 (Operand.tmp 66) (Operand.tmp 69) 68
              refine pd_pu (some 71) rfl rfl (by rfl) (fun ws => by go_simp; try with_reducible rfl) ?_; go_frame   -- 9 Op.indexAddr 22 (Operand.tmp 62) (Operand.tmp 64)
              refine pi_tail (by rfl) ?_; simp only [opsAt, List.getElem?_toArray, List.getElem?_cons_zero, List.getElem?_cons_succ]   -- [(10, 'Op.store 68 (Operand.tmp 71) (Operand.tmp 70)')]
              have HF := Lib.hid (show QuoL w4 (w10.setCell ⟨g, q, none⟩ (.int .u32 (bits .or .u32 (xw : Int) (2 ^ r % 4294967296)))).drew g m1 A B k ∧ RowO (w10.setCell ⟨g, q, none⟩ (.int .u32 (bits .or .u32 (xw : Int) (2 ^ r % 4294967296)))).drew w7.heap.size (.slice (some ⟨g', 0, none⟩) (trimZ l).length l.length) (canW (A / 2 ^ k % B)) ∧ w7.heap.size ≤ (w10.setCell ⟨g, q, none⟩ (.int .u32 (bits .or .u32 (xw : Int) (2 ^ r % 4294967296)))).drew.heap.size from by
                have hpow : 2 ^ r < 4294967296 := Nat.lt_of_lt_of_eq (Nat.pow_lt_pow_right (show 1 < 2 by decide) hr9) (by decide)
                have e0 : bits .or .u32 (xw : Int) (2 ^ r % 4294967296) = ((xw ||| 2 ^ r : Nat) : Int) := by
                  have h1 : ((2 : Int) ^ r % 4294967296) = ((2 ^ r : Nat) : Int) := by
                    rw [show ((2 : Int) ^ r) = ((2 ^ r : Nat) : Int) by simp]
                    exact Int.emod_eq_of_lt (Int.natCast_nonneg _) (Int.ofNat_lt.2 hpow)
                  rw [h1]
                  exact (bits_u32_nat xw (2 ^ r) hxw9 hpow).2
                rw [e0]
                have hkk : k = 32 * q + r := by have := Hq.out; have := Hr9.out; omega
                have hB0 : 0 < B := by have := Hb0.out; have := HBv.out; omega
                obtain ⟨p1, p2, p3, p4, p5⟩ := HP.out
                have hstep := (HQ8.out.1.below hF9.out).yes hB0 (by rw [HR.out, Hd.out, HR'.out]; exact hle) hkk hr9 hqm (by have := Hg.out; omega) hcell
                rw [HR.out, Hd.out, HR'.out] at hstep
                refine ⟨hstep.1.below (Below.refl _ _).drew, ?_, ?_⟩
                · rw [hstep.2]
                  have hrow : RowW w10 g' l.length (trimZ l) := by
                    have := (p2.row (by unfold maxLen; omega)).cut (trimZ l).length
                    rw [← trim_pre] at this
                    exact this
                  have hcan : trimZ l = canW (R' - B) := by
                    rw [trim_can p3, p4, (canW_words R').2, HBv.out]
                  rw [← hcan]
                  have h8 := HQ8.out.2.2.2
                  exact .inr ⟨g', l.length, rfl, by omega, (hrow.other (p := ⟨g, q, none⟩) (by have := Hg8.out; have := HQ8.out.1; simp only; omega) _).heap rfl⟩
                · have h8 := HQ8.out.2.2.2
                  have := hF9.out.size
                  simp only [World.drew, World.size_setCell]
                  omega)
              clear HS14
              go_wp2_with fail
              go_roundg k
              case measure => omega
              case rel => exact ⟨k, by omega, by go_num, rfl, HF⟩
            · have hc1 : c < 0 := by omega
              have hlt : R' < B := by
                have := Hc.out
                unfold cmpN at this
                split at this
                · assumption
                · split at this <;> omega
              have HF := Lib.hid (show QuoL w4 w9 g m1 A B k ∧ RowO w9 w7.heap.size (.slice a8 n8 c8) (canW (A / 2 ^ k % B)) ∧ w7.heap.size ≤ w9.heap.size from by
                have hB0 : 0 < B := by have := Hb0.out; have := HBv.out; omega
                have hstep := (HQ8.out.1.below hE9.out).no hB0 (by rw [HR.out, Hd.out, HR'.out]; exact hlt)
                rw [HR.out, Hd.out, HR'.out] at hstep
                refine ⟨hstep.1, ?_, by have := HQ8.out.2.2.2; omega⟩
                rw [hstep.2]
                exact HQ8.out.2.1.below hE9.out (Nat.le_refl _))
              clear hc0
              go_wp2_with fail
              go_roundg k
              case measure => omega
              case rel => exact ⟨k, by omega, by go_num, rfl, HF⟩
end Go.Proofs.YtahgbbnpbhfaeaaDoor
