/- exact.Mul. No condition. -/
import Derived.Test.YtahgbbnpbhfaeaaDoorExTimes
namespace Go.Proofs.YtahgbbnpbhfaeaaDoor
open Go.RowKit

theorem wrap_u64_id (n : Int) (h0 : 0 ≤ n) (h1 : n < 18446744073709551616) : IntKind.u64.wrap n = n := by
  simp [IntKind.wrap, IntKind.bits, IntKind.signed]
  omega
theorem valI_mul (g1 g2 : Bool) (z1 z2 l : List Nat) (h : ofW l = ofW z1 * ofW z2) : valI (g1 != g2) l = valI g1 z1 * valI g2 z2 := by
  unfold valI
  rw [h]
  cases g1 <;> cases g2 <;> simp [Int.neg_mul, Int.mul_neg]
set_option maxRecDepth 100000 in
set_option maxHeartbeats 3200000 in
theorem mul_any (v1 v2 : Value) (g1 g2 : Bool) (z1 z2 : List Nat) (w : World) (h1 : IntV w v1 g1 z1) (h2 : IntV w v2 g2 z2) :
    Calls Tryd.prog 66 #[v1, v2] w fun e w' => AnsB w' e (big (valI g1 z1) || big (valI g2 z2) || big (valI g1 z1 * valI g2 z2)) (valI g1 z1 * valI g2 z2) ∧ Below w.heap.size w w' := by
  obtain ⟨a1, n1, cap1, rfl, hw1, hc1, hn1⟩ := id h1
  obtain ⟨a2, n2, cap2, rfl, hw2, hc2, hn2⟩ := id h2
  obtain ⟨w2, Hw2⟩ : ∃ w2, Hid (w2 = ((w.alloc (.cells #[.bool g1, .slice a1 n1 cap1] 24)).alloc (.cells #[.bool g2, .slice a2 n2 cap2] 24)).alloc (.cells #[.bool false, .slice none 0 0] 24)) := ⟨_, Lib.hid rfl⟩
  obtain ⟨bn, Hbn⟩ : ∃ b, Hid (b = w.heap.size) := ⟨_, Lib.hid rfl⟩
  obtain ⟨bm, Hbm⟩ : ∃ b, Hid (b = w.heap.size + 1) := ⟨_, Lib.hid rfl⟩
  obtain ⟨bo, Hbo⟩ : ∃ b, Hid (b = w.heap.size + 2) := ⟨_, Lib.hid rfl⟩
  have HC := Lib.hid (box3 w g1 g2 (.slice a1 n1 cap1) (.slice a2 n2 cap2))
  unfold three at HC
  rw [← Hw2.out, ← Hbm.out, ← Hbo.out] at HC
  have HB := Lib.hid HC.out.1
  rw [← Hbn.out] at HC
  have hB := HB.out
  have L1 := Lib.hid (fun wx (hx : Below w2.heap.size w2 wx) => large_any (.agg #[.bool g1, .slice a1 n1 cap1]) g1 z1 wx ((h1.below hB).below hx))
  have L2 := Lib.hid (fun wx (hx : Below w2.heap.size w2 wx) => large_any (.agg #[.bool g2, .slice a2 n2 cap2]) g2 z2 wx ((h2.below hB).below hx))
  have HWs := Lib.hid (And.intro hw1.2.1 hw2.2.1)
  have K1 := Lib.hid (fun wx (hx : Below w2.heap.size w2 wx) => trim_any a1 n1 cap1 z1 wx ((hw1.below hB).below hx) (by omega) hc1)
  have K2 := Lib.hid (fun wx (hx : Below w2.heap.size w2 wx) => trim_any a2 n2 cap2 z2 wx ((hw2.below hB).below hx) (by omega) hc2)
  have T1 := Lib.hid (fun wx (hx : Below w2.heap.size w2 wx) => ((hw1.below hB).below hx).trim)
  have T2 := Lib.hid (fun wx (hx : Below w2.heap.size w2 wx) => ((hw2.below hB).below hx).trim)
  have HL := Lib.hid (show big (valI g1 z1) = decide (2 ^ 512 ≤ ofW z1) ∧ big (valI g2 z2) = decide (2 ^ 512 ≤ ofW z2) from by unfold big; rw [valI_abs, valI_abs]; exact ⟨rfl, rfl⟩)
  obtain ⟨x, Hx⟩ : ∃ x, Hid (valI g1 z1 = x) := ⟨_, Lib.hid rfl⟩
  obtain ⟨y, Hy⟩ : ∃ y, Hid (valI g2 z2 = y) := ⟨_, Lib.hid rfl⟩
  rw [Hx.out] at HL ⊢
  rw [Hy.out] at HL ⊢
  simp only [← HL.out.1] at L1
  simp only [← HL.out.2] at L2
  obtain ⟨lx, Hlx⟩ : ∃ b, Hid (big x = b) := ⟨_, Lib.hid rfl⟩
  obtain ⟨ly, Hly⟩ : ∃ b, Hid (big y = b) := ⟨_, Lib.hid rfl⟩
  rw [Hlx.out] at HL ⊢
  rw [Hly.out] at HL ⊢
  simp only [Hlx.out] at L1
  simp only [Hly.out] at L2
  clear h1 h2 hw1 hw2 hB
  have FIN := Lib.hid (show ∀ (wx : World) (b : Bool) (a : Option Addr) (n c : Nat) (i : Int), Below w2.heap.size w2 wx → IntC wx (.agg #[.bool b, .slice a n c]) i →
      (IntC ((wx.setCell ⟨bo, 0, none⟩ (.bool b)).setCell ⟨bo, 1, none⟩ (.slice a n c)) (.agg #[.bool b, .slice a n c]) i ∧ ((wx.setCell ⟨bo, 0, none⟩ (.bool b)).setCell ⟨bo, 1, none⟩ (.slice a n c)).heap[bo]? = some (.cells #[.bool b, .slice a n c] 24 (0, 0))) ∧
      Below w.heap.size w ((wx.setCell ⟨bo, 0, none⟩ (.bool b)).setCell ⟨bo, 1, none⟩ (.slice a n c)) from fun wx b a n c i hx hi =>
    ⟨hi.store ((HC.out.2 wx hx).2), ((HB.out.trans (Below.mono hx HB.out.size)).setCell (by have := Hbo.out; simp only; omega) _).setCell (by have := Hbo.out; simp only; omega) _⟩)
  have Hbo2 := Lib.hid (show bo = bm + 1 from by have := Hbo.out; have := Hbm.out; omega)
  have hD := Lib.hid (Below.refl w2.heap.size w2)
  obtain ⟨⟨s0, s1, s2, s3⟩, sq⟩ := HC.out.2 w2 hD.out
  obtain ⟨⟨r0, r1⟩, f0, f1⟩ := box_cells sq
  clear sq
  go_enter Tryd.func66, Tryd.ntmps66
  go_wp2_with (go_at_call 78; refine hold ?_)
  rw [← Hw2.out]
  try rw [← Hbm.out]
  try rw [← Hbn.out]
  rw [← Hbo2.out]
  refine Hold.mk ?_
  refine (L1.out w2 hD.out).mono ?_
  rintro e w3 ⟨rfl, hb⟩
  have hE := Lib.hid hb
  clear s0 s1 s2 s3 r0 r1 f0 f1 hb
  obtain ⟨⟨s0, s1, s2, s3⟩, sq⟩ := HC.out.2 w3 hE.out
  obtain ⟨⟨r0, r1⟩, f0, f1⟩ := box_cells sq
  clear sq
  cases lx with
  | true =>
    go_wp2_with fail
    obtain ⟨⟨h1, h2⟩, h3⟩ := FIN.out w3 false none 0 0 0 hE.out (intC_zero _)
    refine bodyPost_ret (results_cell_pair rfl _ _ bo 24 (.bool false) (.slice none 0 0) (0, 0) rfl h2) rfl ?_
    exact ⟨⟨_, rfl, by simpa using h1⟩, h3⟩
  | false =>
    go_wp2_with (go_at_call 78; refine hold ?_)
    refine Hold.mk ?_
    refine (L2.out w3 hE.out).mono ?_
    rintro e w4 ⟨rfl, hb⟩
    have hF := Lib.hid (hE.out.trans (Below.mono hb hE.out.size))
    clear s0 s1 s2 s3 r0 r1 f0 f1 hb
    obtain ⟨⟨s0, s1, s2, s3⟩, sq⟩ := HC.out.2 w4 hF.out
    obtain ⟨⟨r0, r1⟩, f0, f1⟩ := box_cells sq
    clear sq
    cases ly with
    | true =>
      go_wp2_with fail
      obtain ⟨⟨h1, h2⟩, h3⟩ := FIN.out w4 false none 0 0 0 hF.out (intC_zero _)
      refine bodyPost_ret (results_cell_pair rfl _ _ bo 24 (.bool false) (.slice none 0 0) (0, 0) rfl h2) rfl ?_
      exact ⟨⟨_, rfl, by simpa using h1⟩, h3⟩
    | false =>
      have HS2 := Lib.hid (show ofW z1 < 2 ^ 512 ∧ ofW z2 < 2 ^ 512 from by
        have h1 := of_decide_eq_false HL.out.1.symm
        have h2 := of_decide_eq_false HL.out.2.symm
        omega)
      have hm : (trimZ z1).length ≤ 16 ∧ (trimZ z2).length ≤ 16 := by
        have e := pow16
        rw [trim_can HWs.out.1, trim_can HWs.out.2]
        exact ⟨canW_le (by rw [e]; exact HS2.out.1), canW_le (by rw [e]; exact HS2.out.2)⟩
      obtain ⟨y1, Hy1⟩ : ∃ y, Hid (trimZ z1 = y ∧ ofW y = ofW z1) := ⟨_, Lib.hid ⟨rfl, ofW_trim _⟩⟩
      obtain ⟨y2, Hy2⟩ : ∃ y, Hid (trimZ z2 = y ∧ ofW y = ofW z2) := ⟨_, Lib.hid ⟨rfl, ofW_trim _⟩⟩
      simp only [Hy1.out.1] at hm K1 T1
      simp only [Hy2.out.1] at hm K2 T2
      obtain ⟨m1, Hm1⟩ : ∃ m, Hid (y1.length = m) := ⟨_, Lib.hid rfl⟩
      obtain ⟨m2, Hm2⟩ : ∃ m, Hid (y2.length = m) := ⟨_, Lib.hid rfl⟩
      simp only [Hm1.out] at hm K1 T1
      simp only [Hm2.out] at hm K2 T2
      obtain ⟨hm1, hm2⟩ := hm
      have hG := Lib.hid (show Below w2.heap.size w2 w4.drew from hF.out.trans (Below.mono (Below.refl _ w4).drew hF.out.size))
      go_upto_region 3 with fail
      clear s0 s1 s2 s3 r0 r1 f0 f1
      have HS := (HC.out.2 w4.drew hG.out).1
      refine wp_region_pi (fun w' => w'.cell? ⟨bn, 0, none⟩ = some (.bool g1) ∧ w'.cell? ⟨bn, 1, none⟩ = some (.slice a1 n1 cap1) ∧ w'.cell? ⟨bm, 0, none⟩ = some (.bool g2) ∧ w'.cell? ⟨bm, 1, none⟩ = some (.slice a2 n2 cap2)) [(0, 1), (1, 0), (3, 1), (4, 0), (2, 2), (5, 3), (6, 3), (7, 3)] [(5, [2, 1]), (5, [4]), (6, [1]), (6, [5, 4]), (7, [1]), (7, [4])] (by kernel_rfl) (by kernel_rfl) (fun _ _ _ _ _ h => h) (HS) ?_
      refine pd_pu (some 21) rfl rfl (by rfl) (fun ws => by go_simp; try with_reducible rfl) ?_; go_frame   -- 0 Op.fieldAddr 24 (Operand.tmp 2) 1
      refine pd_ld (some 22) rfl rfl (by rfl) (fun ws HS => by go_split_ands; go_simp; try with_reducible rfl) ?_; go_frame   -- 1 Op.load 22 (Operand.tmp 21)
      refine pd_pu (some 24) rfl rfl (by rfl) (fun ws => by go_simp; try with_reducible rfl) ?_; go_frame   -- 3 Op.fieldAddr 24 (Operand.tmp 3) 1
      refine pd_ld (some 25) rfl rfl (by rfl) (fun ws HS => by go_split_ands; go_simp; try with_reducible rfl) ?_; go_frame   -- 4 Op.load 22 (Operand.tmp 24)
      refine pi_ke rfl (fun J hJ => ?_)   -- pi_ke 2 Op.call { callee := Callee.value (Operand.func 54), args := #[Operand.tmp 22], argTypes := #[22] }
      go_wp2_with (go_at_call 54; refine (K1.out w4.drew hG.out).mono ?_; rintro e w5 ⟨rfl, rfl⟩)
      refine hJ _ _ (HC.out.2 w4.drew hG.out).1 ?_
      refine pi_tail (by rfl) ?_; simp only [opsAt, List.getElem?_toArray, List.getElem?_cons_zero, List.getElem?_cons_succ]   -- [(5, 'Op.call { callee := Callee.value (Operand.func 54), args := #[Operand.tmp 25], argTypes := #[22] }'), (6, 'Op.assign (Operand.tmp 23)'), (7, 'Op.assign (Operand.tmp 26)')]
      obtain ⟨wd, Hwd⟩ : ∃ wd, Hid (wd = w4.drew) := ⟨_, Lib.hid rfl⟩
      rw [← Hwd.out] at hG ⊢
      have K3 := Lib.hid (K2.out wd hG.out)
      go_upto_region 4 with (go_at_call 54; refine K3.out.mono ?_; rintro e w6 ⟨rfl, rfl⟩)
      clear Hwd
      have H1 := Lib.hid (T1.out wd hG.out)
      have H2 := Lib.hid (T2.out wd hG.out)
      go_wp2_with (refine wpList_makeW _ rfl _ _ rfl _ _ (m1 + m2) rfl rfl (by go_num) (by go_num) (by omega) ?_; intro w7 ho hb; have HO := Lib.hid (And.intro ho hb); clear ho hb)
      obtain ⟨g, Hg⟩ : ∃ g, Hid (g = wd.heap.size) := ⟨_, Lib.hid rfl⟩
      rw [← Hg.out]
      go_loopg [35] m1 (fun gg v35 wr => ∃ i : Nat, i ≤ m1 ∧ v35 = .int .i64 i ∧ gg = m1 - i ∧ Hid (MulR wd wr g y1 y2 (m1 + m2) i))
      case atStart => exact ⟨0, Nat.zero_le _, rfl, rfl, Lib.hid ⟨_, by rw [Hg.out]; exact HO.out.1, by simp, words_zero _, by simp [ofW, zero_ofW], fun k _ => by simp [List.getD, List.getElem?_replicate]; split <;> simp, HO.out.2⟩⟩
      case round =>
        obtain ⟨i, hi, rfl, hgg, Hr⟩ := hrel
        by_cases hli : i < m1
        · have hbl : Below wd.heap.size wd wr := by
            obtain ⟨l, r1, r2, r3, r4, r5, r6⟩ := Hr.out
            exact r6
          obtain ⟨x1, e1, hx⟩ := (H1.out.below hbl).2.2 i hli
          obtain ⟨u, Hu⟩ : ∃ u, Hid (y1.getD i 0 = u) := ⟨_, Lib.hid rfl⟩
          have hu9 : u < 4294967296 := by rw [← Hu.out]; exact H1.out.2.1.get i
          rw [Hu.out] at hx
          subst e1
          have HI0 := Lib.hid (show MulI wd wr g y2 (m1 + m2) i u (ofW (y1.take i) * ofW y2) 0 0 from Hr.out.start)
          clear Hr hbl
          go_wp2_with fail
          rename World => wo
          go_loopg [11, 42] m2 (fun gg v11 v42 wr => ∃ (j c : Nat), j ≤ m2 ∧ v42 = .int .i64 j ∧ v11 = .int .u64 c ∧ c < 4294967296 ∧ gg = m2 - j ∧ Hid (MulI wd wr g y2 (m1 + m2) i u (ofW (y1.take i) * ofW y2) j c))
          case atStart => exact ⟨0, 0, Nat.zero_le _, rfl, rfl, by decide, rfl, HI0⟩
          case round =>
            obtain ⟨j, c, hj, rfl, rfl, hc9, hgg2, Hr⟩ := hrel
            by_cases hlj : j < m2
            · obtain ⟨l, r1, r2, r3, r4, r5, r6⟩ := Hr.out
              obtain ⟨x2, e2, hx2⟩ := (H2.out.below r6).2.2 j hlj
              obtain ⟨u2, Hu2⟩ : ∃ u, Hid (y2.getD j 0 = u) := ⟨_, Lib.hid rfl⟩
              have hu29 : u2 < 4294967296 := by rw [← Hu2.out]; exact H2.out.2.1.get j
              rw [Hu2.out] at hx2
              subst e2
              have hcell := r1.cell (i + j) (by omega)
              have hfz := r1.frozen (i + j)
              obtain ⟨o, Ho⟩ : ∃ u, Hid (l.getD (i + j) 0 = u) := ⟨_, Lib.hid rfl⟩
              have ho9 : o < 4294967296 := by rw [← Ho.out]; exact r3.get (i + j)
              rw [Ho.out] at hcell
              have hij : i + j < m1 + m2 := by omega
              obtain ⟨f1, f2, f3, f4⟩ := mul_fits hu9 hu29 hc9 ho9
              obtain ⟨P, HP⟩ : ∃ q, Hid (u * u2 = q) := ⟨_, Lib.hid rfl⟩
              rw [HP.out] at f1 f2 f3 f4
              obtain ⟨Q, HQ⟩ : ∃ q, Hid (P + o = q) := ⟨_, Lib.hid rfl⟩
              rw [HQ.out] at f1 f2 f3
              obtain ⟨U, HU⟩ : ∃ q, Hid (c + Q = q) := ⟨_, Lib.hid rfl⟩
              rw [HU.out] at f2 f3
              have e1 : IntKind.u64.wrap ((u : Int) * (u2 : Int)) = (P : Int) := by
                rw [← Int.natCast_mul, HP.out, wrap_u64_id _ (by omega) (by omega)]
              have e2 : IntKind.u64.wrap ((P : Int) + (o : Int)) = (Q : Int) := by
                rw [← Int.natCast_add, HQ.out, wrap_u64_id _ (by omega) (by omega)]
              have e3 : IntKind.u64.wrap ((c : Int) + (Q : Int)) = (U : Int) := by
                rw [← Int.natCast_add, HU.out, wrap_u64_id _ (by omega) (by omega)]
              have HF := Lib.hid (show MulI wd (wr.setCell ⟨g, i + j, none⟩ (.int .u32 ((U : Int) % 4294967296))) g y2 (m1 + m2) i u (ofW (y1.take i) * ofW y2) (j + 1) (U / 4294967296) from by
                rw [show ((U : Int) % 4294967296) = ((U % 4294967296 : Nat) : Int) by omega]
                refine Hr.out.step (by rw [Hm2.out]; exact hlj) (by rw [Hm2.out]; omega) (by rw [Hg.out]; exact Nat.le_refl _) Hu2.out (o := o) ?_ (by rw [HP.out, HQ.out, HU.out])
                intro l' h' h2'
                have hc' := h'.cell (i + j) (by omega)
                rw [hcell] at hc'
                have hc' : (o : Int) = ((l'.getD (i + j) 0 : Nat) : Int) := by simpa using hc'
                omega)
              clear r1 r2 r3 r4 r5 r6 Hr f1 f4
              go_wp2_with fail
              go_roundg (m2 - (j + 1))
              case measure => omega
              case rel => exact ⟨j + 1, U / 4294967296, by omega, by go_num, congrArg (Value.int .u64) (by omega), f3, rfl, HF⟩
            · have hje : j = m2 := by omega
              have hge : m2 ≤ j := by omega
              have Hr2 := Lib.hid (show MulI wd wr g y2 (m1 + m2) i u (ofW (y1.take i) * ofW y2) y2.length c from by have h := Hr.out; rw [show j = y2.length by rw [Hm2.out]; exact hje] at h; exact h)
              obtain ⟨l, r1, r2, r3, r4, r5, r6⟩ := Hr2.out
              have hcell := r1.cell (i + m2) (by omega)
              have hfz := r1.frozen (i + m2)
              have HF := Lib.hid (show MulR wd (wr.setCell ⟨g, i + m2, none⟩ (.int .u32 (c : Int))) g y1 y2 (m1 + m2) (i + 1) from by
                have := Hr2.out.done (y1 := y1) (by rw [Hm2.out]; omega) (by rw [Hg.out]; exact Nat.le_refl _) rfl Hu.out hc9
                rw [Hm2.out] at this
                exact this)
              have hij : i + m2 < m1 + m2 := by omega
              have hcm : (c : Int) % 4294967296 = (c : Int) := by omega
              clear r1 r2 r3 r4 r5 r6 Hr Hr2 hje hlj
              go_wp2_with fail
              go_roundg (m1 - (i + 1))
              case measure => omega
              case rel => exact ⟨i + 1, by omega, by go_num, rfl, HF⟩
        · have hge : m1 ≤ i := by omega
          have hie : i = m1 := by omega
          obtain ⟨l, r1, r2, r3, r4, r5, r6⟩ := Hr.out
          have hJ6 := Lib.hid (hG.out.trans (Below.mono r6 hG.out.size))
          have hl9 : l.length ≤ 32 := by omega
          have K7 := Lib.hid (form_any (!(g1 == g2)) (some ⟨g, 0, none⟩) (m1 + m2) (m1 + m2) l wr (by have := r1.words r3; rw [r2] at this; exact this) (by omega) (Nat.le_refl _))
          have HVE := Lib.hid (show valI (!(g1 == g2)) l = x * y from by
            rw [← Hx.out, ← Hy.out]
            refine valI_mul g1 g2 z1 z2 l ?_
            rw [r4, hie, List.take_of_length_le (by rw [Hm1.out]; exact Nat.le_refl _), Hy1.out.2, Hy2.out.2])
          rw [HVE.out] at K7
          obtain ⟨⟨s0, s1, s2, s3⟩, sq⟩ := HC.out.2 wr hJ6.out
          clear r1 r2 r3 r4 r5 r6 hl9 sq Hr hie hli
          clear s0 s1 s2 s3
          obtain ⟨⟨s0, s1, s2, s3⟩, sq⟩ := HC.out.2 wr hJ6.out
          clear sq
          go_wp2_with (go_at_call 47; refine hold ?_)
          refine Hold.mk ?_
          refine K7.out.mono ?_
          rintro e w8 ⟨v8, rfl, hv, hb⟩
          have hJ8 := Lib.hid (hJ6.out.trans (Below.mono hb hJ6.out.size))
          have K8 := Lib.hid (fits_any v8 (x * y) w8 hv)
          clear hv hb
          go_wp2_with (go_at_call 79; refine hold ?_)
          refine Hold.mk ?_
          refine K8.out.mono ?_
          rintro e w9 ⟨⟨v9, rfl, hv⟩, hb⟩
          have hJ9 := Lib.hid (hJ8.out.trans (Below.mono hb hJ8.out.size))
          obtain ⟨⟨s0, s1, s2, s3⟩, sq⟩ := HC.out.2 w9 hJ9.out
          obtain ⟨⟨r0, r1⟩, f0, f1⟩ := box_cells sq
          obtain ⟨b9, a9, n9, c9, rfl⟩ := hv.agg
          have HX := Lib.hid (FIN.out w9 b9 a9 n9 c9 _ hJ9.out hv)
          obtain ⟨k9, Hk9⟩ : ∃ k : Int, Hid (k = if 2 ^ 512 ≤ (x * y).natAbs then 2 else 0) := ⟨_, Lib.hid rfl⟩
          rw [← Hk9.out]
          clear sq hv hb
          go_wp2_with fail
          obtain ⟨⟨h1, h2⟩, h3⟩ := HX.out
          refine bodyPost_ret (results_cell_pair rfl _ _ bo 24 (.bool b9) (.slice a9 n9 c9) (0, 0) rfl h2) rfl ?_
          have hk : k9 = if big (x * y) then 2 else 0 := by rw [Hk9.out, if_big]
          have hk2 : (if 2 ^ 512 ≤ (x * y).natAbs then 0 else x * y) = if big (x * y) then 0 else x * y := if_big _ _ _
          rw [hk2] at h1
          refine ⟨⟨_, ?_, by simpa using h1⟩, h3⟩
          simp only [Bool.false_or]
          rw [← hk]
          rfl
end Go.Proofs.YtahgbbnpbhfaeaaDoor
