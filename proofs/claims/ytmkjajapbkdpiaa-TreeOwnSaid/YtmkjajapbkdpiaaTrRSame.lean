/- recastref4.Same. No condition. -/
import Derived.Test.YtmkjajapbkdpiaaTrSame
import Derived.Test.YtmkjajapbkdpiaaRegP
namespace Go.Proofs.Ytmkjajapbkdpiaa
open Go.RowKit

set_option maxRecDepth 100000 in
set_option maxHeartbeats 3200000 in
theorem rsame_any : ∀ m, SameC 18 m := by
  intro m
  induction m with
  | zero => intro n1 n2 v1 v2 w h; omega
  | succ m ih =>
    intro n1 n2 v1 v2 w hm hn1 hn2
    obtain ⟨k1, f1, t1, s1, c1⟩ := n1
    obtain ⟨k2, f2, t2, s2, c2⟩ := n2
    obtain ⟨a1, cap1, e1, hl1, hc1, hK1⟩ := hn1
    obtain ⟨a2, cap2, e2, hl2, hc2, hK2⟩ := hn2
    simp only at e1 e2 hl1 hl2 hK1 hK2 hm
    subst e1
    subst e2
    have hbb := ((Below.refl _ w).alloc (Nat.le_refl _) (.cells #[.int .i64 k1, .int .i64 f1, .int .i64 t1, .string s1, .slice a1 c1.len cap1] 24)).alloc (by simp) (.cells #[.int .i64 k2, .int .i64 f2, .int .i64 t2, .string s2, .slice a2 c2.len cap2] 24)
    have HK := Lib.hid (And.intro (hK1.below hbb rfl) (And.intro (hK2.below hbb rfl) (show c1.cnt ≤ m by omega)))
    have HB := Lib.hid hbb
    have IH := Lib.hid ih
    have hLs : c1.len ≤ 9223372036854775807 := by unfold maxLen at hc1; omega
    have hLs2 : c2.len ≤ 9223372036854775807 := by unfold maxLen at hc2; omega
    clear hbb hK1 hK2 hl1 hl2 hc1 hc2 ih
    obtain ⟨L1, HL1⟩ : ∃ L, Hid (c1.len = L) := ⟨_, Lib.hid rfl⟩
    obtain ⟨L2, HL2⟩ : ∃ L, Hid (c2.len = L) := ⟨_, Lib.hid rfl⟩
    rw [HL1.out] at HK HB hLs ⊢
    rw [HL2.out] at HK HB hLs2 ⊢
    cases d1 : (k1 != k2) with
    | true =>
      have d1' : (k1 == k2) = false := by simpa [bne] using d1
      go_enter Try.func18, Try.ntmps18
      go_wp2_with fail
      go_ret
      exact ⟨eret_bool (by unfold sameN; rw [d1']; rfl), HB.out⟩
    | false =>
      have d1' : (k1 == k2) = true := by simpa [bne] using d1
      cases d2' : (s1.toList == s2.toList) with
      | false =>
        go_enter Try.func18, Try.ntmps18
        go_wp2_with fail
        go_ret
        exact ⟨eret_bool (by unfold sameN; rw [d1', d2']; rfl), HB.out⟩
      | true =>
        have Hd := Lib.hid (show sameN ⟨k1, f1, t1, s1, c1⟩ ⟨k2, f2, t2, s2, c2⟩ = sameF c1 c2 from by unfold sameN; rw [d1', d2']; rfl)
        by_cases hne : L1 = L2
        · subst hne
          clear d1'
          go_enter Try.func18, Try.ntmps18
          go_wp2_with fail
          have n4 : ((w.alloc (.cells #[.int .i64 k1, .int .i64 f1, .int .i64 t1, .string s1, .slice a1 L1 cap1] 24)).alloc (.cells #[.int .i64 k2, .int .i64 f2, .int .i64 t2, .string s2, .slice a2 L1 cap2] 24)).cell? ⟨w.heap.size, 4, none⟩ = some (.slice a1 L1 cap1) := cell_alloc (World.cell?_alloc_new w #[.int .i64 k1, .int .i64 f1, .int .i64 t1, .string s1, .slice a1 L1 cap1] _ 4)
          have n5 : ((w.alloc (.cells #[.int .i64 k1, .int .i64 f1, .int .i64 t1, .string s1, .slice a1 L1 cap1] 24)).alloc (.cells #[.int .i64 k2, .int .i64 f2, .int .i64 t2, .string s2, .slice a2 L1 cap2] 24)).cell? ⟨w.heap.size + 1, 4, none⟩ = some (.slice a2 L1 cap2) := by
            have := World.cell?_alloc_new (w.alloc (.cells #[.int .i64 k1, .int .i64 f1, .int .i64 t1, .string s1, .slice a1 L1 cap1] 24)) #[.int .i64 k2, .int .i64 f2, .int .i64 t2, .string s2, .slice a2 L1 cap2] 24 4
            rwa [World.size_alloc] at this
          obtain ⟨w1, hw1⟩ : ∃ w1, w1 = (w.alloc (.cells #[.int .i64 k1, .int .i64 f1, .int .i64 t1, .string s1, .slice a1 L1 cap1] 24)).alloc (.cells #[.int .i64 k2, .int .i64 f2, .int .i64 t2, .string s2, .slice a2 L1 cap2] 24) := ⟨_, rfl⟩
          obtain ⟨bt, hbt⟩ : ∃ bt, bt = w.heap.size + 1 := ⟨_, rfl⟩
          rw [← hbt] at n5 ⊢
          obtain ⟨bs, hbs⟩ : ∃ bs, bs = w.heap.size := ⟨_, rfl⟩
          rw [← hbs] at n4 ⊢
          rw [← hw1] at n4 n5 HK HB ⊢
          clear hw1 hbs hbt
          go_loopg [5] L1 (fun g v5 wr => ∃ i : Nat, i ≤ L1 ∧ v5 = .int .i64 i ∧ g = L1 - i ∧ Hid (sameF (c1.drop i) (c2.drop i) = sameF c1 c2 ∧ Below w1.heap.size w1 wr))
          case atStart => exact ⟨0, Nat.zero_le _, rfl, rfl, Lib.hid ⟨by cases c1 <;> cases c2 <;> rfl, Below.refl _ _⟩⟩
          case round =>
            obtain ⟨i, hi, rfl, hg, Hr⟩ := hrel
            have c4 := cell_below Hr.out.2 rfl n4
            have c5 := cell_below Hr.out.2 rfl n5
            by_cases hlt : i < L1
            · obtain ⟨ad, a', cap', rfl, g0, g1, g2, g3, g4, g5, g6, g7⟩ := (HK.out.1.below Hr.out.2 rfl).get i (by rw [HL1.out]; exact hlt)
              obtain ⟨bd, b', cbp', rfl, k0, k1, k2, k3, k4, k5, k6, k7⟩ := (HK.out.2.1.below Hr.out.2 rfl).get i (by rw [HL2.out]; exact hlt)
              rw [Nat.zero_add] at g0 g1 g2 g3 g4 k0 k1 k2 k3 k4
              have Hcnt := Fo.get_cnt c1 i (by rw [HL1.out]; exact hlt)
              have Hdr := Lib.hid (sameF_drop c1 c2 i (by rw [HL1.out]; exact hlt) (by rw [HL2.out]; exact hlt))
              obtain ⟨n1, Hn1⟩ : ∃ nd, Hid (c1.get i = nd) := ⟨_, Lib.hid rfl⟩
              obtain ⟨n2, Hn2⟩ : ∃ nd, Hid (c2.get i = nd) := ⟨_, Lib.hid rfl⟩
              rw [Hn1.out] at g0 g1 g2 g3 g4 g5 g7 Hcnt Hdr
              rw [Hn2.out] at k0 k1 k2 k3 k4 k5 k7 Hdr
              have HV1 := Lib.hid (show NodeV wr n1 (.agg #[.int .i64 n1.k, .int .i64 n1.f, .int .i64 n1.t, .string n1.s, .slice a' n1.c.len cap']) from ⟨a', cap', rfl, g5, g6, g7⟩)
              have HV2 := Lib.hid (show NodeV wr n2 (.agg #[.int .i64 n2.k, .int .i64 n2.f, .int .i64 n2.t, .string n2.s, .slice b' n2.c.len cbp']) from ⟨b', cbp', rfl, k5, k6, k7⟩)
              have HC := Lib.hid (show n1.c.cnt < m from Nat.lt_of_lt_of_le Hcnt HK.out.2.2)
              have HS : (fun w' => w'.cell? ⟨bs, 4, none⟩ = some (.slice (some ad) L1 cap1) ∧ w'.cell? ⟨bt, 4, none⟩ = some (.slice (some bd) L1 cap2) ∧ w'.cell? (ad.add (i * 5)) = some (.int .i64 n1.k) ∧ w'.cell? ⟨(ad.add (i * 5)).block, (ad.add (i * 5)).off + 1, none⟩ = some (.int .i64 n1.f) ∧ w'.cell? ⟨(ad.add (i * 5)).block, (ad.add (i * 5)).off + 2, none⟩ = some (.int .i64 n1.t) ∧ w'.cell? ⟨(ad.add (i * 5)).block, (ad.add (i * 5)).off + 3, none⟩ = some (.string n1.s) ∧ w'.cell? ⟨(ad.add (i * 5)).block, (ad.add (i * 5)).off + 4, none⟩ = some (.slice a' n1.c.len cap') ∧ w'.cell? (bd.add (i * 5)) = some (.int .i64 n2.k) ∧ w'.cell? ⟨(bd.add (i * 5)).block, (bd.add (i * 5)).off + 1, none⟩ = some (.int .i64 n2.f) ∧ w'.cell? ⟨(bd.add (i * 5)).block, (bd.add (i * 5)).off + 2, none⟩ = some (.int .i64 n2.t) ∧ w'.cell? ⟨(bd.add (i * 5)).block, (bd.add (i * 5)).off + 3, none⟩ = some (.string n2.s) ∧ w'.cell? ⟨(bd.add (i * 5)).block, (bd.add (i * 5)).off + 4, none⟩ = some (.slice b' n2.c.len cbp')) wr.drew := ⟨c4, c5, g0, g1, g2, g3, g4, k0, k1, k2, k3, k4⟩
              clear g0 g1 g2 g3 g4 k0 k1 k2 k3 k4 g5 g6 g7 k5 k6 k7 Hcnt
              obtain ⟨t, Ht⟩ : ∃ t, Hid (sameN n1 n2 = t) := ⟨_, Lib.hid rfl⟩
              have Hih := Lib.hid (show Calls Try.prog 18 #[.agg #[.int .i64 n1.k, .int .i64 n1.f, .int .i64 n1.t, .string n1.s, .slice a' n1.c.len cap'], .agg #[.int .i64 n2.k, .int .i64 n2.f, .int .i64 n2.t, .string n2.s, .slice b' n2.c.len cbp']] wr.drew fun e w' => e = .returned (.bool t) ∧ Below wr.drew.heap.size wr.drew w' from by
                rw [← Ht.out]
                exact IH.out n1 n2 _ _ _ HC.out (HV1.out.below (Below.refl _ _).drew) (HV2.out.below (Below.refl _ _).drew))
              go_upto_region 6 with fail
              refine wp_region_pi (fun w' => w'.cell? ⟨bs, 4, none⟩ = some (.slice (some ad) L1 cap1) ∧ w'.cell? ⟨bt, 4, none⟩ = some (.slice (some bd) L1 cap2) ∧ w'.cell? (ad.add (i * 5)) = some (.int .i64 n1.k) ∧ w'.cell? ⟨(ad.add (i * 5)).block, (ad.add (i * 5)).off + 1, none⟩ = some (.int .i64 n1.f) ∧ w'.cell? ⟨(ad.add (i * 5)).block, (ad.add (i * 5)).off + 2, none⟩ = some (.int .i64 n1.t) ∧ w'.cell? ⟨(ad.add (i * 5)).block, (ad.add (i * 5)).off + 3, none⟩ = some (.string n1.s) ∧ w'.cell? ⟨(ad.add (i * 5)).block, (ad.add (i * 5)).off + 4, none⟩ = some (.slice a' n1.c.len cap') ∧ w'.cell? (bd.add (i * 5)) = some (.int .i64 n2.k) ∧ w'.cell? ⟨(bd.add (i * 5)).block, (bd.add (i * 5)).off + 1, none⟩ = some (.int .i64 n2.f) ∧ w'.cell? ⟨(bd.add (i * 5)).block, (bd.add (i * 5)).off + 2, none⟩ = some (.int .i64 n2.t) ∧ w'.cell? ⟨(bd.add (i * 5)).block, (bd.add (i * 5)).off + 3, none⟩ = some (.string n2.s) ∧ w'.cell? ⟨(bd.add (i * 5)).block, (bd.add (i * 5)).off + 4, none⟩ = some (.slice b' n2.c.len cbp')) [(0, 1), (1, 0), (2, 1), (3, 1), (4, 0), (5, 1), (6, 0), (7, 1), (8, 1), (9, 0), (10, 3), (11, 3)] [(10, [4, 3, 1]), (10, [4]), (10, [9, 8, 6]), (10, [9]), (11, [10, 4, 3, 1]), (11, [10, 4]), (11, [10, 9, 8, 6]), (11, [10, 9])] (by kernel_rfl) (by kernel_rfl) (fun _ _ _ _ _ h => h) (HS) ?_
              refine pd_pu (some 34) rfl rfl (by rfl) (fun ws => by go_simp; try with_reducible rfl) ?_; go_frame   -- 0 Op.fieldAddr 24 (Operand.tmp 2) 4
              refine pd_ld (some 35) rfl rfl (by rfl) (fun ws HS => by go_split_ands; go_simp; try with_reducible rfl) ?_; go_frame   -- 1 Op.load 22 (Operand.tmp 34)
              refine pd_pu (some 36) rfl rfl (by rfl) (fun ws => by go_simp; try with_reducible rfl) ?_; go_frame   -- 2 Op.move (Operand.tmp 5)
              refine pd_pu (some 37) rfl rfl (by rfl) (fun ws => by go_simp; try with_reducible rfl) ?_; go_frame   -- 3 Op.indexAddr 22 (Operand.tmp 35) (Operand.tmp 36)
              refine pd_ld (some 38) rfl rfl (by rfl) (fun ws HS => by go_split_ands; go_simp; try with_reducible rfl) ?_; go_frame   -- 4 Op.load 24 (Operand.tmp 37)
              refine pd_pu (some 39) rfl rfl (by rfl) (fun ws => by go_simp; try with_reducible rfl) ?_; go_frame   -- 5 Op.fieldAddr 24 (Operand.tmp 3) 4
              refine pd_ld (some 40) rfl rfl (by rfl) (fun ws HS => by go_split_ands; go_simp; try with_reducible rfl) ?_; go_frame   -- 6 Op.load 22 (Operand.tmp 39)
              refine pd_pu (some 41) rfl rfl (by rfl) (fun ws => by go_simp; try with_reducible rfl) ?_; go_frame   -- 7 Op.move (Operand.tmp 5)
              refine pd_pu (some 42) rfl rfl (by rfl) (fun ws => by go_simp; try with_reducible rfl) ?_; go_frame   -- 8 Op.indexAddr 22 (Operand.tmp 40) (Operand.tmp 41)
              refine pd_ld (some 43) rfl rfl (by rfl) (fun ws HS => by go_split_ands; go_simp; try with_reducible rfl) ?_; go_frame   -- 9 Op.load 24 (Operand.tmp 42)
              refine pi_tail (by rfl) ?_; simp only [opsAt, List.getElem?_toArray, List.getElem?_cons_zero, List.getElem?_cons_succ]   -- [(10, 'Op.call { callee := Callee.value (Operand.func 18), args := #[Operand.tmp 38, Operand.tmp 43], argTypes := #[24, 24] }'), (11, 'Op.unOp UnOp.not 4 (Operand.tmp 44)')]
              cases t with
              | true =>
                go_wp2_with (go_at_call 18; refine Hih.out.mono ?_; rintro e w' ⟨rfl, hb⟩; have HB2 := Lib.hid hb; clear hb)
                go_roundg (L1 - (i + 1))
                case measure => omega
                case rel => exact ⟨i + 1, by omega, by go_num, rfl, Lib.hid ⟨by rw [← Hr.out.1, Hdr.out, Ht.out]; simp, Hr.out.2.trans (Below.mono ((Below.refl _ wr).drew.trans HB2.out) Hr.out.2.size)⟩⟩
              | false =>
                go_wp2_with (go_at_call 18; refine Hih.out.mono ?_; rintro e w' ⟨rfl, hb⟩; have HB2 := Lib.hid hb; clear hb)
                go_ret
                exact ⟨eret_bool (by rw [Hd.out, ← Hr.out.1, Hdr.out, Ht.out]; simp), HB.out.trans (Below.mono (Hr.out.2.trans (Below.mono ((Below.refl _ wr).drew.trans HB2.out) Hr.out.2.size)) HB.out.size)⟩
            · have Hv : Hid (true = sameF c1 c2) := Lib.hid (by
                have := Hr.out.1
                rw [Fo.drop_len c1 i (by rw [HL1.out]; omega), Fo.drop_len c2 i (by rw [HL2.out]; omega)] at this
                exact this)
              have hge : L1 ≤ i := by omega
              clear hlt
              go_wp2_with fail
              go_ret
              exact ⟨eret_bool (by rw [Hd.out]; exact Hv.out), HB.out.trans (Below.mono Hr.out.2 HB.out.size)⟩
        · have hq : ((L1 : Int) != (L2 : Int)) = true := by simp; omega
          have Hv : Hid (false = sameF c1 c2) := Lib.hid (sameF_len c1 c2 (by rw [HL1.out, HL2.out]; exact hne)).symm
          clear d1' hne
          go_enter Try.func18, Try.ntmps18
          go_wp2_with fail
          go_ret
          exact ⟨eret_bool (by rw [Hd.out]; exact Hv.out), HB.out⟩
end Go.Proofs.Ytmkjajapbkdpiaa
