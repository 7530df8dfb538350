/- Two.does: Send. No condition. -/
import Derived.Test.YtkcaeeighjblkaaTwoPush
namespace Go.Proofs.Ytkcaeeighjblkaa
open Go.RowKit

set_option maxRecDepth 100000 in
set_option maxHeartbeats 3200000 in
theorem does_send (bx bo po : Nat) (x : TwoSt) (N : Nat) (a b : Int) (w : World) (h : TwoMem w x N N) (hr : TwoRel x N) (hbx : x.bx = bx) (hbo : x.st.bo = bo) (hpo : x.rst.po = po) (hN : N + 3 ≤ 100000) :
    Calls Try.prog 21 #[.pointer (some ⟨bx, 0, none⟩), .agg #[.int .i64 4, .int .i64 a, .int .i64 b]] w (DoesPost x N w) := by
  obtain ⟨i0, hi, hz0, hz1, hz2⟩ := info_parts Try.infoPC
  obtain ⟨j0, hj, hy0, hy1, hy2⟩ := info_parts Try.info46
  have HO := Lib.hid (does_open 4 a b h hbx hbo hpo)
  have HH := Lib.hid (And.intro h (And.intro hr (And.intro hbx (And.intro hbo hpo))))
  obtain ⟨n, Hn⟩ : ∃ n, Hid (x.Cs.length = n) := ⟨_, Lib.hid rfl⟩
  obtain ⟨m, Hm⟩ : ∃ m, Hid (x.D.length = m) := ⟨_, Lib.hid rfl⟩
  have hnN : n ≤ N := by have := hr.cn; rw [Hn.out] at this; exact this
  have hmN : m ≤ N := by have := hr.cl; rw [Hn.out, Hm.out] at this; omega
  obtain ⟨ac, cc, ecv⟩ := row_form h.cs.row
  obtain ⟨ad, cd, edv⟩ := row_form h.ds.kn
  rw [Hn.out] at ecv
  rw [Hm.out] at edv
  have Hcv := Lib.hid ecv
  have Hdv := Lib.hid edv
  have hb := vSend_bounds h a
  have Hb := Lib.hid hb
  clear h hr hbx hbo hpo ecv edv hb
  go_enter Try.func21, Try.ntmps21
  go_upto_region 9 with fail
  obtain ⟨wB, hwB⟩ : ∃ wB, wB = w.alloc (.cells #[.int .i64 4, .int .i64 a, .int .i64 b] 28) := ⟨_, rfl⟩
  obtain ⟨bs, hbs⟩ : ∃ bs, bs = w.heap.size := ⟨_, rfl⟩
  rw [← hwB, ← hbs] at HO
  rw [← hwB]
  try rw [← hbs]
  clear hwB hbs
  have hb2 := HO.out.self.1.b2
  rw [HH.out.2.2.1, Hcv.out] at hb2
  have HS : (fun w' => w'.cell? ⟨bx, 0, none⟩ = some (.pointer (some ⟨bo, 0, none⟩)) ∧ w'.cell? ⟨bx, 2, none⟩ = some (.slice ac n cc) ∧ w'.cell? ⟨bs, 1, none⟩ = some (.int .i64 a)) wB.drew := ⟨HO.out.c0, hb2, HO.out.s1⟩
  clear hb2
  refine wp_region_pi (fun w' => w'.cell? ⟨bx, 0, none⟩ = some (.pointer (some ⟨bo, 0, none⟩)) ∧ w'.cell? ⟨bx, 2, none⟩ = some (.slice ac n cc) ∧ w'.cell? ⟨bs, 1, none⟩ = some (.int .i64 a)) [(0, 1), (1, 1), (2, 1), (3, 1), (4, 0), (5, 1), (6, 1), (7, 1), (8, 0), (9, 1), (10, 0), (11, 2), (12, 2), (13, 3), (14, 3), (15, 3), (16, 3)] [(13, [4]), (13, [11, 8]), (13, [11, 10]), (14, [4]), (14, [8]), (14, [10]), (15, [4]), (15, [8]), (15, [10]), (16, [4]), (16, [8]), (16, [10])] (by kernel_rfl) (by kernel_rfl) (fun _ _ _ _ _ h => h) (HS) ?_
  refine pd_pu (some 69) rfl rfl (by rfl) (fun ws => by go_simp; try with_reducible rfl) ?_; go_frame   -- 0 Op.move (Operand.tmp 0)
  refine pd_pu (some 70) rfl rfl (by rfl) (fun ws => by go_simp; try with_reducible rfl) ?_; go_frame   -- 1 Op.move (Operand.tmp 0)
  refine pd_pu (some 71) rfl rfl (by rfl) (fun ws => by go_simp; try with_reducible rfl) ?_; go_frame   -- 2 Op.nilCheck (Operand.tmp 70)
  refine pd_pu (some 72) rfl rfl (by rfl) (fun ws => by go_simp; try with_reducible rfl) ?_; go_frame   -- 3 Op.fieldAddr 42 (Operand.tmp 71) 2
  refine pd_ld (some 73) rfl rfl (by rfl) (fun ws HS => by go_split_ands; go_simp; try with_reducible rfl) ?_; go_frame   -- 4 Op.load 39 (Operand.tmp 72)
  refine pd_pu (some 74) rfl rfl (by rfl) (fun ws => by go_simp; try with_reducible rfl) ?_; go_frame   -- 5 Op.move (Operand.tmp 0)
  refine pd_pu (some 75) rfl rfl (by rfl) (fun ws => by go_simp; try with_reducible rfl) ?_; go_frame   -- 6 Op.nilCheck (Operand.tmp 74)
  refine pd_pu (some 76) rfl rfl (by rfl) (fun ws => by go_simp; try with_reducible rfl) ?_; go_frame   -- 7 Op.fieldAddr 42 (Operand.tmp 75) 0
  refine pd_ld (some 77) rfl rfl (by rfl) (fun ws HS => by go_split_ands; go_simp; try with_reducible rfl) ?_; go_frame   -- 8 Op.load 25 (Operand.tmp 76)
  refine pd_pu (some 78) rfl rfl (by rfl) (fun ws => by go_simp; try with_reducible rfl) ?_; go_frame   -- 9 Op.fieldAddr 28 (Operand.tmp 3) 1
  refine pd_ld (some 79) rfl rfl (by rfl) (fun ws HS => by go_split_ands; go_simp; try with_reducible rfl) ?_; go_frame   -- 10 Op.load 3 (Operand.tmp 78)
  refine pi_ke rfl (fun J hJ => ?_)   -- 11 Op.call { callee := Callee.value (Operand.func 19), args := #[Operand.tmp 77, Operand.tmp 79], argTypes := #[25, 3] }
  go_wp2_with (go_at_call 19; refine (wsend bo a _ HO.out.self.1 HH.out.2.2.2.1).mono ?_; rintro e w2 ⟨o, rfl, hbel, hn1, _, hn2⟩)
  obtain ⟨q, Hq⟩ : ∃ q, Hid (o.map (fun b => (⟨b.1, 0, none⟩ : Addr)) = q) := ⟨_, Lib.hid rfl⟩
  have eq : ptrOf (o, vSend x.K a) = .pointer q := by unfold ptrOf; rw [Hq.out]
  rw [eq]
  have Hq2 := Lib.hid eq
  have hs2 := hbel.size
  have HS2 : (fun w' => w'.cell? ⟨bx, 0, none⟩ = some (.pointer (some ⟨bo, 0, none⟩)) ∧ w'.cell? ⟨bx, 2, none⟩ = some (.slice ac n cc) ∧ w'.cell? ⟨bs, 1, none⟩ = some (.int .i64 a)) w2 := ⟨cell_below hbel rfl HS.1, cell_below hbel rfl HS.2.1, cell_below hbel rfl HS.2.2⟩
  have H2 := Lib.hid (And.intro hbel (And.intro hn1 hn2))
  clear hbel hn1 hn2 eq
  refine hJ _ _ HS2 ?_
  refine pi_ke rfl (fun J hJ => ?_)   -- 12 Op.buildSlice 39 1 #[(0, Operand.tmp 80)]
  go_wp2
  refine hJ _ _ ⟨cell_alloc HS2.1, cell_alloc HS2.2.1, cell_alloc HS2.2.2⟩ ?_
  refine pi_tail (by rfl) ?_; simp only [opsAt, List.getElem?_toArray, List.getElem?_cons_zero, List.getElem?_cons_succ]   -- [(13, 'Op.call { callee := Callee.builtin Builtin.append, args := #[Operand.tmp 73, Operand.tmp 81], argTypes := #[39, 39] }'), (14, 'Op.nilCheck (Operand.tmp 69)'), (15, 'Op.fieldAddr 42 (Operand.tmp 83) 2'), (16, 'Op.store 39 (Operand.tmp 84) (Operand.tmp 82)')]
  have hrow := ((HO.out.self.1.of_below H2.out.1).of_below ((Below.refl _ _).alloc (Nat.le_refl _) (.cells #[.pointer q] 33))).cs.row
  rw [Hcv.out, Hn.out] at hrow
  go_wp2_with (refine wpList_app _ rfl _ _ _ rfl 0 33 i0 _ 1 8 Try.underlying39 hi hz0 hz1 hz2 rfl (.slice ac n cc) n (x.Cs.map ptrOf) rfl hrow ⟨w2.heap.size, 0, none⟩ 1 1 [.pointer q] rfl rfl (World.news_of_block (cs := #[.pointer q]) (t := 33) (fr := (0, 0)) (heap_alloc_new w2 _)) ?c1 (by omega) (by unfold maxLen; omega) (by omega) (by omega) ?_)
  case c1 => intro u hu; simp at hu; subst hu; rfl
  intro gg cap w3 hown3 hat3
  have hP : (w3.cell? ⟨x.bx, 2, none⟩ = some x.cv ∧ w3.frozen? ⟨x.bx, 2, none⟩ = false) ∧ TwoStep wB.drew x (w3.setCell ⟨x.bx, 2, none⟩ (.slice (some ⟨gg, 0, none⟩) (x.Cs.length + 1) cap)) (x.setC (.slice (some ⟨gg, 0, none⟩) (x.Cs.length + 1) cap) (x.Cs ++ [(o, vSend x.K a)])) N N :=
    two_pushC HO.out.self.1 H2.out.1 H2.out.2.2 H2.out.2.1 Hb.out.1 Hb.out.2.1 (by rw [Hn.out, Hq2.out]; exact hown3) (by rw [Hcv.out]; exact hat3)
  rw [HH.out.2.2.1, Hcv.out, Hn.out] at hP
  obtain ⟨⟨hc3, hf3⟩, hs3⟩ := hP
  have HP := Lib.hid hs3
  clear hs3 hown3 hat3 hrow
  go_upto_region 10 with fail
  have d3 := HP.out.1.b3
  have d3 : (w3.setCell ⟨bx, 2, none⟩ (.slice (some ⟨gg, 0, none⟩) (n + 1) cap)).cell? ⟨bx, 3, none⟩ = some (.slice ad m cd) := by
    have e1 : (x.setC (.slice (some ⟨gg, 0, none⟩) (n + 1) cap) (x.Cs ++ [(o, vSend x.K a)])).bx = bx := HH.out.2.2.1
    have e2 : (x.setC (.slice (some ⟨gg, 0, none⟩) (n + 1) cap) (x.Cs ++ [(o, vSend x.K a)])).dv = .slice ad m cd := Hdv.out
    rw [e1, e2] at d3
    exact d3
  have dd := HP.out.ds HO.out.beside HH.out.2.2.1 HH.out.2.2.2.1 HH.out.2.2.2.2 HO.out.s0 HO.out.s1 HO.out.s2
  obtain ⟨wC, hwC⟩ : ∃ wC, wC = w3.setCell ⟨bx, 2, none⟩ (.slice (some ⟨gg, 0, none⟩) (n + 1) cap) := ⟨_, rfl⟩
  obtain ⟨y, hy⟩ : ∃ y, y = x.setC (.slice (some ⟨gg, 0, none⟩) (n + 1) cap) (x.Cs ++ [(o, vSend x.K a)]) := ⟨_, rfl⟩
  have HY := Lib.hid hy
  rw [← hwC] at HP dd d3 ⊢
  rw [← hy] at HP
  have hypo : y.rst.po = po := by rw [hy]; exact HH.out.2.2.2.2
  have hybx : y.bx = bx := by rw [hy]; exact HH.out.2.2.1
  have hydv : y.dv = .slice ad m cd := by rw [hy]; exact Hdv.out
  have hydl : y.D.length = m := by rw [hy]; exact Hm.out
  have hyk : y.KR = x.KR := by rw [hy]; rfl
  have HY2 := Lib.hid (And.intro hypo (And.intro hybx (And.intro hydv (And.intro hydl hyk))))
  clear hwC hy hypo hybx hydv hydl hyk hc3 hf3 HS HS2
  have HS3 : (fun w' => w'.cell? ⟨bx, 1, none⟩ = some (.pointer (some ⟨po, 0, none⟩)) ∧ w'.cell? ⟨bx, 3, none⟩ = some (.slice ad m cd) ∧ w'.cell? ⟨bs, 1, none⟩ = some (.int .i64 a)) wC.drew := ⟨dd.2.1, d3, dd.2.2.2.1⟩
  clear dd d3
  refine wp_region_pi (fun w' => w'.cell? ⟨bx, 1, none⟩ = some (.pointer (some ⟨po, 0, none⟩)) ∧ w'.cell? ⟨bx, 3, none⟩ = some (.slice ad m cd) ∧ w'.cell? ⟨bs, 1, none⟩ = some (.int .i64 a)) [(0, 1), (1, 1), (2, 1), (3, 1), (4, 0), (5, 1), (6, 1), (7, 1), (8, 0), (9, 1), (10, 0), (11, 2), (12, 2), (13, 3), (14, 3), (15, 3), (16, 3)] [(13, [4]), (13, [11, 8]), (13, [11, 10]), (14, [4]), (14, [8]), (14, [10]), (15, [4]), (15, [8]), (15, [10]), (16, [4]), (16, [8]), (16, [10])] (by kernel_rfl) (by kernel_rfl) (fun _ _ _ _ _ h => h) (HS3) ?_
  refine pd_pu (some 85) rfl rfl (by rfl) (fun ws => by go_simp; try with_reducible rfl) ?_; go_frame   -- 0 Op.move (Operand.tmp 0)
  refine pd_pu (some 86) rfl rfl (by rfl) (fun ws => by go_simp; try with_reducible rfl) ?_; go_frame   -- 1 Op.move (Operand.tmp 0)
  refine pd_pu (some 87) rfl rfl (by rfl) (fun ws => by go_simp; try with_reducible rfl) ?_; go_frame   -- 2 Op.nilCheck (Operand.tmp 86)
  refine pd_pu (some 88) rfl rfl (by rfl) (fun ws => by go_simp; try with_reducible rfl) ?_; go_frame   -- 3 Op.fieldAddr 42 (Operand.tmp 87) 3
  refine pd_ld (some 89) rfl rfl (by rfl) (fun ws HS => by go_split_ands; go_simp; try with_reducible rfl) ?_; go_frame   -- 4 Op.load 40 (Operand.tmp 88)
  refine pd_pu (some 90) rfl rfl (by rfl) (fun ws => by go_simp; try with_reducible rfl) ?_; go_frame   -- 5 Op.move (Operand.tmp 0)
  refine pd_pu (some 91) rfl rfl (by rfl) (fun ws => by go_simp; try with_reducible rfl) ?_; go_frame   -- 6 Op.nilCheck (Operand.tmp 90)
  refine pd_pu (some 92) rfl rfl (by rfl) (fun ws => by go_simp; try with_reducible rfl) ?_; go_frame   -- 7 Op.fieldAddr 42 (Operand.tmp 91) 1
  refine pd_ld (some 93) rfl rfl (by rfl) (fun ws HS => by go_split_ands; go_simp; try with_reducible rfl) ?_; go_frame   -- 8 Op.load 37 (Operand.tmp 92)
  refine pd_pu (some 94) rfl rfl (by rfl) (fun ws => by go_simp; try with_reducible rfl) ?_; go_frame   -- 9 Op.fieldAddr 28 (Operand.tmp 3) 1
  refine pd_ld (some 95) rfl rfl (by rfl) (fun ws HS => by go_split_ands; go_simp; try with_reducible rfl) ?_; go_frame   -- 10 Op.load 3 (Operand.tmp 94)
  refine pi_ke rfl (fun J hJ => ?_)   -- 11 Op.call { callee := Callee.value (Operand.func 35), args := #[Operand.tmp 93, Operand.tmp 95], argTypes := #[37, 3] }
  have Hmd := Lib.hid (HP.out.1.of_below (Below.refl wC.heap.size wC).drew)
  go_wp2_with (go_at_call 35; refine (wrsend po a _ Hmd.out HY2.out.1).mono ?_; rintro e w4 ⟨gs, cs, rfl, hbel4, hrow4⟩)
  obtain ⟨r, Hr⟩ : ∃ r, Hid (vSend y.KR a = r) := ⟨_, Lib.hid rfl⟩
  rw [Hr.out] at hrow4 ⊢
  have hs4 := hbel4.size
  have HS4 : (fun w' => w'.cell? ⟨bx, 1, none⟩ = some (.pointer (some ⟨po, 0, none⟩)) ∧ w'.cell? ⟨bx, 3, none⟩ = some (.slice ad m cd) ∧ w'.cell? ⟨bs, 1, none⟩ = some (.int .i64 a)) w4 := ⟨cell_below hbel4 rfl HS3.1, cell_below hbel4 rfl HS3.2.1, cell_below hbel4 rfl HS3.2.2⟩
  have H4 := Lib.hid (And.intro hbel4 hrow4)
  clear hbel4 hrow4
  refine hJ _ _ HS4 ?_
  refine pi_ke rfl (fun J hJ => ?_)   -- 12 Op.buildSlice 40 1 #[(0, Operand.tmp 96)]
  go_wp2
  refine hJ _ _ ⟨cell_alloc HS4.1, cell_alloc HS4.2.1, cell_alloc HS4.2.2⟩ ?_
  refine pi_tail (by rfl) ?_; simp only [opsAt, List.getElem?_toArray, List.getElem?_cons_zero, List.getElem?_cons_succ]   -- [(13, 'Op.call { callee := Callee.builtin Builtin.append, args := #[Operand.tmp 89, Operand.tmp 97], argTypes := #[40, 40] }'), (14, 'Op.nilCheck (Operand.tmp 85)'), (15, 'Op.fieldAddr 42 (Operand.tmp 99) 3'), (16, 'Op.store 40 (Operand.tmp 100) (Operand.tmp 98)')]
  have hrow := ((Hmd.out.of_below H4.out.1).of_below ((Below.refl _ _).alloc (Nat.le_refl _) (.cells #[.slice gs r.length cs] 46))).ds.kn
  rw [HY2.out.2.2.1, HY2.out.2.2.2.1] at hrow
  go_wp2_with (refine wpList_app _ rfl _ _ _ rfl 0 46 j0 _ 1 24 Try.underlying40 hj hy0 hy1 hy2 rfl (.slice ad m cd) m y.dr rfl hrow ⟨w4.heap.size, 0, none⟩ 1 1 [.slice gs r.length cs] rfl rfl (World.news_of_block (cs := #[.slice gs r.length cs]) (t := 46) (fr := (0, 0)) (heap_alloc_new w4 _)) ?c2 (by omega) (by unfold maxLen; omega) (by omega) (by omega) ?_)
  case c2 => intro u hu; simp at hu; subst hu; rfl
  intro gg2 cap2 w5 hown5 hat5
  have hP2 : (w5.cell? ⟨y.bx, 3, none⟩ = some y.dv ∧ w5.frozen? ⟨y.bx, 3, none⟩ = false) ∧ TwoStep wC.drew y (w5.setCell ⟨y.bx, 3, none⟩ (.slice (some ⟨gg2, 0, none⟩) (y.D.length + 1) cap2)) (y.setD (.slice (some ⟨gg2, 0, none⟩) (y.D.length + 1) cap2) (y.dr ++ [.slice gs r.length cs]) (y.D ++ [r])) N N :=
    two_pushD Hmd.out H4.out.1 H4.out.2 (by have := Hb.out.2.2.1; rw [← HY2.out.2.2.2.2, Hr.out] at this; exact this) (by have := Hb.out.2.2.2; rw [← HY2.out.2.2.2.2, Hr.out] at this; exact this) (by rw [HY2.out.2.2.2.1]; exact hown5) (by rw [HY2.out.2.2.1]; exact hat5)
  rw [HY2.out.2.1, HY2.out.2.2.1, HY2.out.2.2.2.1] at hP2
  obtain ⟨⟨hc5, hf5⟩, hs5⟩ := hP2
  have HP2 := Lib.hid hs5
  clear hs5 hown5 hat5 hrow
  go_wp2
  go_ret
  refine ⟨rfl, _, (HO.out.drew.trans ((HP.out.below (Below.refl wC.heap.size wC).drew).trans HP2.out)).mono (by omega) (by omega) (by omega) (by omega), ?_, ?_⟩
  · rw [← Hr.out, HY.out]
    exact TwoRel.mono (M := N + 3) (HH.out.2.1.send a) (by omega)
  · rw [HY.out]
    exact Kle.refl _
end Go.Proofs.Ytkcaeeighjblkaa
