/- Two.does: Receive; what is no call. No condition. -/
import Derived.Test.YtkcaeeighjblkaaTwoPush
namespace Go.Proofs.Ytkcaeeighjblkaa
open Go.RowKit

theorem round_any (k : Int) (n : Nat) (w : World) (hk : wfi k) (hn : 0 < n) (hn2 : n ≤ 1000000) :
    Calls Try.prog 36 #[.int .i64 k, .int .i64 n] w fun e w' => (∃ m : Nat, m < n ∧ e = .returned (.int .i64 m)) ∧ w = w' := by
  have h1 : k.tmod n < n := Int.tmod_lt_of_pos k (by omega)
  have h2 : -(n : Int) < k.tmod n := by
    have h3 := Int.tmod_lt_of_pos (-k) (b := (n : Int)) (by omega)
    rw [Int.neg_tmod] at h3
    omega
  go_enter Try.func36, Try.ntmps36
  go_wp2
  · go_ret
    exact ⟨⟨(k.tmod n + n).toNat, by omega, eret_int (by omega)⟩, rfl⟩
  · go_ret
    exact ⟨⟨(k.tmod n).toNat, by omega, eret_int (by omega)⟩, rfl⟩

theorem does_other (bx : Nat) (x : TwoSt) (N : Nat) (kd a b : Int) (w : World) (h : TwoMem w x N N) (hr : TwoRel x N) (hN : N + 3 ≤ 100000)
    (h1 : kd ≠ 1) (h2 : kd ≠ 2) (h3 : kd ≠ 3) (h4 : kd ≠ 4) (h5 : kd ≠ 5) :
    Calls Try.prog 21 #[.pointer (some ⟨bx, 0, none⟩), .agg #[.int .i64 kd, .int .i64 a, .int .i64 b]] w (DoesPost x N w) := by
  have hb1 := (Below.refl _ w).alloc (Nat.le_refl _) (.cells #[.int .i64 kd, .int .i64 a, .int .i64 b] 28)
  have HF := Lib.hid (And.intro (((TwoStep.refl h).below hb1).mono (N' := N + 3) (M' := N + 3) (by omega) (by omega) (by omega) (by omega)) (hr.mono (M := N + 3) (by omega)))
  have n0 : (w.alloc (.cells #[.int .i64 kd, .int .i64 a, .int .i64 b] 28)).cell? ⟨w.heap.size, 0, none⟩ = some (.int .i64 kd) := World.cell?_alloc_new w #[.int .i64 kd, .int .i64 a, .int .i64 b] 28 0
  have q1 : (kd == 1) = false := by simpa using h1
  have q2 : (kd == 2) = false := by simpa using h2
  have q3 : (kd == 3) = false := by simpa using h3
  have q4 : (kd == 4) = false := by simpa using h4
  have q5 : (kd == 5) = false := by simpa using h5
  clear h hr hb1 h1 h2 h3 h4 h5
  go_enter Try.func21, Try.ntmps21
  go_wp2
  go_ret
  exact ⟨rfl, x, HF.out.1, HF.out.2, Kle.refl _⟩

set_option maxRecDepth 100000 in
set_option maxHeartbeats 3200000 in
theorem does_recv (bx bo po : Nat) (x : TwoSt) (N : Nat) (a b : Int) (w : World) (h : TwoMem w x N N) (hr : TwoRel x N) (hbx : x.bx = bx) (hbo : x.st.bo = bo) (hpo : x.rst.po = po) (hN : N + 3 ≤ 100000) (hwb : wfi b) :
    Calls Try.prog 21 #[.pointer (some ⟨bx, 0, none⟩), .agg #[.int .i64 5, .int .i64 a, .int .i64 b]] w (DoesPost x N w) := by
  have HO := Lib.hid (does_open 5 a b h hbx hbo hpo)
  have HH := Lib.hid (And.intro h (And.intro hr (And.intro hbx (And.intro hbo (And.intro hpo hwb)))))
  obtain ⟨n, Hn⟩ : ∃ n, Hid (x.Cs.length = n) := ⟨_, Lib.hid rfl⟩
  have Hm := Lib.hid (show x.D.length = n from by rw [hr.cl]; exact Hn.out)
  have hnN : n ≤ N := by have := hr.cn; rw [Hn.out] at this; exact this
  obtain ⟨ac, cc, ecv⟩ := row_form h.cs.row
  rw [Hn.out] at ecv
  have hb1 := (Below.refl _ w).alloc (Nat.le_refl _) (.cells #[.int .i64 5, .int .i64 a, .int .i64 b] 28)
  have hb2 := (h.of_below hb1).b2
  rw [hbx, ecv] at hb2
  have Hcv := Lib.hid ecv
  by_cases hn0 : n = 0
  · subst hn0
    clear h hr hbx hbo hpo ecv hb1 hwb
    go_enter Try.func21, Try.ntmps21
    go_upto_region 13 with fail
    obtain ⟨wB, hwB⟩ : ∃ wB, wB = w.alloc (.cells #[.int .i64 5, .int .i64 a, .int .i64 b] 28) := ⟨_, rfl⟩
    obtain ⟨bs, hbs⟩ : ∃ bs, bs = w.heap.size := ⟨_, rfl⟩
    rw [← hwB, ← hbs] at HO
    rw [← hwB]
    try rw [← hbs]
    clear hwB hbs hb2
    have HS : (fun w' => w'.cell? ⟨bx, 0, none⟩ = some (.pointer (some ⟨bo, 0, none⟩)) ∧ w'.cell? ⟨bs, 1, none⟩ = some (.int .i64 a)) wB.drew := ⟨HO.out.c0, HO.out.s1⟩
    refine wp_region_pi (fun w' => w'.cell? ⟨bx, 0, none⟩ = some (.pointer (some ⟨bo, 0, none⟩)) ∧ w'.cell? ⟨bs, 1, none⟩ = some (.int .i64 a)) [(0, 1), (1, 1), (2, 1), (3, 0), (4, 1), (5, 0), (6, 3)] [(6, [3]), (6, [5])] (by kernel_rfl) (by kernel_rfl) (fun _ _ _ _ _ h => h) (HS) ?_
    refine pd_pu (some 109) rfl rfl (by rfl) (fun ws => by go_simp; try with_reducible rfl) ?_; go_frame   -- 0 Op.move (Operand.tmp 0)
    refine pd_pu (some 110) rfl rfl (by rfl) (fun ws => by go_simp; try with_reducible rfl) ?_; go_frame   -- 1 Op.nilCheck (Operand.tmp 109)
    refine pd_pu (some 111) rfl rfl (by rfl) (fun ws => by go_simp; try with_reducible rfl) ?_; go_frame   -- 2 Op.fieldAddr 42 (Operand.tmp 110) 0
    refine pd_ld (some 112) rfl rfl (by rfl) (fun ws HS => by go_split_ands; go_simp; try with_reducible rfl) ?_; go_frame   -- 3 Op.load 25 (Operand.tmp 111)
    refine pd_pu (some 113) rfl rfl (by rfl) (fun ws => by go_simp; try with_reducible rfl) ?_; go_frame   -- 4 Op.fieldAddr 28 (Operand.tmp 3) 1
    refine pd_ld (some 114) rfl rfl (by rfl) (fun ws HS => by go_split_ands; go_simp; try with_reducible rfl) ?_; go_frame   -- 5 Op.load 3 (Operand.tmp 113)
    refine pi_tail (by rfl) ?_; simp only [opsAt, List.getElem?_toArray, List.getElem?_cons_zero, List.getElem?_cons_succ]   -- [(6, 'Op.call { callee := Callee.value (Operand.func 18), args := #[Operand.tmp 112, Operand.tmp 114, Operand.const (Value.pointer none)], argTypes := #[25, 3, 33] }')]
    have Hrn := Lib.hid (receive_none bo x.st x.K x.P N a wB.drew HH.out.2.2.2.1 HO.out.self.1.ord)
    go_wp2_with (go_at_call 18; refine Hrn.out.mono ?_; rintro e w2 ⟨rfl, rfl⟩)
    go_ret
    exact ⟨rfl, x, HO.out.drew.mono (by omega) (by omega) (by omega) (by omega), HH.out.2.1.mono (by omega), Kle.refl _⟩
  · have hnp : 0 < n := by omega
    obtain ⟨gc, cc', ec, _, _⟩ := (show w.ownsRow 0 33 1 x.cv n (x.Cs.map ptrOf) by have := h.cs.row; rwa [Hn.out] at this).form hnp
    rw [ecv] at ec
    cases ec
    clear h hr hbx hbo hpo ecv hb1 hwb hn0
    have hn0 : (n == 0) = false := by simp; omega
    go_enter Try.func21, Try.ntmps21
    go_upto_region 14 with fail
    obtain ⟨wB, hwB⟩ : ∃ wB, wB = w.alloc (.cells #[.int .i64 5, .int .i64 a, .int .i64 b] 28) := ⟨_, rfl⟩
    obtain ⟨bs, hbs⟩ : ∃ bs, bs = w.heap.size := ⟨_, rfl⟩
    rw [← hwB, ← hbs] at HO
    rw [← hwB] at hb2 ⊢
    try rw [← hbs]
    clear hwB hbs
    have HS : (fun w' => w'.cell? ⟨bs, 2, none⟩ = some (.int .i64 b) ∧ w'.cell? ⟨bx, 2, none⟩ = some (.slice (some ⟨gc, 0, none⟩) n cc)) wB.drew := ⟨HO.out.s2, hb2⟩
    refine wp_region_pi (fun w' => w'.cell? ⟨bs, 2, none⟩ = some (.int .i64 b) ∧ w'.cell? ⟨bx, 2, none⟩ = some (.slice (some ⟨gc, 0, none⟩) n cc)) [(0, 1), (1, 0), (2, 1), (3, 1), (4, 1), (5, 0), (6, 1), (7, 3), (8, 3)] [(7, [1]), (7, [6, 5]), (8, [1]), (8, [5])] (by kernel_rfl) (by kernel_rfl) (fun _ _ _ _ _ h => h) (HS) ?_
    refine pd_pu (some 116) rfl rfl (by rfl) (fun ws => by go_simp; try with_reducible rfl) ?_; go_frame   -- 0 Op.fieldAddr 28 (Operand.tmp 3) 2
    refine pd_ld (some 117) rfl rfl (by rfl) (fun ws HS => by go_split_ands; go_simp; try with_reducible rfl) ?_; go_frame   -- 1 Op.load 3 (Operand.tmp 116)
    refine pd_pu (some 118) rfl rfl (by rfl) (fun ws => by go_simp; try with_reducible rfl) ?_; go_frame   -- 2 Op.move (Operand.tmp 0)
    refine pd_pu (some 119) rfl rfl (by rfl) (fun ws => by go_simp; try with_reducible rfl) ?_; go_frame   -- 3 Op.nilCheck (Operand.tmp 118)
    refine pd_pu (some 120) rfl rfl (by rfl) (fun ws => by go_simp; try with_reducible rfl) ?_; go_frame   -- 4 Op.fieldAddr 42 (Operand.tmp 119) 2
    refine pd_ld (some 121) rfl rfl (by rfl) (fun ws HS => by go_split_ands; go_simp; try with_reducible rfl) ?_; go_frame   -- 5 Op.load 39 (Operand.tmp 120)
    refine pd_pu (some 122) rfl rfl (by rfl) (fun ws => by go_simp; try with_reducible rfl) ?_; go_frame   -- 6 Op.call { callee := Callee.builtin Builtin.len, args := #[Operand.tmp 121], argTypes := #[39] }
    refine pi_tail (by rfl) ?_; simp only [opsAt, List.getElem?_toArray, List.getElem?_cons_zero, List.getElem?_cons_succ]   -- [(7, 'Op.call { callee := Callee.value (Operand.func 36), args := #[Operand.tmp 117, Operand.tmp 122], argTypes := #[3, 3] }'), (8, 'Op.assign (Operand.tmp 123)')]
    go_wp2_with (go_at_call 36; refine (round_any b n _ HH.out.2.2.2.2.2 hnp (by omega)).mono ?_; rintro e w2 ⟨⟨k, hk, rfl⟩, rfl⟩)
    go_upto_region 15 with fail
    have hself := TwoStep.refl (HO.out.self.1.of_below (Below.refl _ _).drew)
    obtain ⟨wD, hwD⟩ : ∃ wD, wD = wB.drew := ⟨_, rfl⟩
    have HB := Lib.hid HO.out.beside
    have HD := Lib.hid HO.out.drew
    have dd := HO.out.self.ds HO.out.beside HH.out.2.2.1 HH.out.2.2.2.1 HH.out.2.2.2.2.1 HO.out.s0 HO.out.s1 HO.out.s2
    rw [← hwD] at hself dd HB HD ⊢
    have hb2 : wD.cell? ⟨bx, 2, none⟩ = some (.slice (some ⟨gc, 0, none⟩) n cc) := by rw [hwD]; exact hb2
    have HSf := Lib.hid hself
    have hck : wD.cell? ⟨gc, k, none⟩ = some (ptrOf (x.Cs.getD k (none, []))) := by
      have hrow := hself.1.cs.row
      rw [Hcv.out, Hn.out] at hrow
      have := hrow.cells (g := gc) rfl k (ptrOf (x.Cs.getD k (none, []))) (by rw [List.getElem?_map]; simp [List.getD, show k < x.Cs.length by rw [Hn.out]; exact hk])
      simpa [Addr.add_lit] using this
    have hmem : x.Cs.getD k (none, []) ∈ x.Cs := by
      have hkl : k < x.Cs.length := by rw [Hn.out]; exact hk
      rw [show x.Cs.getD k (none, []) = x.Cs[k] by simp [List.getD, hkl]]
      exact List.getElem_mem hkl
    obtain ⟨c, Hc⟩ : ∃ c, Hid (x.Cs.getD k (none, []) = c) := ⟨_, Lib.hid rfl⟩
    rw [Hc.out] at hck hmem
    obtain ⟨q, Hq⟩ : ∃ q, Hid (ptrOf c = .pointer q) := ⟨_, Lib.hid rfl⟩
    rw [Hq.out] at hck
    have Hmem := Lib.hid hmem
    have HS2 : (fun w' => w'.cell? ⟨bx, 0, none⟩ = some (.pointer (some ⟨bo, 0, none⟩)) ∧ w'.cell? ⟨bs, 1, none⟩ = some (.int .i64 a) ∧ w'.cell? ⟨bx, 2, none⟩ = some (.slice (some ⟨gc, 0, none⟩) n cc) ∧ w'.cell? ⟨gc, k, none⟩ = some (.pointer q)) wD.drew := ⟨dd.1, dd.2.2.2.1, hb2, hck⟩
    have HDD := Lib.hid dd
    clear hwD hself dd hb2 hck hmem HS
    refine wp_region_pi (fun w' => w'.cell? ⟨bx, 0, none⟩ = some (.pointer (some ⟨bo, 0, none⟩)) ∧ w'.cell? ⟨bs, 1, none⟩ = some (.int .i64 a) ∧ w'.cell? ⟨bx, 2, none⟩ = some (.slice (some ⟨gc, 0, none⟩) n cc) ∧ w'.cell? ⟨gc, k, none⟩ = some (.pointer q)) [(0, 1), (1, 1), (2, 1), (3, 0), (4, 1), (5, 0), (6, 1), (7, 1), (8, 1), (9, 0), (10, 1), (11, 1), (12, 0), (13, 3)] [(13, [3]), (13, [5]), (13, [12, 11, 9]), (13, [12])] (by kernel_rfl) (by kernel_rfl) (fun _ _ _ _ _ h => h) (HS2) ?_
    refine pd_pu (some 124) rfl rfl (by rfl) (fun ws => by go_simp; try with_reducible rfl) ?_; go_frame   -- 0 Op.move (Operand.tmp 0)
    refine pd_pu (some 125) rfl rfl (by rfl) (fun ws => by go_simp; try with_reducible rfl) ?_; go_frame   -- 1 Op.nilCheck (Operand.tmp 124)
    refine pd_pu (some 126) rfl rfl (by rfl) (fun ws => by go_simp; try with_reducible rfl) ?_; go_frame   -- 2 Op.fieldAddr 42 (Operand.tmp 125) 0
    refine pd_ld (some 127) rfl rfl (by rfl) (fun ws HS => by go_split_ands; go_simp; try with_reducible rfl) ?_; go_frame   -- 3 Op.load 25 (Operand.tmp 126)
    refine pd_pu (some 128) rfl rfl (by rfl) (fun ws => by go_simp; try with_reducible rfl) ?_; go_frame   -- 4 Op.fieldAddr 28 (Operand.tmp 3) 1
    refine pd_ld (some 129) rfl rfl (by rfl) (fun ws HS => by go_split_ands; go_simp; try with_reducible rfl) ?_; go_frame   -- 5 Op.load 3 (Operand.tmp 128)
    refine pd_pu (some 130) rfl rfl (by rfl) (fun ws => by go_simp; try with_reducible rfl) ?_; go_frame   -- 6 Op.move (Operand.tmp 0)
    refine pd_pu (some 131) rfl rfl (by rfl) (fun ws => by go_simp; try with_reducible rfl) ?_; go_frame   -- 7 Op.nilCheck (Operand.tmp 130)
    refine pd_pu (some 132) rfl rfl (by rfl) (fun ws => by go_simp; try with_reducible rfl) ?_; go_frame   -- 8 Op.fieldAddr 42 (Operand.tmp 131) 2
    refine pd_ld (some 133) rfl rfl (by rfl) (fun ws HS => by go_split_ands; go_simp; try with_reducible rfl) ?_; go_frame   -- 9 Op.load 39 (Operand.tmp 132)
    refine pd_pu (some 134) rfl rfl (by rfl) (fun ws => by go_simp; try with_reducible rfl) ?_; go_frame   -- 10 Op.move (Operand.tmp 5)
    refine pd_pu (some 135) rfl rfl (by rfl) (fun ws => by go_simp; try with_reducible rfl) ?_; go_frame   -- 11 Op.indexAddr 39 (Operand.tmp 133) (Operand.tmp 134)
    refine pd_ld (some 136) rfl rfl (by rfl) (fun ws HS => by go_split_ands; go_simp; try with_reducible rfl) ?_; go_frame   -- 12 Op.load 33 (Operand.tmp 135)
    refine pi_tail (by rfl) ?_; simp only [opsAt, List.getElem?_toArray, List.getElem?_cons_zero, List.getElem?_cons_succ]   -- [(13, 'Op.call { callee := Callee.value (Operand.func 18), args := #[Operand.tmp 127, Operand.tmp 129, Operand.tmp 136], argTypes := #[25, 3, 33] }')]
    have Hw := Lib.hid (show Calls Try.prog 18 #[.pointer (some ⟨bo, 0, none⟩), .int .i64 a, .pointer q] wD.drew fun e w' => e = .returned (.tuple #[]) ∧ ∃ st', TwoStep wD.drew x w' (x.setO st' (kRecv x.K a c.2) x.P) N N from by
      rw [← Hq.out]
      exact wrecv bo a c wD.drew HSf.out.1 HH.out.2.2.2.1 Hmem.out)
    go_wp2_with (go_at_call 18; refine Hw.out.mono ?_; rintro e w3 ⟨rfl, st3, hs3⟩; have Hs3 := Lib.hid hs3; clear hs3)
    go_upto_region 16 with fail
    have dd := Hs3.out.ds HB.out HH.out.2.2.1 HH.out.2.2.2.1 HH.out.2.2.2.2.1 HDD.out.2.2.1 HDD.out.2.2.2.1 HDD.out.2.2.2.2
    obtain ⟨y, hy⟩ : ∃ y, y = x.setO st3 (kRecv x.K a c.2) x.P := ⟨_, rfl⟩
    have HY := Lib.hid hy
    rw [← hy] at Hs3
    have hym : y.rst.po = po ∧ y.bx = bx ∧ y.D = x.D ∧ y.dr = x.dr := by rw [hy]; exact ⟨HH.out.2.2.2.2.1, HH.out.2.2.1, rfl, rfl⟩
    have HYM := Lib.hid hym
    have hyd : k < y.D.length := by rw [hym.2.2.1, Hm.out]; exact hk
    have Hyd := Lib.hid hyd
    have hkn := Hs3.out.1.ds.kn
    have hrl := Hs3.out.1.ds.rowsLen
    have hrk := Hs3.out.1.ds.row k hyd
    obtain ⟨gd, cd, edv, _, _⟩ := hkn.form (by omega)
    have h3 := Hs3.out.1.b3
    rw [hym.2.1, edv] at h3
    have hkc : w3.cell? ⟨gd, k, none⟩ = some (y.dr.getD k undef) := by
      rw [edv] at hkn
      have := hkn.cells (g := gd) rfl k (y.dr.getD k undef) (by simp [List.getD, show k < y.dr.length by omega])
      simpa [Addr.add_lit] using this
    obtain ⟨ga, cr, erv⟩ := row_form hrk
    obtain ⟨lr, Hlr⟩ : ∃ lr, Hid ((y.D.getD k []).length = lr) := ⟨_, Lib.hid rfl⟩
    rw [Hlr.out] at erv
    rw [erv] at hkc
    have Herv := Lib.hid erv
    have hDn : y.D.length = n := by rw [hym.2.2.1, Hm.out]
    rw [hDn] at h3
    have HS3 : (fun w' => w'.cell? ⟨bx, 1, none⟩ = some (.pointer (some ⟨po, 0, none⟩)) ∧ w'.cell? ⟨bs, 1, none⟩ = some (.int .i64 a) ∧ w'.cell? ⟨bx, 3, none⟩ = some (.slice (some ⟨gd, 0, none⟩) n cd) ∧ w'.cell? ⟨gd, k, none⟩ = some (.slice ga lr cr)) w3.drew := ⟨dd.2.1, dd.2.2.2.1, h3, hkc⟩
    clear hy hym hyd hkn hrl hrk edv h3 hkc erv hDn dd HS2
    refine wp_region_pi (fun w' => w'.cell? ⟨bx, 1, none⟩ = some (.pointer (some ⟨po, 0, none⟩)) ∧ w'.cell? ⟨bs, 1, none⟩ = some (.int .i64 a) ∧ w'.cell? ⟨bx, 3, none⟩ = some (.slice (some ⟨gd, 0, none⟩) n cd) ∧ w'.cell? ⟨gd, k, none⟩ = some (.slice ga lr cr)) [(0, 1), (1, 1), (2, 1), (3, 0), (4, 1), (5, 0), (6, 1), (7, 1), (8, 1), (9, 0), (10, 1), (11, 1), (12, 0), (13, 3)] [(13, [3]), (13, [5]), (13, [12, 11, 9]), (13, [12])] (by kernel_rfl) (by kernel_rfl) (fun _ _ _ _ _ h => h) (HS3) ?_
    refine pd_pu (some 138) rfl rfl (by rfl) (fun ws => by go_simp; try with_reducible rfl) ?_; go_frame   -- 0 Op.move (Operand.tmp 0)
    refine pd_pu (some 139) rfl rfl (by rfl) (fun ws => by go_simp; try with_reducible rfl) ?_; go_frame   -- 1 Op.nilCheck (Operand.tmp 138)
    refine pd_pu (some 140) rfl rfl (by rfl) (fun ws => by go_simp; try with_reducible rfl) ?_; go_frame   -- 2 Op.fieldAddr 42 (Operand.tmp 139) 1
    refine pd_ld (some 141) rfl rfl (by rfl) (fun ws HS => by go_split_ands; go_simp; try with_reducible rfl) ?_; go_frame   -- 3 Op.load 37 (Operand.tmp 140)
    refine pd_pu (some 142) rfl rfl (by rfl) (fun ws => by go_simp; try with_reducible rfl) ?_; go_frame   -- 4 Op.fieldAddr 28 (Operand.tmp 3) 1
    refine pd_ld (some 143) rfl rfl (by rfl) (fun ws HS => by go_split_ands; go_simp; try with_reducible rfl) ?_; go_frame   -- 5 Op.load 3 (Operand.tmp 142)
    refine pd_pu (some 144) rfl rfl (by rfl) (fun ws => by go_simp; try with_reducible rfl) ?_; go_frame   -- 6 Op.move (Operand.tmp 0)
    refine pd_pu (some 145) rfl rfl (by rfl) (fun ws => by go_simp; try with_reducible rfl) ?_; go_frame   -- 7 Op.nilCheck (Operand.tmp 144)
    refine pd_pu (some 146) rfl rfl (by rfl) (fun ws => by go_simp; try with_reducible rfl) ?_; go_frame   -- 8 Op.fieldAddr 42 (Operand.tmp 145) 3
    refine pd_ld (some 147) rfl rfl (by rfl) (fun ws HS => by go_split_ands; go_simp; try with_reducible rfl) ?_; go_frame   -- 9 Op.load 40 (Operand.tmp 146)
    refine pd_pu (some 148) rfl rfl (by rfl) (fun ws => by go_simp; try with_reducible rfl) ?_; go_frame   -- 10 Op.move (Operand.tmp 5)
    refine pd_pu (some 149) rfl rfl (by rfl) (fun ws => by go_simp; try with_reducible rfl) ?_; go_frame   -- 11 Op.indexAddr 40 (Operand.tmp 147) (Operand.tmp 148)
    refine pd_ld (some 150) rfl rfl (by rfl) (fun ws HS => by go_split_ands; go_simp; try with_reducible rfl) ?_; go_frame   -- 12 Op.load 46 (Operand.tmp 149)
    refine pi_tail (by rfl) ?_; simp only [opsAt, List.getElem?_toArray, List.getElem?_cons_zero, List.getElem?_cons_succ]   -- [(13, 'Op.call { callee := Callee.value (Operand.func 37), args := #[Operand.tmp 141, Operand.tmp 143, Operand.tmp 150], argTypes := #[37, 3, 46] }')]
    have Hw2 := Lib.hid (show Calls Try.prog 37 #[.pointer (some ⟨po, 0, none⟩), .int .i64 a, .slice ga lr cr] w3.drew fun e w' => e = .returned (.tuple #[]) ∧ ∃ st', TwoStep w3.drew y w' (y.setR st' (kRecv y.KR a (y.D.getD k [])) y.A) N N from by
      rw [← Herv.out]
      exact wrrecv po a k w3.drew (Hs3.out.1.of_below (Below.refl _ _).drew) HYM.out.1 Hyd.out)
    go_wp2_with (go_at_call 37; refine Hw2.out.mono ?_; rintro e w4 ⟨rfl, st4, hs4⟩; have Hs4 := Lib.hid hs4; clear hs4)
    go_ret
    have hcd : ∀ j, (x.D.getD k []).getD j 0 = c.2.getD j 0 := fun j => by
      have := HH.out.2.1.cd k j
      rw [Hc.out] at this
      exact this
    have hrel := HH.out.2.1.recv (st := st3) (rst := st4) hcd a
    refine ⟨rfl, _, ((HD.out.below (Below.refl wD.heap.size wD).drew).trans ((Hs3.out.below (Below.refl w3.heap.size w3).drew).trans Hs4.out)).mono (by omega) (by omega) (by omega) (by omega), ?_, ?_⟩
    · rw [HY.out]
      exact TwoRel.mono (M := N + 3) hrel.1 (by omega)
    · rw [HY.out]
      exact hrel.2

end Go.Proofs.Ytkcaeeighjblkaa
