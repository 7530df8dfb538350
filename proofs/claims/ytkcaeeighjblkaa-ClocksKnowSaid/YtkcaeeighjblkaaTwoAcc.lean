/- Two.does: Read, Write. No condition. -/
import Derived.Test.YtkcaeeighjblkaaTwoDoes
namespace Go.Proofs.Ytkcaeeighjblkaa
open Go.RowKit

theorem wread {x : TwoSt} {N M : Nat} (bo : Nat) (a cell : Int) (w : World) (h : TwoMem w x N M) (hN : N + 3 ≤ 100000) (hbo : x.st.bo = bo) (hc : wfi cell) :
    Calls Try.prog 15 #[.pointer (some ⟨bo, 0, none⟩), .int .i64 a, .int .i64 cell] w fun e w' => ∃ ok : Bool, e = .returned (.bool ok) ∧
      (inK x.K a = true → (ok = true ↔ ∀ k : Int, wfi k → k = a ∨ needOf' (x.P cell k) false ≤ (bump (x.K.getD a.toNat []) a.toNat).getD k.toNat 0)) ∧ (inK x.K a = false → ok = true) ∧
      ∃ st', TwoStep w x w' (x.setO st' (kAcc x.K a) (pAcc x.P x.K a cell false)) (N + 3) M :=
  read_of _ a cell w _ ((wacc bo a cell false w h hN hbo hc).mono fun _ _ hp => by obtain ⟨ok, he, r⟩ := hp; exact ⟨ok, he, ok, he, r⟩)
theorem wrread {x : TwoSt} {N M : Nat} (po : Nat) (a cell : Int) (w : World) (h : TwoMem w x N M) (hM : M + 2 ≤ 100000) (hpo : x.rst.po = po) :
    Calls Try.prog 33 #[.pointer (some ⟨po, 0, none⟩), .int .i64 a, .int .i64 cell] w fun e w' => e = .returned (.bool (vAcc x.KR x.A a cell false)) ∧
      ∃ st', TwoStep w x w' (x.setR st' (kAcc x.KR a) (aAcc x.A x.KR a cell false)) N (M + 2) :=
  rread_of _ a cell w _ ((wracc po a cell false w h hM hpo).mono fun _ _ hp => by obtain ⟨he, r⟩ := hp; subst he; exact ⟨_, rfl, rfl, r⟩)
theorem wwrite {x : TwoSt} {N M : Nat} (bo : Nat) (a cell : Int) (w : World) (h : TwoMem w x N M) (hN : N + 3 ≤ 100000) (hbo : x.st.bo = bo) (hc : wfi cell) :
    Calls Try.prog 16 #[.pointer (some ⟨bo, 0, none⟩), .int .i64 a, .int .i64 cell] w fun e w' => ∃ ok : Bool, e = .returned (.bool ok) ∧
      (inK x.K a = true → (ok = true ↔ ∀ k : Int, wfi k → k = a ∨ needOf' (x.P cell k) true ≤ (bump (x.K.getD a.toNat []) a.toNat).getD k.toNat 0)) ∧ (inK x.K a = false → ok = true) ∧
      ∃ st', TwoStep w x w' (x.setO st' (kAcc x.K a) (pAcc x.P x.K a cell true)) (N + 3) M :=
  write_of _ a cell w _ ((wacc bo a cell true w h hN hbo hc).mono fun _ _ hp => by obtain ⟨ok, he, r⟩ := hp; exact ⟨ok, he, ok, he, r⟩)
theorem wrwrite {x : TwoSt} {N M : Nat} (po : Nat) (a cell : Int) (w : World) (h : TwoMem w x N M) (hM : M + 2 ≤ 100000) (hpo : x.rst.po = po) :
    Calls Try.prog 34 #[.pointer (some ⟨po, 0, none⟩), .int .i64 a, .int .i64 cell] w fun e w' => e = .returned (.bool (vAcc x.KR x.A a cell true)) ∧
      ∃ st', TwoStep w x w' (x.setR st' (kAcc x.KR a) (aAcc x.A x.KR a cell true)) N (M + 2) :=
  rwrite_of _ a cell w _ ((wracc po a cell true w h hM hpo).mono fun _ _ hp => by obtain ⟨he, r⟩ := hp; subst he; exact ⟨_, rfl, rfl, r⟩)
set_option maxRecDepth 100000 in
set_option maxHeartbeats 1600000 in
theorem does_read (bx bo po : Nat) (x : TwoSt) (N : Nat) (a b : Int) (w : World) (h : TwoMem w x N N) (hr : TwoRel x N) (hbx : x.bx = bx) (hbo : x.st.bo = bo) (hpo : x.rst.po = po) (hN : N + 3 ≤ 100000) (hwb : wfi b) :
    Calls Try.prog 21 #[.pointer (some ⟨bx, 0, none⟩), .agg #[.int .i64 2, .int .i64 a, .int .i64 b]] w (DoesPost x N w) := by
  have HO := Lib.hid (does_open 2 a b h hbx hbo hpo)
  have HH := Lib.hid (And.intro h (And.intro hr (And.intro hbx (And.intro hbo hpo))))
  have HW := Lib.hid hwb
  clear h hr hbx hbo hpo hwb
  go_enter Try.func21, Try.ntmps21
  go_upto_region 5 with fail
  obtain ⟨wB, hwB⟩ : ∃ wB, wB = w.alloc (.cells #[.int .i64 2, .int .i64 a, .int .i64 b] 28) := ⟨_, rfl⟩
  obtain ⟨bs, hbs⟩ : ∃ bs, bs = w.heap.size := ⟨_, rfl⟩
  rw [← hwB, ← hbs] at HO
  rw [← hwB]
  try rw [← hbs]
  clear hwB hbs
  have HS : (fun w' => w'.cell? ⟨bx, 0, none⟩ = some (.pointer (some ⟨bo, 0, none⟩)) ∧ w'.cell? ⟨bx, 1, none⟩ = some (.pointer (some ⟨po, 0, none⟩)) ∧ w'.cell? ⟨bs, 0, none⟩ = some (.int .i64 2) ∧ w'.cell? ⟨bs, 1, none⟩ = some (.int .i64 a) ∧ w'.cell? ⟨bs, 2, none⟩ = some (.int .i64 b)) wB.drew := ⟨HO.out.c0, HO.out.c1, HO.out.s0, HO.out.s1, HO.out.s2⟩
  refine wp_region_pi (fun w' => w'.cell? ⟨bx, 0, none⟩ = some (.pointer (some ⟨bo, 0, none⟩)) ∧ w'.cell? ⟨bx, 1, none⟩ = some (.pointer (some ⟨po, 0, none⟩)) ∧ w'.cell? ⟨bs, 0, none⟩ = some (.int .i64 2) ∧ w'.cell? ⟨bs, 1, none⟩ = some (.int .i64 a) ∧ w'.cell? ⟨bs, 2, none⟩ = some (.int .i64 b)) [(0, 1), (1, 1), (2, 1), (3, 0), (4, 1), (5, 0), (6, 1), (7, 0), (9, 1), (10, 1), (11, 1), (12, 0), (13, 1), (14, 0), (15, 1), (16, 0), (8, 2), (17, 3), (18, 3), (19, 3)] [(17, [8, 3]), (17, [8, 5]), (17, [8, 7]), (17, [12]), (17, [14]), (17, [16]), (18, [8, 3]), (18, [8, 5]), (18, [8, 7]), (18, [17, 12]), (18, [17, 14]), (18, [17, 16]), (19, [3]), (19, [5]), (19, [7]), (19, [12]), (19, [14]), (19, [16])] (by kernel_rfl) (by kernel_rfl) (fun _ _ _ _ _ h => h) (HS) ?_
  refine pd_pu (some 27) rfl rfl (by rfl) (fun ws => by go_simp; try with_reducible rfl) ?_; go_frame   -- 0 Op.move (Operand.tmp 0)
  refine pd_pu (some 28) rfl rfl (by rfl) (fun ws => by go_simp; try with_reducible rfl) ?_; go_frame   -- 1 Op.nilCheck (Operand.tmp 27)
  refine pd_pu (some 29) rfl rfl (by rfl) (fun ws => by go_simp; try with_reducible rfl) ?_; go_frame   -- 2 Op.fieldAddr 42 (Operand.tmp 28) 0
  refine pd_ld (some 30) rfl rfl (by rfl) (fun ws HS => by go_split_ands; go_simp; try with_reducible rfl) ?_; go_frame   -- 3 Op.load 25 (Operand.tmp 29)
  refine pd_pu (some 31) rfl rfl (by rfl) (fun ws => by go_simp; try with_reducible rfl) ?_; go_frame   -- 4 Op.fieldAddr 28 (Operand.tmp 3) 1
  refine pd_ld (some 32) rfl rfl (by rfl) (fun ws HS => by go_split_ands; go_simp; try with_reducible rfl) ?_; go_frame   -- 5 Op.load 3 (Operand.tmp 31)
  refine pd_pu (some 33) rfl rfl (by rfl) (fun ws => by go_simp; try with_reducible rfl) ?_; go_frame   -- 6 Op.fieldAddr 28 (Operand.tmp 3) 2
  refine pd_ld (some 34) rfl rfl (by rfl) (fun ws HS => by go_split_ands; go_simp; try with_reducible rfl) ?_; go_frame   -- 7 Op.load 3 (Operand.tmp 33)
  refine pd_pu (some 36) rfl rfl (by rfl) (fun ws => by go_simp; try with_reducible rfl) ?_; go_frame   -- 9 Op.move (Operand.tmp 0)
  refine pd_pu (some 37) rfl rfl (by rfl) (fun ws => by go_simp; try with_reducible rfl) ?_; go_frame   -- 10 Op.nilCheck (Operand.tmp 36)
  refine pd_pu (some 38) rfl rfl (by rfl) (fun ws => by go_simp; try with_reducible rfl) ?_; go_frame   -- 11 Op.fieldAddr 42 (Operand.tmp 37) 1
  refine pd_ld (some 39) rfl rfl (by rfl) (fun ws HS => by go_split_ands; go_simp; try with_reducible rfl) ?_; go_frame   -- 12 Op.load 37 (Operand.tmp 38)
  refine pd_pu (some 40) rfl rfl (by rfl) (fun ws => by go_simp; try with_reducible rfl) ?_; go_frame   -- 13 Op.fieldAddr 28 (Operand.tmp 3) 1
  refine pd_ld (some 41) rfl rfl (by rfl) (fun ws HS => by go_split_ands; go_simp; try with_reducible rfl) ?_; go_frame   -- 14 Op.load 3 (Operand.tmp 40)
  refine pd_pu (some 42) rfl rfl (by rfl) (fun ws => by go_simp; try with_reducible rfl) ?_; go_frame   -- 15 Op.fieldAddr 28 (Operand.tmp 3) 2
  refine pd_ld (some 43) rfl rfl (by rfl) (fun ws HS => by go_split_ands; go_simp; try with_reducible rfl) ?_; go_frame   -- 16 Op.load 3 (Operand.tmp 42)
  refine pi_ke rfl (fun J hJ => ?_)   -- 8 Op.call { callee := Callee.value (Operand.func 15), args := #[Operand.tmp 30, Operand.tmp 32, Operand.tmp 34], argTypes := #[25, 3, 3] }
  go_wp2_with (go_at_call 15; refine (wread bo a b _ HO.out.self.1 (by omega) HH.out.2.2.2.1 HW.out).mono ?_; rintro e w2 ⟨ok, rfl, hok1, hok2, st2, hs2⟩)
  have Hs2 := Lib.hid hs2
  have HS2 := hs2.ds HO.out.beside HH.out.2.2.1 HH.out.2.2.2.1 HH.out.2.2.2.2 HO.out.s0 HO.out.s1 HO.out.s2
  have Hok := Lib.hid (HH.out.2.1.vAcc (fun i j => (HH.out.1.ord.rval i j).1) a b false ok hok1 hok2)
  clear hs2 hok1 hok2
  refine hJ _ _ HS2 ?_
  refine pi_tail (by rfl) ?_; simp only [opsAt, List.getElem?_toArray, List.getElem?_cons_zero, List.getElem?_cons_succ]   -- [(17, 'Op.call { callee := Callee.value (Operand.func 33), args := #[Operand.tmp 39, Operand.tmp 41, Operand.tmp 43], argTypes := #[37, 3, 3] }'), (18, 'Op.binOp BinOp.eql 4 (Operand.tmp 35) (Operand.tmp 44) 4'), (19, 'Op.assign (Operand.tmp 45)')]
  go_wp2_with (go_at_call 33; refine (wrread po a b _ Hs2.out.1 (by omega) HH.out.2.2.2.2).mono ?_; rintro e w3 ⟨e3, st3, hs3⟩; have Hs3 := Lib.hid hs3; clear hs3; have e4 : vAcc (x.setO st2 (kAcc x.K a) (pAcc x.P x.K a b false)).KR (x.setO st2 (kAcc x.K a) (pAcc x.P x.K a b false)).A a b false = ok := Hok.out.symm; rw [e4] at e3; subst e3; clear e4)
  go_ret
  have hrel := HH.out.2.1.access (st := st2) (rst := st3) HH.out.1.wfn a b false
  refine ⟨eret_bool ?_, _, (HO.out.drew.trans (Hs2.out.trans Hs3.out)).mono (by omega) (by omega) (by omega) (by omega), hrel.1.mono (by omega), hrel.2⟩
  simp

set_option maxRecDepth 100000 in
set_option maxHeartbeats 1600000 in
theorem does_write (bx bo po : Nat) (x : TwoSt) (N : Nat) (a b : Int) (w : World) (h : TwoMem w x N N) (hr : TwoRel x N) (hbx : x.bx = bx) (hbo : x.st.bo = bo) (hpo : x.rst.po = po) (hN : N + 3 ≤ 100000) (hwb : wfi b) :
    Calls Try.prog 21 #[.pointer (some ⟨bx, 0, none⟩), .agg #[.int .i64 3, .int .i64 a, .int .i64 b]] w (DoesPost x N w) := by
  have HO := Lib.hid (does_open 3 a b h hbx hbo hpo)
  have HH := Lib.hid (And.intro h (And.intro hr (And.intro hbx (And.intro hbo hpo))))
  have HW := Lib.hid hwb
  clear h hr hbx hbo hpo hwb
  go_enter Try.func21, Try.ntmps21
  go_upto_region 7 with fail
  obtain ⟨wB, hwB⟩ : ∃ wB, wB = w.alloc (.cells #[.int .i64 3, .int .i64 a, .int .i64 b] 28) := ⟨_, rfl⟩
  obtain ⟨bs, hbs⟩ : ∃ bs, bs = w.heap.size := ⟨_, rfl⟩
  rw [← hwB, ← hbs] at HO
  rw [← hwB]
  try rw [← hbs]
  clear hwB hbs
  have HS : (fun w' => w'.cell? ⟨bx, 0, none⟩ = some (.pointer (some ⟨bo, 0, none⟩)) ∧ w'.cell? ⟨bx, 1, none⟩ = some (.pointer (some ⟨po, 0, none⟩)) ∧ w'.cell? ⟨bs, 0, none⟩ = some (.int .i64 3) ∧ w'.cell? ⟨bs, 1, none⟩ = some (.int .i64 a) ∧ w'.cell? ⟨bs, 2, none⟩ = some (.int .i64 b)) wB.drew := ⟨HO.out.c0, HO.out.c1, HO.out.s0, HO.out.s1, HO.out.s2⟩
  refine wp_region_pi (fun w' => w'.cell? ⟨bx, 0, none⟩ = some (.pointer (some ⟨bo, 0, none⟩)) ∧ w'.cell? ⟨bx, 1, none⟩ = some (.pointer (some ⟨po, 0, none⟩)) ∧ w'.cell? ⟨bs, 0, none⟩ = some (.int .i64 3) ∧ w'.cell? ⟨bs, 1, none⟩ = some (.int .i64 a) ∧ w'.cell? ⟨bs, 2, none⟩ = some (.int .i64 b)) [(0, 1), (1, 1), (2, 1), (3, 0), (4, 1), (5, 0), (6, 1), (7, 0), (9, 1), (10, 1), (11, 1), (12, 0), (13, 1), (14, 0), (15, 1), (16, 0), (8, 2), (17, 3), (18, 3), (19, 3)] [(17, [8, 3]), (17, [8, 5]), (17, [8, 7]), (17, [12]), (17, [14]), (17, [16]), (18, [8, 3]), (18, [8, 5]), (18, [8, 7]), (18, [17, 12]), (18, [17, 14]), (18, [17, 16]), (19, [3]), (19, [5]), (19, [7]), (19, [12]), (19, [14]), (19, [16])] (by kernel_rfl) (by kernel_rfl) (fun _ _ _ _ _ h => h) (HS) ?_
  refine pd_pu (some 48) rfl rfl (by rfl) (fun ws => by go_simp; try with_reducible rfl) ?_; go_frame   -- 0 Op.move (Operand.tmp 0)
  refine pd_pu (some 49) rfl rfl (by rfl) (fun ws => by go_simp; try with_reducible rfl) ?_; go_frame   -- 1 Op.nilCheck (Operand.tmp 48)
  refine pd_pu (some 50) rfl rfl (by rfl) (fun ws => by go_simp; try with_reducible rfl) ?_; go_frame   -- 2 Op.fieldAddr 42 (Operand.tmp 49) 0
  refine pd_ld (some 51) rfl rfl (by rfl) (fun ws HS => by go_split_ands; go_simp; try with_reducible rfl) ?_; go_frame   -- 3 Op.load 25 (Operand.tmp 50)
  refine pd_pu (some 52) rfl rfl (by rfl) (fun ws => by go_simp; try with_reducible rfl) ?_; go_frame   -- 4 Op.fieldAddr 28 (Operand.tmp 3) 1
  refine pd_ld (some 53) rfl rfl (by rfl) (fun ws HS => by go_split_ands; go_simp; try with_reducible rfl) ?_; go_frame   -- 5 Op.load 3 (Operand.tmp 52)
  refine pd_pu (some 54) rfl rfl (by rfl) (fun ws => by go_simp; try with_reducible rfl) ?_; go_frame   -- 6 Op.fieldAddr 28 (Operand.tmp 3) 2
  refine pd_ld (some 55) rfl rfl (by rfl) (fun ws HS => by go_split_ands; go_simp; try with_reducible rfl) ?_; go_frame   -- 7 Op.load 3 (Operand.tmp 54)
  refine pd_pu (some 57) rfl rfl (by rfl) (fun ws => by go_simp; try with_reducible rfl) ?_; go_frame   -- 9 Op.move (Operand.tmp 0)
  refine pd_pu (some 58) rfl rfl (by rfl) (fun ws => by go_simp; try with_reducible rfl) ?_; go_frame   -- 10 Op.nilCheck (Operand.tmp 57)
  refine pd_pu (some 59) rfl rfl (by rfl) (fun ws => by go_simp; try with_reducible rfl) ?_; go_frame   -- 11 Op.fieldAddr 42 (Operand.tmp 58) 1
  refine pd_ld (some 60) rfl rfl (by rfl) (fun ws HS => by go_split_ands; go_simp; try with_reducible rfl) ?_; go_frame   -- 12 Op.load 37 (Operand.tmp 59)
  refine pd_pu (some 61) rfl rfl (by rfl) (fun ws => by go_simp; try with_reducible rfl) ?_; go_frame   -- 13 Op.fieldAddr 28 (Operand.tmp 3) 1
  refine pd_ld (some 62) rfl rfl (by rfl) (fun ws HS => by go_split_ands; go_simp; try with_reducible rfl) ?_; go_frame   -- 14 Op.load 3 (Operand.tmp 61)
  refine pd_pu (some 63) rfl rfl (by rfl) (fun ws => by go_simp; try with_reducible rfl) ?_; go_frame   -- 15 Op.fieldAddr 28 (Operand.tmp 3) 2
  refine pd_ld (some 64) rfl rfl (by rfl) (fun ws HS => by go_split_ands; go_simp; try with_reducible rfl) ?_; go_frame   -- 16 Op.load 3 (Operand.tmp 63)
  refine pi_ke rfl (fun J hJ => ?_)   -- 8 Op.call { callee := Callee.value (Operand.func 16), args := #[Operand.tmp 51, Operand.tmp 53, Operand.tmp 55], argTypes := #[25, 3, 3] }
  go_wp2_with (go_at_call 16; refine (wwrite bo a b _ HO.out.self.1 (by omega) HH.out.2.2.2.1 HW.out).mono ?_; rintro e w2 ⟨ok, rfl, hok1, hok2, st2, hs2⟩)
  have Hs2 := Lib.hid hs2
  have HS2 := hs2.ds HO.out.beside HH.out.2.2.1 HH.out.2.2.2.1 HH.out.2.2.2.2 HO.out.s0 HO.out.s1 HO.out.s2
  have Hok := Lib.hid (HH.out.2.1.vAcc (fun i j => (HH.out.1.ord.rval i j).1) a b true ok hok1 hok2)
  clear hs2 hok1 hok2
  refine hJ _ _ HS2 ?_
  refine pi_tail (by rfl) ?_; simp only [opsAt, List.getElem?_toArray, List.getElem?_cons_zero, List.getElem?_cons_succ]   -- [(17, 'Op.call { callee := Callee.value (Operand.func 34), args := #[Operand.tmp 60, Operand.tmp 62, Operand.tmp 64], argTypes := #[37, 3, 3] }'), (18, 'Op.binOp BinOp.eql 4 (Operand.tmp 56) (Operand.tmp 65) 4'), (19, 'Op.assign (Operand.tmp 66)')]
  go_wp2_with (go_at_call 34; refine (wrwrite po a b _ Hs2.out.1 (by omega) HH.out.2.2.2.2).mono ?_; rintro e w3 ⟨e3, st3, hs3⟩; have Hs3 := Lib.hid hs3; clear hs3; have e4 : vAcc (x.setO st2 (kAcc x.K a) (pAcc x.P x.K a b true)).KR (x.setO st2 (kAcc x.K a) (pAcc x.P x.K a b true)).A a b true = ok := Hok.out.symm; rw [e4] at e3; subst e3; clear e4)
  go_ret
  have hrel := HH.out.2.1.access (st := st2) (rst := st3) HH.out.1.wfn a b true
  refine ⟨eret_bool ?_, _, (HO.out.drew.trans (Hs2.out.trans Hs3.out)).mono (by omega) (by omega) (by omega) (by omega), hrel.1.mono (by omega), hrel.2⟩
  simp

end Go.Proofs.Ytkcaeeighjblkaa
