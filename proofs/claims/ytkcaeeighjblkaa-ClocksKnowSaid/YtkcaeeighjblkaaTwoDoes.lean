/- Two.does: Start, Read, Write. No condition. -/
import Derived.Test.YtkcaeeighjblkaaTwoCalls
namespace Go.Proofs.Ytkcaeeighjblkaa
open Go.RowKit

def DoesPost (x : TwoSt) (N : Nat) (w : World) (e : Ending) (w' : World) : Prop :=
  e = .returned (.bool true) ∧ ∃ x', TwoStep w x w' x' (N + 3) (N + 3) ∧ TwoRel x' (N + 3) ∧ Kle x.K x'.K

/-- The boxed step beside the orders. -/
def Beside (w : World) (x : TwoSt) (bs : Nat) : Prop := bs < w.heap.size ∧ ∀ k, x.fp k → k ≠ bs
theorem TwoStep.keep {w w' : World} {x x' : TwoSt} {N M bs : Nat} (h : TwoStep w x w' x' N M) (hb : Beside w x bs) : Beside w' x' bs ∧ w'.heap[bs]? = w.heap[bs]? := by
  refine ⟨⟨Nat.lt_of_lt_of_le hb.1 h.2.1.size, fun k hk => ?_⟩, h.2.1.block bs hb.1 (fun e => hb.2 bs e rfl)⟩
  rcases h.2.2.1 k hk with e | e
  · exact hb.2 k e
  · have := hb.1; omega
theorem cell_of_heap {w w' : World} {b : Nat} (h : w'.heap[b]? = w.heap[b]?) (j : Nat) : w'.cell? ⟨b, j, none⟩ = w.cell? ⟨b, j, none⟩ := by simp [World.cell?, h]
theorem TwoStep.ds {w w' : World} {x x' : TwoSt} {N M bs bx bo po : Nat} {c0 c1 c2 : Value} (h : TwoStep w x w' x' N M) (hb : Beside w x bs) (hbx : x.bx = bx) (hbo : x.st.bo = bo) (hpo : x.rst.po = po)
    (h0 : w.cell? ⟨bs, 0, none⟩ = some c0) (h1 : w.cell? ⟨bs, 1, none⟩ = some c1) (h2 : w.cell? ⟨bs, 2, none⟩ = some c2) :
    w'.cell? ⟨bx, 0, none⟩ = some (.pointer (some ⟨bo, 0, none⟩)) ∧ w'.cell? ⟨bx, 1, none⟩ = some (.pointer (some ⟨po, 0, none⟩)) ∧ w'.cell? ⟨bs, 0, none⟩ = some c0 ∧ w'.cell? ⟨bs, 1, none⟩ = some c1 ∧ w'.cell? ⟨bs, 2, none⟩ = some c2 := by
  have hk := (h.keep hb).2
  have e0 := h.1.b0
  have e1 := h.1.b1
  obtain ⟨_, _, _, g1, g2, g3⟩ := h
  rw [g1, hbx, g2, hbo] at e0
  rw [g1, hbx, g3, hpo] at e1
  exact ⟨e0, e1, (cell_of_heap hk 0).trans h0, (cell_of_heap hk 1).trans h1, (cell_of_heap hk 2).trans h2⟩

theorem Beside.start {w : World} {x : TwoSt} {N M : Nat} (h : TwoMem w x N M) (o : Obj) : Beside (w.alloc o) x w.heap.size :=
  ⟨by simp, fun k ⟨i, hi⟩ e => by have := h.lt i k hi; omega⟩

theorem TwoMem.wfn {w : World} {x : TwoSt} {N M : Nat} (h : TwoMem w x N M) : ∀ n : Nat, n < x.K.length → wfi (n : Int) := fun n hn => by
  have := h.ord.klen
  have := h.ord.small
  exact wfi_small ⟨by omega, by omega⟩

/-- At the head of does: the step is boxed. -/
structure Opened (w : World) (x : TwoSt) (N bx bo po : Nat) (kd a b : Int) (wB : World) (bs : Nat) : Prop where
  step : TwoStep w x wB x N N
  self : TwoStep wB.drew x wB.drew x N N
  beside : Beside wB.drew x bs
  c0 : wB.drew.cell? ⟨bx, 0, none⟩ = some (.pointer (some ⟨bo, 0, none⟩))
  c1 : wB.drew.cell? ⟨bx, 1, none⟩ = some (.pointer (some ⟨po, 0, none⟩))
  s0 : wB.drew.cell? ⟨bs, 0, none⟩ = some (.int .i64 kd)
  s1 : wB.drew.cell? ⟨bs, 1, none⟩ = some (.int .i64 a)
  s2 : wB.drew.cell? ⟨bs, 2, none⟩ = some (.int .i64 b)
  drew : TwoStep w x wB.drew x N N
theorem does_open {bx bo po N : Nat} {x : TwoSt} {w : World} (kd a b : Int) (h : TwoMem w x N N) (hbx : x.bx = bx) (hbo : x.st.bo = bo) (hpo : x.rst.po = po) :
    Opened w x N bx bo po kd a b (w.alloc (.cells #[.int .i64 kd, .int .i64 a, .int .i64 b] 28)) w.heap.size := by
  have hb1 := (Below.refl _ w).alloc (Nat.le_refl _) (.cells #[.int .i64 kd, .int .i64 a, .int .i64 b] 28)
  have H0 := TwoStep.refl (h.of_below hb1.drew)
  have HB := Beside.start h (.cells #[.int .i64 kd, .int .i64 a, .int .i64 b] 28)
  have n0 := World.cell?_alloc_new w #[.int .i64 kd, .int .i64 a, .int .i64 b] 28 0
  have n1 := World.cell?_alloc_new w #[.int .i64 kd, .int .i64 a, .int .i64 b] 28 1
  have n2 := World.cell?_alloc_new w #[.int .i64 kd, .int .i64 a, .int .i64 b] 28 2
  obtain ⟨m0, m1, m2, m3, m4⟩ := H0.ds HB hbx hbo hpo n0 n1 n2
  exact ⟨(TwoStep.refl h).below hb1, H0, HB, m0, m1, m2, m3, m4, (TwoStep.refl h).below hb1.drew⟩

set_option maxRecDepth 100000 in
set_option maxHeartbeats 1600000 in
theorem does_start (bx bo po : Nat) (x : TwoSt) (N : Nat) (a b : Int) (w : World) (h : TwoMem w x N N) (hr : TwoRel x N) (hbx : x.bx = bx) (hbo : x.st.bo = bo) (hpo : x.rst.po = po) (hN : N + 3 ≤ 100000) :
    Calls Try.prog 21 #[.pointer (some ⟨bx, 0, none⟩), .agg #[.int .i64 1, .int .i64 a, .int .i64 b]] w (DoesPost x N w) := by
  have HO := Lib.hid (does_open 1 a b h hbx hbo hpo)
  have HH := Lib.hid (And.intro h (And.intro hr (And.intro hbx (And.intro hbo hpo))))
  clear h hr hbx hbo hpo
  go_enter Try.func21, Try.ntmps21
  go_upto_region 3 with fail
  obtain ⟨wB, hwB⟩ : ∃ wB, wB = w.alloc (.cells #[.int .i64 1, .int .i64 a, .int .i64 b] 28) := ⟨_, rfl⟩
  obtain ⟨bs, hbs⟩ : ∃ bs, bs = w.heap.size := ⟨_, rfl⟩
  rw [← hwB, ← hbs] at HO
  rw [← hwB]
  try rw [← hbs]
  clear hwB hbs
  have HS : (fun w' => w'.cell? ⟨bx, 0, none⟩ = some (.pointer (some ⟨bo, 0, none⟩)) ∧ w'.cell? ⟨bx, 1, none⟩ = some (.pointer (some ⟨po, 0, none⟩)) ∧ w'.cell? ⟨bs, 0, none⟩ = some (.int .i64 1) ∧ w'.cell? ⟨bs, 1, none⟩ = some (.int .i64 a) ∧ w'.cell? ⟨bs, 2, none⟩ = some (.int .i64 b)) wB.drew := ⟨HO.out.c0, HO.out.c1, HO.out.s0, HO.out.s1, HO.out.s2⟩
  refine wp_region_pi (fun w' => w'.cell? ⟨bx, 0, none⟩ = some (.pointer (some ⟨bo, 0, none⟩)) ∧ w'.cell? ⟨bx, 1, none⟩ = some (.pointer (some ⟨po, 0, none⟩)) ∧ w'.cell? ⟨bs, 0, none⟩ = some (.int .i64 1) ∧ w'.cell? ⟨bs, 1, none⟩ = some (.int .i64 a) ∧ w'.cell? ⟨bs, 2, none⟩ = some (.int .i64 b)) [(0, 1), (1, 1), (2, 1), (3, 0), (4, 1), (5, 0), (7, 1), (8, 1), (9, 1), (10, 0), (11, 1), (12, 0), (6, 2), (13, 3), (14, 3), (15, 3)] [(13, [6, 3]), (13, [6, 5]), (13, [10]), (13, [12]), (14, [6, 3]), (14, [6, 5]), (14, [13, 10]), (14, [13, 12]), (15, [3]), (15, [5]), (15, [10]), (15, [12])] (by kernel_rfl) (by kernel_rfl) (fun _ _ _ _ _ h => h) (HS) ?_
  refine pd_pu (some 10) rfl rfl (by rfl) (fun ws => by go_simp; try with_reducible rfl) ?_; go_frame   -- 0 Op.move (Operand.tmp 0)
  refine pd_pu (some 11) rfl rfl (by rfl) (fun ws => by go_simp; try with_reducible rfl) ?_; go_frame   -- 1 Op.nilCheck (Operand.tmp 10)
  refine pd_pu (some 12) rfl rfl (by rfl) (fun ws => by go_simp; try with_reducible rfl) ?_; go_frame   -- 2 Op.fieldAddr 42 (Operand.tmp 11) 0
  refine pd_ld (some 13) rfl rfl (by rfl) (fun ws HS => by go_split_ands; go_simp; try with_reducible rfl) ?_; go_frame   -- 3 Op.load 25 (Operand.tmp 12)
  refine pd_pu (some 14) rfl rfl (by rfl) (fun ws => by go_simp; try with_reducible rfl) ?_; go_frame   -- 4 Op.fieldAddr 28 (Operand.tmp 3) 1
  refine pd_ld (some 15) rfl rfl (by rfl) (fun ws HS => by go_split_ands; go_simp; try with_reducible rfl) ?_; go_frame   -- 5 Op.load 3 (Operand.tmp 14)
  refine pd_pu (some 17) rfl rfl (by rfl) (fun ws => by go_simp; try with_reducible rfl) ?_; go_frame   -- 7 Op.move (Operand.tmp 0)
  refine pd_pu (some 18) rfl rfl (by rfl) (fun ws => by go_simp; try with_reducible rfl) ?_; go_frame   -- 8 Op.nilCheck (Operand.tmp 17)
  refine pd_pu (some 19) rfl rfl (by rfl) (fun ws => by go_simp; try with_reducible rfl) ?_; go_frame   -- 9 Op.fieldAddr 42 (Operand.tmp 18) 1
  refine pd_ld (some 20) rfl rfl (by rfl) (fun ws HS => by go_split_ands; go_simp; try with_reducible rfl) ?_; go_frame   -- 10 Op.load 37 (Operand.tmp 19)
  refine pd_pu (some 21) rfl rfl (by rfl) (fun ws => by go_simp; try with_reducible rfl) ?_; go_frame   -- 11 Op.fieldAddr 28 (Operand.tmp 3) 1
  refine pd_ld (some 22) rfl rfl (by rfl) (fun ws HS => by go_split_ands; go_simp; try with_reducible rfl) ?_; go_frame   -- 12 Op.load 3 (Operand.tmp 21)
  refine pi_ke rfl (fun J hJ => ?_)   -- 6 Op.call { callee := Callee.value (Operand.func 17), args := #[Operand.tmp 13, Operand.tmp 15], argTypes := #[25, 3] }
  go_wp2_with (go_at_call 17; refine (wstart bo a _ HO.out.self.1 (by omega) HH.out.2.2.2.1).mono ?_; rintro e w2 ⟨rfl, st2, hs2⟩)
  have Hs2 := Lib.hid hs2
  have HS2 := hs2.ds HO.out.beside HH.out.2.2.1 HH.out.2.2.2.1 HH.out.2.2.2.2 HO.out.s0 HO.out.s1 HO.out.s2
  clear hs2
  obtain ⟨v1, Hv1⟩ : ∃ v, Hid (vStart x.K a = v) := ⟨_, Lib.hid rfl⟩
  rw [Hv1.out]
  refine hJ _ _ HS2 ?_
  refine pi_tail (by rfl) ?_; simp only [opsAt, List.getElem?_toArray, List.getElem?_cons_zero, List.getElem?_cons_succ]   -- [(13, 'Op.call { callee := Callee.value (Operand.func 32), args := #[Operand.tmp 20, Operand.tmp 22], argTypes := #[37, 3] }'), (14, 'Op.binOp BinOp.eql 3 (Operand.tmp 16) (Operand.tmp 23) 3'), (15, 'Op.assign (Operand.tmp 24)')]
  go_wp2_with (go_at_call 32; refine (wrstart po a _ Hs2.out.1 (by omega) HH.out.2.2.2.2).mono ?_; rintro e w3 ⟨rfl, st3, hs3⟩; have Hs3 := Lib.hid hs3; clear hs3)
  go_ret
  have hrel := HH.out.2.1.start (st := st2) (rst := st3) (fun i j => (HH.out.1.ord.rval i j).1) a
  refine ⟨eret_bool ?_, _, (HO.out.drew.trans (Hs2.out.trans Hs3.out)).mono (by omega) (by omega) (by omega) (by omega), hrel.1.mono (by omega), hrel.2⟩
  have e1 : vStart (x.setO st2 (kStart x.K a) x.P).KR a = v1 := (HH.out.2.1.vStart a).trans Hv1.out
  simp [e1]

end Go.Proofs.Ytkcaeeighjblkaa
