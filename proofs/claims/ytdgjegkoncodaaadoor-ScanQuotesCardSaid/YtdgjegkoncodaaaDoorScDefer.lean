/- scan's deferred closure: it turns a panic of the scanner's into a fault. No condition. -/
import Derived.Test.YtdgjegkoncodaaaDoorScRead
import Derived.Test.YtdgjegkoncodaaaDoorScValid
import Derived.Recover
namespace Go.Proofs.YtdgjegkoncodaaaDoor
open Go.RowKit

theorem assert_C (v : Value) (w : World) : (Instr.typeAssert (.iface 65 v) 20 65 true).run Tryd.prog w = .ok (.tuple #[v, .bool true]) w := by
  rfl
/-- What the closure leaves of a panic: the fault told, an empty scanner. -/
structure CatchQ (w w' : World) (b1 b2 : Nat) (q : Int) : Prop where
  os : w'.os = w.os
  tape : w'.tape = w.tape
  output : w'.output = w.output
  size : w.heap.size ≤ w'.heap.size
  keep : ∀ k, k < w.heap.size → k ≠ b1 → k ≠ b2 → w'.heap[k]? = w.heap[k]?
  fault : w'.heap[b2]? = some (.cells #[.int .i64 3, .string ⟨#[]⟩, .int .i64 q] 25 (0, 0))
  scan : ∃ bz, w.heap.size ≤ bz ∧ w'.heap[b1]? = some (.cells #[.pointer (some ⟨bz, 0, none⟩)] 44 (0, 0)) ∧ w'.heap[bz]? = some (.cells #[.string ⟨#[]⟩, .int .i64 0, .slice none 0 0, .slice none 0 0] 48 (0, 0))
theorem heap_set_ne {w : World} {a : Addr} {v : Value} {k : Nat} (h : k ≠ a.block) : (w.setCell a v).heap[k]? = w.heap[k]? := Below.heap_setCell _ _ _ _ h
theorem heap_alloc_ne {w : World} {o : Obj} {k : Nat} (h : k < w.heap.size) : (w.alloc o).heap[k]? = w.heap[k]? := Below.heap_alloc w o k h
theorem catch_fin {w w1 : World} {b1 b2 : Nat} {q : Int} {v1 u0 u1 u2 : Value} (o : Obj) (h1 : w.heap[b1]? = some (.cells #[v1] 44 (0, 0))) (h2 : w.heap[b2]? = some (.cells #[u0, u1, u2] 25 (0, 0))) (hne : b1 ≠ b2)
    (hw : w1 = ((w.alloc o).alloc (.cells #[.string ⟨#[]⟩, .int .i64 0, .slice none 0 0, .slice none 0 0] 48)).drew) :
    CatchQ w ((((w1.setCell ⟨b1, 0, none⟩ (.pointer (some ⟨w.heap.size + 1, 0, none⟩))).setCell ⟨b2, 0, none⟩ (.int .i64 3)).setCell ⟨b2, 1, none⟩ (.string ⟨#[]⟩)).setCell ⟨b2, 2, none⟩ (.int .i64 q)) b1 b2 q := by
  have l1 := (Array.getElem?_eq_some_iff.1 h1).1
  have l2 := (Array.getElem?_eq_some_iff.1 h2).1
  have hk : ∀ k, k < w.heap.size → w1.heap[k]? = w.heap[k]? := fun k hk => by
    rw [hw]
    show ((w.alloc o).alloc _).heap[k]? = _
    rw [heap_alloc_ne (by simp; omega)]
    exact heap_alloc_ne hk
  have hz : w1.heap[w.heap.size + 1]? = some (.cells #[.string ⟨#[]⟩, .int .i64 0, .slice none 0 0, .slice none 0 0] 48 (0, 0)) := by
    rw [hw]
    have h := heap_alloc_new (w.alloc o) (.cells #[.string ⟨#[]⟩, .int .i64 0, .slice none 0 0, .slice none 0 0] 48)
    rw [World.size_alloc] at h
    exact h
  have g1 := (hk b1 l1).trans h1
  have g2 := (hk b2 l2).trans h2
  refine ⟨by rw [hw]; rfl, by rw [hw]; rfl, by rw [hw]; rfl, by rw [hw]; simp; omega, fun k hlt e1 e2 => ?_, ?_, w.heap.size + 1, by omega, ?_, ?_⟩
  · rw [heap_set_ne (show k ≠ b2 from e2), heap_set_ne (show k ≠ b2 from e2), heap_set_ne (show k ≠ b2 from e2), heap_set_ne (show k ≠ b1 from e1)]
    exact hk k hlt
  · have a1 : (w1.setCell ⟨b1, 0, none⟩ (.pointer (some ⟨w.heap.size + 1, 0, none⟩))).heap[b2]? = some (.cells #[u0, u1, u2] 25 (0, 0)) := (heap_set_ne (show b2 ≠ b1 from hne.symm)).trans g2
    exact (set_same (set_same (set_same a1 _) _) _).trans rfl
  · rw [heap_set_ne (show b1 ≠ b2 from hne), heap_set_ne (show b1 ≠ b2 from hne), heap_set_ne (show b1 ≠ b2 from hne)]
    exact (set_same g1 _).trans rfl
  · rw [heap_set_ne (show w.heap.size + 1 ≠ b2 by omega), heap_set_ne (show w.heap.size + 1 ≠ b2 by omega), heap_set_ne (show w.heap.size + 1 ≠ b2 by omega), heap_set_ne (show w.heap.size + 1 ≠ b1 by omega)]
    exact hz
theorem wp_tmps {P : Program} {c : Code} {Q : Exit → Act → World → Prop} {a : Act} {w : World} (t : Array Value) (ds : List Deferred) (h : a.tmps = t) (hd : a.defers = ds) (H : c.wp P Q { tmps := t, defers := ds } w) : c.wp P Q a w := by
  subst h
  subst hd
  exact H
set_option maxHeartbeats 1600000 in
set_option maxRecDepth 100000 in
theorem catch_panicking {w : World} {b1 b2 : Nat} {q : Int} {v1 u0 u1 u2 : Value} (h1 : w.heap[b1]? = some (.cells #[v1] 44 (0, 0))) (h2 : w.heap[b2]? = some (.cells #[u0, u1, u2] 25 (0, 0))) (hne : b1 ≠ b2) :
    CallsD Tryd.prog 35 #[.pointer (some ⟨b1, 0, none⟩), .pointer (some ⟨b2, 0, none⟩)] (.panicking ({ v := faultV q, recovered := false } :: [])) w fun e u' w' =>
      e = .returned (.tuple #[]) ∧ u' = .panicking ({ v := faultV q, recovered := true } :: []) ∧ CatchQ w w' b1 b2 q := by
  refine callsD_of_wpS Tryd.func35 rfl fun c₀ cs hu => ?_
  apply wpS_seq
  apply wpS_region
  simp [wpOpsS, go_sem, recoverD, hu, Tryd.ntmps35, Exit.thenS, faultV]
  apply wpS_seq
  apply wpS_region
  simp [wpOpsS, go_sem, Exit.thenS]
  refine wpS_cond (t := true) (by simp [Act.eval, Array.replicate]) ?_
  simp only [if_true]
  refine wpS_of_wp ?_
  have hta := fun v => assert_C v w
  obtain ⟨pv, Hpv⟩ : ∃ pv, Hid (pv = Value.agg #[.int .i64 3, .string ⟨#[]⟩, .int .i64 q]) := ⟨_, Lib.hid rfl⟩
  refine wp_tmps #[.pointer (some ⟨b1, 0, none⟩), .pointer (some ⟨b2, 0, none⟩), .iface 65 (.agg #[.int .i64 3, .string ⟨#[]⟩, .int .i64 q]), undef, undef, .iface 65 (.agg #[.int .i64 3, .string ⟨#[]⟩, .int .i64 q]), .iface 65 (.agg #[.int .i64 3, .string ⟨#[]⟩, .int .i64 q]), .bool true, undef, undef, undef, undef, undef, undef, undef, undef, undef, undef, undef, undef] [] (by rfl) (by rfl) ?_
  have HC := Lib.hid (And.intro h1 (And.intro h2 hne))
  have l1 := (Array.getElem?_eq_some_iff.1 h1).1
  have l2 := (Array.getElem?_eq_some_iff.1 h2).1
  clear h1 h2
  go_upto_region 5 with fail
  obtain ⟨wA, HwA⟩ : ∃ wA, Hid (w.alloc (.cells #[.int .i64 3, .string ⟨#[]⟩, .int .i64 q] 65) = wA) := ⟨_, Lib.hid rfl⟩
  obtain ⟨bx, Hbx⟩ : ∃ bx, Hid (w.heap.size = bx) := ⟨_, Lib.hid rfl⟩
  rw [HwA.out, Hbx.out]
  have hA := heap_alloc_new w (.cells #[.int .i64 3, .string ⟨#[]⟩, .int .i64 q] 65)
  rw [HwA.out, Hbx.out] at hA
  have g1 : wA.heap[b1]? = some (.cells #[v1] 44 (0, 0)) := by rw [← HwA.out]; exact (heap_alloc_ne l1).trans HC.out.1
  have g2 : wA.heap[b2]? = some (.cells #[u0, u1, u2] 25 (0, 0)) := by rw [← HwA.out]; exact (heap_alloc_ne l2).trans HC.out.2.1
  have c0 : wA.cell? ⟨bx, 0, none⟩ = some (.int .i64 3) := by simp only [World.cell?, hA]; rfl
  have c1 : wA.cell? ⟨bx, 1, none⟩ = some (.string ⟨#[]⟩) := by simp only [World.cell?, hA]; rfl
  have c2 : wA.cell? ⟨bx, 2, none⟩ = some (.int .i64 q) := by simp only [World.cell?, hA]; rfl
  have HS : (fun w' : World => w'.cell? ⟨bx, 0, none⟩ = some (.int .i64 3) ∧ w'.cell? ⟨bx, 1, none⟩ = some (.string ⟨#[]⟩) ∧ w'.cell? ⟨bx, 2, none⟩ = some (.int .i64 q)) wA.drew := ⟨c0, c1, c2⟩
  have e1 : wA.cell? ⟨b1, 0, none⟩ = some v1 := by simp only [World.cell?, g1]; rfl
  have f1 : wA.frozen? ⟨b1, 0, none⟩ = false := by simp only [World.frozen?, g1]; simp
  have e20 : wA.cell? ⟨b2, 0, none⟩ = some u0 := by simp only [World.cell?, g2]; rfl
  have e21 : wA.cell? ⟨b2, 1, none⟩ = some u1 := by simp only [World.cell?, g2]; rfl
  have e22 : wA.cell? ⟨b2, 2, none⟩ = some u2 := by simp only [World.cell?, g2]; rfl
  have f2 : ∀ j, wA.frozen? ⟨b2, j, none⟩ = false := fun j => by simp only [World.frozen?, g2]; simp
  clear hA g1 g2 c0 c1 c2
  refine wp_region_pi (fun w' : World => w'.cell? ⟨bx, 0, none⟩ = some (.int .i64 3) ∧ w'.cell? ⟨bx, 1, none⟩ = some (.string ⟨#[]⟩) ∧ w'.cell? ⟨bx, 2, none⟩ = some (.int .i64 q)) [(0, 1), (2, 1), (3, 0), (1, 2), (4, 2), (5, 3)] [(5, [3])] (by kernel_rfl) (by kernel_rfl) (fun _ _ _ _ _ h => h) (HS) ?_
  refine pq_pu (some 16) rfl rfl (by rfl) (fun ws => by go_simp; try with_reducible rfl) ?_; go_frame   -- 0 Op.build 48 #[]
  refine pq_pu (some 18) rfl rfl (by rfl) (fun ws => by go_simp; try with_reducible rfl) ?_; go_frame   -- 2 Op.fieldAddr 65 (Operand.tmp 3) 0
  refine pq_ld (some 19) rfl rfl (by rfl) (fun ws HS => by go_split_ands; go_simp; try with_reducible rfl) ?_; go_frame   -- 3 Op.load 25 (Operand.tmp 18)
  refine pk_ke rfl (fun J hJ => ?_)   -- pi_ke 1 Op.box 48 (Operand.tmp 16)
  go_wp2
  have hS2 : (wA.alloc (.cells #[.string ⟨#[]⟩, .int .i64 0, .slice none 0 0, .slice none 0 0] 48)).drew.heap.size = bx + 2 := by
    rw [← HwA.out, ← Hbx.out]
    simp
  have hS1 : wA.heap.size = bx + 1 := by rw [← HwA.out, ← Hbx.out]; simp
  obtain ⟨wB, HwB⟩ : ∃ wB, Hid ((wA.alloc (.cells #[.string ⟨#[]⟩, .int .i64 0, .slice none 0 0, .slice none 0 0] 48)).drew = wB) := ⟨_, Lib.hid rfl⟩
  have k0 := cell_alloc (o := .cells #[.string ⟨#[]⟩, .int .i64 0, .slice none 0 0, .slice none 0 0] 48) HS.1
  have k1 := cell_alloc (o := .cells #[.string ⟨#[]⟩, .int .i64 0, .slice none 0 0, .slice none 0 0] 48) HS.2.1
  have k2 := cell_alloc (o := .cells #[.string ⟨#[]⟩, .int .i64 0, .slice none 0 0, .slice none 0 0] 48) HS.2.2
  have g1 : wB.heap[b1]? = some (.cells #[v1] 44 (0, 0)) := by
    rw [← HwB.out, ← HwA.out]
    exact ((heap_alloc_ne (w := w.alloc _) (by simp; omega)).trans (heap_alloc_ne l1)).trans HC.out.1
  have g2 : wB.heap[b2]? = some (.cells #[u0, u1, u2] 25 (0, 0)) := by
    rw [← HwB.out, ← HwA.out]
    exact ((heap_alloc_ne (w := w.alloc _) (by simp; omega)).trans (heap_alloc_ne l2)).trans HC.out.2.1
  have k0 : wB.cell? ⟨bx, 0, none⟩ = some (.int .i64 3) := by rw [← HwB.out]; exact k0
  have k1 : wB.cell? ⟨bx, 1, none⟩ = some (.string ⟨#[]⟩) := by rw [← HwB.out]; exact k1
  have k2 : wB.cell? ⟨bx, 2, none⟩ = some (.int .i64 q) := by rw [← HwB.out]; exact k2
  rw [HwB.out, hS1]
  refine hJ _ _ ⟨k0, k1, k2⟩ ?_
  have hbx1 : b1 ≠ bx := by rw [← Hbx.out]; omega
  clear e1 f1 e20 e21 e22 f2 HS hS1 hS2
  have e1 : wB.cell? ⟨b1, 0, none⟩ = some v1 := by simp only [World.cell?, g1]; rfl
  have f1 : wB.frozen? ⟨b1, 0, none⟩ = false := by simp only [World.frozen?, g1]; simp
  have e20 : wB.cell? ⟨b2, 0, none⟩ = some u0 := by simp only [World.cell?, g2]; rfl
  have e21 : wB.cell? ⟨b2, 1, none⟩ = some u1 := by simp only [World.cell?, g2]; rfl
  have e22 : wB.cell? ⟨b2, 2, none⟩ = some u2 := by simp only [World.cell?, g2]; rfl
  have f2 : ∀ j, wB.frozen? ⟨b2, j, none⟩ = false := fun j => by simp only [World.frozen?, g2]; simp
  have f20 := f2 0
  have f21 := f2 1
  have f22 := f2 2
  clear f2 g1 g2
  refine pk_ke rfl (fun J hJ => ?_)   -- pi_ke 4 Op.store 44 (Operand.tmp 0) (Operand.tmp 17)
  go_wp2
  refine hJ _ _ ⟨(World.cell?_setCell_other _ _ _ _ (by simp)).trans k0, (World.cell?_setCell_other _ _ _ _ (by simp)).trans k1, (World.cell?_setCell_other _ _ _ _ (by simp)).trans k2⟩ ?_
  have hne2 : b2 ≠ b1 := hne.symm
  refine pi_tail (by rfl) ?_; simp only [opsAt, List.getElem?_toArray, List.getElem?_cons_zero, List.getElem?_cons_succ]   -- [(5, 'Op.store 25 (Operand.tmp 1) (Operand.tmp 19)')]
  go_wp2
  have HF := Lib.hid (catch_fin (q := q) _ HC.out.1 HC.out.2.1 HC.out.2.2 (show wB = _ from by rw [← HwB.out, ← HwA.out]))
  rw [Hbx.out] at HF
  simp [bodyPostS, results, Tryd.results35]
  exact HF.out
theorem catch_idle (a b : Value) (w : World) : CallsD Tryd.prog 35 #[a, b] .returning w fun e u' w' => e = .returned (.tuple #[]) ∧ u' = .returning ∧ w' = w := by
  refine callsD_of_wpS Tryd.func35 rfl fun c₀ cs hu => ?_
  apply wpS_seq
  apply wpS_region
  simp [wpOpsS, go_sem, recoverD, hu, Tryd.ntmps35, Exit.thenS]
  apply wpS_seq
  apply wpS_region
  simp [wpOpsS, go_sem, Exit.thenS]
  refine wpS_cond (t := false) (by simp [Act.eval, Array.replicate]) ?_
  simp only [Bool.false_eq_true, if_false]
  refine wpS_of_wp (wp_skip ?_)
  cases c₀
  simp_all [bodyPostS, results, Tryd.results35]
end Go.Proofs.YtdgjegkoncodaaaDoor
