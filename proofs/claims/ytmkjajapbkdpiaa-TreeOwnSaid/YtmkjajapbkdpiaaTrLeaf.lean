/- own of a leaf; Expr, Stmt; the sample. No condition. -/
import Derived.Test.YtmkjajapbkdpiaaTrLoops
namespace Go.Proofs.Ytmkjajapbkdpiaa
open Go.RowKit

theorem infoNd : (Try.prog.info? 24).map (·.size) = some 5 := by kernel_rfl

theorem clone_nil (w : World) : Calls Try.prog 42 #[.slice none 0 0] w fun e w' => e = .returned (.slice none 0 0) ∧ w = w' := by
  have q := fun (w : World) (a : Option Addr) (n c : Nat) => Lib.run_eql_slice_nil (P := Try.prog) w 22 24 a n c 0 0 Try.underlying22
  go_enter Try.func42, Try.ntmps42
  go_wp2
  go_ret
  exact ⟨rfl, rfl⟩

set_option maxRecDepth 100000 in
set_option maxHeartbeats 800000 in
theorem own_leaf (k f t : Int) (s : ByteArray) (w : World) : Calls Try.prog 38 #[valOf k f t s none 0 0] w fun e w' => e = .returned (valOf k f t s none 0 0) ∧ Below w.heap.size w w' := by
  unfold valOf
  go_enter Try.func38, Try.ntmps38
  go_wp2_with (go_at_call 42; refine (clone_nil _).mono ?_; rintro e w' ⟨rfl, rfl⟩)
  go_loopg [12] 0 (fun g v12 wr => v12 = .int .i64 0 ∧ Hid (Below w.heap.size w wr ∧ wr.heap[w.heap.size]? = some (.cells #[.int .i64 k, .int .i64 f, .int .i64 t, .string s, .slice none 0 0] 24 (0, 0)) ∧ ∃ u0 u1 u2 u3 u4, wr.heap[w.heap.size + 1]? = some (.cells #[u0, u1, u2, u3, u4] 24 (0, 0))))
  case atStart =>
    refine ⟨rfl, Lib.hid ⟨((Below.refl _ w).alloc (Nat.le_refl _) _).alloc (by simp) _, (Below.heap_alloc _ _ _ (by simp)).trans (heap_alloc_new w _), .int .i64 0, .int .i64 0, .int .i64 0, .string ⟨#[]⟩, .slice none 0 0, ?_⟩⟩
    have := heap_alloc_new (w.alloc (.cells #[.int .i64 k, .int .i64 f, .int .i64 t, .string s, .slice none 0 0] 24)) (.cells #[.int .i64 0, .int .i64 0, .int .i64 0, .string ⟨#[]⟩, .slice none 0 0] 24)
    rw [World.size_alloc] at this
    exact this
  case round =>
    obtain ⟨rfl, Hr⟩ := hrel
    have h1 := Hr.out.2.1
    obtain ⟨u0, u1, u2, u3, u4, h2⟩ := Hr.out.2.2
    have c0 : wr.cell? ⟨w.heap.size, 0, none⟩ = some (.int .i64 k) := by simp only [World.cell?, h1]; rfl
    have c1 : wr.cell? ⟨w.heap.size, 1, none⟩ = some (.int .i64 f) := by simp only [World.cell?, h1]; rfl
    have c2 : wr.cell? ⟨w.heap.size, 2, none⟩ = some (.int .i64 t) := by simp only [World.cell?, h1]; rfl
    have c3 : wr.cell? ⟨w.heap.size, 3, none⟩ = some (.string s) := by simp only [World.cell?, h1]; rfl
    have c4 : wr.cell? ⟨w.heap.size, 4, none⟩ = some (.slice none 0 0) := by simp only [World.cell?, h1]; rfl
    have r0 : wr.cell? ⟨w.heap.size + 1, 0, none⟩ = some u0 := by simp only [World.cell?, h2]; rfl
    have r1 : wr.cell? ⟨w.heap.size + 1, 1, none⟩ = some u1 := by simp only [World.cell?, h2]; rfl
    have r2 : wr.cell? ⟨w.heap.size + 1, 2, none⟩ = some u2 := by simp only [World.cell?, h2]; rfl
    have r3 : wr.cell? ⟨w.heap.size + 1, 3, none⟩ = some u3 := by simp only [World.cell?, h2]; rfl
    have r4 : wr.cell? ⟨w.heap.size + 1, 4, none⟩ = some u4 := by simp only [World.cell?, h2]; rfl
    have f0 : ∀ j, wr.frozen? ⟨w.heap.size + 1, j, none⟩ = false := fun j => by simp only [World.frozen?, h2]; simp
    have g0 := f0 0
    have g1 := f0 1
    have g2 := f0 2
    have g3 := f0 3
    have g4 := f0 4
    have H2 := Lib.hid h2
    clear h1 h2 f0
    go_wp2
    have h5 : (((((wr.setCell ⟨w.heap.size + 1, 0, none⟩ (.int .i64 k)).setCell ⟨w.heap.size + 1, 1, none⟩ (.int .i64 f)).setCell ⟨w.heap.size + 1, 2, none⟩ (.int .i64 t)).setCell ⟨w.heap.size + 1, 3, none⟩ (.string s)).setCell ⟨w.heap.size + 1, 4, none⟩ (.slice none 0 0)).heap[w.heap.size + 1]? = some (.cells #[.int .i64 k, .int .i64 f, .int .i64 t, .string s, .slice none 0 0] 24 (0, 0)) := by
      simp [World.setCell, Array.getElem?_modify, H2.out]
    refine bodyPost_ret (results_cell_row rfl _ _ (w.heap.size + 1) 24 #[.int .i64 k, .int .i64 f, .int .i64 t, .string s, .slice none 0 0] (0, 0) _ rfl h5 Try.underlying24 rfl infoNd) rfl ?_
    exact ⟨rfl, ((((Hr.out.1.setCell (p := ⟨w.heap.size + 1, 0, none⟩) (by simp) _).setCell (p := ⟨w.heap.size + 1, 1, none⟩) (by simp) _).setCell (p := ⟨w.heap.size + 1, 2, none⟩) (by simp) _).setCell (p := ⟨w.heap.size + 1, 3, none⟩) (by simp) _).setCell (p := ⟨w.heap.size + 1, 4, none⟩) (by simp) _⟩

theorem expr_bin (f t : Int) (s : ByteArray) (a : Option Addr) (n cap : Nat) (w : World) : Calls Try.prog 25 #[valOf 52 f t s a n cap] w fun e w' => e = .returned (.bool true) ∧ Below w.heap.size w w' := by
  unfold valOf
  go_enter Try.func25, Try.ntmps25
  go_wp2
  go_ret
  exact ⟨rfl, (Below.refl _ w).alloc (Nat.le_refl _) _⟩

theorem stmt_bin (f t : Int) (s : ByteArray) (a : Option Addr) (n cap : Nat) (w : World) : Calls Try.prog 27 #[valOf 52 f t s a n cap] w fun e w' => e = .returned (.bool false) ∧ Below w.heap.size w w' := by
  unfold valOf
  go_enter Try.func27, Try.ntmps27
  go_wp2
  go_ret
  exact ⟨rfl, (Below.refl _ w).alloc (Nat.le_refl _) _⟩

/-- a + (b). -/
def sampleNd : Nd := ⟨52, 0, 5, ⟨#[43]⟩, .cons 40 0 1 ⟨#[97]⟩ .nil (.cons 44 2 5 ⟨#[]⟩ (.cons 40 3 4 ⟨#[98]⟩ .nil .nil) .nil)⟩

def sampleL (b b1 : Nat) : List Item :=
  [(0, sampleNd, valOf 52 0 5 ⟨#[43]⟩ (some ⟨b, 0, none⟩) 2 2), (1, ⟨40, 0, 1, ⟨#[97]⟩, .nil⟩, valOf 40 0 1 ⟨#[97]⟩ none 0 0),
    (1, ⟨44, 2, 5, ⟨#[]⟩, .cons 40 3 4 ⟨#[98]⟩ .nil .nil⟩, valOf 44 2 5 ⟨#[]⟩ (some ⟨b1, 0, none⟩) 1 1), (2, ⟨40, 3, 4, ⟨#[98]⟩, .nil⟩, valOf 40 3 4 ⟨#[98]⟩ none 0 0)]

set_option maxRecDepth 100000 in
theorem sample_any (w : World) : Calls Try.prog 33 #[] w fun e w' => ∃ b b1, e = .returned (valOf 52 0 5 ⟨#[43]⟩ (some ⟨b, 0, none⟩) 2 2) ∧ LstN w' w'.heap.size 0 sampleNd (valOf 52 0 5 ⟨#[43]⟩ (some ⟨b, 0, none⟩) 2 2) (sampleL b b1) ∧ Below w.heap.size w w' := by
  go_enter Try.func33, Try.ntmps33
  go_wp2
  obtain ⟨wF, HW⟩ : ∃ wF, Hid (wF = ((w.alloc (.cells #[.int .i64 52, .int .i64 0, .int .i64 5, .string ⟨#[43]⟩, .slice (some ⟨w.heap.size + 1 + 1, 0, none⟩) 2 2] 24)).alloc (.cells #[.int .i64 40, .int .i64 3, .int .i64 4, .string ⟨#[98]⟩, .slice none 0 0] 24)).alloc (.cells #[.int .i64 40, .int .i64 0, .int .i64 1, .string ⟨#[97]⟩, .slice none 0 0, .int .i64 44, .int .i64 2, .int .i64 5, .string ⟨#[]⟩, .slice (some ⟨w.heap.size + 1, 0, none⟩) 1 1] 24)) := ⟨_, Lib.hid rfl⟩
  have h0 : wF.heap[w.heap.size]? = some (.cells #[.int .i64 52, .int .i64 0, .int .i64 5, .string ⟨#[43]⟩, .slice (some ⟨w.heap.size + 1 + 1, 0, none⟩) 2 2] 24 (0, 0)) := by
    rw [HW.out]
    exact (Below.heap_alloc _ _ _ (by simp; omega)).trans ((Below.heap_alloc _ _ _ (by simp)).trans (heap_alloc_new w _))
  have h1 : wF.heap[w.heap.size + 1]? = some (.cells #[.int .i64 40, .int .i64 3, .int .i64 4, .string ⟨#[98]⟩, .slice none 0 0] 24 (0, 0)) := by
    have := heap_alloc_new (w.alloc (.cells #[.int .i64 52, .int .i64 0, .int .i64 5, .string ⟨#[43]⟩, .slice (some ⟨w.heap.size + 1 + 1, 0, none⟩) 2 2] 24)) (.cells #[.int .i64 40, .int .i64 3, .int .i64 4, .string ⟨#[98]⟩, .slice none 0 0] 24)
    rw [World.size_alloc] at this
    rw [HW.out]
    exact (Below.heap_alloc _ _ _ (by simp)).trans this
  have h2 : wF.heap[w.heap.size + 1 + 1]? = some (.cells #[.int .i64 40, .int .i64 0, .int .i64 1, .string ⟨#[97]⟩, .slice none 0 0, .int .i64 44, .int .i64 2, .int .i64 5, .string ⟨#[]⟩, .slice (some ⟨w.heap.size + 1, 0, none⟩) 1 1] 24 (0, 0)) := by
    have := heap_alloc_new ((w.alloc (.cells #[.int .i64 52, .int .i64 0, .int .i64 5, .string ⟨#[43]⟩, .slice (some ⟨w.heap.size + 1 + 1, 0, none⟩) 2 2] 24)).alloc (.cells #[.int .i64 40, .int .i64 3, .int .i64 4, .string ⟨#[98]⟩, .slice none 0 0] 24)) (.cells #[.int .i64 40, .int .i64 0, .int .i64 1, .string ⟨#[97]⟩, .slice none 0 0, .int .i64 44, .int .i64 2, .int .i64 5, .string ⟨#[]⟩, .slice (some ⟨w.heap.size + 1, 0, none⟩) 1 1] 24)
    rw [World.size_alloc, World.size_alloc] at this
    rw [HW.out]
    exact this
  have hb : Below w.heap.size w wF := by
    rw [HW.out]
    exact (((Below.refl _ w).alloc (Nat.le_refl _) _).alloc (by simp) _).alloc (by simp; omega) _
  rw [← HW.out]
  refine bodyPost_ret (results_cell_row rfl _ _ w.heap.size 24 #[.int .i64 52, .int .i64 0, .int .i64 5, .string ⟨#[43]⟩, .slice (some ⟨w.heap.size + 1 + 1, 0, none⟩) 2 2] (0, 0) _ rfl h0 Try.underlying24 rfl infoNd) rfl ?_
  have l1 := (Array.getElem?_eq_some_iff.1 h1).1
  have l2 := (Array.getElem?_eq_some_iff.1 h2).1
  refine ⟨w.heap.size + 1 + 1, w.heap.size + 1, rfl, ⟨some ⟨w.heap.size + 1 + 1, 0, none⟩, 2, _, rfl, by decide, by decide, rfl, ?_⟩, hb⟩
  refine ⟨⟨w.heap.size + 1 + 1, 0, none⟩, none, 0, [], _, rfl, l2, ?_, ?_, ?_, ?_, ?_, by decide, by decide, rfl, rfl, ⟨⟨w.heap.size + 1 + 1, 0, none⟩, some ⟨w.heap.size + 1, 0, none⟩, 1, _, [], rfl, l2, ?_, ?_, ?_, ?_, ?_, by decide, by decide, rfl, ⟨⟨w.heap.size + 1, 0, none⟩, none, 0, [], [], rfl, l1, ?_, ?_, ?_, ?_, ?_, by decide, by decide, rfl, rfl, rfl⟩, rfl⟩⟩
  all_goals (simp [Addr.add, World.cell?, h1, h2, Fo.len])
end Go.Proofs.Ytmkjajapbkdpiaa
