/- exact.digits, math/bits.Div32. No condition. -/
import Derived.Test.YtahgbbnpbhfaeaaDoorExTrimL
namespace Go.Proofs.YtahgbbnpbhfaeaaDoor
open Go.RowKit

def mapB (l : List Nat) : List Value := l.map fun (x : Nat) => Value.int .u8 (x : Int)
/-- A piece's nine digits. -/
def padC (n : Nat) : List Nat := (List.range 9).map fun j => 48 + n / 10 ^ (8 - j) % 10
def OwnB (w : World) (g : Nat) (l : List Nat) : Prop := w.heap[g]? = some (.cells (mapB l).toArray 80 (0, 0))
theorem OwnB.cell {w : World} {g : Nat} {l : List Nat} (h : OwnB w g l) (i : Nat) (hi : i < l.length) : w.cell? ⟨g, i, none⟩ = some (.int .u8 ((l.getD i 0 : Nat) : Int)) ∧ w.frozen? ⟨g, i, none⟩ = false := by
  unfold OwnB at h
  constructor
  · simp only [World.cell?, h]
    simp [mapB, List.getD, hi]
  · simp only [World.frozen?, h]
    simp
theorem OwnB.set {w : World} {g : Nat} {l : List Nat} (h : OwnB w g l) (i x : Nat) : OwnB (w.setCell ⟨g, i, none⟩ (.int .u8 (x : Int))) g (l.set i x) := by
  have := setCell_same2 (j := i) h (.int .u8 (x : Int))
  unfold OwnB
  rw [this]
  congr 2
  simp [mapB, List.map_set]

/-- The digits so far: the lowest i are told. -/
def DigR (w wr : World) (g0 g n i : Nat) : Prop :=
  ∃ l, OwnB wr g l ∧ l.length = 9 ∧ (∀ j, j < i → l.getD (8 - j) 0 = 48 + n / 10 ^ j % 10) ∧ OwnB wr g0 (List.replicate 9 0) ∧ Below w.heap.size w wr
theorem OwnB.other {w : World} {g : Nat} {l : List Nat} (h : OwnB w g l) {p : Addr} (hp : p.block ≠ g) (u : Value) : OwnB (w.setCell p u) g l := (Below.heap_setCell _ _ _ _ (Ne.symm hp)).trans h
theorem DigR.step {w wr : World} {g0 g n i d : Nat} (h : DigR w wr g0 g n i) (hi : i < 9) (hg : w.heap.size ≤ g) (hne : g ≠ g0) (hd : d = 48 + n / 10 ^ i % 10) : DigR w (wr.setCell ⟨g, 8 - i, none⟩ (.int .u8 (d : Int))) g0 g n (i + 1) := by
  obtain ⟨l, h1, h2, h3, h4, h5⟩ := h
  refine ⟨l.set (8 - i) d, h1.set _ _, by simpa using h2, fun j hj => ?_, h4.other (by simpa using hne) _, h5.setCell (by simpa using hg) _⟩
  by_cases hji : j = i
  · subst hji
    rw [getD_set (by omega), hd]
  · rw [getD_set_ne (by omega)]
    exact h3 j (by omega)
theorem DigR.done {w wr : World} {g0 g n : Nat} (h : DigR w wr g0 g n 9) : OwnB wr g (padC n) ∧ OwnB wr g0 (List.replicate 9 0) ∧ Below w.heap.size w wr := by
  obtain ⟨l, h1, h2, h3, h4, h5⟩ := h
  have e : l = padC n := by
    apply List.ext_getElem
    · simp [padC, h2]
    · intro k hk1 hk2
      have := h3 (8 - k) (by omega)
      rw [show 8 - (8 - k) = k by omega] at this
      simp only [padC, List.getElem_map, List.getElem_range]
      rw [← this]
      simp [List.getD, hk1]
  exact ⟨e ▸ h1, h4, h5⟩
theorem list9 {l : List Nat} (h : l.length = 9) : ∃ c0 c1 c2 c3 c4 c5 c6 c7 c8 : Nat, l = [c0, c1, c2, c3, c4, c5, c6, c7, c8] := by
  match l, h with
  | [c0, c1, c2, c3, c4, c5, c6, c7, c8], _ => exact ⟨c0, c1, c2, c3, c4, c5, c6, c7, c8, rfl⟩
theorem padC_len (n : Nat) : (padC n).length = 9 := by simp [padC]
/-- A row's nine cells. -/
theorem OwnB.nine {w : World} {g c0 c1 c2 c3 c4 c5 c6 c7 c8 : Nat} (h : OwnB w g [c0, c1, c2, c3, c4, c5, c6, c7, c8]) : (w.cell? ⟨g, 0, none⟩ = some (.int .u8 (c0 : Nat)) ∧ w.cell? ⟨g, 1, none⟩ = some (.int .u8 (c1 : Nat)) ∧ w.cell? ⟨g, 2, none⟩ = some (.int .u8 (c2 : Nat)) ∧ w.cell? ⟨g, 3, none⟩ = some (.int .u8 (c3 : Nat)) ∧ w.cell? ⟨g, 4, none⟩ = some (.int .u8 (c4 : Nat)) ∧ w.cell? ⟨g, 5, none⟩ = some (.int .u8 (c5 : Nat)) ∧ w.cell? ⟨g, 6, none⟩ = some (.int .u8 (c6 : Nat)) ∧ w.cell? ⟨g, 7, none⟩ = some (.int .u8 (c7 : Nat)) ∧ w.cell? ⟨g, 8, none⟩ = some (.int .u8 (c8 : Nat))) ∧ ∀ j, w.frozen? ⟨g, j, none⟩ = false := by
  unfold OwnB at h
  refine ⟨⟨?_, ?_, ?_, ?_, ?_, ?_, ?_, ?_, ?_⟩, fun j => by simp only [World.frozen?, h]; simp⟩ <;> (simp only [World.cell?, h]; rfl)

theorem OwnB.set9 {w : World} {g c0 c1 c2 c3 c4 c5 c6 c7 c8 : Nat} (h : OwnB w g (List.replicate 9 0)) : (((((((((w.setCell ⟨g, 0, none⟩ (.int .u8 (c0 : Nat))).setCell ⟨g, 1, none⟩ (.int .u8 (c1 : Nat))).setCell ⟨g, 2, none⟩ (.int .u8 (c2 : Nat))).setCell ⟨g, 3, none⟩ (.int .u8 (c3 : Nat))).setCell ⟨g, 4, none⟩ (.int .u8 (c4 : Nat))).setCell ⟨g, 5, none⟩ (.int .u8 (c5 : Nat))).setCell ⟨g, 6, none⟩ (.int .u8 (c6 : Nat))).setCell ⟨g, 7, none⟩ (.int .u8 (c7 : Nat))).setCell ⟨g, 8, none⟩ (.int .u8 (c8 : Nat))).heap[g]? = some (.cells #[.int .u8 (c0 : Nat), .int .u8 (c1 : Nat), .int .u8 (c2 : Nat), .int .u8 (c3 : Nat), .int .u8 (c4 : Nat), .int .u8 (c5 : Nat), .int .u8 (c6 : Nat), .int .u8 (c7 : Nat), .int .u8 (c8 : Nat)] 80 (0, 0)) := by
  have h2 := (((((((((h.set 0 c0).set 1 c1).set 2 c2).set 3 c3).set 4 c4).set 5 c5).set 6 c6).set 7 c7).set 8 c8)
  unfold OwnB at h2
  rw [h2]
  rfl
theorem Below.set9 {w w0 : World} {g c0 c1 c2 c3 c4 c5 c6 c7 c8 : Nat} {B : Nat} (hb : Below B w0 w) (hg : B ≤ g) : Below B w0 (((((((((w.setCell ⟨g, 0, none⟩ (.int .u8 (c0 : Nat))).setCell ⟨g, 1, none⟩ (.int .u8 (c1 : Nat))).setCell ⟨g, 2, none⟩ (.int .u8 (c2 : Nat))).setCell ⟨g, 3, none⟩ (.int .u8 (c3 : Nat))).setCell ⟨g, 4, none⟩ (.int .u8 (c4 : Nat))).setCell ⟨g, 5, none⟩ (.int .u8 (c5 : Nat))).setCell ⟨g, 6, none⟩ (.int .u8 (c6 : Nat))).setCell ⟨g, 7, none⟩ (.int .u8 (c7 : Nat))).setCell ⟨g, 8, none⟩ (.int .u8 (c8 : Nat))) :=
  ((((((((hb.setCell (p := ⟨g, 0, none⟩) hg _).setCell (p := ⟨g, 1, none⟩) hg _).setCell (p := ⟨g, 2, none⟩) hg _).setCell (p := ⟨g, 3, none⟩) hg _).setCell (p := ⟨g, 4, none⟩) hg _).setCell (p := ⟨g, 5, none⟩) hg _).setCell (p := ⟨g, 6, none⟩) hg _).setCell (p := ⟨g, 7, none⟩) hg _).setCell (p := ⟨g, 8, none⟩) hg _

set_option maxRecDepth 100000 in
set_option maxHeartbeats 1600000 in
theorem digits_any (n : Nat) (w : World) (hn : n < 4294967296) :
    Calls Tryd.prog 57 #[.int .u32 (n : Int)] w fun e w' => e = .returned (.agg (mapB (padC n)).toArray) ∧ Below w.heap.size w w' := by
  obtain ⟨w1, Hw1⟩ : ∃ w1, Hid (w1 = (w.alloc (.cells #[.int .u8 0, .int .u8 0, .int .u8 0, .int .u8 0, .int .u8 0, .int .u8 0, .int .u8 0, .int .u8 0, .int .u8 0] 80)).alloc (.cells #[.int .u8 0, .int .u8 0, .int .u8 0, .int .u8 0, .int .u8 0, .int .u8 0, .int .u8 0, .int .u8 0, .int .u8 0] 80)) := ⟨_, Lib.hid rfl⟩
  obtain ⟨g0, Hg0⟩ : ∃ g, Hid (g = w.heap.size) := ⟨_, Lib.hid rfl⟩
  obtain ⟨g, Hg⟩ : ∃ g, Hid (g = w.heap.size + 1) := ⟨_, Lib.hid rfl⟩
  have HS := Lib.hid (show DigR w w1 g0 g n 0 from by
    refine ⟨List.replicate 9 0, ?_, rfl, fun j hj => by omega, ?_, ?_⟩
    · have := heap_alloc_new (w.alloc (.cells #[.int .u8 0, .int .u8 0, .int .u8 0, .int .u8 0, .int .u8 0, .int .u8 0, .int .u8 0, .int .u8 0, .int .u8 0] 80)) (.cells #[.int .u8 0, .int .u8 0, .int .u8 0, .int .u8 0, .int .u8 0, .int .u8 0, .int .u8 0, .int .u8 0, .int .u8 0] 80)
      rw [World.size_alloc] at this
      unfold OwnB
      rw [Hw1.out, Hg.out]
      exact this
    · unfold OwnB
      rw [Hw1.out, Hg0.out]
      exact (Below.heap_alloc _ _ _ (by simp)).trans (heap_alloc_new w _)
    · rw [Hw1.out]
      exact ((Below.refl _ w).alloc (Nat.le_refl _) _).alloc (by simp) _)
  go_enter Tryd.func57, Tryd.ntmps57
  go_wp2_with fail
  rw [← Hw1.out, ← Hg.out, ← Hg0.out]
  go_loopg [0, 5] 9 (fun gg v0 v5 wr => ∃ i : Nat, i ≤ 9 ∧ v5 = .int .i64 i ∧ v0 = .int .u32 (n / 10 ^ i : Nat) ∧ gg = 9 - i ∧ Hid (DigR w wr g0 g n i))
  case atStart => exact ⟨0, by omega, rfl, by simp, rfl, HS⟩
  case round =>
    obtain ⟨i, hi, rfl, rfl, hgg, Hr⟩ := hrel
    obtain ⟨q, Hq⟩ : ∃ q, Hid (n / 10 ^ i = q) := ⟨_, Lib.hid rfl⟩
    have hq9 : q < 4294967296 := by rw [← Hq.out]; exact Nat.lt_of_le_of_lt (Nat.div_le_self _ _) hn
    rw [Hq.out]
    by_cases hli : i < 9
    · have hcf : ∃ x : Int, wr.cell? ⟨g, 8 - i, none⟩ = some (.int .u8 x) ∧ wr.frozen? ⟨g, 8 - i, none⟩ = false := by
        obtain ⟨l, h1, h2, _⟩ := Hr.out
        exact ⟨_, h1.cell (8 - i) (by omega)⟩
      obtain ⟨x, hcell, hfz⟩ := hcf
      have hix : (8 : Int) - (i : Int) = ((8 - i : Nat) : Int) := by omega
      obtain ⟨j, Hj⟩ : ∃ j, Hid (8 - i = j) := ⟨_, Lib.hid rfl⟩
      rw [Hj.out] at hcell hfz hix
      have hj9 : j < 9 := by have := Hj.out; omega
      have HF := Lib.hid (show DigR w (wr.setCell ⟨g, j, none⟩ (.int .u8 (48 + (q : Int) % 10))) g0 g n (i + 1) from by
        have := Hr.out.step (d := 48 + q % 10) hli (by rw [Hg.out]; omega) (by rw [Hg.out, Hg0.out]; omega) (by rw [Hq.out])
        rw [Hj.out] at this
        rw [show (48 + (q : Int) % 10) = ((48 + q % 10 : Nat) : Int) by omega]
        exact this)
      go_wp2_with fail
      go_roundg (9 - (i + 1))
      case measure => omega
      case rel =>
        refine ⟨i + 1, by omega, by go_num, ?_, rfl, HF⟩
        rw [Nat.pow_succ, ← Nat.div_div_eq_div_mul, Hq.out]
        exact congrArg (Value.int .u32) (by omega)
    · have hge : 9 ≤ i := by omega
      have hie : i = 9 := by omega
      have Hr2 := Lib.hid (show DigR w wr g0 g n 9 from by have h := Hr.out; rw [hie] at h; exact h)
      obtain ⟨r1, r2, r3⟩ := Hr2.out.done
      obtain ⟨c0, c1, c2, c3, c4, c5, c6, c7, c8, hl⟩ := list9 (padC_len n)
      have Hl := Lib.hid hl
      rw [Hl.out] at r1
      obtain ⟨⟨p0, p1, p2, p3, p4, p5, p6, p7, p8⟩, fz⟩ := r1.nine
      have HX := Lib.hid (And.intro r2 r3)
      obtain ⟨⟨q0, q1, q2, q3, q4, q5, q6, q7, q8⟩, fz0⟩ := OwnB.nine (c0 := 0) (c1 := 0) (c2 := 0) (c3 := 0) (c4 := 0) (c5 := 0) (c6 := 0) (c7 := 0) (c8 := 0) r2
      have k0 := fz0 0
      have k1 := fz0 1
      have k2 := fz0 2
      have k3 := fz0 3
      have k4 := fz0 4
      have k5 := fz0 5
      have k6 := fz0 6
      have k7 := fz0 7
      have k8 := fz0 8
      clear r1 r2 r3 fz fz0 Hr hie hl hli
      go_wp2_with fail
      obtain ⟨r2, r3⟩ := HX.out
      refine bodyPost_ret (results_cell_row rfl _ _ g0 80 #[.int .u8 (c0 : Nat), .int .u8 (c1 : Nat), .int .u8 (c2 : Nat), .int .u8 (c3 : Nat), .int .u8 (c4 : Nat), .int .u8 (c5 : Nat), .int .u8 (c6 : Nat), .int .u8 (c7 : Nat), .int .u8 (c8 : Nat)] (0, 0) _ rfl (OwnB.set9 r2) Tryd.underlying80 rfl (by kernel_rfl)) rfl ?_
      refine ⟨?_, Below.set9 r3 (by have := Hg0.out; omega)⟩
      rw [Hl.out]
      rfl
end Go.Proofs.YtahgbbnpbhfaeaaDoor
