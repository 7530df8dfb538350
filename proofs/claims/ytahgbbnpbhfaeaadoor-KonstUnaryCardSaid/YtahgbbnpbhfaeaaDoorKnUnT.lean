/- Type, the program's and the document's; Types of flat types. Condition: a kind. -/
import Derived.Test.YtahgbbnpbhfaeaaDoorKnAwake
namespace Go.Proofs.YtahgbbnpbhfaeaaDoor
open Go.RowKit

/-- A type of a kind alone. -/
def typV (k : Int) : Value := .agg #[.int .i64 k, .string ⟨#[]⟩, .int .i64 0, .bool false, .slice none 0 0, .slice none 0 0, .slice none 0 0]
def BoxT (W : World) (b : Nat) (k : Int) : Prop := W.heap[b]? = some (.cells #[.int .i64 k, .string ⟨#[]⟩, .int .i64 0, .bool false, .slice none 0 0, .slice none 0 0, .slice none 0 0] 41 (0, 0))
theorem BoxT.go {W W' : World} {b : Nat} {k : Int} (h : BoxT W b k) (hb : Below W.heap.size W W') : BoxT W' b k := (hb.block b (Array.getElem?_eq_some_iff.1 h).1).trans h
theorem set7 {W : World} {b : Nat} {k : Int} (h : BoxT W b k) (k' : Int) : BoxT (((((((W.setCell ⟨b, 0, none⟩ (.int .i64 k')).setCell ⟨b, 1, none⟩ (.string ⟨#[]⟩)).setCell ⟨b, 2, none⟩ (.int .i64 0)).setCell ⟨b, 3, none⟩ (.bool false)).setCell ⟨b, 4, none⟩ (.slice none 0 0)).setCell ⟨b, 5, none⟩ (.slice none 0 0)).setCell ⟨b, 6, none⟩ (.slice none 0 0)) b k' := by
  have set_same : ∀ {w : World} {p j : Nat} {cs : Array Value} {t : TypeId} {fz : Nat × Nat}, w.heap[p]? = some (.cells cs t fz) → ∀ v : Value, (w.setCell ⟨p, j, none⟩ v).heap[p]? = some (.cells (cs.set! j v) t fz) := by
    intro w p j cs t fz h v
    simp only [World.setCell, Array.getElem?_modify, h]
    simp
  exact (set_same (set_same (set_same (set_same (set_same (set_same (set_same h _) _) _) _) _) _) _).trans rfl
theorem below7 {B : Nat} {w w' : World} {p : Nat} (hb : Below B w w') (hp : B ≤ p) (u0 u1 u2 u3 u4 u5 u6 : Value) : Below B w (((((((w'.setCell ⟨p, 0, none⟩ u0).setCell ⟨p, 1, none⟩ u1).setCell ⟨p, 2, none⟩ u2).setCell ⟨p, 3, none⟩ u3).setCell ⟨p, 4, none⟩ u4).setCell ⟨p, 5, none⟩ u5).setCell ⟨p, 6, none⟩ u6) :=
  ((((((hb.setCell (p := ⟨p, 0, none⟩) hp _).setCell (p := ⟨p, 1, none⟩) hp _).setCell (p := ⟨p, 2, none⟩) hp _).setCell (p := ⟨p, 3, none⟩) hp _).setCell (p := ⟨p, 4, none⟩) hp _).setCell (p := ⟨p, 5, none⟩) hp _).setCell (p := ⟨p, 6, none⟩) hp _
theorem finT {w wr : World} {fn : Func} {p : Tmp} {bo : Nat} {k k' : Int} {tm : Array Value} (hfn : fn.results = #[.cell p 41]) (hq : BoxT wr bo k) (hb : Below w.heap.size w wr) (hbo : w.heap.size ≤ bo) (hp : tm.getD p undef = .pointer (some ⟨bo, 0, none⟩)) :
    bodyPost Tryd.prog fn (fun e w' => e = .returned (typV k') ∧ Below w.heap.size w w') .ret { tmps := tm, defers := [] } (((((((wr.setCell ⟨bo, 0, none⟩ (.int .i64 k')).setCell ⟨bo, 1, none⟩ (.string ⟨#[]⟩)).setCell ⟨bo, 2, none⟩ (.int .i64 0)).setCell ⟨bo, 3, none⟩ (.bool false)).setCell ⟨bo, 4, none⟩ (.slice none 0 0)).setCell ⟨bo, 5, none⟩ (.slice none 0 0)).setCell ⟨bo, 6, none⟩ (.slice none 0 0)) := by
  refine bodyPost_ret (results_cell_row hfn tm _ bo _ #[.int .i64 k', .string ⟨#[]⟩, .int .i64 0, .bool false, .slice none 0 0, .slice none 0 0, .slice none 0 0] (0, 0) _ hp (set7 hq k') Tryd.underlying41 rfl (by kernel_rfl)) rfl ?_
  exact ⟨rfl, below7 hb hbo _ _ _ _ _ _ _⟩


set_option maxRecDepth 100000 in
theorem basic_any (k : Int) (w : World) : Calls Tryd.prog 37 #[.int .i64 k] w fun e w' => e = .returned (typV k) ∧ Below w.heap.size w w' := by
  obtain ⟨W1, HW1⟩ : ∃ x, Hid (w.alloc (.cells #[.int .i64 0, .string ⟨#[]⟩, .int .i64 0, .bool false, .slice none 0 0, .slice none 0 0, .slice none 0 0] 41) = x) := ⟨_, Lib.hid rfl⟩
  obtain ⟨bo, Hbo⟩ : ∃ x, Hid (w.heap.size = x) := ⟨_, Lib.hid rfl⟩
  have HBX := Lib.hid (show BoxT W1 bo 0 from by rw [← HW1.out, ← Hbo.out]; exact heap_alloc_new w _)
  have HB1 := Lib.hid (show Below w.heap.size w W1 from by rw [← HW1.out]; exact (Below.refl _ w).alloc (Nat.le_refl _) _)
  have z0 : W1.cell? ⟨bo, 0, none⟩ = some (.int .i64 0) := by simp only [World.cell?, show W1.heap[bo]? = _ from HBX.out]; rfl
  have fz0 : W1.frozen? ⟨bo, 0, none⟩ = false := by simp only [World.frozen?, show W1.heap[bo]? = _ from HBX.out]; simp
  have z1 : W1.cell? ⟨bo, 1, none⟩ = some (.string ⟨#[]⟩) := by simp only [World.cell?, show W1.heap[bo]? = _ from HBX.out]; rfl
  have fz1 : W1.frozen? ⟨bo, 1, none⟩ = false := by simp only [World.frozen?, show W1.heap[bo]? = _ from HBX.out]; simp
  have z2 : W1.cell? ⟨bo, 2, none⟩ = some (.int .i64 0) := by simp only [World.cell?, show W1.heap[bo]? = _ from HBX.out]; rfl
  have fz2 : W1.frozen? ⟨bo, 2, none⟩ = false := by simp only [World.frozen?, show W1.heap[bo]? = _ from HBX.out]; simp
  have z3 : W1.cell? ⟨bo, 3, none⟩ = some (.bool false) := by simp only [World.cell?, show W1.heap[bo]? = _ from HBX.out]; rfl
  have fz3 : W1.frozen? ⟨bo, 3, none⟩ = false := by simp only [World.frozen?, show W1.heap[bo]? = _ from HBX.out]; simp
  have z4 : W1.cell? ⟨bo, 4, none⟩ = some (.slice none 0 0) := by simp only [World.cell?, show W1.heap[bo]? = _ from HBX.out]; rfl
  have fz4 : W1.frozen? ⟨bo, 4, none⟩ = false := by simp only [World.frozen?, show W1.heap[bo]? = _ from HBX.out]; simp
  have z5 : W1.cell? ⟨bo, 5, none⟩ = some (.slice none 0 0) := by simp only [World.cell?, show W1.heap[bo]? = _ from HBX.out]; rfl
  have fz5 : W1.frozen? ⟨bo, 5, none⟩ = false := by simp only [World.frozen?, show W1.heap[bo]? = _ from HBX.out]; simp
  have z6 : W1.cell? ⟨bo, 6, none⟩ = some (.slice none 0 0) := by simp only [World.cell?, show W1.heap[bo]? = _ from HBX.out]; rfl
  have fz6 : W1.frozen? ⟨bo, 6, none⟩ = false := by simp only [World.frozen?, show W1.heap[bo]? = _ from HBX.out]; simp
  go_enter Tryd.func37, Tryd.ntmps37
  go_upto_region 1 with fail
  rw [HW1.out, Hbo.out]
  go_wp2_with fail
  exact finT rfl HBX.out HB1.out (by rw [Hbo.out]; exact Nat.le_refl _) rfl

set_option maxRecDepth 100000 in
theorem ktype_any {w : World} (k : Int) (g : Bool) (a : Option Addr) (n c : Nat) (s : ByteArray) (t : Bool) (hk : k = 1 ∨ k = 2 ∨ k = 3) :
    Calls Tryd.prog 15 #[.agg #[.int .i64 k, .bool g, .slice a n c, .string s, .bool t]] w fun e w' => e = .returned (typV (k + 3)) ∧ Below w.heap.size w w' := by
  obtain ⟨W0, HW0⟩ : ∃ x, Hid (w.alloc (.cells #[.int .i64 k, .bool g, .slice a n c, .string s, .bool t] 26) = x) := ⟨_, Lib.hid rfl⟩
  obtain ⟨b0, Hb0⟩ : ∃ x, Hid (w.heap.size = x) := ⟨_, Lib.hid rfl⟩
  obtain ⟨W1, HW1⟩ : ∃ x, Hid (W0.alloc (.cells #[.int .i64 0, .string ⟨#[]⟩, .int .i64 0, .bool false, .slice none 0 0, .slice none 0 0, .slice none 0 0] 41) = x) := ⟨_, Lib.hid rfl⟩
  obtain ⟨bo, Hbo⟩ : ∃ x, Hid (W0.heap.size = x) := ⟨_, Lib.hid rfl⟩
  have HBX := Lib.hid (show BoxT W1 bo 0 from by rw [← HW1.out, ← Hbo.out]; exact heap_alloc_new W0 _)
  have HB0 := Lib.hid (show Below w.heap.size w W0 from by rw [← HW0.out]; exact (Below.refl _ w).alloc (Nat.le_refl _) _)
  have HB1 := Lib.hid (show Below w.heap.size w W1 from by rw [← HW1.out]; exact HB0.out.alloc HB0.out.size _)
  have Hle := Lib.hid (show w.heap.size ≤ bo from by rw [← Hbo.out]; exact HB0.out.size)
  have c0 : W1.cell? ⟨b0, 0, none⟩ = some (.int .i64 k) := by
    rw [← HW1.out]
    refine cell_alloc ?_
    rw [← HW0.out, ← Hb0.out, cell_of_row _ _ _ _ _ _ (heap_alloc_new w _)]
    rfl
  have hs1 : w.heap.size + 1 = bo := by rw [← Hbo.out, ← HW0.out]; simp
  have z0 : W1.cell? ⟨bo, 0, none⟩ = some (.int .i64 0) := by simp only [World.cell?, show W1.heap[bo]? = _ from HBX.out]; rfl
  have fz0 : W1.frozen? ⟨bo, 0, none⟩ = false := by simp only [World.frozen?, show W1.heap[bo]? = _ from HBX.out]; simp
  have z1 : W1.cell? ⟨bo, 1, none⟩ = some (.string ⟨#[]⟩) := by simp only [World.cell?, show W1.heap[bo]? = _ from HBX.out]; rfl
  have fz1 : W1.frozen? ⟨bo, 1, none⟩ = false := by simp only [World.frozen?, show W1.heap[bo]? = _ from HBX.out]; simp
  have z2 : W1.cell? ⟨bo, 2, none⟩ = some (.int .i64 0) := by simp only [World.cell?, show W1.heap[bo]? = _ from HBX.out]; rfl
  have fz2 : W1.frozen? ⟨bo, 2, none⟩ = false := by simp only [World.frozen?, show W1.heap[bo]? = _ from HBX.out]; simp
  have z3 : W1.cell? ⟨bo, 3, none⟩ = some (.bool false) := by simp only [World.cell?, show W1.heap[bo]? = _ from HBX.out]; rfl
  have fz3 : W1.frozen? ⟨bo, 3, none⟩ = false := by simp only [World.frozen?, show W1.heap[bo]? = _ from HBX.out]; simp
  have z4 : W1.cell? ⟨bo, 4, none⟩ = some (.slice none 0 0) := by simp only [World.cell?, show W1.heap[bo]? = _ from HBX.out]; rfl
  have fz4 : W1.frozen? ⟨bo, 4, none⟩ = false := by simp only [World.frozen?, show W1.heap[bo]? = _ from HBX.out]; simp
  have z5 : W1.cell? ⟨bo, 5, none⟩ = some (.slice none 0 0) := by simp only [World.cell?, show W1.heap[bo]? = _ from HBX.out]; rfl
  have fz5 : W1.frozen? ⟨bo, 5, none⟩ = false := by simp only [World.frozen?, show W1.heap[bo]? = _ from HBX.out]; simp
  have z6 : W1.cell? ⟨bo, 6, none⟩ = some (.slice none 0 0) := by simp only [World.cell?, show W1.heap[bo]? = _ from HBX.out]; rfl
  have fz6 : W1.frozen? ⟨bo, 6, none⟩ = false := by simp only [World.frozen?, show W1.heap[bo]? = _ from HBX.out]; simp
  rcases hk with rfl | rfl | rfl
  · go_enter Tryd.func15, Tryd.ntmps15
    go_upto_region 1 with fail
    rw [HW0.out]
    try rw [hs1]
    try rw [Hbo.out]
    rw [HW1.out]
    try rw [Hb0.out]
    go_wp2_with fail
    exact finT (k' := 4) rfl HBX.out HB1.out Hle.out rfl
  · go_enter Tryd.func15, Tryd.ntmps15
    go_upto_region 1 with fail
    rw [HW0.out]
    try rw [hs1]
    try rw [Hbo.out]
    rw [HW1.out]
    try rw [Hb0.out]
    go_wp2_with fail
    exact finT (k' := 5) rfl HBX.out HB1.out Hle.out rfl
  · go_enter Tryd.func15, Tryd.ntmps15
    go_upto_region 1 with fail
    rw [HW0.out]
    try rw [hs1]
    try rw [Hbo.out]
    rw [HW1.out]
    try rw [Hb0.out]
    go_wp2_with fail
    exact finT (k' := 6) rfl HBX.out HB1.out Hle.out rfl


set_option maxRecDepth 100000 in
theorem rtype_any {w : World} (k : Int) (g : Bool) (a : Option Addr) (n c : Nat) (s : ByteArray) (t : Bool) (hk : k = 1 ∨ k = 2 ∨ k = 3) :
    Calls Tryd.prog 16 #[.agg #[.int .i64 k, .bool g, .slice a n c, .string s, .bool t]] w fun e w' => e = .returned (typV (k + 3)) ∧ Below w.heap.size w w' := by
  obtain ⟨W0, HW0⟩ : ∃ x, Hid (w.alloc (.cells #[.int .i64 k, .bool g, .slice a n c, .string s, .bool t] 26) = x) := ⟨_, Lib.hid rfl⟩
  obtain ⟨b0, Hb0⟩ : ∃ x, Hid (w.heap.size = x) := ⟨_, Lib.hid rfl⟩
  obtain ⟨W1, HW1⟩ : ∃ x, Hid (W0.alloc (.cells #[.int .i64 0, .string ⟨#[]⟩, .int .i64 0, .bool false, .slice none 0 0, .slice none 0 0, .slice none 0 0] 41) = x) := ⟨_, Lib.hid rfl⟩
  obtain ⟨bo, Hbo⟩ : ∃ x, Hid (W0.heap.size = x) := ⟨_, Lib.hid rfl⟩
  have HBX := Lib.hid (show BoxT W1 bo 0 from by rw [← HW1.out, ← Hbo.out]; exact heap_alloc_new W0 _)
  have HB0 := Lib.hid (show Below w.heap.size w W0 from by rw [← HW0.out]; exact (Below.refl _ w).alloc (Nat.le_refl _) _)
  have HB1 := Lib.hid (show Below w.heap.size w W1 from by rw [← HW1.out]; exact HB0.out.alloc HB0.out.size _)
  have Hle := Lib.hid (show w.heap.size ≤ bo from by rw [← Hbo.out]; exact HB0.out.size)
  have c0 : W1.cell? ⟨b0, 0, none⟩ = some (.int .i64 k) := by
    rw [← HW1.out]
    refine cell_alloc ?_
    rw [← HW0.out, ← Hb0.out, cell_of_row _ _ _ _ _ _ (heap_alloc_new w _)]
    rfl
  have hs1 : w.heap.size + 1 = bo := by rw [← Hbo.out, ← HW0.out]; simp
  have z0 : W1.cell? ⟨bo, 0, none⟩ = some (.int .i64 0) := by simp only [World.cell?, show W1.heap[bo]? = _ from HBX.out]; rfl
  have fz0 : W1.frozen? ⟨bo, 0, none⟩ = false := by simp only [World.frozen?, show W1.heap[bo]? = _ from HBX.out]; simp
  have z1 : W1.cell? ⟨bo, 1, none⟩ = some (.string ⟨#[]⟩) := by simp only [World.cell?, show W1.heap[bo]? = _ from HBX.out]; rfl
  have fz1 : W1.frozen? ⟨bo, 1, none⟩ = false := by simp only [World.frozen?, show W1.heap[bo]? = _ from HBX.out]; simp
  have z2 : W1.cell? ⟨bo, 2, none⟩ = some (.int .i64 0) := by simp only [World.cell?, show W1.heap[bo]? = _ from HBX.out]; rfl
  have fz2 : W1.frozen? ⟨bo, 2, none⟩ = false := by simp only [World.frozen?, show W1.heap[bo]? = _ from HBX.out]; simp
  have z3 : W1.cell? ⟨bo, 3, none⟩ = some (.bool false) := by simp only [World.cell?, show W1.heap[bo]? = _ from HBX.out]; rfl
  have fz3 : W1.frozen? ⟨bo, 3, none⟩ = false := by simp only [World.frozen?, show W1.heap[bo]? = _ from HBX.out]; simp
  have z4 : W1.cell? ⟨bo, 4, none⟩ = some (.slice none 0 0) := by simp only [World.cell?, show W1.heap[bo]? = _ from HBX.out]; rfl
  have fz4 : W1.frozen? ⟨bo, 4, none⟩ = false := by simp only [World.frozen?, show W1.heap[bo]? = _ from HBX.out]; simp
  have z5 : W1.cell? ⟨bo, 5, none⟩ = some (.slice none 0 0) := by simp only [World.cell?, show W1.heap[bo]? = _ from HBX.out]; rfl
  have fz5 : W1.frozen? ⟨bo, 5, none⟩ = false := by simp only [World.frozen?, show W1.heap[bo]? = _ from HBX.out]; simp
  have z6 : W1.cell? ⟨bo, 6, none⟩ = some (.slice none 0 0) := by simp only [World.cell?, show W1.heap[bo]? = _ from HBX.out]; rfl
  have fz6 : W1.frozen? ⟨bo, 6, none⟩ = false := by simp only [World.frozen?, show W1.heap[bo]? = _ from HBX.out]; simp
  rcases hk with rfl | rfl | rfl
  · go_enter Tryd.func16, Tryd.ntmps16
    go_upto_region 1 with fail
    rw [HW0.out]
    try rw [hs1]
    try rw [Hbo.out]
    rw [HW1.out]
    try rw [Hb0.out]
    go_wp2_with (go_at_call 37; refine hold ?_)
    refine Hold.mk ?_
    refine (basic_any 4 W1).mono ?_
    rintro e W2 ⟨rfl, hb⟩
    have HBX := Lib.hid (show BoxT W2 bo 0 from HBX.out.go hb)
    have HB2 := Lib.hid (show Below w.heap.size w W2 from HB1.out.trans (Below.mono hb HB1.out.size))
    clear hb c0 z0 fz0 z1 fz1 z2 fz2 z3 fz3 z4 fz4 z5 fz5 z6 fz6
    unfold typV
    have z0 : W2.cell? ⟨bo, 0, none⟩ = some (.int .i64 0) := by simp only [World.cell?, show W2.heap[bo]? = _ from HBX.out]; rfl
    have fz0 : W2.frozen? ⟨bo, 0, none⟩ = false := by simp only [World.frozen?, show W2.heap[bo]? = _ from HBX.out]; simp
    have z1 : W2.cell? ⟨bo, 1, none⟩ = some (.string ⟨#[]⟩) := by simp only [World.cell?, show W2.heap[bo]? = _ from HBX.out]; rfl
    have fz1 : W2.frozen? ⟨bo, 1, none⟩ = false := by simp only [World.frozen?, show W2.heap[bo]? = _ from HBX.out]; simp
    have z2 : W2.cell? ⟨bo, 2, none⟩ = some (.int .i64 0) := by simp only [World.cell?, show W2.heap[bo]? = _ from HBX.out]; rfl
    have fz2 : W2.frozen? ⟨bo, 2, none⟩ = false := by simp only [World.frozen?, show W2.heap[bo]? = _ from HBX.out]; simp
    have z3 : W2.cell? ⟨bo, 3, none⟩ = some (.bool false) := by simp only [World.cell?, show W2.heap[bo]? = _ from HBX.out]; rfl
    have fz3 : W2.frozen? ⟨bo, 3, none⟩ = false := by simp only [World.frozen?, show W2.heap[bo]? = _ from HBX.out]; simp
    have z4 : W2.cell? ⟨bo, 4, none⟩ = some (.slice none 0 0) := by simp only [World.cell?, show W2.heap[bo]? = _ from HBX.out]; rfl
    have fz4 : W2.frozen? ⟨bo, 4, none⟩ = false := by simp only [World.frozen?, show W2.heap[bo]? = _ from HBX.out]; simp
    have z5 : W2.cell? ⟨bo, 5, none⟩ = some (.slice none 0 0) := by simp only [World.cell?, show W2.heap[bo]? = _ from HBX.out]; rfl
    have fz5 : W2.frozen? ⟨bo, 5, none⟩ = false := by simp only [World.frozen?, show W2.heap[bo]? = _ from HBX.out]; simp
    have z6 : W2.cell? ⟨bo, 6, none⟩ = some (.slice none 0 0) := by simp only [World.cell?, show W2.heap[bo]? = _ from HBX.out]; rfl
    have fz6 : W2.frozen? ⟨bo, 6, none⟩ = false := by simp only [World.frozen?, show W2.heap[bo]? = _ from HBX.out]; simp
    go_wp2_with fail
    exact finT (k' := 4) rfl HBX.out HB2.out Hle.out rfl
  · go_enter Tryd.func16, Tryd.ntmps16
    go_upto_region 1 with fail
    rw [HW0.out]
    try rw [hs1]
    try rw [Hbo.out]
    rw [HW1.out]
    try rw [Hb0.out]
    go_wp2_with (go_at_call 37; refine hold ?_)
    refine Hold.mk ?_
    refine (basic_any 5 W1).mono ?_
    rintro e W2 ⟨rfl, hb⟩
    have HBX := Lib.hid (show BoxT W2 bo 0 from HBX.out.go hb)
    have HB2 := Lib.hid (show Below w.heap.size w W2 from HB1.out.trans (Below.mono hb HB1.out.size))
    clear hb c0 z0 fz0 z1 fz1 z2 fz2 z3 fz3 z4 fz4 z5 fz5 z6 fz6
    unfold typV
    have z0 : W2.cell? ⟨bo, 0, none⟩ = some (.int .i64 0) := by simp only [World.cell?, show W2.heap[bo]? = _ from HBX.out]; rfl
    have fz0 : W2.frozen? ⟨bo, 0, none⟩ = false := by simp only [World.frozen?, show W2.heap[bo]? = _ from HBX.out]; simp
    have z1 : W2.cell? ⟨bo, 1, none⟩ = some (.string ⟨#[]⟩) := by simp only [World.cell?, show W2.heap[bo]? = _ from HBX.out]; rfl
    have fz1 : W2.frozen? ⟨bo, 1, none⟩ = false := by simp only [World.frozen?, show W2.heap[bo]? = _ from HBX.out]; simp
    have z2 : W2.cell? ⟨bo, 2, none⟩ = some (.int .i64 0) := by simp only [World.cell?, show W2.heap[bo]? = _ from HBX.out]; rfl
    have fz2 : W2.frozen? ⟨bo, 2, none⟩ = false := by simp only [World.frozen?, show W2.heap[bo]? = _ from HBX.out]; simp
    have z3 : W2.cell? ⟨bo, 3, none⟩ = some (.bool false) := by simp only [World.cell?, show W2.heap[bo]? = _ from HBX.out]; rfl
    have fz3 : W2.frozen? ⟨bo, 3, none⟩ = false := by simp only [World.frozen?, show W2.heap[bo]? = _ from HBX.out]; simp
    have z4 : W2.cell? ⟨bo, 4, none⟩ = some (.slice none 0 0) := by simp only [World.cell?, show W2.heap[bo]? = _ from HBX.out]; rfl
    have fz4 : W2.frozen? ⟨bo, 4, none⟩ = false := by simp only [World.frozen?, show W2.heap[bo]? = _ from HBX.out]; simp
    have z5 : W2.cell? ⟨bo, 5, none⟩ = some (.slice none 0 0) := by simp only [World.cell?, show W2.heap[bo]? = _ from HBX.out]; rfl
    have fz5 : W2.frozen? ⟨bo, 5, none⟩ = false := by simp only [World.frozen?, show W2.heap[bo]? = _ from HBX.out]; simp
    have z6 : W2.cell? ⟨bo, 6, none⟩ = some (.slice none 0 0) := by simp only [World.cell?, show W2.heap[bo]? = _ from HBX.out]; rfl
    have fz6 : W2.frozen? ⟨bo, 6, none⟩ = false := by simp only [World.frozen?, show W2.heap[bo]? = _ from HBX.out]; simp
    go_wp2_with fail
    exact finT (k' := 5) rfl HBX.out HB2.out Hle.out rfl
  · go_enter Tryd.func16, Tryd.ntmps16
    go_upto_region 1 with fail
    rw [HW0.out]
    try rw [hs1]
    try rw [Hbo.out]
    rw [HW1.out]
    try rw [Hb0.out]
    go_wp2_with (go_at_call 37; refine hold ?_)
    refine Hold.mk ?_
    refine (basic_any 6 W1).mono ?_
    rintro e W2 ⟨rfl, hb⟩
    have HBX := Lib.hid (show BoxT W2 bo 0 from HBX.out.go hb)
    have HB2 := Lib.hid (show Below w.heap.size w W2 from HB1.out.trans (Below.mono hb HB1.out.size))
    clear hb c0 z0 fz0 z1 fz1 z2 fz2 z3 fz3 z4 fz4 z5 fz5 z6 fz6
    unfold typV
    have z0 : W2.cell? ⟨bo, 0, none⟩ = some (.int .i64 0) := by simp only [World.cell?, show W2.heap[bo]? = _ from HBX.out]; rfl
    have fz0 : W2.frozen? ⟨bo, 0, none⟩ = false := by simp only [World.frozen?, show W2.heap[bo]? = _ from HBX.out]; simp
    have z1 : W2.cell? ⟨bo, 1, none⟩ = some (.string ⟨#[]⟩) := by simp only [World.cell?, show W2.heap[bo]? = _ from HBX.out]; rfl
    have fz1 : W2.frozen? ⟨bo, 1, none⟩ = false := by simp only [World.frozen?, show W2.heap[bo]? = _ from HBX.out]; simp
    have z2 : W2.cell? ⟨bo, 2, none⟩ = some (.int .i64 0) := by simp only [World.cell?, show W2.heap[bo]? = _ from HBX.out]; rfl
    have fz2 : W2.frozen? ⟨bo, 2, none⟩ = false := by simp only [World.frozen?, show W2.heap[bo]? = _ from HBX.out]; simp
    have z3 : W2.cell? ⟨bo, 3, none⟩ = some (.bool false) := by simp only [World.cell?, show W2.heap[bo]? = _ from HBX.out]; rfl
    have fz3 : W2.frozen? ⟨bo, 3, none⟩ = false := by simp only [World.frozen?, show W2.heap[bo]? = _ from HBX.out]; simp
    have z4 : W2.cell? ⟨bo, 4, none⟩ = some (.slice none 0 0) := by simp only [World.cell?, show W2.heap[bo]? = _ from HBX.out]; rfl
    have fz4 : W2.frozen? ⟨bo, 4, none⟩ = false := by simp only [World.frozen?, show W2.heap[bo]? = _ from HBX.out]; simp
    have z5 : W2.cell? ⟨bo, 5, none⟩ = some (.slice none 0 0) := by simp only [World.cell?, show W2.heap[bo]? = _ from HBX.out]; rfl
    have fz5 : W2.frozen? ⟨bo, 5, none⟩ = false := by simp only [World.frozen?, show W2.heap[bo]? = _ from HBX.out]; simp
    have z6 : W2.cell? ⟨bo, 6, none⟩ = some (.slice none 0 0) := by simp only [World.cell?, show W2.heap[bo]? = _ from HBX.out]; rfl
    have fz6 : W2.frozen? ⟨bo, 6, none⟩ = false := by simp only [World.frozen?, show W2.heap[bo]? = _ from HBX.out]; simp
    go_wp2_with fail
    exact finT (k' := 6) rfl HBX.out HB2.out Hle.out rfl


theorem texts_nil (w : World) : Calls Tryd.prog 35 #[.slice none 0 0, .slice none 0 0] w fun e w' => e = .returned (.bool true) ∧ w = w' := by
  go_enter Tryd.func35, Tryd.ntmps35
  go_wp2_with fail
  go_loopg [5] 0 (fun g v5 wr => v5 = .int .i64 0 ∧ wr = w)
  case atStart => exact ⟨rfl, rfl⟩
  case round =>
    obtain ⟨rfl, rfl⟩ := hrel
    go_wp2_with fail
    go_ret
    exact ⟨rfl, rfl⟩

theorem bools_nil (w : World) : Calls Tryd.prog 36 #[.slice none 0 0, .slice none 0 0] w fun e w' => e = .returned (.bool true) ∧ w = w' := by
  go_enter Tryd.func36, Tryd.ntmps36
  go_wp2_with fail
  go_loopg [5] 0 (fun g v5 wr => v5 = .int .i64 0 ∧ wr = w)
  case atStart => exact ⟨rfl, rfl⟩
  case round =>
    obtain ⟨rfl, rfl⟩ := hrel
    go_wp2_with fail
    go_ret
    exact ⟨rfl, rfl⟩

set_option maxRecDepth 100000 in
theorem types_flat (k : Int) (w : World) : Calls Tryd.prog 14 #[typV k, typV k] w fun e w' => e = .returned (.bool true) ∧ Below w.heap.size w w' := by
  unfold typV
  have HT := Lib.hid (fun w => texts_nil w)
  have HBo := Lib.hid (fun w => bools_nil w)
  obtain ⟨W0, HW0⟩ : ∃ x, Hid (w.alloc (.cells #[.int .i64 k, .string ⟨#[]⟩, .int .i64 0, .bool false, .slice none 0 0, .slice none 0 0, .slice none 0 0] 41) = x) := ⟨_, Lib.hid rfl⟩
  obtain ⟨b0, Hb0⟩ : ∃ x, Hid (w.heap.size = x) := ⟨_, Lib.hid rfl⟩
  obtain ⟨W1, HW1⟩ : ∃ x, Hid (W0.alloc (.cells #[.int .i64 k, .string ⟨#[]⟩, .int .i64 0, .bool false, .slice none 0 0, .slice none 0 0, .slice none 0 0] 41) = x) := ⟨_, Lib.hid rfl⟩
  obtain ⟨b1, Hb1⟩ : ∃ x, Hid (W0.heap.size = x) := ⟨_, Lib.hid rfl⟩
  have HB0 := Lib.hid (show Below w.heap.size w W0 from by rw [← HW0.out]; exact (Below.refl _ w).alloc (Nat.le_refl _) _)
  have HB1 := Lib.hid (show Below w.heap.size w W1 from by rw [← HW1.out]; exact HB0.out.alloc HB0.out.size _)
  have HBY := Lib.hid (show BoxT W1 b0 k from by rw [← HW1.out]; exact BoxT.go (show BoxT W0 b0 k from by rw [← HW0.out, ← Hb0.out]; exact heap_alloc_new w _) ((Below.refl _ W0).alloc (Nat.le_refl _) _))
  have HBX := Lib.hid (show BoxT W1 b1 k from by rw [← HW1.out, ← Hb1.out]; exact heap_alloc_new W0 _)
  have hs1 : w.heap.size + 1 = b1 := by rw [← Hb1.out, ← HW0.out]; simp
  have z0 : W1.cell? ⟨b1, 0, none⟩ = some (.int .i64 k) := by simp only [World.cell?, show W1.heap[b1]? = _ from HBX.out]; rfl
  have fz0 : W1.frozen? ⟨b1, 0, none⟩ = false := by simp only [World.frozen?, show W1.heap[b1]? = _ from HBX.out]; simp
  have z1 : W1.cell? ⟨b1, 1, none⟩ = some (.string ⟨#[]⟩) := by simp only [World.cell?, show W1.heap[b1]? = _ from HBX.out]; rfl
  have fz1 : W1.frozen? ⟨b1, 1, none⟩ = false := by simp only [World.frozen?, show W1.heap[b1]? = _ from HBX.out]; simp
  have z2 : W1.cell? ⟨b1, 2, none⟩ = some (.int .i64 0) := by simp only [World.cell?, show W1.heap[b1]? = _ from HBX.out]; rfl
  have fz2 : W1.frozen? ⟨b1, 2, none⟩ = false := by simp only [World.frozen?, show W1.heap[b1]? = _ from HBX.out]; simp
  have z3 : W1.cell? ⟨b1, 3, none⟩ = some (.bool false) := by simp only [World.cell?, show W1.heap[b1]? = _ from HBX.out]; rfl
  have fz3 : W1.frozen? ⟨b1, 3, none⟩ = false := by simp only [World.frozen?, show W1.heap[b1]? = _ from HBX.out]; simp
  have z4 : W1.cell? ⟨b1, 4, none⟩ = some (.slice none 0 0) := by simp only [World.cell?, show W1.heap[b1]? = _ from HBX.out]; rfl
  have fz4 : W1.frozen? ⟨b1, 4, none⟩ = false := by simp only [World.frozen?, show W1.heap[b1]? = _ from HBX.out]; simp
  have z5 : W1.cell? ⟨b1, 5, none⟩ = some (.slice none 0 0) := by simp only [World.cell?, show W1.heap[b1]? = _ from HBX.out]; rfl
  have fz5 : W1.frozen? ⟨b1, 5, none⟩ = false := by simp only [World.frozen?, show W1.heap[b1]? = _ from HBX.out]; simp
  have z6 : W1.cell? ⟨b1, 6, none⟩ = some (.slice none 0 0) := by simp only [World.cell?, show W1.heap[b1]? = _ from HBX.out]; rfl
  have fz6 : W1.frozen? ⟨b1, 6, none⟩ = false := by simp only [World.frozen?, show W1.heap[b1]? = _ from HBX.out]; simp
  have y0 : W1.cell? ⟨b0, 0, none⟩ = some (.int .i64 k) := by simp only [World.cell?, show W1.heap[b0]? = _ from HBY.out]; rfl
  have fy0 : W1.frozen? ⟨b0, 0, none⟩ = false := by simp only [World.frozen?, show W1.heap[b0]? = _ from HBY.out]; simp
  have y1 : W1.cell? ⟨b0, 1, none⟩ = some (.string ⟨#[]⟩) := by simp only [World.cell?, show W1.heap[b0]? = _ from HBY.out]; rfl
  have fy1 : W1.frozen? ⟨b0, 1, none⟩ = false := by simp only [World.frozen?, show W1.heap[b0]? = _ from HBY.out]; simp
  have y2 : W1.cell? ⟨b0, 2, none⟩ = some (.int .i64 0) := by simp only [World.cell?, show W1.heap[b0]? = _ from HBY.out]; rfl
  have fy2 : W1.frozen? ⟨b0, 2, none⟩ = false := by simp only [World.frozen?, show W1.heap[b0]? = _ from HBY.out]; simp
  have y3 : W1.cell? ⟨b0, 3, none⟩ = some (.bool false) := by simp only [World.cell?, show W1.heap[b0]? = _ from HBY.out]; rfl
  have fy3 : W1.frozen? ⟨b0, 3, none⟩ = false := by simp only [World.frozen?, show W1.heap[b0]? = _ from HBY.out]; simp
  have y4 : W1.cell? ⟨b0, 4, none⟩ = some (.slice none 0 0) := by simp only [World.cell?, show W1.heap[b0]? = _ from HBY.out]; rfl
  have fy4 : W1.frozen? ⟨b0, 4, none⟩ = false := by simp only [World.frozen?, show W1.heap[b0]? = _ from HBY.out]; simp
  have y5 : W1.cell? ⟨b0, 5, none⟩ = some (.slice none 0 0) := by simp only [World.cell?, show W1.heap[b0]? = _ from HBY.out]; rfl
  have fy5 : W1.frozen? ⟨b0, 5, none⟩ = false := by simp only [World.frozen?, show W1.heap[b0]? = _ from HBY.out]; simp
  have y6 : W1.cell? ⟨b0, 6, none⟩ = some (.slice none 0 0) := by simp only [World.cell?, show W1.heap[b0]? = _ from HBY.out]; rfl
  have fy6 : W1.frozen? ⟨b0, 6, none⟩ = false := by simp only [World.frozen?, show W1.heap[b0]? = _ from HBY.out]; simp
  go_enter Tryd.func14, Tryd.ntmps14
  go_upto_region 1 with fail
  rw [HW0.out]
  try rw [hs1]
  try rw [Hb1.out]
  rw [HW1.out]
  try rw [Hb0.out]
  go_wp2_with (first | (go_at_call 35; refine (HT.out _).mono ?_; rintro e w' ⟨rfl, rfl⟩) | (go_at_call 36; refine (HBo.out _).mono ?_; rintro e w' ⟨rfl, rfl⟩))
  go_loopg [5] 0 (fun g v5 wr => v5 = .int .i64 0 ∧ wr = W1)
  case atStart => exact ⟨rfl, rfl⟩
  case round =>
    obtain ⟨rfl, rfl⟩ := hrel
    go_wp2_with fail
    go_ret
    exact ⟨rfl, HB1.out⟩

end Go.Proofs.YtahgbbnpbhfaeaaDoor
