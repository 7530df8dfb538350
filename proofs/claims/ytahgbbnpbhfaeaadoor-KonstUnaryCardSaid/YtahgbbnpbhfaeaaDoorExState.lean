/- What a law's body holds: boxes with numbers. No condition. -/
import Derived.Test.YtahgbbnpbhfaeaaDoorExWhole
namespace Go.Proofs.YtahgbbnpbhfaeaaDoor
open Go.RowKit

/-- The world W behind w, with boxes of numbers (block, sign, words) and numbers. -/
structure St (w W : World) (LB : List (Nat × Bool × Value)) (LN : List (Value × Bool × List Nat)) : Prop where
  below : Below w.heap.size w W
  boxes : ∀ x ∈ LB, W.heap[x.1]? = some (.cells #[.bool x.2.1, x.2.2] 24 (0, 0))
  nums : ∀ x ∈ LN, IntV W x.1 x.2.1 x.2.2
section
variable {w W W' : World} {LB : List (Nat × Bool × Value)} {LN : List (Value × Bool × List Nat)}
theorem St.start (w : World) : St w w [] [] := ⟨Below.refl _ _, fun _ h => by simp at h, fun _ h => by simp at h⟩
theorem St.go (h : St w W LB LN) (hb : Below W.heap.size W W') : St w W' LB LN :=
  ⟨h.below.trans (Below.mono hb h.below.size), fun x hx => (hb.block _ (Array.getElem?_eq_some_iff.1 (h.boxes x hx)).1).trans (h.boxes x hx), fun x hx => (h.nums x hx).below hb⟩
theorem St.num (h : St w W LB LN) {v : Value} {g : Bool} {z : List Nat} (hv : IntV W v g z) : St w W LB ((v, g, z) :: LN) :=
  ⟨h.below, h.boxes, fun x hx => by
    rcases List.mem_cons.1 hx with rfl | hx
    · exact hv
    · exact h.nums x hx⟩
theorem St.next (h : St w W LB LN) (hb : Below W.heap.size W W') {v : Value} {g : Bool} {z : List Nat} (hv : IntV W' v g z) : St w W' LB ((v, g, z) :: LN) := (h.go hb).num hv
theorem St.box (h : St w W LB LN) {b : Nat} {n : Bool} {s : Value} (hb : b = W.heap.size) (hW : W' = W.alloc (.cells #[.bool n, s] 24)) : St w W' ((b, n, s) :: LB) LN := by
  subst hb
  have hb := (Below.refl W.heap.size W).alloc (Nat.le_refl _) (.cells #[.bool n, s] 24)
  rw [← hW] at hb
  have h' := h.go hb
  refine ⟨h'.below, fun x hx => ?_, h'.nums⟩
  rcases List.mem_cons.1 hx with rfl | hx
  · rw [hW]
    exact heap_alloc_new W _
  · exact h'.boxes x hx
theorem St.cells (h : St w W LB LN) {b : Nat} {n : Bool} {s : Value} (hm : (b, n, s) ∈ LB) : W.cell? ⟨b, 0, none⟩ = some (.bool n) ∧ W.cell? ⟨b, 1, none⟩ = some s := (box_cells (h.boxes _ hm)).1
theorem St.get (h : St w W LB LN) {v : Value} {g : Bool} {z : List Nat} (hm : (v, g, z) ∈ LN) : IntV W v g z := h.nums _ hm
theorem St.getC (h : St w W LB LN) {v : Value} {i : Int} (hm : (v, decide (i < 0), canW i.natAbs) ∈ LN) : IntC W v i := h.nums _ hm
end
theorem whole_int (v1 v2 : Value) (i j : Int) (w : World) (h1 : IntC w v1 i) (h2 : IntC w v2 j) :
    Calls Tryd.prog 27 #[v1, v2] w fun e w' => e = .returned (.bool (decide (i = j))) ∧ Below w.heap.size w w' := by
  have h := whole_any v1 v2 _ _ _ _ w h1 h2
  have e : decide (decide (i < 0) = decide (j < 0) ∧ canW i.natAbs = canW j.natAbs) = decide (i = j) := by
    refine decide_eq_decide.2 ⟨fun ⟨h1, h2⟩ => ?_, fun h => by rw [h]; exact ⟨rfl, rfl⟩⟩
    have h3 := congrArg ofW h2
    rw [(canW_words _).2, (canW_words _).2] at h3
    have h4 := decide_eq_decide.1 h1
    omega
  rw [e] at h
  exact h
theorem whole_same (v1 v2 : Value) (i : Int) (w : World) (h1 : IntC w v1 i) (h2 : IntC w v2 i) :
    Calls Tryd.prog 27 #[v1, v2] w fun e w' => e = .returned (.bool true) ∧ Below w.heap.size w w' := by
  have h := whole_int v1 v2 i i w h1 h2
  rw [decide_eq_true rfl] at h
  exact h
theorem text_int (v : Value) (i : Int) (w : World) (h : IntC w v i) :
    Calls Tryd.prog 31 #[v] w fun e w' => e = .returned (.string (strL (decI i))) ∧ Below w.heap.size w w' := by
  have := text_any v _ _ w h
  rw [valI_can] at this
  exact this

end Go.Proofs.YtahgbbnpbhfaeaaDoor
