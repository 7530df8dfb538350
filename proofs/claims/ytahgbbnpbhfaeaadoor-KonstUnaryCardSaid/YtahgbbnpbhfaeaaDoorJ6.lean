/- Texts that a claim's limit of files puts together: KnBase, KnSt. -/
import Derived.Test.YtahgbbnpbhfaeaaDoorExOps
import Derived.Lib.Bytealg
/- Constants in boxes, what a function on constants tells. No condition. -/
namespace Go.Proofs.YtahgbbnpbhfaeaaDoor
open Go.RowKit

/-- A constant in a box. -/
def BoxK (w : World) (p : Nat) (k : Int) (b : Bool) (a : Option Addr) (n c : Nat) (s : ByteArray) (t : Bool) : Prop := w.heap[p]? = some (.cells #[.int .i64 k, .bool b, .slice a n c, .string s, .bool t] 26 (0, 0))
section
variable {w w' : World} {p n c : Nat} {k : Int} {b t : Bool} {a : Option Addr} {s : ByteArray}
theorem BoxK.cells (h : BoxK w p k b a n c s t) : (w.cell? ⟨p, 0, none⟩ = some (.int .i64 k) ∧ w.cell? ⟨p, 1, none⟩ = some (.bool b) ∧ w.cell? ⟨p, 2, none⟩ = some (.slice a n c) ∧ w.cell? ⟨p, 3, none⟩ = some (.string s) ∧ w.cell? ⟨p, 4, none⟩ = some (.bool t)) := by
  unfold BoxK at h
  refine ⟨?_, ?_, ?_, ?_, ?_⟩ <;> (simp only [World.cell?, h]; rfl)
theorem BoxK.thaw (h : BoxK w p k b a n c s t) (j : Nat) : w.frozen? ⟨p, j, none⟩ = false := by
  unfold BoxK at h
  simp only [World.frozen?, h]
  simp
theorem BoxK.lt (h : BoxK w p k b a n c s t) : p < w.heap.size := (Array.getElem?_eq_some_iff.1 h).1
theorem BoxK.below (h : BoxK w p k b a n c s t) (hb : Below w.heap.size w w') : BoxK w' p k b a n c s t := (hb.block p h.lt).trans h
theorem BoxK.new (w : World) : BoxK (w.alloc (.cells #[.int .i64 k, .bool b, .slice a n c, .string s, .bool t] 26)) w.heap.size k b a n c s t := heap_alloc_new w _
theorem WordsAt.boxK {a' : Option Addr} {m : Nat} {z : List Nat} (h : WordsAt w a' m z) (hb : BoxK w p k b a n c s t) (u0 u1 u2 u3 u4 : Value) : WordsAt (((((w.setCell ⟨p, 0, none⟩ u0).setCell ⟨p, 1, none⟩ u1).setCell ⟨p, 2, none⟩ u2).setCell ⟨p, 3, none⟩ u3).setCell ⟨p, 4, none⟩ u4) a' m z := by
  refine ⟨h.1, h.2.1, fun i hi => ?_⟩
  obtain ⟨y, e, hx⟩ := h.2.2 i hi
  refine ⟨y, e, ?_⟩
  have hne : ∀ j, y.add i ≠ (⟨p, j, none⟩ : Addr) := fun j e2 => by
    have hx1 := hx
    rw [e2] at hx1
    unfold BoxK at hb
    simp only [World.cell?, hb] at hx1
    match j with
    | 0 => simp at hx1
    | 1 => simp at hx1
    | 2 => simp at hx1
    | 3 => simp at hx1
    | 4 => simp at hx1
    | j + 5 => simp at hx1
  rw [World.cell?_setCell_other _ _ _ _ (hne 4).symm, World.cell?_setCell_other _ _ _ _ (hne 3).symm, World.cell?_setCell_other _ _ _ _ (hne 2).symm, World.cell?_setCell_other _ _ _ _ (hne 1).symm, World.cell?_setCell_other _ _ _ _ (hne 0).symm]
  exact hx
theorem BoxK.store (h : BoxK w p k b a n c s t) (u0 u1 u2 u3 u4 : Value) : (((((w.setCell ⟨p, 0, none⟩ u0).setCell ⟨p, 1, none⟩ u1).setCell ⟨p, 2, none⟩ u2).setCell ⟨p, 3, none⟩ u3).setCell ⟨p, 4, none⟩ u4).heap[p]? = some (.cells #[u0, u1, u2, u3, u4] 26 (0, 0)) := by
  unfold BoxK at h
  exact (setCell_same2 (j := 4) (setCell_same2 (j := 3) (setCell_same2 (j := 2) (setCell_same2 (j := 1) (setCell_same2 (j := 0) h u0) u1) u2) u3) u4).trans rfl
theorem IntC.boxK {v : Value} {i : Int} (hi : IntC w v i) (h : BoxK w p k b a n c s t) (u0 u1 u2 u3 u4 : Value) : IntC (((((w.setCell ⟨p, 0, none⟩ u0).setCell ⟨p, 1, none⟩ u1).setCell ⟨p, 2, none⟩ u2).setCell ⟨p, 3, none⟩ u3).setCell ⟨p, 4, none⟩ u4) v i := by
  obtain ⟨a', n', cap', e, hw, hc, hn⟩ := hi
  exact ⟨a', n', cap', e, hw.boxK h _ _ _ _ _, hc, hn⟩
theorem below5 {B : Nat} (hb : Below B w w') (hp : B ≤ p) (u0 u1 u2 u3 u4 : Value) : Below B w (((((w'.setCell ⟨p, 0, none⟩ u0).setCell ⟨p, 1, none⟩ u1).setCell ⟨p, 2, none⟩ u2).setCell ⟨p, 3, none⟩ u3).setCell ⟨p, 4, none⟩ u4) :=
  ((((hb.setCell hp u0).setCell hp u1).setCell hp u2).setCell hp u3).setCell hp u4
end
/-- What is told: a constant; with an error's number; with a truth value. -/
def Kon1 (w' : World) (e : Ending) (k x : Int) (s : ByteArray) (t : Bool) : Prop := ∃ (b : Bool) (a : Option Addr) (n c : Nat), e = .returned (.agg #[.int .i64 k, .bool b, .slice a n c, .string s, .bool t]) ∧ IntC w' (.agg #[.bool b, .slice a n c]) x
def Kon2 (w' : World) (e : Ending) (k x : Int) (s : ByteArray) (t : Bool) (K : Int) : Prop := ∃ (b : Bool) (a : Option Addr) (n c : Nat), e = .returned (.tuple #[.agg #[.int .i64 k, .bool b, .slice a n c, .string s, .bool t], .int .i64 K]) ∧ IntC w' (.agg #[.bool b, .slice a n c]) x
def Kon3 (w' : World) (e : Ending) (k x : Int) (s : ByteArray) (t : Bool) (K : Int) (ok : Bool) : Prop := ∃ (b : Bool) (a : Option Addr) (n c : Nat), e = .returned (.tuple #[.agg #[.int .i64 k, .bool b, .slice a n c, .string s, .bool t], .int .i64 K, .bool ok]) ∧ IntC w' (.agg #[.bool b, .slice a n c]) x
section
variable {w wr : World} {fn : Func} {p : Tmp} {bo n c n0 c0 : Nat} {k k0 x K : Int} {b t b0 t0 ok : Bool} {a a0 : Option Addr} {s s0 : ByteArray} {tm : Array Value}
theorem finK1 (hfn : fn.results = #[.cell p 26]) (hq : BoxK wr bo k0 b0 a0 n0 c0 s0 t0) (hb : Below w.heap.size w wr) (hbo : w.heap.size ≤ bo) (hi : IntC wr (.agg #[.bool b, .slice a n c]) x) (hp : tm.getD p undef = .pointer (some ⟨bo, 0, none⟩)) :
    bodyPost Tryd.prog fn (fun e w' => Kon1 w' e k x s t ∧ Below w.heap.size w w') .ret { tmps := tm, defers := [] } (((((wr.setCell ⟨bo, 0, none⟩ (.int .i64 k)).setCell ⟨bo, 1, none⟩ (.bool b)).setCell ⟨bo, 2, none⟩ (.slice a n c)).setCell ⟨bo, 3, none⟩ (.string s)).setCell ⟨bo, 4, none⟩ (.bool t)) := by
  refine bodyPost_ret (results_cell_row hfn tm _ bo _ #[.int .i64 k, .bool b, .slice a n c, .string s, .bool t] (0, 0) _ hp (hq.store _ _ _ _ _) Tryd.underlying26 rfl (by kernel_rfl)) rfl ?_
  exact ⟨⟨b, a, n, c, rfl, hi.boxK hq _ _ _ _ _⟩, below5 hb hbo _ _ _ _ _⟩
theorem results_K2 {u : Tmp} (h : fn.results = #[.cell p 26, .tmp u]) (tmps : Array Value) (w : World) (g : Nat) (y0 y1 y2 y3 y4 : Value)
    (hp : tmps.getD p undef = .pointer (some ⟨g, 0, none⟩)) (hg : w.heap[g]? = some (.cells #[y0, y1, y2, y3, y4] 26 (0, 0))) : (results fn tmps).run Tryd.prog w = .ok (.tuple #[.agg #[y0, y1, y2, y3, y4], tmps.getD u undef]) w := by
  rw [results_cell_tmp h, hp]
  simp only [asAddr, Sem.run_pure, Result.andThen_ok]
  rw [run_loadVar_row w g _ 26 #[y0, y1, y2, y3, y4] (0, 0) _ hg Tryd.underlying26 rfl (by kernel_rfl)]
  rfl
theorem results_K3 {u q : Tmp} (h : fn.results = #[.cell p 26, .tmp u, .tmp q]) (tmps : Array Value) (w : World) (g : Nat) (y0 y1 y2 y3 y4 : Value)
    (hp : tmps.getD p undef = .pointer (some ⟨g, 0, none⟩)) (hg : w.heap[g]? = some (.cells #[y0, y1, y2, y3, y4] 26 (0, 0))) : (results fn tmps).run Tryd.prog w = .ok (.tuple #[.agg #[y0, y1, y2, y3, y4], tmps.getD u undef, tmps.getD q undef]) w := by
  have hl := run_loadVar_row (P := Tryd.prog) w g _ 26 #[y0, y1, y2, y3, y4] (0, 0) _ hg Tryd.underlying26 rfl (by kernel_rfl)
  have hp' : tmps[p]?.getD undef = .pointer (some ⟨g, 0, none⟩) := by simpa using hp
  simp only [results, h]
  simp [Result.andThen, hp', asAddr, hl]
theorem finK2 {u : Tmp} (hfn : fn.results = #[.cell p 26, .tmp u]) (hq : BoxK wr bo k0 b0 a0 n0 c0 s0 t0) (hb : Below w.heap.size w wr) (hbo : w.heap.size ≤ bo) (hi : IntC wr (.agg #[.bool b, .slice a n c]) x) (hp : tm.getD p undef = .pointer (some ⟨bo, 0, none⟩)) (hu : tm.getD u undef = .int .i64 K) :
    bodyPost Tryd.prog fn (fun e w' => Kon2 w' e k x s t K ∧ Below w.heap.size w w') .ret { tmps := tm, defers := [] } (((((wr.setCell ⟨bo, 0, none⟩ (.int .i64 k)).setCell ⟨bo, 1, none⟩ (.bool b)).setCell ⟨bo, 2, none⟩ (.slice a n c)).setCell ⟨bo, 3, none⟩ (.string s)).setCell ⟨bo, 4, none⟩ (.bool t)) := by
  refine bodyPost_ret (results_K2 hfn tm _ bo _ _ _ _ _ hp (hq.store _ _ _ _ _)) rfl ?_
  rw [hu]
  exact ⟨⟨b, a, n, c, rfl, hi.boxK hq _ _ _ _ _⟩, below5 hb hbo _ _ _ _ _⟩
theorem finK3 {u q : Tmp} (hfn : fn.results = #[.cell p 26, .tmp u, .tmp q]) (hq : BoxK wr bo k0 b0 a0 n0 c0 s0 t0) (hb : Below w.heap.size w wr) (hbo : w.heap.size ≤ bo) (hi : IntC wr (.agg #[.bool b, .slice a n c]) x) (hp : tm.getD p undef = .pointer (some ⟨bo, 0, none⟩)) (hu : tm.getD u undef = .int .i64 K) (hq2 : tm.getD q undef = .bool ok) :
    bodyPost Tryd.prog fn (fun e w' => Kon3 w' e k x s t K ok ∧ Below w.heap.size w w') .ret { tmps := tm, defers := [] } (((((wr.setCell ⟨bo, 0, none⟩ (.int .i64 k)).setCell ⟨bo, 1, none⟩ (.bool b)).setCell ⟨bo, 2, none⟩ (.slice a n c)).setCell ⟨bo, 3, none⟩ (.string s)).setCell ⟨bo, 4, none⟩ (.bool t)) := by
  refine bodyPost_ret (results_K3 hfn tm _ bo _ _ _ _ _ hp (hq.store _ _ _ _ _)) rfl ?_
  rw [hu, hq2]
  exact ⟨⟨b, a, n, c, rfl, hi.boxK hq _ _ _ _ _⟩, below5 hb hbo _ _ _ _ _⟩
end
end Go.Proofs.YtahgbbnpbhfaeaaDoor

/- What a body on constants holds: boxes of any kind, numbers. No condition. -/
namespace Go.Proofs.YtahgbbnpbhfaeaaDoor
open Go.RowKit

/-- The world W behind w, with boxes (block, cells, type) and numbers. -/
structure Sk (w W : World) (LB : List (Nat × Array Value × TypeId)) (LN : List (Value × Bool × List Nat)) : Prop where
  below : Below w.heap.size w W
  boxes : ∀ x ∈ LB, W.heap[x.1]? = some (.cells x.2.1 x.2.2 (0, 0)) ∧ w.heap.size ≤ x.1
  nums : ∀ x ∈ LN, IntV W x.1 x.2.1 x.2.2
section
variable {w W W' : World} {LB : List (Nat × Array Value × TypeId)} {LN : List (Value × Bool × List Nat)}
theorem Sk.start (w : World) : Sk w w [] [] := ⟨Below.refl _ _, fun _ h => by simp at h, fun _ h => by simp at h⟩
theorem Sk.go (h : Sk w W LB LN) (hb : Below W.heap.size W W') : Sk w W' LB LN :=
  ⟨h.below.trans (Below.mono hb h.below.size), fun x hx => ⟨(hb.block _ (Array.getElem?_eq_some_iff.1 (h.boxes x hx).1).1).trans (h.boxes x hx).1, (h.boxes x hx).2⟩, fun x hx => (h.nums x hx).below hb⟩
theorem Sk.num (h : Sk w W LB LN) {v : Value} {g : Bool} {z : List Nat} (hv : IntV W v g z) : Sk w W LB ((v, g, z) :: LN) :=
  ⟨h.below, h.boxes, fun x hx => by
    rcases List.mem_cons.1 hx with rfl | hx
    · exact hv
    · exact h.nums x hx⟩
theorem Sk.next (h : Sk w W LB LN) (hb : Below W.heap.size W W') {v : Value} {g : Bool} {z : List Nat} (hv : IntV W' v g z) : Sk w W' LB ((v, g, z) :: LN) := (h.go hb).num hv
theorem Sk.box (h : Sk w W LB LN) {b : Nat} {cs : Array Value} {t : TypeId} (hb : b = W.heap.size) (hW : W' = W.alloc (.cells cs t)) : Sk w W' ((b, cs, t) :: LB) LN := by
  subst hb
  have hb := (Below.refl W.heap.size W).alloc (Nat.le_refl _) (.cells cs t)
  rw [← hW] at hb
  have h' := h.go hb
  refine ⟨h'.below, fun x hx => ?_, h'.nums⟩
  rcases List.mem_cons.1 hx with rfl | hx
  · rw [hW]
    exact ⟨heap_alloc_new W _, h.below.size⟩
  · exact h'.boxes x hx
theorem Sk.cell (h : Sk w W LB LN) {b : Nat} {cs : Array Value} {t : TypeId} (hm : (b, cs, t) ∈ LB) (j : Nat) (v : Value) (hv : cs[j]? = some v) : W.cell? ⟨b, j, none⟩ = some v := by
  have := (h.boxes _ hm).1
  simp only at this
  rw [cell_of_row W b j cs t (0, 0) this]
  exact hv
theorem Sk.thaw (h : Sk w W LB LN) {b : Nat} {cs : Array Value} {t : TypeId} (hm : (b, cs, t) ∈ LB) (j : Nat) : W.frozen? ⟨b, j, none⟩ = false := by
  have := (h.boxes _ hm).1
  simp only [World.frozen?, this]
  simp
theorem Sk.get (h : Sk w W LB LN) {v : Value} {g : Bool} {z : List Nat} (hm : (v, g, z) ∈ LN) : IntV W v g z := h.nums _ hm
theorem Sk.getC (h : Sk w W LB LN) {v : Value} {i : Int} (hm : (v, decide (i < 0), canW i.natAbs) ∈ LN) : IntC W v i := h.nums _ hm
theorem Sk.old (h : Sk w W LB LN) {B : Nat} (hB : B = W.heap.size) : ∀ x ∈ LB, x.1 ≠ B := fun x hx => by
  have := (Array.getElem?_eq_some_iff.1 (h.boxes x hx).1).1
  omega
/-- The whole constant in the box at the head is written. -/
theorem Sk.store {p n c : Nat} {k : Int} {b t : Bool} {a : Option Addr} {s : ByteArray} (h : Sk w W ((p, #[.int .i64 k, .bool b, .slice a n c, .string s, .bool t], 26) :: LB) LN) (hne : ∀ x ∈ LB, x.1 ≠ p) {u0 u1 u2 u3 u4 : Value}
    (hW : W' = ((((W.setCell ⟨p, 0, none⟩ u0).setCell ⟨p, 1, none⟩ u1).setCell ⟨p, 2, none⟩ u2).setCell ⟨p, 3, none⟩ u3).setCell ⟨p, 4, none⟩ u4) : Sk w W' ((p, #[u0, u1, u2, u3, u4], 26) :: LB) LN := by
  subst hW
  have hb := h.boxes _ (List.mem_cons_self ..)
  have hK : BoxK W p k b a n c s t := hb.1
  refine ⟨below5 h.below hb.2 _ _ _ _ _, fun x hx => ?_, fun x hx => ?_⟩
  · rcases List.mem_cons.1 hx with rfl | hx
    · exact ⟨hK.store _ _ _ _ _, hb.2⟩
    · have h1 := h.boxes x (List.mem_cons_of_mem _ hx)
      refine ⟨?_, h1.2⟩
      have hn := hne x hx
      rw [Below.heap_setCell _ _ _ _ hn, Below.heap_setCell _ _ _ _ hn, Below.heap_setCell _ _ _ _ hn, Below.heap_setCell _ _ _ _ hn, Below.heap_setCell _ _ _ _ hn]
      exact h1.1
  · obtain ⟨a', n', cap', e, hw, hc, hn⟩ := h.nums x hx
    exact ⟨a', n', cap', e, hw.boxK hK _ _ _ _ _, hc, hn⟩
/-- The whole number in the box at the head is written. -/
theorem Sk.storeI {p n c : Nat} {b : Bool} {a : Option Addr} (h : Sk w W ((p, #[.bool b, .slice a n c], 24) :: LB) LN) (hne : ∀ x ∈ LB, x.1 ≠ p) {u0 u1 : Value}
    (hW : W' = (W.setCell ⟨p, 0, none⟩ u0).setCell ⟨p, 1, none⟩ u1) : Sk w W' ((p, #[u0, u1], 24) :: LB) LN := by
  subst hW
  have hb := h.boxes _ (List.mem_cons_self ..)
  have hK : W.heap[p]? = some (.cells #[.bool b, .slice a n c] 24 (0, 0)) := hb.1
  refine ⟨(h.below.setCell hb.2 _).setCell hb.2 _, fun x hx => ?_, fun x hx => ?_⟩
  · rcases List.mem_cons.1 hx with rfl | hx
    · exact ⟨(setCell_same2 (j := 1) (setCell_same2 (j := 0) hK u0) u1).trans rfl, hb.2⟩
    · have h1 := h.boxes x (List.mem_cons_of_mem _ hx)
      refine ⟨?_, h1.2⟩
      have hn : x.1 ≠ p := hne x hx
      rw [Below.heap_setCell _ _ _ _ hn, Below.heap_setCell _ _ _ _ hn]
      exact h1.1
  · obtain ⟨a', n', cap', e, hw, hc, hn⟩ := h.nums x hx
    exact ⟨a', n', cap', e, hw.box hK _ _, hc, hn⟩
theorem Sk.tl {y : Nat × Array Value × TypeId} (h : Sk w W (y :: LB) LN) : Sk w W LB LN := ⟨h.below, fun x hx => h.boxes x (List.mem_cons_of_mem _ hx), h.nums⟩
end
section
variable {w wr : World} {fn : Func} {p : Tmp} {bo n c n0 c0 : Nat} {k k0 x K k' x' K' : Int} {b t b0 t0 ok t' ok' : Bool} {a a0 : Option Addr} {s s0 s' : ByteArray} {tm : Array Value}
theorem finE1 (he : k' = k ∧ x' = x ∧ s' = s ∧ t' = t) (hfn : fn.results = #[.cell p 26]) (hq : BoxK wr bo k0 b0 a0 n0 c0 s0 t0) (hb : Below w.heap.size w wr) (hbo : w.heap.size ≤ bo) (hi : IntC wr (.agg #[.bool b, .slice a n c]) x) (hp : tm.getD p undef = .pointer (some ⟨bo, 0, none⟩)) :
    bodyPost Tryd.prog fn (fun e w' => Kon1 w' e k' x' s' t' ∧ Below w.heap.size w w') .ret { tmps := tm, defers := [] } (((((wr.setCell ⟨bo, 0, none⟩ (.int .i64 k)).setCell ⟨bo, 1, none⟩ (.bool b)).setCell ⟨bo, 2, none⟩ (.slice a n c)).setCell ⟨bo, 3, none⟩ (.string s)).setCell ⟨bo, 4, none⟩ (.bool t)) := by
  obtain ⟨rfl, rfl, rfl, rfl⟩ := he
  exact finK1 hfn hq hb hbo hi hp
theorem finE2 {u : Tmp} (he : k' = k ∧ x' = x ∧ s' = s ∧ t' = t ∧ K' = K) (hfn : fn.results = #[.cell p 26, .tmp u]) (hq : BoxK wr bo k0 b0 a0 n0 c0 s0 t0) (hb : Below w.heap.size w wr) (hbo : w.heap.size ≤ bo) (hi : IntC wr (.agg #[.bool b, .slice a n c]) x) (hp : tm.getD p undef = .pointer (some ⟨bo, 0, none⟩)) (hu : tm.getD u undef = .int .i64 K) :
    bodyPost Tryd.prog fn (fun e w' => Kon2 w' e k' x' s' t' K' ∧ Below w.heap.size w w') .ret { tmps := tm, defers := [] } (((((wr.setCell ⟨bo, 0, none⟩ (.int .i64 k)).setCell ⟨bo, 1, none⟩ (.bool b)).setCell ⟨bo, 2, none⟩ (.slice a n c)).setCell ⟨bo, 3, none⟩ (.string s)).setCell ⟨bo, 4, none⟩ (.bool t)) := by
  obtain ⟨rfl, rfl, rfl, rfl, rfl⟩ := he
  exact finK2 hfn hq hb hbo hi hp hu
theorem finE3 {u q : Tmp} (he : k' = k ∧ x' = x ∧ s' = s ∧ t' = t ∧ K' = K ∧ ok' = ok) (hfn : fn.results = #[.cell p 26, .tmp u, .tmp q]) (hq : BoxK wr bo k0 b0 a0 n0 c0 s0 t0) (hb : Below w.heap.size w wr) (hbo : w.heap.size ≤ bo) (hi : IntC wr (.agg #[.bool b, .slice a n c]) x) (hp : tm.getD p undef = .pointer (some ⟨bo, 0, none⟩)) (hu : tm.getD u undef = .int .i64 K) (hq2 : tm.getD q undef = .bool ok) :
    bodyPost Tryd.prog fn (fun e w' => Kon3 w' e k' x' s' t' K' ok' ∧ Below w.heap.size w w') .ret { tmps := tm, defers := [] } (((((wr.setCell ⟨bo, 0, none⟩ (.int .i64 k)).setCell ⟨bo, 1, none⟩ (.bool b)).setCell ⟨bo, 2, none⟩ (.slice a n c)).setCell ⟨bo, 3, none⟩ (.string s)).setCell ⟨bo, 4, none⟩ (.bool t)) := by
  obtain ⟨rfl, rfl, rfl, rfl, rfl, rfl⟩ := he
  exact finK3 hfn hq hb hbo hi hp hu hq2
end
theorem addKV0 {x y : Int} (h : addK x y ≠ 0) : addV x y = 0 := by
  unfold addK at h
  unfold addV
  by_cases hb : bad1 x y (x + y) = true
  · rw [if_pos hb]
  · exact absurd (if_neg hb) h
theorem subKV0 {x y : Int} (h : subK x y ≠ 0) : subV x y = 0 := by
  unfold subK at h
  unfold subV
  by_cases hb : bad1 x y (x - y) = true
  · rw [if_pos hb]
  · exact absurd (if_neg hb) h
theorem mulKV0 {x y : Int} (h : mulK x y ≠ 0) : mulV x y = 0 := by
  unfold mulK at h
  unfold mulV
  by_cases hb : bad1 x y (x * y) = true
  · rw [if_pos hb]
  · exact absurd (if_neg hb) h
theorem IntC.parts {w : World} {v : Value} {i : Int} (h : IntC w v i) : ∃ b a n c, v = .agg #[.bool b, .slice a n c] ∧ IntC w (.agg #[.bool b, .slice a n c]) i := by
  obtain ⟨b, a, n, c, rfl⟩ := h.agg
  exact ⟨b, a, n, c, rfl, h⟩
end Go.Proofs.YtahgbbnpbhfaeaaDoor
