/- The scanner in memory: its struct, its rows of tokens and of remarks. No condition. -/
import Derived.Test.YtdgjegkoncodaaaDoorApp
import Derived.Test.YtdgjegkoncodaaaDoorScPlain
namespace Go.Proofs.YtdgjegkoncodaaaDoor
open Go.RowKit

theorem bytes_len (s : ByteArray) : s.data.toList.length = s.size := by simp
def strB (l : List UInt8) : ByteArray := ⟨l.toArray⟩
theorem strB_data (s : ByteArray) : strB s.data.toList = s := by cases s; simp [strB]
theorem strB_toList (l : List UInt8) : (strB l).data.toList = l := by simp [strB]
theorem strB_size (l : List UInt8) : (strB l).size = l.length := by unfold strB; rfl
def tokC (t : Tok) : List Value := [.int .i64 t.kind, .int .i64 t.frm, .int .i64 t.to, .string (strB t.text)]
def tokCells (l : List Tok) : List Value := l.flatMap tokC
def spanC (x : Nat × Nat) : List Value := [.int .i64 x.1, .int .i64 x.2]
def spanCells (l : List (Nat × Nat)) : List Value := l.flatMap spanC
theorem tokCells_push (l : List Tok) (t : Tok) : tokCells (l ++ [t]) = tokCells l ++ tokC t := by unfold tokCells; rw [List.flatMap_append]; simp
theorem spanCells_push (l : List (Nat × Nat)) (t : Nat × Nat) : spanCells (l ++ [t]) = spanCells l ++ spanC t := by unfold spanCells; rw [List.flatMap_append]; simp
theorem tokCells_len (l : List Tok) : (tokCells l).length = l.length * 4 := by
  induction l with
  | nil => rfl
  | cons t l ih =>
    have : tokCells (t :: l) = tokC t ++ tokCells l := rfl
    rw [this, List.length_append, ih]
    simp [tokC]
    omega
theorem spanCells_len (l : List (Nat × Nat)) : (spanCells l).length = l.length * 2 := by
  induction l with
  | nil => rfl
  | cons t l ih =>
    have : spanCells (t :: l) = spanC t ++ spanCells l := rfl
    rw [this, List.length_append, ih]
    simp [spanC]
    omega
/-- A row is kept where its block is. -/
theorem row_keep {w w' : World} {b : Nat} {e : TypeId} {s : Nat} {v : Value} {n : Nat} {xs : List Value} (h : w.ownsRow b e s v n xs) (hk : ∀ g, b ≤ g → v.ownBlock = some g → w'.heap[g]? = w.heap[g]?) : w'.ownsRow b e s v n xs := by
  obtain ⟨h1, h2⟩ := h
  refine ⟨h1, ?_⟩
  rcases h2 with h2 | ⟨g, cap, cur, rfl, h3, h4, h5⟩
  · exact .inl h2
  · exact .inr ⟨g, cap, cur, rfl, h3, (hk g h3 rfl).trans h4, h5⟩
theorem row_lt {w : World} {b : Nat} {e : TypeId} {s : Nat} {v : Value} {n : Nat} {xs : List Value} (h : w.ownsRow b e s v n xs) {g : Nat} (hg : v.ownBlock = some g) : g < w.heap.size ∧ b ≤ g ∧ ∃ cur, w.heap[g]? = some (.cells cur e (0, 0)) := by
  rcases h.2 with ⟨rfl, _⟩ | ⟨g', cap, cur, rfl, h3, h4, _⟩
  · cases hg
  · have : g' = g := by simpa [Value.ownBlock] using hg
    subst this
    exact ⟨(Array.getElem?_eq_some_iff.1 h4).1, h3, cur, h4⟩
theorem set_same {w : World} {p j : Nat} {cs : Array Value} {t : TypeId} {fz : Nat × Nat} (h : w.heap[p]? = some (.cells cs t fz)) (v : Value) : (w.setCell ⟨p, j, none⟩ v).heap[p]? = some (.cells (cs.set! j v) t fz) := by
  simp only [World.setCell, Array.getElem?_modify, h]
  simp

/-- The scanner at block p: what it reads, where it stands, its tokens, its remarks; what stood below p is as in w0. -/
structure Sc (w0 W : World) (p : Nat) (src : ByteArray) (a : Nat) (l : List Tok) (c : List (Nat × Nat)) (tv rv : Value) : Prop where
  below : Below p w0 W
  box : W.heap[p]? = some (.cells #[.string src, .int .i64 a, tv, rv] 48 (0, 0))
  toks : W.ownsRow (p + 1) 35 4 tv l.length (tokCells l)
  rems : W.ownsRow (p + 1) 40 2 rv c.length (spanCells c)
/-- The same, whatever the rows' values. -/
def ScE (w0 W : World) (p : Nat) (src : ByteArray) (a : Nat) (l : List Tok) (c : List (Nat × Nat)) : Prop := ∃ tv rv, Sc w0 W p src a l c tv rv
section
variable {w0 W W' : World} {p a : Nat} {src : ByteArray} {l : List Tok} {c : List (Nat × Nat)} {tv rv : Value}
theorem Sc.lt (h : Sc w0 W p src a l c tv rv) : p < W.heap.size := (Array.getElem?_eq_some_iff.1 h.box).1
theorem Sc.cells (h : Sc w0 W p src a l c tv rv) : W.cell? ⟨p, 0, none⟩ = some (.string src) ∧ W.cell? ⟨p, 1, none⟩ = some (.int .i64 a) ∧ W.cell? ⟨p, 2, none⟩ = some tv ∧ W.cell? ⟨p, 3, none⟩ = some rv := by
  have := h.box
  refine ⟨?_, ?_, ?_, ?_⟩ <;> (simp only [World.cell?, this]; rfl)
theorem Sc.thaw (h : Sc w0 W p src a l c tv rv) (j : Nat) : W.frozen? ⟨p, j, none⟩ = false := by
  have := h.box
  simp only [World.frozen?, this]
  simp
theorem Sc.tvForm (h : Sc w0 W p src a l c tv rv) : ∃ ad cap, tv = .slice ad l.length cap := by
  rcases h.toks.2 with ⟨rfl, e⟩ | ⟨g, cap, cur, rfl, _⟩
  · exact ⟨none, 0, by rw [e]⟩
  · exact ⟨_, cap, rfl⟩
theorem Sc.rvForm (h : Sc w0 W p src a l c tv rv) : ∃ ad cap, rv = .slice ad c.length cap := by
  rcases h.rems.2 with ⟨rfl, e⟩ | ⟨g, cap, cur, rfl, _⟩
  · exact ⟨none, 0, by rw [e]⟩
  · exact ⟨_, cap, rfl⟩
theorem Sc.go (h : Sc w0 W p src a l c tv rv) (hb : Below W.heap.size W W') : Sc w0 W' p src a l c tv rv :=
  ⟨h.below.trans (Below.mono hb (Nat.le_of_lt h.lt)), (hb.block p h.lt).trans h.box, row_keep h.toks (fun g _ hg => hb.block g (row_lt h.toks hg).1), row_keep h.rems (fun g _ hg => hb.block g (row_lt h.rems hg).1)⟩
theorem Sc.setAt (h : Sc w0 W p src a l c tv rv) (b : Nat) : Sc w0 (W.setCell ⟨p, 1, none⟩ (.int .i64 b)) p src b l c tv rv :=
  ⟨h.below.setCell (Nat.le_refl _) _, (set_same h.box _).trans rfl, row_keep h.toks (fun g hg _ => Below.heap_setCell _ _ _ _ (by show g ≠ p; omega)), row_keep h.rems (fun g hg _ => Below.heap_setCell _ _ _ _ (by show g ≠ p; omega))⟩
/-- What stands where the row's block is written anew. -/
theorem Sc.apart (h : Sc w0 W p src a l c tv rv) : ∀ g, tv.ownBlock = some g → rv.ownBlock = some g → False := fun g h1 h2 => by
  obtain ⟨_, _, cur, e1⟩ := row_lt h.toks h1
  obtain ⟨_, _, cur2, e2⟩ := row_lt h.rems h2
  rw [e1] at e2
  simp at e2
/-- Behind an append of a token, ahead of the store. -/
theorem Sc.app {g : Nat} (h : Sc w0 W p src a l c tv rv) (hat : AppAt W tv g W') :
    Below p w0 W' ∧ W'.heap[p]? = some (.cells #[.string src, .int .i64 a, tv, rv] 48 (0, 0)) ∧ W'.ownsRow (p + 1) 40 2 rv c.length (spanCells c) := by
  have hd := h
  have hg := hat.grown
  have hb : ∀ k, k < W.heap.size → (tv.ownBlock = some k → False) → W'.heap[k]? = W.heap[k]? := fun k hk hne => hg.block k hk (fun e => hne e.symm)
  refine ⟨?_, (hb p hd.lt (fun e => by have := (row_lt hd.toks e).2.1; omega)).trans hd.box, row_keep hd.rems (fun g hbg hg2 => hb g (row_lt hd.rems hg2).1 (fun e => hd.apart g e hg2))⟩
  exact ⟨hg.os.trans hd.below.os, hg.tape.trans hd.below.tape, hg.output.trans hd.below.output, Nat.le_trans hd.below.size hg.size, fun k hk => (hb k (Nat.lt_trans hk hd.lt) (fun e => by have := (row_lt hd.toks e).2.1; omega)).trans (hd.below.block k hk)⟩
theorem Sc.pushT {g cap : Nat} {t : Tok} (h : Sc w0 W p src a l c tv rv) (hat : AppAt W tv g W') (hown : W'.ownsRow (p + 1) 35 4 (.slice (some ⟨g, 0, none⟩) (l.length + 1) cap) (l.length + 1) (tokCells l ++ tokC t)) :
    Sc w0 (W'.setCell ⟨p, 2, none⟩ (.slice (some ⟨g, 0, none⟩) (l.length + 1) cap)) p src a (l ++ [t]) c (.slice (some ⟨g, 0, none⟩) (l.length + 1) cap) rv := by
  obtain ⟨h1, h2, h3⟩ := h.app hat
  refine ⟨h1.setCell (Nat.le_refl _) _, (set_same h2 _).trans rfl, ?_, row_keep h3 (fun g hg _ => Below.heap_setCell _ _ _ _ (by show g ≠ p; omega))⟩
  rw [tokCells_push, List.length_append]
  exact row_keep hown (fun g hg _ => Below.heap_setCell _ _ _ _ (by show g ≠ p; omega))
theorem Sc.appR {g : Nat} (h : Sc w0 W p src a l c tv rv) (hat : AppAt W rv g W') :
    Below p w0 W' ∧ W'.heap[p]? = some (.cells #[.string src, .int .i64 a, tv, rv] 48 (0, 0)) ∧ W'.ownsRow (p + 1) 35 4 tv l.length (tokCells l) := by
  have hd := h
  have hg := hat.grown
  have hb : ∀ k, k < W.heap.size → (rv.ownBlock = some k → False) → W'.heap[k]? = W.heap[k]? := fun k hk hne => hg.block k hk (fun e => hne e.symm)
  refine ⟨?_, (hb p hd.lt (fun e => by have := (row_lt hd.rems e).2.1; omega)).trans hd.box, row_keep hd.toks (fun g hbg hg2 => hb g (row_lt hd.toks hg2).1 (fun e => hd.apart g hg2 e))⟩
  exact ⟨hg.os.trans hd.below.os, hg.tape.trans hd.below.tape, hg.output.trans hd.below.output, Nat.le_trans hd.below.size hg.size, fun k hk => (hb k (Nat.lt_trans hk hd.lt) (fun e => by have := (row_lt hd.rems e).2.1; omega)).trans (hd.below.block k hk)⟩
theorem Sc.pushR {g cap : Nat} {t : Nat × Nat} (h : Sc w0 W p src a l c tv rv) (hat : AppAt W rv g W') (hown : W'.ownsRow (p + 1) 40 2 (.slice (some ⟨g, 0, none⟩) (c.length + 1) cap) (c.length + 1) (spanCells c ++ spanC t)) :
    Sc w0 (W'.setCell ⟨p, 3, none⟩ (.slice (some ⟨g, 0, none⟩) (c.length + 1) cap)) p src a l (c ++ [t]) tv (.slice (some ⟨g, 0, none⟩) (c.length + 1) cap) := by
  obtain ⟨h1, h2, h3⟩ := h.appR hat
  refine ⟨h1.setCell (Nat.le_refl _) _, (set_same h2 _).trans rfl, row_keep h3 (fun g hg _ => Below.heap_setCell _ _ _ _ (by show g ≠ p; omega)), ?_⟩
  rw [spanCells_push, List.length_append]
  exact row_keep hown (fun g hg _ => Below.heap_setCell _ _ _ _ (by show g ≠ p; omega))
end
end Go.Proofs.YtdgjegkoncodaaaDoor
