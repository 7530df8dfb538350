/- recastref4.Flat. No condition. -/
import Derived.Test.YtmkjajapbkdpiaaTrDepth
import Derived.Test.YtmkjajapbkdpiaaTrIdents
namespace Go.Proofs.Ytmkjajapbkdpiaa
open Go.RowKit

def itemC (x : Item) : List Value := x.2.2.cells.toList
def flatC (L : List Item) : List Value := L.flatMap itemC
def flatD (L : List Item) : List Value := L.map fun x => .int .i64 x.1

/-- What an append or two leave of the rest. -/
structure RFr (w : World) (lv av : Value) (w' : World) (lv' av' : Value) : Prop where
  os : w'.os = w.os
  tape : w'.tape = w.tape
  output : w'.output = w.output
  size : w.heap.size ≤ w'.heap.size
  block : ∀ k, k < w.heap.size → lv.ownBlock ≠ some k → av.ownBlock ≠ some k → w'.heap[k]? = w.heap[k]?
  l : ∀ k, lv'.ownBlock = some k → lv.ownBlock = some k ∨ w.heap.size ≤ k
  a : ∀ k, av'.ownBlock = some k → av.ownBlock = some k ∨ w.heap.size ≤ k

section
variable {w w' w2 : World} {lv av lv' av' lv2 av2 : Value} {B : Nat}
theorem RFr.refl (w : World) (lv av : Value) : RFr w lv av w lv av := ⟨rfl, rfl, rfl, Nat.le_refl _, fun _ _ _ _ => rfl, fun _ h => .inl h, fun _ h => .inl h⟩
theorem RFr.trans (h : RFr w lv av w' lv' av') (k : RFr w' lv' av' w2 lv2 av2) : RFr w lv av w2 lv2 av2 where
  os := k.os.trans h.os
  tape := k.tape.trans h.tape
  output := k.output.trans h.output
  size := Nat.le_trans h.size k.size
  block := fun j hj h1 h2 => (k.block j (Nat.lt_of_lt_of_le hj h.size) (fun e => by
    rcases h.l j e with e | e
    · exact h1 e
    · omega) (fun e => by
    rcases h.a j e with e | e
    · exact h2 e
    · omega)).trans (h.block j hj h1 h2)
  l := fun j e => by
    rcases k.l j e with e | e
    · exact h.l j e
    · right; have := h.size; omega
  a := fun j e => by
    rcases k.a j e with e | e
    · exact h.a j e
    · right; have := h.size; omega
theorem RFr.alloc (w : World) (lv av : Value) (o : Obj) : RFr w lv av (w.alloc o) lv av :=
  ⟨rfl, rfl, rfl, by simp, fun k hk _ _ => Below.heap_alloc w o k hk, fun _ h => .inl h, fun _ h => .inl h⟩
theorem RFr.appL {g n cap : Nat} (hat : AppAt w lv g w') : RFr w lv av w' (.slice (some ⟨g, 0, none⟩) n cap) av := by
  have hg := hat.grown
  refine ⟨hg.os, hg.tape, hg.output, hg.size, fun k hk h1 _ => hg.block k hk (fun e => h1 e.symm), fun k e => ?_, fun _ h => .inl h⟩
  have e : g = k := by simpa [Value.ownBlock] using e
  rw [← e]
  rcases hat.at with e | e
  · exact .inl e
  · exact .inr (by omega)
theorem RFr.appA {g n cap : Nat} (hat : AppAt w av g w') : RFr w lv av w' lv (.slice (some ⟨g, 0, none⟩) n cap) := by
  have hg := hat.grown
  refine ⟨hg.os, hg.tape, hg.output, hg.size, fun k hk _ h1 => hg.block k hk (fun e => h1 e.symm), fun _ h => .inl h, fun k e => ?_⟩
  have e : g = k := by simpa [Value.ownBlock] using e
  rw [← e]
  rcases hat.at with e | e
  · exact .inl e
  · exact .inr (by omega)
/-- What lies below B, where the lists do not, abides. -/
theorem RFr.cell (h : RFr w lv av w' lv' av') {p : Addr} {v : Value} (h1 : lv.ownBlock ≠ some p.block) (h2 : av.ownBlock ≠ some p.block) (hc : w.cell? p = some v) : w'.cell? p = some v :=
  cell_same (fun _ _ _ e => (h.block p.block (World.block_lt_of_cell? _ _ hc) h1 h2).trans e) hc

/-- The two lists, apart by their kinds. -/
structure Two (w : World) (B : Nat) (lv av : Value) (n : Nat) (xs ds : List Value) : Prop where
  l : w.ownsRow B 24 5 lv n xs
  a : w.ownsRow B 3 1 av n ds
theorem Two.apart {n : Nat} {xs ds : List Value} (h : Two w B lv av n xs ds) {k : Nat} (e1 : lv.ownBlock = some k) : av.ownBlock ≠ some k := by
  intro e2
  obtain ⟨c1, h1⟩ := row_at h.l e1
  obtain ⟨c2, h2⟩ := row_at h.a e2
  rw [h1] at h2
  simp at h2
theorem Two.alloc {n : Nat} {xs ds : List Value} (h : Two w B lv av n xs ds) (o : Obj) : Two (w.alloc o) B lv av n xs ds := ⟨h.l.alloc o, h.a.alloc o⟩
end

/-- One node is put behind both. -/
theorem two_next {w w3 w5 : World} {B n g g2 cap cap2 : Nat} {lv av : Value} {xs ds ys : List Value} {dv : Value} {o1 o2 : Obj} (h : Two w B lv av n xs ds)
    (hown : w3.ownsRow B 24 5 (.slice (some ⟨g, 0, none⟩) (n + 1) cap) (n + 1) (xs ++ ys)) (hat : AppAt (w.alloc o1) lv g w3)
    (hown2 : w5.ownsRow B 3 1 (.slice (some ⟨g2, 0, none⟩) (n + 1) cap2) (n + 1) (ds ++ [dv])) (hat2 : AppAt (w3.alloc o2) av g2 w5) :
    Two w5 B (.slice (some ⟨g, 0, none⟩) (n + 1) cap) (.slice (some ⟨g2, 0, none⟩) (n + 1) cap2) (n + 1) (xs ++ ys) (ds ++ [dv]) ∧
      RFr w lv av w5 (.slice (some ⟨g, 0, none⟩) (n + 1) cap) (.slice (some ⟨g2, 0, none⟩) (n + 1) cap2) := by
  refine ⟨⟨row_same hown (fun k e => ?_), hown2⟩, (((RFr.alloc w lv av o1).trans (RFr.appL hat)).trans (RFr.alloc w3 _ _ o2)).trans (RFr.appA hat2)⟩
  have hk := (hown.lt k e).2
  obtain ⟨c1, h1⟩ := row_at hown e
  refine (hat2.grown.block k (by simp; omega) (fun e2 => ?_)).trans (Below.heap_alloc _ _ _ hk)
  obtain ⟨c2, h2⟩ := row_at h.a e2.symm
  have hk2 := (h.a.lt k e2.symm).2
  have e4 : lv.ownBlock ≠ some k := fun e5 => h.apart e5 e2.symm
  rw [(RFr.appL (av := av) (n := 0) (cap := 0) hat).block k (by simp; omega) e4 (by
    intro e6
    have e3 : g = k := by simpa [Value.ownBlock] using e
    rcases hat.at with e7 | e7
    · exact e4 (by rw [e7, e3])
    · simp at e7; omega), Below.heap_alloc _ _ _ hk2, h2] at h1
  simp at h1

def FlatPost (B n : Nat) (lv av : Value) (xs ds : List Value) (L : List Item) (w : World) (e : Ending) (w' : World) : Prop :=
  ∃ a1 c1 a2 c2, e = .returned (.tuple #[.slice a1 (n + L.length) c1, .slice a2 (n + L.length) c2]) ∧ Two w' B (.slice a1 (n + L.length) c1) (.slice a2 (n + L.length) c2) (n + L.length) (xs ++ flatC L) (ds ++ flatD L) ∧
    RFr w lv av w' (.slice a1 (n + L.length) c1) (.slice a2 (n + L.length) c2)
end Go.Proofs.Ytmkjajapbkdpiaa
