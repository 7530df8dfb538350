/- The reference's scanner in memory: its struct, its rows of tokens and of remarks, what is wrong. No condition. -/
import Derived.Test.YtdgjegkoncodaaaDoorScText
namespace Go.Proofs.YtdgjegkoncodaaaDoor
open Go.RowKit

/-- The scanner at block p: what it reads, where it stands, its tokens, its remarks; what stood below p is as in w0. -/
structure Rs (w0 W : World) (p : Nat) (src : ByteArray) (a : Nat) (l : List Tok) (c : List (Nat × Nat)) (fk fa : Int) (tv rv : Value) : Prop where
  below : Below p w0 W
  box : W.heap[p]? = some (.cells #[.string src, .int .i64 a, tv, rv, .int .i64 fk, .string ⟨#[]⟩, .int .i64 fa] 52 (0, 0))
  toks : W.ownsRow (p + 1) 35 4 tv l.length (tokCells l)
  rems : W.ownsRow (p + 1) 40 2 rv c.length (spanCells c)
/-- The same, whatever the rows' values. -/
def RsE (w0 W : World) (p : Nat) (src : ByteArray) (a : Nat) (l : List Tok) (c : List (Nat × Nat)) (fk fa : Int) : Prop := ∃ tv rv, Rs w0 W p src a l c fk fa tv rv
section
variable {w0 W W' : World} {p a : Nat} {src : ByteArray} {l : List Tok} {c : List (Nat × Nat)} {fk fa : Int} {tv rv : Value}
theorem Rs.lt (h : Rs w0 W p src a l c fk fa tv rv) : p < W.heap.size := (Array.getElem?_eq_some_iff.1 h.box).1
theorem Rs.cells (h : Rs w0 W p src a l c fk fa tv rv) : W.cell? ⟨p, 0, none⟩ = some (.string src) ∧ W.cell? ⟨p, 1, none⟩ = some (.int .i64 a) ∧ W.cell? ⟨p, 2, none⟩ = some tv ∧ W.cell? ⟨p, 3, none⟩ = some rv ∧ W.cell? ⟨p, 4, none⟩ = some (.int .i64 fk) ∧ W.cell? ⟨p, 5, none⟩ = some (.string ⟨#[]⟩) ∧ W.cell? ⟨p, 6, none⟩ = some (.int .i64 fa) := by
  have := h.box
  refine ⟨?_, ?_, ?_, ?_, ?_, ?_, ?_⟩ <;> (simp only [World.cell?, this]; rfl)
theorem Rs.thaw (h : Rs w0 W p src a l c fk fa tv rv) (j : Nat) : W.frozen? ⟨p, j, none⟩ = false := by
  have := h.box
  simp only [World.frozen?, this]
  simp
theorem Rs.tvForm (h : Rs w0 W p src a l c fk fa tv rv) : ∃ ad cap, tv = .slice ad l.length cap := by
  rcases h.toks.2 with ⟨rfl, e⟩ | ⟨g, cap, cur, rfl, _⟩
  · exact ⟨none, 0, by rw [e]⟩
  · exact ⟨_, cap, rfl⟩
theorem Rs.rvForm (h : Rs w0 W p src a l c fk fa tv rv) : ∃ ad cap, rv = .slice ad c.length cap := by
  rcases h.rems.2 with ⟨rfl, e⟩ | ⟨g, cap, cur, rfl, _⟩
  · exact ⟨none, 0, by rw [e]⟩
  · exact ⟨_, cap, rfl⟩
theorem Rs.go (h : Rs w0 W p src a l c fk fa tv rv) (hb : Below W.heap.size W W') : Rs w0 W' p src a l c fk fa tv rv :=
  ⟨h.below.trans (Below.mono hb (Nat.le_of_lt h.lt)), (hb.block p h.lt).trans h.box, row_keep h.toks (fun g _ hg => hb.block g (row_lt h.toks hg).1), row_keep h.rems (fun g _ hg => hb.block g (row_lt h.rems hg).1)⟩
theorem Rs.setAt (h : Rs w0 W p src a l c fk fa tv rv) (b : Nat) : Rs w0 (W.setCell ⟨p, 1, none⟩ (.int .i64 b)) p src b l c fk fa tv rv :=
  ⟨h.below.setCell (Nat.le_refl _) _, (set_same h.box _).trans rfl, row_keep h.toks (fun g hg _ => Below.heap_setCell _ _ _ _ (by show g ≠ p; omega)), row_keep h.rems (fun g hg _ => Below.heap_setCell _ _ _ _ (by show g ≠ p; omega))⟩
/-- What is wrong, written. -/
theorem Rs.setF (h : Rs w0 W p src a l c fk fa tv rv) (k v : Int) : Rs w0 (((W.setCell ⟨p, 4, none⟩ (.int .i64 k)).setCell ⟨p, 5, none⟩ (.string ⟨#[]⟩)).setCell ⟨p, 6, none⟩ (.int .i64 v)) p src a l c k v tv rv := by
  have hk : ∀ g, p + 1 ≤ g → (((W.setCell ⟨p, 4, none⟩ (.int .i64 k)).setCell ⟨p, 5, none⟩ (.string ⟨#[]⟩)).setCell ⟨p, 6, none⟩ (.int .i64 v)).heap[g]? = W.heap[g]? := fun g hg => by
    rw [Below.heap_setCell _ _ _ _ (by show g ≠ p; omega), Below.heap_setCell _ _ _ _ (by show g ≠ p; omega), Below.heap_setCell _ _ _ _ (by show g ≠ p; omega)]
  exact ⟨((h.below.setCell (Nat.le_refl _) _).setCell (Nat.le_refl _) _).setCell (Nat.le_refl _) _, (set_same (set_same (set_same h.box _) _) _).trans rfl, row_keep h.toks (fun g hg _ => hk g hg), row_keep h.rems (fun g hg _ => hk g hg)⟩
/-- What stands where the row's block is written anew. -/
theorem Rs.apart (h : Rs w0 W p src a l c fk fa tv rv) : ∀ g, tv.ownBlock = some g → rv.ownBlock = some g → False := fun g h1 h2 => by
  obtain ⟨_, _, cur, e1⟩ := row_lt h.toks h1
  obtain ⟨_, _, cur2, e2⟩ := row_lt h.rems h2
  rw [e1] at e2
  simp at e2
/-- Behind an append of a token, ahead of the store. -/
theorem Rs.app {g : Nat} (h : Rs w0 W p src a l c fk fa tv rv) (hat : AppAt W tv g W') :
    Below p w0 W' ∧ W'.heap[p]? = some (.cells #[.string src, .int .i64 a, tv, rv, .int .i64 fk, .string ⟨#[]⟩, .int .i64 fa] 52 (0, 0)) ∧ W'.ownsRow (p + 1) 40 2 rv c.length (spanCells c) := by
  have hd := h
  have hg := hat.grown
  have hb : ∀ k, k < W.heap.size → (tv.ownBlock = some k → False) → W'.heap[k]? = W.heap[k]? := fun k hk hne => hg.block k hk (fun e => hne e.symm)
  refine ⟨?_, (hb p hd.lt (fun e => by have := (row_lt hd.toks e).2.1; omega)).trans hd.box, row_keep hd.rems (fun g hbg hg2 => hb g (row_lt hd.rems hg2).1 (fun e => hd.apart g e hg2))⟩
  exact ⟨hg.os.trans hd.below.os, hg.tape.trans hd.below.tape, hg.output.trans hd.below.output, Nat.le_trans hd.below.size hg.size, fun k hk => (hb k (Nat.lt_trans hk hd.lt) (fun e => by have := (row_lt hd.toks e).2.1; omega)).trans (hd.below.block k hk)⟩
theorem Rs.pushT {g cap : Nat} {t : Tok} (h : Rs w0 W p src a l c fk fa tv rv) (hat : AppAt W tv g W') (hown : W'.ownsRow (p + 1) 35 4 (.slice (some ⟨g, 0, none⟩) (l.length + 1) cap) (l.length + 1) (tokCells l ++ tokC t)) :
    Rs w0 (W'.setCell ⟨p, 2, none⟩ (.slice (some ⟨g, 0, none⟩) (l.length + 1) cap)) p src a (l ++ [t]) c fk fa (.slice (some ⟨g, 0, none⟩) (l.length + 1) cap) rv := by
  obtain ⟨h1, h2, h3⟩ := h.app hat
  refine ⟨h1.setCell (Nat.le_refl _) _, (set_same h2 _).trans rfl, ?_, row_keep h3 (fun g hg _ => Below.heap_setCell _ _ _ _ (by show g ≠ p; omega))⟩
  rw [tokCells_push, List.length_append]
  exact row_keep hown (fun g hg _ => Below.heap_setCell _ _ _ _ (by show g ≠ p; omega))
theorem Rs.appR {g : Nat} (h : Rs w0 W p src a l c fk fa tv rv) (hat : AppAt W rv g W') :
    Below p w0 W' ∧ W'.heap[p]? = some (.cells #[.string src, .int .i64 a, tv, rv, .int .i64 fk, .string ⟨#[]⟩, .int .i64 fa] 52 (0, 0)) ∧ W'.ownsRow (p + 1) 35 4 tv l.length (tokCells l) := by
  have hd := h
  have hg := hat.grown
  have hb : ∀ k, k < W.heap.size → (rv.ownBlock = some k → False) → W'.heap[k]? = W.heap[k]? := fun k hk hne => hg.block k hk (fun e => hne e.symm)
  refine ⟨?_, (hb p hd.lt (fun e => by have := (row_lt hd.rems e).2.1; omega)).trans hd.box, row_keep hd.toks (fun g hbg hg2 => hb g (row_lt hd.toks hg2).1 (fun e => hd.apart g hg2 e))⟩
  exact ⟨hg.os.trans hd.below.os, hg.tape.trans hd.below.tape, hg.output.trans hd.below.output, Nat.le_trans hd.below.size hg.size, fun k hk => (hb k (Nat.lt_trans hk hd.lt) (fun e => by have := (row_lt hd.rems e).2.1; omega)).trans (hd.below.block k hk)⟩
theorem Rs.pushR {g cap : Nat} {t : Nat × Nat} (h : Rs w0 W p src a l c fk fa tv rv) (hat : AppAt W rv g W') (hown : W'.ownsRow (p + 1) 40 2 (.slice (some ⟨g, 0, none⟩) (c.length + 1) cap) (c.length + 1) (spanCells c ++ spanC t)) :
    Rs w0 (W'.setCell ⟨p, 3, none⟩ (.slice (some ⟨g, 0, none⟩) (c.length + 1) cap)) p src a l (c ++ [t]) fk fa tv (.slice (some ⟨g, 0, none⟩) (c.length + 1) cap) := by
  obtain ⟨h1, h2, h3⟩ := h.appR hat
  refine ⟨h1.setCell (Nat.le_refl _) _, (set_same h2 _).trans rfl, row_keep h3 (fun g hg _ => Below.heap_setCell _ _ _ _ (by show g ≠ p; omega)), ?_⟩
  rw [spanCells_push, List.length_append]
  exact row_keep hown (fun g hg _ => Below.heap_setCell _ _ _ _ (by show g ≠ p; omega))
theorem RsE.below (h : RsE w0 W p src a l c fk fa) : Below p w0 W := by
  obtain ⟨_, _, h⟩ := h
  exact h.below
theorem RsE.cells (h : RsE w0 W p src a l c fk fa) : W.cell? ⟨p, 0, none⟩ = some (.string src) ∧ W.cell? ⟨p, 1, none⟩ = some (.int .i64 a) ∧ W.frozen? ⟨p, 1, none⟩ = false := by
  obtain ⟨_, _, h⟩ := h
  exact ⟨h.cells.1, h.cells.2.1, h.thaw 1⟩
theorem RsE.setAt (h : RsE w0 W p src a l c fk fa) (b : Nat) : RsE w0 (W.setCell ⟨p, 1, none⟩ (.int .i64 b)) p src b l c fk fa := by
  obtain ⟨_, _, h⟩ := h
  exact ⟨_, _, h.setAt b⟩
theorem RsE.go (h : RsE w0 W p src a l c fk fa) (hb : Below W.heap.size W W') : RsE w0 W' p src a l c fk fa := by
  obtain ⟨_, _, h⟩ := h
  exact ⟨_, _, h.go hb⟩
theorem RsE.drewN (h : RsE w0 W p src a l c fk fa) (n : Nat) : RsE w0 (W.drewN n) p src a l c fk fa := h.go (below_drewN (Below.refl _ _) n)
end
theorem Rs.out {w0 W W' : World} {p a g n : Nat} {src : ByteArray} {l : List Tok} {c : List (Nat × Nat)} {fk fa : Int} {tv rv v : Value} {xs : List Value} (h : Rs w0 W p src a l c fk fa tv rv) (hv : W.ownsRow (p + 1) 5 1 v n xs) (hat : AppAt W v g W') : Rs w0 W' p src a l c fk fa tv rv := by
  have hg := hat.grown
  have hb : ∀ k, k < W.heap.size → (v.ownBlock = some k → False) → W'.heap[k]? = W.heap[k]? := fun k hk hne => hg.block k hk (fun e => hne e.symm)
  refine ⟨⟨hg.os.trans h.below.os, hg.tape.trans h.below.tape, hg.output.trans h.below.output, Nat.le_trans h.below.size hg.size, fun k hk => (hb k (Nat.lt_trans hk h.lt) (fun e => by have := (row_lt hv e).2.1; omega)).trans (h.below.block k hk)⟩, (hb p h.lt (fun e => by have := (row_lt hv e).2.1; omega)).trans h.box, ?_, ?_⟩
  · refine row_keep h.toks (fun g hbg hg2 => hb g (row_lt h.toks hg2).1 (fun e => ?_))
    obtain ⟨_, _, cur, e1⟩ := row_lt h.toks hg2
    obtain ⟨_, _, cur2, e2⟩ := row_lt hv e
    rw [e1] at e2
    simp at e2
  · refine row_keep h.rems (fun g hbg hg2 => hb g (row_lt h.rems hg2).1 (fun e => ?_))
    obtain ⟨_, _, cur, e1⟩ := row_lt h.rems hg2
    obtain ⟨_, _, cur2, e2⟩ := row_lt hv e
    rw [e1] at e2
    simp at e2
/-- 'append(out, byte)', with the scanner beside it. -/
theorem wpList_rout {w : World} {ops : Array Oper} {rest : List Oper} {o : Oper} {a : Act} {Q : Exit → Act → World → Prop} (hgd : o.guard = none) (s x : Operand)
    (ho : o.op = .call { callee := .builtin .append, args := #[s, x], argTypes := #[30, 30] })
    {w0 : World} {p at_ : Nat} {src : ByteArray} {l : List Tok} {c : List (Nat × Nat)} {fk fa : Int} {tv rv v : Value} {ob : List UInt8} {U : Int} {u : UInt8} (hs : a.eval s = v) (hx : a.eval x = .slice (some ⟨w.heap.size, 0, none⟩) 1 1)
    (h : Rs w0 w p src at_ l c fk fa tv rv) (hv : Out w (p + 1) v ob) (hU : U = (u.toNat : Int)) (hl : ob.length ≤ 1000000)
    (hK : ∀ g cap w', Rs w0 w' p src at_ l c fk fa tv rv → Out w' (p + 1) (.slice (some ⟨g, 0, none⟩) (ob.length + 1) cap) (ob ++ [u]) → wpList Tryd.prog ops Q rest (a.put o.dst (.slice (some ⟨g, 0, none⟩) (ob.length + 1) cap)) w') :
    wpList Tryd.prog ops Q (o :: rest) a (w.alloc (.cells #[.int .u8 U] 5)) := by
  subst hU
  obtain ⟨i, hi, hz, hsz, hby⟩ := info_parts infoB8
  have hb := (Below.refl w.heap.size w).alloc (Nat.le_refl _) (.cells #[.int .u8 (u.toNat : Int)] 5)
  have h1 := hv.go hb
  have hp := h.lt
  refine wpList_app _ hgd s x _ ho (p + 1) 5 i _ 1 1 Tryd.underlying30 hi hz hsz hby rfl v ob.length (byteC ob) hs h1 ⟨w.heap.size, 0, none⟩ 1 1 [.int .u8 (u.toNat : Int)] hx rfl (World.news_of_block (cs := #[.int .u8 (u.toNat : Int)]) (t := 5) (fr := (0, 0)) (heap_alloc_new _ _)) (by simp [Value.oneCell']) (by omega) (by unfold maxLen; omega) (by omega) (by simp; omega) ?_
  intro g cap w' h2 h3
  refine hK g cap w' ((h.go hb).out h1 h3) ?_
  unfold Out
  rw [byteC_push, List.length_append]
  exact h2
end Go.Proofs.YtdgjegkoncodaaaDoor
