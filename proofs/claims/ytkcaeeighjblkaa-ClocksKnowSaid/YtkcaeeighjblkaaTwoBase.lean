/- The two orders: a call of does, whatever it is; Ahead on the clocks that came; the start. No condition. -/
import Derived.Test.YtkcaeeighjblkaaTwoAcc
import Derived.Test.YtkcaeeighjblkaaTwoSend
import Derived.Test.YtkcaeeighjblkaaTwoRecv
import Derived.Test.YtkcaeeighjblkaaClkSteps
namespace Go.Proofs.Ytkcaeeighjblkaa
open Go.RowKit

theorem does_any (bx bo po : Nat) (x : TwoSt) (N : Nat) (kd a b : Int) (w : World) (h : TwoMem w x N N) (hr : TwoRel x N) (hbx : x.bx = bx) (hbo : x.st.bo = bo) (hpo : x.rst.po = po) (hN : N + 3 ≤ 100000) (hwb : wfi b) :
    Calls Try.prog 21 #[.pointer (some ⟨bx, 0, none⟩), .agg #[.int .i64 kd, .int .i64 a, .int .i64 b]] w (DoesPost x N w) := by
  by_cases h1 : kd = 1
  · subst h1; exact does_start bx bo po x N a b w h hr hbx hbo hpo hN
  by_cases h2 : kd = 2
  · subst h2; exact does_read bx bo po x N a b w h hr hbx hbo hpo hN hwb
  by_cases h3 : kd = 3
  · subst h3; exact does_write bx bo po x N a b w h hr hbx hbo hpo hN hwb
  by_cases h4 : kd = 4
  · subst h4; exact does_send bx bo po x N a b w h hr hbx hbo hpo hN
  by_cases h5 : kd = 5
  · subst h5; exact does_recv bx bo po x N a b w h hr hbx hbo hpo hN hwb
  exact does_other bx x N kd a b w h hr hN h1 h2 h3 h4 h5

/-- A clock that is there. -/
def ClkIs (w : World) (c : Clk) (N : Nat) : Prop :=
  (∀ b v, c.1 = some (b, v) → w.heap[b]? = some (.cells #[v] 57 (0, 0)) ∧ w.ownsRow 0 3 1 v c.2.length (ints c.2)) ∧ (c.1 = none → c.2 = []) ∧ c.2.length ≤ N + 1 ∧ ∀ j, 0 ≤ c.2.getD j 0 ∧ c.2.getD j 0 ≤ N
theorem Clocks.is {w : World} {cv : Value} {Cs : List Clk} {N : Nat} (h : Clocks w cv Cs N) {c : Clk} (hc : c ∈ Cs) : ClkIs w c N := ⟨h.at_ c hc, h.non c hc, h.len c hc, h.val c hc⟩

theorem wahead (p : Value) (c d : Clk) (N : Nat) (w : World) (hN : N ≤ 100000) (hc : ClkIs w c N) (hd : ClkIs w d N) :
    Calls Try.prog 22 #[p, ptrOf c, ptrOf d] w fun e w' => e = .returned (.bool (aheadB c.2 d.2)) ∧ w = w' := by
  obtain ⟨oc, rc⟩ := c
  obtain ⟨od, rd⟩ := d
  obtain ⟨c1, c2, c3, c4⟩ := hc
  obtain ⟨d1, d2, d3, d4⟩ := hd
  have c3 : rc.length ≤ N + 1 := c3
  have d3 : rd.length ≤ N + 1 := d3
  cases oc with
  | none =>
    have e : rc = [] := c2 rfl
    subst e
    exact ahead_none p _ w
  | some bv =>
    obtain ⟨b, v⟩ := bv
    obtain ⟨h1, h2⟩ := c1 b v rfl
    have h2 : w.ownsRow 0 3 1 v rc.length (ints rc) := h2
    obtain ⟨ac, cap, ev⟩ := row_form h2
    rw [ev] at h1 h2
    cases od with
    | none =>
      have e : rd = [] := d2 rfl
      subst e
      exact ahead_nil p 0 b rc w ⟨ac, cap, Nat.zero_le _, h1, h2⟩ (by omega)
    | some bv =>
      obtain ⟨b', v'⟩ := bv
      obtain ⟨h3, h4⟩ := d1 b' v' rfl
      have h4 : w.ownsRow 0 3 1 v' rd.length (ints rd) := h4
      obtain ⟨ad, cap', ev'⟩ := row_form h4
      rw [ev'] at h3 h4
      exact ahead_any p 0 0 b b' rc rd w ⟨ac, cap, Nat.zero_le _, h1, h2⟩ ⟨ad, cap', Nat.zero_le _, h3, h4⟩ (by omega) (by omega) (fun j => (d4 j).1)

theorem aheadB_all {a b : List Int} (hb : ∀ j, 0 ≤ b.getD j 0) : aheadB a b = true ↔ ∀ j, a.getD j 0 ≤ b.getD j 0 := by
  rw [aheadB_iff]
  refine ⟨fun h j => ?_, fun h j _ => h j⟩
  by_cases hj : j < a.length
  · exact h j hj
  · rw [getD_beyond (by omega)]; exact hb j

theorem aheadB_eq {a b c d : List Int} (hb : ∀ j, 0 ≤ b.getD j 0) (hac : ∀ j, c.getD j 0 = a.getD j 0) (hbd : ∀ j, d.getD j 0 = b.getD j 0) : aheadB a b = aheadB c d := by
  apply Bool.eq_iff_iff.2
  rw [aheadB_all hb, aheadB_all (fun j => by rw [hbd]; exact hb j)]
  exact ⟨fun h j => by rw [hac, hbd]; exact h j, fun h j => by rw [← hac, ← hbd]; exact h j⟩

/-- Between two calls. -/
def TwoAt (w : World) (bx bo po N : Nat) (x : TwoSt) (wr : World) : Prop :=
  TwoMem wr x N N ∧ TwoRel x N ∧ x.bx = bx ∧ x.st.bo = bo ∧ x.rst.po = po ∧ Below w.heap.size w wr ∧ ∀ k, x.fp k → w.heap.size ≤ k

theorem TwoAt.next {w wr w' : World} {bx bo po N : Nat} {x x' : TwoSt} (h : TwoAt w bx bo po N x wr) (hs : TwoStep wr x w' x' (N + 3) (N + 3)) (hr : TwoRel x' (N + 3)) : TwoAt w bx bo po (N + 3) x' w' := by
  obtain ⟨h1, h2, h3, h4, h5, h6, h7⟩ := h
  refine ⟨hs.1, hr, hs.2.2.2.1.trans h3, hs.2.2.2.2.1.trans h4, hs.2.2.2.2.2.trans h5, h6.trans (hs.2.1.below h6.size h7), fun k hk => ?_⟩
  rcases hs.2.2.1 k hk with e | e
  · exact h7 k e
  · have := h6.size; omega

/-- The start: the two orders are made, then what holds both. -/
theorem two_start {w w1 w2 : World} {st : OSt} {rst : RSt} (hO : Ord w1 st [[]] acc0 0) (hb1 : Below w.heap.size w w1) (hf1 : ∀ k, st.fp k → w.heap.size ≤ k)
    (hR : ROrd w2 rst [[0]] [] 0) (hb2 : Below w1.heap.size w1 w2) (hf2 : ∀ k, rst.fp 1 k → w1.heap.size ≤ k) :
    TwoAt w w2.heap.size st.bo rst.po 0 ⟨w2.heap.size, st, [[]], acc0, rst, [[0]], [], .slice none 0 0, [], .slice none 0 0, [], []⟩
      (w2.alloc (.cells #[.pointer (some ⟨st.bo, 0, none⟩), .pointer (some ⟨rst.po, 0, none⟩), .slice none 0 0, .slice none 0 0] 42)) := by
  have hs1 := hb1.size
  have hs2 := hb2.size
  have hl1 := fun k (hk : st.fp k) => hO.lt k hk
  have hl2 : ∀ k, rst.fp 1 k → k < w2.heap.size := fun k hk => hR.lt k hk
  have hbel : Below w.heap.size w w2 := hb1.trans (Below.mono hb2 hs1)
  have hno2 : ∀ k, ¬ clkFp (.slice none 0 0) [] k := fun k hk => by
    rcases hk with e | ⟨c, hc, _⟩
    · cases e
    · simp at hc
  have hno3 : ∀ k, ¬ rowsFp (.slice none 0 0) [] k := fun k hk => by
    rcases hk with e | ⟨i, hi, _⟩
    · cases e
    · simp at hi
  refine ⟨⟨(hO.frame (fun k e => hb2.block k (hl1 k e))).frame (fun k e => Below.heap_alloc _ _ k (by have := hl1 k e; omega)), hR.alloc _, Clocks.nil _ _, IRows.nil _, fun i => by simp, fun i j => by simp, heap_alloc_new _ _, ?_⟩, ⟨rfl, fun i j => ?_, rfl, fun i j => by simp, Nat.le_refl _, AccRel.start _⟩, rfl, rfl, rfl, hbel.alloc hbel.size _, ?_⟩
  · intro i j k h1 h2
    match i, j, h1, h2 with
    | 0, 0, _, _ => rfl
    | 1, 1, _, _ => rfl
    | 4, 4, _, _ => rfl
    | 0, 1, h1, h2 => have := hl1 k h1; have := hf2 k h2; omega
    | 1, 0, h1, h2 => have := hl1 k h2; have := hf2 k h1; omega
    | 0, 4, h1, h2 => have := hl1 k h1; have h2 : k = w2.heap.size := h2; omega
    | 4, 0, h1, h2 => have := hl1 k h2; have h1 : k = w2.heap.size := h1; omega
    | 1, 4, h1, h2 => have := hl2 k h1; have h2 : k = w2.heap.size := h2; omega
    | 4, 1, h1, h2 => have := hl2 k h2; have h1 : k = w2.heap.size := h1; omega
    | 2, _, h1, _ => exact (hno2 k h1).elim
    | 3, _, h1, _ => exact (hno3 k h1).elim
    | _, 2, _, h2 => exact (hno2 k h2).elim
    | _, 3, _, h2 => exact (hno3 k h2).elim
    | _ + 5, _, h1, _ => exact h1.elim
    | _, _ + 5, _, h2 => exact h2.elim
  · match i with
    | 0 => cases j <;> simp
    | _ + 1 => simp
  · rintro k ⟨i, hk⟩
    match i, hk with
    | 0, hk => exact hf1 k hk
    | 1, hk => have := hf2 k hk; omega
    | 2, hk => exact (hno2 k hk).elim
    | 3, hk => exact (hno3 k hk).elim
    | 4, hk => have hk : k = w2.heap.size := hk; omega
    | _ + 5, hk => exact hk.elim

/-- The clock of a number and the row beside it. -/
theorem TwoMem.clk {w : World} {x : TwoSt} {N M gc n cc : Nat} (h : TwoMem w x N M) (ev : x.cv = .slice (some ⟨gc, 0, none⟩) n cc) {i : Nat} (hi : i < x.Cs.length) :
    w.cell? ⟨gc, i, none⟩ = some (ptrOf (x.Cs.getD i (none, []))) ∧ ClkIs w (x.Cs.getD i (none, [])) N := by
  have hrow := h.cs.row
  rw [ev] at hrow
  have h1 := hrow.cells (g := gc) rfl i (ptrOf (x.Cs.getD i (none, []))) (by rw [List.getElem?_map]; simp [List.getD, hi])
  refine ⟨by simpa [Addr.add_lit] using h1, h.cs.is ?_⟩
  rw [show x.Cs.getD i (none, []) = x.Cs[i] by simp [List.getD, hi]]
  exact List.getElem_mem hi
theorem TwoMem.drow {w : World} {x : TwoSt} {N M gd n cd : Nat} (h : TwoMem w x N M) (ev : x.dv = .slice (some ⟨gd, 0, none⟩) n cd) {i : Nat} (hi : i < x.D.length) :
    ∃ ga cr, w.cell? ⟨gd, i, none⟩ = some (.slice ga (x.D.getD i []).length cr) ∧ w.ownsRow 0 3 1 (.slice ga (x.D.getD i []).length cr) (x.D.getD i []).length (ints (x.D.getD i [])) := by
  have hkn := h.ds.kn
  have hrl := h.ds.rowsLen
  have hrk := h.ds.row i hi
  rw [ev] at hkn
  have h1 := hkn.cells (g := gd) rfl i (x.dr.getD i undef) (by simp [List.getD, show i < x.dr.length by omega])
  obtain ⟨ga, cr, erv⟩ := row_form hrk
  rw [erv] at h1 hrk
  exact ⟨ga, cr, by simpa [Addr.add_lit] using h1, hrk⟩
end Go.Proofs.Ytkcaeeighjblkaa
