/- Lists that may be written, and what writing leaves. No condition. -/
import Derived.Test.YtmkjajapbkdpiaaTrAtW
import Derived.Test.YtmkjajapbkdpiaaTrRows
namespace Go.Proofs.Ytmkjajapbkdpiaa
open Go.RowKit

/-- All but the blocks from lo to hi lie as they lay. -/
structure Mid (lo hi : Nat) (w w' : World) : Prop where
  os : w'.os = w.os
  tape : w'.tape = w.tape
  output : w'.output = w.output
  size : w'.heap.size = w.heap.size
  block : ∀ k, k < lo ∨ hi ≤ k → w'.heap[k]? = w.heap[k]?
section
variable {lo hi : Nat} {w w' : World}
theorem Mid.refl (lo hi : Nat) (w : World) : Mid lo hi w w := ⟨rfl, rfl, rfl, rfl, fun _ _ => rfl⟩
theorem Mid.set (h : Mid lo hi w w') {p : Addr} (h1 : lo ≤ p.block) (h2 : p.block < hi) (u : Value) : Mid lo hi w (w'.setCell p u) :=
  ⟨h.os, h.tape, h.output, by rw [← h.size]; simp [World.setCell], fun k hk => (Below.heap_setCell _ _ _ _ (by omega)).trans (h.block k hk)⟩
theorem Mid.below {w0 : World} {B : Nat} (h : Mid lo hi w w') (hb : Below B w0 w) (hB : B ≤ lo) : Below B w0 w' :=
  ⟨h.os.trans hb.os, h.tape.trans hb.tape, h.output.trans hb.output, by rw [h.size]; exact hb.size, fun k hk => (h.block k (.inl (by omega))).trans (hb.block k hk)⟩
end

/-- A list whose nodes' words and kinds, and whose kids' words and kinds, may be written; all between lo and hi. -/
def Wr (lo hi : Nat) (w : World) (a : Option Addr) (len cap : Nat) : Prop :=
  len = 0 ∨ ∃ g cur, a = some ⟨g, 0, none⟩ ∧ lo ≤ g ∧ g < hi ∧ w.heap[g]? = some (.cells cur 24 (0, 0)) ∧ cur.size = cap * 5 ∧ len ≤ cap ∧
    ∀ j, j < len → ∃ a' n' cap', w.cell? ⟨g, j * 5 + 4, none⟩ = some (.slice a' n' cap') ∧ n' ≤ cap' ∧ cap' ≤ maxLen ∧ (n' = 0 ∨ ∃ g' cur', a' = some ⟨g', 0, none⟩ ∧ lo ≤ g' ∧ g' < hi ∧ g' ≠ g ∧ w.heap[g']? = some (.cells cur' 24 (0, 0)) ∧ cur'.size = cap' * 5)
section
variable {lo hi : Nat} {w w' : World} {a : Option Addr} {len cap : Nat}
theorem Wr.frame (h : Wr lo hi w a len cap) (hf : ∀ k, lo ≤ k → k < hi → k < w.heap.size → w'.heap[k]? = w.heap[k]?) : Wr lo hi w' a len cap := by
  rcases h with h | ⟨g, cur, h0, h1, h2, h3, h4, h5, h6⟩
  · exact .inl h
  · refine .inr ⟨g, cur, h0, h1, h2, (hf g h1 h2 (Array.getElem?_eq_some_iff.1 h3).1).trans h3, h4, h5, fun j hj => ?_⟩
    obtain ⟨a', n', cap', q1, q2, q3, q4⟩ := h6 j hj
    refine ⟨a', n', cap', cell_same (fun cs t fr e => (hf g h1 h2 (Array.getElem?_eq_some_iff.1 h3).1).trans e) q1, q2, q3, ?_⟩
    rcases q4 with q4 | ⟨g', cur', e, x1, x2, x3, x4, x5⟩
    · exact .inl q4
    · exact .inr ⟨g', cur', e, x1, x2, x3, (hf g' x1 x2 (Array.getElem?_eq_some_iff.1 x4).1).trans x4, x5⟩
theorem Wr.below (h : Wr lo hi w a len cap) (hb : Below w.heap.size w w') : Wr lo hi w' a len cap := h.frame fun k _ _ hk => hb.block k hk
theorem Wr.other (h : Wr lo hi w a len cap) {p : Addr} (hp : p.block < lo ∨ hi ≤ p.block) (u : Value) : Wr lo hi (w.setCell p u) a len cap :=
  h.frame fun k h1 h2 _ => Below.heap_setCell _ _ _ _ (by omega)
theorem row_put {w : World} {g m b o : Nat} (u : Value) (h : ∃ cur, w.heap[g]? = some (.cells cur 24 (0, 0)) ∧ cur.size = m) : ∃ cur, (w.setCell ⟨b, o, none⟩ u).heap[g]? = some (.cells cur 24 (0, 0)) ∧ cur.size = m := by
  obtain ⟨cur, h1, h2⟩ := h
  by_cases hb : g = b
  · subst hb
    exact ⟨cur.setIfInBounds o u, setCell_heap_same h1 u, by simpa using h2⟩
  · exact ⟨cur, (Below.heap_setCell _ _ _ _ hb).trans h1, h2⟩
/-- A write into a node's first four cells, or into a kid. -/
theorem Wr.set {b q : Nat} (h : Wr lo hi w a len cap) (hp : ∀ g, a = some ⟨g, 0, none⟩ → b ≠ g ∨ ∃ j o, o < 4 ∧ q = j * 5 + o) (u : Value) : Wr lo hi (w.setCell ⟨b, q, none⟩ u) a len cap := by
  rcases h with h | ⟨g, cur, h0, h1, h2, h3, h4, h5, h6⟩
  · exact .inl h
  · obtain ⟨cur2, e1, e2⟩ := row_put (b := b) (o := q) u ⟨cur, h3, h4⟩
    refine .inr ⟨g, cur2, h0, h1, h2, e1, e2, h5, fun j hj => ?_⟩
    obtain ⟨a', n', cap', q1, q2, q3, q4⟩ := h6 j hj
    refine ⟨a', n', cap', ?_, q2, q3, ?_⟩
    · rw [World.cell?_setCell_other _ _ _ _ (fun e => ?_)]
      · exact q1
      · injection e with e1 e2
        rcases hp g h0 with hp | ⟨j2, o, ho, hp⟩
        · exact hp e1
        · omega
    · rcases q4 with q4 | ⟨g', cur', e, x1, x2, x3, x4, x5⟩
      · exact .inl q4
      · obtain ⟨cur3, y1, y2⟩ := row_put (b := b) (o := q) u ⟨cur', x4, x5⟩
        exact .inr ⟨g', cur3, e, x1, x2, x3, y1, y2⟩
end
theorem OwnV.wr {P : Nat → Prop} {w : World} {n : Nd} {a' : Option Addr} {cap' : Nat} (h : OwnV P w n (.agg #[.int .i64 n.k, .int .i64 n.f, .int .i64 n.t, .string n.s, .slice a' n.c.len cap'])) :
    n.c.len ≤ cap' ∧ cap' ≤ maxLen ∧ (n.c.len = 0 ∨ ∃ g cur, a' = some ⟨g, 0, none⟩ ∧ P g ∧ w.heap[g]? = some (.cells cur 24 (0, 0)) ∧ cur.size = cap' * 5) := by
  obtain ⟨a2, c2, e, h1, h2, h3⟩ := h
  simp at e
  obtain ⟨rfl, rfl⟩ := e
  refine ⟨h1, h2, ?_⟩
  rcases h3 with h3 | ⟨g, cur, e, h4, h5, h6, _⟩
  · exact .inl h3
  · exact .inr ⟨g, cur, e, h4, h5, h6⟩
theorem ListW.wr {w : World} {B : Nat} {a : Option Addr} {len cap : Nat} {F : Fo} (h : ListW w B a len cap F) : Wr B w.heap.size w a len cap := by
  obtain ⟨_, h | ⟨g, cur, h0, h1, h2, h3, h4, h5⟩⟩ := h
  · exact .inl h
  · refine .inr ⟨g, cur, h0, h1, (Array.getElem?_eq_some_iff.1 h2).1, h2, h3, h4, fun j hj => ?_⟩
    obtain ⟨a', cap', _, _, _, _, q4, q5⟩ := h5 j hj
    obtain ⟨r1, r2, r3⟩ := q5.wr
    refine ⟨a', _, cap', q4, r1, r2, ?_⟩
    rcases r3 with r3 | ⟨g', cur', e, x1, x2, x3⟩
    · exact .inl r3
    · exact .inr ⟨g', cur', e, x1.1, (Array.getElem?_eq_some_iff.1 x2).1, x1.2, x2, x3⟩
theorem RowO.wr {w : World} {B : Nat} {a : Option Addr} {len cap : Nat} {L : List Nv} (h : RowO w B (.slice a len cap) L) (hl : L.length = len) : Wr B w.heap.size w a len cap := by
  rcases h.row.2 with ⟨e, hn0⟩ | ⟨g, cap', cur, e, h1, h2, h3, _, h4, _⟩
  · exact .inl (by omega)
  · subst hl
    cases e
    refine .inr ⟨g, cur, rfl, h1, (Array.getElem?_eq_some_iff.1 h2).1, h2, h4, h3, fun j hj => ?_⟩
    have hx := List.getElem?_eq_getElem hj
    have ho := h.own _ (List.getElem_mem hj)
    obtain ⟨a', c', e, _⟩ := id ho
    rw [e] at ho
    obtain ⟨r1, r2, r3⟩ := ho.wr
    have hc : w.cell? ⟨g, j * 5 + 4, none⟩ = some (.slice a' (L[j]).1.c.len c') := by
      have := cellsL_get (fun y hy => (h.own y hy).ndV.five) hx 4 (by omega)
      rw [e] at this
      obtain ⟨g', e', hc⟩ := row_cell h.row (this.trans rfl)
      cases e'
      exact hc
    refine ⟨a', _, c', hc, r1, r2, ?_⟩
    rcases r3 with r3 | ⟨g', cur', e, x1, x2, x3⟩
    · exact .inl r3
    · refine .inr ⟨g', cur', e, x1.1.1, x1.2, fun e2 => x1.1.2 ?_, x2, x3⟩
      simp [Value.ownBlock, e2]

def AllB (w : World) (B : Nat) (L : List Item) (w' : World) (a1 : Option Addr) (n c1 : Nat) : Prop := L.length = n ∧ RowL w' B (.slice a1 n c1) (L.map (·.2)) ∧ (∀ k, (Value.slice a1 n c1).ownBlock = some k → w.heap.size ≤ k) ∧ Below w.heap.size w w'
set_option maxHeartbeats 800000 in
theorem rall_anyB (nd : Nd) (v : Value) (L : List Item) (w : World) (B : Nat) (hBw : B ≤ w.heap.size) (hL : LstN w B 0 nd v L) (hc : nd.c.cnt ≤ 1000000) (hlen : L.length ≤ 1000000) :
    Calls Try.prog 31 #[v] w fun e w' => ∃ a1 n c1, e = .returned (.slice a1 n c1) ∧ AllB w B L w' a1 n c1 := by
  obtain ⟨a, cap, Lk, hv, -, -, -, -⟩ := id hL
  obtain ⟨k, f, t, s, c⟩ := nd
  unfold valOf at hv
  simp only at hv hc
  obtain ⟨len, Hl⟩ : ∃ len, Hid (c.len = len) := ⟨_, Lib.hid rfl⟩
  rw [Hl.out] at hv
  subst hv
  obtain ⟨w1, Hw1⟩ : ∃ w1, Hid (w1 = w.alloc (.cells #[.int .i64 k, .int .i64 f, .int .i64 t, .string s, .slice a len cap] 24)) := ⟨_, Lib.hid rfl⟩
  have hB : Below w.heap.size w w1 := by
    rw [Hw1.out]
    exact (Below.refl _ w).alloc (Nat.le_refl _) _
  have HL1 := hL.cells (w' := w1) fun p u hp hu => cell_below hB rfl hu
  have HF := Lib.hid (flat_any (c.cnt + 1) ⟨k, f, t, s, c⟩ _ 0 (.slice none 0 0) (.slice none 0 0) 0 B [] [] L w1 (Nat.lt_succ_self _) HL1 ⟨World.ownsRow_nil _ _ _ _, World.ownsRow_nil _ _ _ _⟩ (Nat.le_trans hBw hB.size) (by omega) (by omega) (by show (0 : Int) + (c.cnt : Int) ≤ _; omega))
  have HLL := Lib.hid (And.intro HL1 hB)
  clear hL hB HL1
  go_enter Try.func31, Try.ntmps31
  go_wp2_with (go_at_call 10; refine hold ?_)
  rw [← Hw1.out]
  refine Hold.mk ?_
  refine HF.out.mono ?_
  rintro e w2 ⟨a1, c1, a2, c2, rfl, h2, hr⟩
  have HQ := Lib.hid (And.intro h2 hr)
  obtain ⟨n, Hn⟩ : ∃ n, Hid (0 + L.length = n) := ⟨_, Lib.hid rfl⟩
  rw [Hn.out] at HQ ⊢
  clear h2 hr
  go_wp2_with fail
  go_ret
  obtain ⟨h2, hr⟩ := HQ.out
  obtain ⟨hL1, hB⟩ := HLL.out
  have hb : Below w.heap.size w1 w2 := hr.belowNil' hB.size
  have hn := Hn.out
  rw [Nat.zero_add] at hn
  refine ⟨a1, n, c1, rfl, hn, ⟨?_, fun x hx => ?_⟩, fun k e => ?_, hB.trans hb⟩
  · have := h2.l
    rw [List.nil_append, flatC_eq] at this
    rw [List.length_map, hn]
    exact this
  · obtain ⟨y, hy, rfl⟩ := List.mem_map.1 hx
    exact (hL1.ndP.1 y hy).cells fun p u hp hu => cell_same (fun cs t fr e => (hb.block p.block (Nat.lt_of_lt_of_le hp hBw)).trans e) hu
  · rcases hr.l k e with e | e
    · cases e
    · exact Nat.le_trans hB.size e
end Go.Proofs.Ytmkjajapbkdpiaa
