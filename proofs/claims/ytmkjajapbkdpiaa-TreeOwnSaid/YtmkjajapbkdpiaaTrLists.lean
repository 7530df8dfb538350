/- Lists of nodes that a function makes. No condition. -/
import Derived.Test.YtmkjajapbkdpiaaTrInts
namespace Go.Proofs.Ytmkjajapbkdpiaa
open Go.RowKit

def foOf : List Nd → Fo
  | [] => .nil
  | n :: l => .cons n.k n.f n.t n.s n.c (foOf l)
theorem foOf_len : ∀ M : List Nd, (foOf M).len = M.length
  | [] => rfl
  | n :: l => by simp [foOf, Fo.len, foOf_len l]
theorem foOf_get : ∀ (M : List Nd) (j : Nat) (hj : j < M.length), (foOf M).get j = M[j]
  | [], j, hj => absurd hj (by simp)
  | n :: l, 0, _ => rfl
  | n :: l, j + 1, hj => by simpa [foOf, Fo.get] using foOf_get l j (by simpa using hj)

/-- A node, as a value, its rows in blocks of which P says yes. -/
def NdV (P : Nat → Prop) (w : World) (n : Nd) (v : Value) : Prop :=
  ∃ a cap, v = .agg #[.int .i64 n.k, .int .i64 n.f, .int .i64 n.t, .string n.s, .slice a n.c.len cap] ∧ n.c.len ≤ cap ∧ cap ≤ maxLen ∧ KidsP P w a 0 n.c
/-- The same, its kids' row one that may be written. -/
def OwnV (P : Nat → Prop) (w : World) (n : Nd) (v : Value) : Prop :=
  ∃ a cap, v = .agg #[.int .i64 n.k, .int .i64 n.f, .int .i64 n.t, .string n.s, .slice a n.c.len cap] ∧ n.c.len ≤ cap ∧ cap ≤ maxLen ∧
    (n.c.len = 0 ∨ ∃ g cur, a = some ⟨g, 0, none⟩ ∧ P g ∧ w.heap[g]? = some (.cells cur 24 (0, 0)) ∧ cur.size = cap * 5 ∧ ∀ j, j < n.c.len → ElemG P w g j (n.c.get j))

section
variable {P Q : Nat → Prop} {w w' : World} {n : Nd} {v : Value}
theorem OwnPost.ownV {e : Ending} (h : OwnPost n w e w') : ∃ v, e = .returned v ∧ OwnV (w.heap.size ≤ ·) w' n v ∧ Below w.heap.size w w' := by
  obtain ⟨a', cap', h1, h2, h3, h4, h5⟩ := h
  exact ⟨_, h1, ⟨a', cap', rfl, h2, h3, h5⟩, h4⟩
theorem OwnV.ndV (h : OwnV P w n v) : NdV P w n v := by
  obtain ⟨a', cap', h1, h2, h3, h5⟩ := h
  refine ⟨a', cap', h1, h2, h3, ?_⟩
  rcases h5 with h5 | ⟨g, cur, rfl, h6, h7, h8, h9⟩
  · exact kidsP_empty h5
  · exact kidsP_of_elems (fun _ h => h) h6 _ 0 (fun j hj => by rw [Nat.zero_add]; exact h9 j hj)
theorem NdV.nodeV (h : NdV P w n v) : NodeV w n v := by
  obtain ⟨a', cap', h1, h2, h3, h4⟩ := h
  exact ⟨a', cap', h1, h2, h3, h4.at⟩
theorem NdV.mono (hPQ : ∀ k, P k → Q k) (h : NdV P w n v) : NdV Q w n v := by
  obtain ⟨a', cap', h1, h2, h3, h4⟩ := h
  exact ⟨a', cap', h1, h2, h3, h4.mono hPQ⟩
theorem NdV.cells (hc : ∀ p v, P p.block → w.cell? p = some v → w'.cell? p = some v) (h : NdV P w n v) : NdV P w' n v := by
  obtain ⟨a', cap', h1, h2, h3, h4⟩ := h
  exact ⟨a', cap', h1, h2, h3, h4.cells hc⟩
theorem OwnV.mono (hPQ : ∀ k, P k → Q k) (h : OwnV P w n v) : OwnV Q w n v := by
  obtain ⟨a', cap', h1, h2, h3, h5⟩ := h
  refine ⟨a', cap', h1, h2, h3, ?_⟩
  rcases h5 with h5 | ⟨g, cur, rfl, h6, h7, h8, h9⟩
  · exact .inl h5
  · exact .inr ⟨g, cur, rfl, hPQ _ h6, h7, h8, fun j hj => (h9 j hj).mono hPQ⟩
/-- All its rows lie in blocks that are there. -/
theorem OwnV.also (h : OwnV P w n v) : OwnV (fun k => P k ∧ k < w.heap.size) w n v := by
  obtain ⟨a', cap', h1, h2, h3, h5⟩ := h
  refine ⟨a', cap', h1, h2, h3, ?_⟩
  rcases h5 with h5 | ⟨g, cur, rfl, h6, h7, h8, h9⟩
  · exact .inl h5
  · refine .inr ⟨g, cur, rfl, ⟨h6, (Array.getElem?_eq_some_iff.1 h7).1⟩, h7, h8, fun j hj => ?_⟩
    obtain ⟨a', cap, q1, q2, q3, q4, q5, q6, q7, q8⟩ := h9 j hj
    exact ⟨a', cap, q1, q2, q3, q4, q5, q6, q7, q8.also (fun _ h => h)⟩
theorem OwnV.frame (hf : ∀ k, P k → k < w.heap.size → w'.heap[k]? = w.heap[k]?) (h : OwnV P w n v) : OwnV P w' n v := by
  have hc : ∀ p v, P p.block → w.cell? p = some v → w'.cell? p = some v := fun p v hp hc => cell_same (fun cs t fr e => (hf _ hp (World.block_lt_of_cell? _ _ hc)).trans e) hc
  obtain ⟨a', cap', h1, h2, h3, h5⟩ := h
  refine ⟨a', cap', h1, h2, h3, ?_⟩
  rcases h5 with h5 | ⟨g, cur, rfl, h6, h7, h8, h9⟩
  · exact .inl h5
  · exact .inr ⟨g, cur, rfl, h6, (hf g h6 (Array.getElem?_eq_some_iff.1 h7).1).trans h7, h8, fun j hj => (h9 j hj).cells hc (fun o v _ hv => hc _ v h6 hv)⟩
end

abbrev Nv := Nd × Value
def cellsL (L : List Nv) : List Value := L.flatMap fun x => x.2.cells.toList
theorem NdV.five {P : Nat → Prop} {w : World} {n : Nd} {v : Value} (h : NdV P w n v) : v.cells.toList.length = 5 := by
  obtain ⟨a', cap', rfl, _⟩ := h
  rfl
theorem cellsL_get : ∀ {L : List Nv} {i : Nat} {x : Nv}, (∀ y ∈ L, y.2.cells.toList.length = 5) → L[i]? = some x → ∀ j, j < 5 → (cellsL L)[i * 5 + j]? = x.2.cells.toList[j]?
  | [], i, x, _, h, _, _ => by simp at h
  | y :: L, 0, x, hl, h, j, hj => by
    have h : y = x := by simpa using h
    subst h
    have h5 := hl y (by simp)
    simp only [cellsL, List.flatMap_cons, Nat.zero_mul, Nat.zero_add]
    rw [List.getElem?_append_left (by omega)]
  | y :: L, i + 1, x, hl, h, j, hj => by
    have h5 := hl y (by simp)
    have h : L[i]? = some x := by simpa using h
    have := cellsL_get (fun y hy => hl y (by simp [hy])) h j hj
    simp only [cellsL, List.flatMap_cons] at this ⊢
    rw [List.getElem?_append_right (by omega), ← this]
    congr 1
    omega

/-- A row of such nodes: its trees. -/
theorem row_elems {P : Nat → Prop} {w : World} {B cap : Nat} {a : Option Addr} {L : List Nv} (h : w.ownsRow B 24 5 (.slice a L.length cap) L.length (cellsL L)) (hx : ∀ x ∈ L, NdV P w x.1 x.2) :
    L = [] ∨ ∃ g, a = some ⟨g, 0, none⟩ ∧ ∀ j, j < L.length → ElemG P w g j ((foOf (L.map (·.1))).get j) := by
  by_cases h0 : L = []
  · exact .inl h0
  · have hlen : 0 < L.length := List.length_pos_iff.2 h0
    have h5 : ∀ y ∈ L, y.2.cells.toList.length = 5 := fun y hy => (hx y hy).five
    have hg : ∃ g, a = some ⟨g, 0, none⟩ := by
      have hy := h5 _ (List.getElem_mem hlen)
      have := cellsL_get h5 (List.getElem?_eq_getElem hlen) 0 (by omega)
      rw [List.getElem?_eq_getElem (l := (L[0].2).cells.toList) (i := 0) (by omega)] at this
      obtain ⟨g, e, _⟩ := row_cell h this
      exact ⟨g, e⟩
    obtain ⟨g, rfl⟩ := hg
    refine .inr ⟨g, rfl, fun j hj => ?_⟩
    rw [foOf_get _ j (by simpa using hj)]
    obtain ⟨a', cap', e, q1, q2, q3⟩ := hx _ (List.getElem_mem hj)
    have cell : ∀ o u, o < 5 → (L[j].2).cells.toList[o]? = some u → w.cell? ⟨g, j * 5 + o, none⟩ = some u := fun o u ho hu => by
      have := cellsL_get h5 (List.getElem?_eq_getElem hj) o ho
      obtain ⟨g', e', hc⟩ := row_cell h (this.trans hu)
      cases e'
      exact hc
    rw [e] at cell
    simp only [List.getElem_map]
    exact ⟨a', cap', cell 0 _ (by omega) rfl, cell 1 _ (by omega) rfl, cell 2 _ (by omega) rfl, cell 3 _ (by omega) rfl, cell 4 _ (by omega) rfl, q1, q2, q3⟩
theorem row_kids {P Q : Nat → Prop} {w : World} {B cap : Nat} {a : Option Addr} {L : List Nv} (hPQ : ∀ k, P k → Q k) (hg : ∀ g, (Value.slice a L.length cap).ownBlock = some g → Q g)
    (h : w.ownsRow B 24 5 (.slice a L.length cap) L.length (cellsL L)) (hx : ∀ x ∈ L, NdV P w x.1 x.2) : KidsP Q w a 0 (foOf (L.map (·.1))) := by
  rcases row_elems h hx with rfl | ⟨g, rfl, he⟩
  · trivial
  · exact kidsP_of_elems hPQ (hg g rfl) _ 0 (fun j hj => by rw [Nat.zero_add]; exact he j (by simpa [foOf_len] using hj))

/-- A list of copies. -/
structure RowO (w : World) (B : Nat) (v : Value) (L : List Nv) : Prop where
  row : w.ownsRow B 24 5 v L.length (cellsL L)
  own : ∀ x ∈ L, OwnV (fun k => (B ≤ k ∧ v.ownBlock ≠ some k) ∧ k < w.heap.size) w x.1 x.2
/-- A list of nodes that lie below B. -/
structure RowL (w : World) (B : Nat) (v : Value) (L : List Nv) : Prop where
  row : w.ownsRow B 24 5 v L.length (cellsL L)
  low : ∀ x ∈ L, NdV (· < B) w x.1 x.2

section
variable {w w' : World} {B : Nat} {v : Value} {L : List Nv}
theorem RowO.nil (w : World) (B : Nat) : RowO w B (.slice none 0 0) [] := ⟨World.ownsRow_nil _ _ _ _, fun _ h => by simp at h⟩
theorem RowL.nil (w : World) (B : Nat) : RowL w B (.slice none 0 0) [] := ⟨World.ownsRow_nil _ _ _ _, fun _ h => by simp at h⟩
theorem RowO.below (h : RowO w B v L) (hb : Below w.heap.size w w') : RowO w' B v L :=
  ⟨row_same h.row (fun k e => hb.block k (h.row.lt k e).2), fun x hx => ((h.own x hx).frame (fun k _ hk => hb.block k hk)).mono fun _ hk => ⟨hk.1, Nat.lt_of_lt_of_le hk.2 hb.size⟩⟩
theorem RowL.below (h : RowL w B v L) (hb : Below w.heap.size w w') : RowL w' B v L :=
  ⟨row_same h.row (fun k e => hb.block k (h.row.lt k e).2), fun x hx => (h.low x hx).cells (fun _ _ _ hc => cell_below hb rfl hc)⟩
theorem cellsL_snoc (L : List Nv) (x : Nv) : cellsL (L ++ [x]) = cellsL L ++ x.2.cells.toList := by simp [cellsL]

theorem RowO.next {n : Nd} {nv : Value} {g cap s : Nat} (h : RowO w B v L) (hn : OwnV (s ≤ ·) w n nv) (hs : ∀ k, v.ownBlock = some k → k < s) (hB : B ≤ s)
    (hown : w'.ownsRow B 24 5 (.slice (some ⟨g, 0, none⟩) (L.length + 1) cap) (L.length + 1) (cellsL L ++ nv.cells.toList)) (hat : AppAt w v g w') : RowO w' B (.slice (some ⟨g, 0, none⟩) (L.length + 1) cap) (L ++ [(n, nv)]) := by
  refine ⟨?_, fun x hx => ?_⟩
  · rw [cellsL_snoc]
    simpa using hown
  · have hgb := hat.grown
    have fr : ∀ k, v.ownBlock ≠ some k → k < w.heap.size → w'.heap[k]? = w.heap[k]? := fun k hk hl => hgb.block k hl (fun e => hk e.symm)
    have ng : ∀ k, v.ownBlock ≠ some k → k < w.heap.size → (Value.slice (some ⟨g, 0, none⟩) (L.length + 1) cap).ownBlock ≠ some k := fun k hk hl e => by
      have e : g = k := by simpa [Value.ownBlock] using e
      rcases hat.at with h1 | h1
      · exact hk (by rw [h1, e])
      · omega
    rcases List.mem_append.1 hx with hx | hx
    · refine ((h.own x hx).frame (fun k hk hl => fr k hk.1.2 hl)).mono fun k hk => ⟨⟨hk.1.1, ng k hk.1.2 hk.2⟩, Nat.lt_of_lt_of_le hk.2 hgb.size⟩
    · have hx : x = (n, nv) := by simpa using hx
      subst hx
      have hne : ∀ k, s ≤ k → v.ownBlock ≠ some k := fun k hk e => by have := hs k e; omega
      refine (hn.also.frame (fun k hk hl => fr k (hne k hk.1) hl)).mono fun k hk => ⟨⟨by have : s ≤ k := hk.1; omega, ng k (hne k hk.1) hk.2⟩, Nat.lt_of_lt_of_le hk.2 hgb.size⟩
theorem RowL.next {n : Nd} {nv : Value} {g cap : Nat} (h : RowL w B v L) (hn : NdV (· < B) w n nv)
    (hown : w'.ownsRow B 24 5 (.slice (some ⟨g, 0, none⟩) (L.length + 1) cap) (L.length + 1) (cellsL L ++ nv.cells.toList)) (hat : AppAt w v g w') : RowL w' B (.slice (some ⟨g, 0, none⟩) (L.length + 1) cap) (L ++ [(n, nv)]) := by
  refine ⟨?_, fun x hx => ?_⟩
  · rw [cellsL_snoc]
    simpa using hown
  · have hgb := hat.grown
    have hc : ∀ (p : Addr) (u : Value), p.block < B → w.cell? p = some u → w'.cell? p = some u := fun p u hp hc =>
      cell_same (fun cs t fr e => (hgb.block p.block (World.block_lt_of_cell? _ _ hc) (fun e => by have := (h.row.lt _ e.symm).1; omega)).trans e) hc
    rcases List.mem_append.1 hx with hx | hx
    · exact (h.low x hx).cells hc
    · have hx : x = (n, nv) := by simpa using hx
      subst hx
      exact hn.cells hc
/-- What such a list leaves below B. -/
theorem app_below {B g : Nat} {w0 : World} (hb : Below B w0 w) (h : ∀ k, v.ownBlock = some k → B ≤ k) (hBs : B ≤ w0.heap.size) (hat : AppAt w v g w') : Below B w0 w' := by
  have hg := hat.grown
  refine ⟨hg.os.trans hb.os, hg.tape.trans hb.tape, hg.output.trans hb.output, Nat.le_trans hb.size hg.size, fun k hk => (hg.block k (by have := hb.size; omega) (fun e => ?_)).trans (hb.block k hk)⟩
  have := h k e.symm
  omega
end
end Go.Proofs.Ytmkjajapbkdpiaa
