/- What the invariant of an order becomes when a row, or a map, is turned. No condition. -/
import Derived.Test.YtkcaeeighjblkaaClkStart
namespace Go.Proofs.Ytkcaeeighjblkaa
open Go.RowKit

theorem getD_set_eq {α : Type} {l : List α} {x d : α} {i : Nat} (h : i < l.length) : (l.set i x).getD i d = x := by
  simp [List.getD, h]
theorem getD_set_other {α : Type} {l : List α} {x d : α} {i j : Nat} (h : i ≠ j) : (l.set i x).getD j d = l.getD j d := by
  simp [List.getD, List.getElem?_set_ne h]
theorem getD_set_cases {α : Type} (l : List α) (x d : α) (i j : Nat) (h : i < l.length) : (l.set i x).getD j d = if i = j then x else l.getD j d := by
  by_cases e : i = j
  · subst e; rw [getD_set_eq h, if_pos rfl]
  · rw [getD_set_other e, if_neg e]

def OSt.setRow (st : OSt) (i : Nat) (v : Value) : OSt := ⟨st.bo, st.bk, st.cap, st.rows.set i v, st.bm, st.inner⟩

theorem Ord.turn {w w3 : World} {st : OSt} {K : List (List Int)} {P : Acc} {N M i : Nat} {v2 : Value} {r2 : List Int} (h : Ord w st K P N) (hi : i < K.length) (hNM : N ≤ M) (hM : M ≤ 100000)
    (hk : w3.ownsRow 0 46 1 (.slice (some ⟨st.bk, 0, none⟩) K.length st.cap) K.length (st.rows.set i v2)) (hv : w3.ownsRow 0 3 1 v2 r2.length (ints r2))
    (hsame : ∀ k, k < w.heap.size → k ≠ st.bk → (st.rows.getD i undef).ownBlock ≠ some k → w3.heap[k]? = w.heap[k]?)
    (hb : ∀ k, v2.ownBlock = some k → (st.rows.getD i undef).ownBlock = some k ∨ w.heap.size ≤ k)
    (hl : r2.length ≤ M + 1) (hr : ∀ j, 0 ≤ r2.getD j 0 ∧ r2.getD j 0 ≤ M) : Ord w3 (st.setRow i v2) (K.set i r2) P M := by
  have hrl := h.rowsLen
  have hi' : i < st.rows.length := by omega
  have hrow : ∀ j, (st.setRow i v2).rows.getD j undef = if i = j then v2 else st.rows.getD j undef := fun j => getD_set_cases _ _ _ _ _ hi'
  have hKj : ∀ j, (K.set i r2).getD j [] = if i = j then r2 else K.getD j [] := fun j => getD_set_cases _ _ _ _ _ hi
  have hfp : ∀ k, st.fp k → k ≠ st.bk → (st.rows.getD i undef).ownBlock ≠ some k → w3.heap[k]? = w.heap[k]? := fun k hk => hsame k (h.lt k hk)
  have hrb : ∀ {k cur e f}, e ≠ 3 → w.heap[k]? = some (.cells cur e f) → (st.rows.getD i undef).ownBlock ≠ some k := by
    intro k cur e f he hk e2
    obtain ⟨cur', e3⟩ := h.row_cells hi e2
    rw [hk] at e3
    simp at e3
    exact he e3.2.1
  have hrm : ∀ {k es c}, w.heap[k]? = some (.map es c) → (st.rows.getD i undef).ownBlock ≠ some k := by
    intro k es c hk e2
    obtain ⟨cur', e3⟩ := h.row_cells hi e2
    exact map_ne_cells hk e3 rfl
  obtain ⟨ck, hck⟩ := h.bk_at
  refine ⟨hM, by have := h.klen; simp; omega, by have := h.kpos; simpa using this, ?_, ?_, ?_, ?_, ?_, ?_, ?_, ?_, ?_, ?_⟩
  · intro j; rw [hKj]; split
    · exact hl
    · have := h.rlen j; omega
  · intro j k; rw [hKj]; split
    · exact hr k
    · have := h.rval j k; omega
  · have := (hfp st.bo (.inl rfl) h.bo_ne_bk (hrb (by decide) h.ob)).trans h.ob
    simpa [OSt.setRow] using this
  · simpa [OSt.setRow] using hk
  · intro j hj
    simp at hj
    rw [hrow, hKj]
    split
    · exact hv
    · rename_i hij
      refine row_same (h.row j hj) (fun k e => hfp k (.inr (.inr (.inl ⟨j, by omega, e⟩))) (h.row_ne_bk hj e) (fun e2 => hij (h.apart i j k hi hj e2 e)))
  · intro j l b hj hl e1 e2
    simp at hj hl
    rw [hrow] at e1 e2
    have hold : ∀ j, j < K.length → (st.rows.getD j undef).ownBlock = some b → b < w.heap.size := fun j hj e => h.lt b (.inr (.inr (.inl ⟨j, by omega, e⟩)))
    split at e1
    · split at e2
      · omega
      · rename_i h1 h2
        rcases hb b e1 with e | e
        · exact absurd (h.apart i l b hi hl e e2) h2
        · have := hold l hl e2; omega
    · split at e2
      · rename_i h1 h2
        rcases hb b e2 with e | e
        · exact absurd (h.apart i j b hi hj e e1) h1
        · have := hold j hj e1; omega
      · exact h.apart j l b hj hl e1 e2
  · obtain ⟨es, c, e⟩ := h.outer.isMap
    exact (h.outer.same (hfp st.bm (.inr (.inr (.inr (.inl rfl)))) (h.bm_ne hck) (hrm e))).mono hNM
  · intro c b hc hcb
    obtain ⟨es, c', e⟩ := (h.inn c b hc hcb).1.isMap
    exact ⟨((h.inn c b hc hcb).1.same (hfp b (.inr (.inr (.inr (.inr ⟨c, hc, hcb⟩)))) (h.inner_ne hc hcb hck) (hrm e))).mono hNM, (h.inn c b hc hcb).2⟩
  · exact h.innN
  · exact h.innA

theorem OSt.setRow_fp {st : OSt} {i : Nat} {v : Value} {B : Nat} (hi : i < st.rows.length) (hb : ∀ k, v.ownBlock = some k → (st.rows.getD i undef).ownBlock = some k ∨ B ≤ k) : ∀ k, (st.setRow i v).fp k → st.fp k ∨ B ≤ k := by
  intro k hk
  rcases hk with e | e | ⟨j, hj, e⟩ | e | e
  · exact .inl (.inl e)
  · exact .inl (.inr (.inl e))
  · have hj' : j < st.rows.length := by simpa [OSt.setRow] using hj
    rw [show (st.setRow i v).rows = st.rows.set i v from rfl, getD_set_cases _ _ _ _ _ hi] at e
    split at e
    · rcases hb k e with e | e
      · exact .inl (.inr (.inr (.inl ⟨i, hi, e⟩)))
      · exact .inr e
    · exact .inl (.inr (.inr (.inl ⟨j, hj', e⟩)))
  · exact .inl (.inr (.inr (.inr (.inl e))))
  · exact .inl (.inr (.inr (.inr (.inr e))))

/-- A cell of a row is written. -/
theorem row_setCell {w : World} {base : Nat} {e : TypeId} {g n cap i : Nat} {xs : List Value} {x : Value} (h : w.ownsRow base e 1 (.slice (some ⟨g, 0, none⟩) n cap) n xs) (hi : i < n) :
    (w.setCell ⟨g, i, none⟩ x).ownsRow base e 1 (.slice (some ⟨g, 0, none⟩) n cap) n (xs.set i x) := by
  obtain ⟨h1, h2⟩ := h
  refine ⟨by simpa using h1, ?_⟩
  rcases h2 with ⟨h2, _⟩ | ⟨g', cap', cur, hv, h3, h4, h5, h6, h7, h8⟩
  · cases h2
  · cases hv
    refine .inr ⟨g, cap, cur.setIfInBounds i x, rfl, h3, ?_, h5, h6, by simpa using h7, ?_⟩
    · simp only [World.setCell, Array.getElem?_modify, h4]; simp
    · rw [Array.toList_setIfInBounds, ← h8, List.take_set]

/-- A store of a row into the list of rows, behind which all else is as 'Ord.turn' wants it. -/
theorem Ord.store {w w2 : World} {st : OSt} {K : List (List Int)} {P : Acc} {N M i : Nat} {v2 : Value} {r2 : List Int} (h : Ord w st K P N) (hi : i < K.length) (hNM : N ≤ M) (hM : M ≤ 100000)
    (hg : w.grownBy w2 (st.rows.getD i undef).ownBlock) (hv : w2.ownsRow 0 3 1 v2 r2.length (ints r2))
    (hb : ∀ k, v2.ownBlock = some k → (st.rows.getD i undef).ownBlock = some k ∨ w.heap.size ≤ k)
    (hl : r2.length ≤ M + 1) (hr : ∀ j, 0 ≤ r2.getD j 0 ∧ r2.getD j 0 ≤ M) :
    Ord (w2.setCell ⟨st.bk, i, none⟩ v2) (st.setRow i v2) (K.set i r2) P M ∧ Fr st.fp w (w2.setCell ⟨st.bk, i, none⟩ v2) ∧ ∀ k, (st.setRow i v2).fp k → st.fp k ∨ w.heap.size ≤ k := by
  have hrl := h.rowsLen
  have hlk := h.lt st.bk (.inr (.inl rfl))
  have hne : some st.bk ≠ (st.rows.getD i undef).ownBlock := fun e => h.row_ne_bk hi e.symm rfl
  have hk2 : w2.ownsRow 0 46 1 (.slice (some ⟨st.bk, 0, none⟩) K.length st.cap) K.length st.rows := row_same h.kn (fun k e => by cases e; exact hg.block _ hlk hne)
  refine ⟨h.turn hi hNM hM (row_setCell hk2 hi) (row_same hv (fun k e => Below.heap_setCell _ _ _ _ ?_)) ?_ hb hl hr, ?_, OSt.setRow_fp (by omega) hb⟩
  · intro e2
    rcases hb k e with e3 | e3
    · exact hne (by rw [e3, e2])
    · simp only at e2; omega
  · intro k hk h1 h2
    rw [Below.heap_setCell _ _ _ _ h1]
    exact hg.block k hk (fun e => h2 e.symm)
  · exact ((Fr.refl st.fp w).grown hg (fun k e => .inl (.inr (.inr (.inl ⟨i, by omega, e⟩))))).setCell (.inl (.inr (.inl rfl))) _

/-- A number in a row is written. -/
theorem Ord.poke {w : World} {st : OSt} {K : List (List Int)} {P : Acc} {N M i j g cap : Nat} {x : Int} (h : Ord w st K P N) (hi : i < K.length) (hNM : N ≤ M) (hM : M ≤ 100000)
    (hrow : st.rows.getD i undef = .slice (some ⟨g, 0, none⟩) (K.getD i []).length cap) (hj : j < (K.getD i []).length) (hx : 0 ≤ x ∧ x ≤ M) :
    Ord (w.setCell ⟨g, j, none⟩ (.int .i64 x)) st (K.set i ((K.getD i []).set j x)) P M ∧ Fr st.fp w (w.setCell ⟨g, j, none⟩ (.int .i64 x)) := by
  have hrl := h.rowsLen
  have hi' : i < st.rows.length := by omega
  have hown : (st.rows.getD i undef).ownBlock = some g := by rw [hrow]; rfl
  have hgk := h.row_ne_bk hi hown
  have hrr := h.row i hi
  have hrow' := hrow
  rw [hrow] at hrr
  have e1 : st.setRow i (st.rows.getD i undef) = st := by
    have : st.rows.set i (st.rows.getD i undef) = st.rows := by
      apply List.ext_getElem?
      intro k
      by_cases e : i = k
      · subst e; simp [List.getD, hi']
      · simp [List.getElem?_set_ne e]
    show OSt.mk _ _ _ (st.rows.set i (st.rows.getD i undef)) _ _ = st
    rw [this]
  have hset : ints ((K.getD i []).set j x) = (ints (K.getD i [])).set j (.int .i64 x) := by simp [List.map_set]
  refine ⟨?_, (Fr.refl _ _).setCell (.inl (.inr (.inr (.inl ⟨i, hi', hown⟩)))) _⟩
  rw [← e1]
  refine h.turn hi hNM hM ?_ ?_ ?_ ?_ ?_ ?_
  · have : st.rows.set i (st.rows.getD i undef) = st.rows := congrArg OSt.rows e1
    rw [this]
    exact row_same h.kn (fun k e => by cases e; exact Below.heap_setCell _ _ _ _ (fun e => hgk e.symm))
  · rw [hrow, List.length_set, hset]
    exact row_setCell hrr hj
  · intro k hk h1 h2
    exact Below.heap_setCell _ _ _ _ (fun e => h2 (by rw [hown]; simp only at e; rw [e]))
  · intro k e; exact .inl e
  · rw [List.length_set]; have := h.rlen i; omega
  · intro k
    by_cases e : j = k
    · subst e; rw [getD_set_eq hj]; exact hx
    · rw [getD_set_other e]; have := h.rval i k; omega

/-- What lies beside a row that has grown. -/
theorem Ord.beside {w w2 : World} {st : OSt} {K : List (List Int)} {P : Acc} {N i : Nat} (h : Ord w st K P N) (hi : i < K.length) (hg : w.grownBy w2 (st.rows.getD i undef).ownBlock) :
    w2.cell? ⟨st.bo, 0, none⟩ = some (.slice (some ⟨st.bk, 0, none⟩) K.length st.cap) ∧ (∀ j, j < K.length → w2.cell? ⟨st.bk, j, none⟩ = some (st.rows.getD j undef)) ∧ ∀ j, w2.frozen? ⟨st.bk, j, none⟩ = false := by
  have h1 : some st.bo ≠ (st.rows.getD i undef).ownBlock := fun e => h.row_ne_bo hi e.symm rfl
  have h2 : some st.bk ≠ (st.rows.getD i undef).ownBlock := fun e => h.row_ne_bk hi e.symm rfl
  exact ⟨hg.cell h.c0 h1, fun j hj => hg.cell (h.ck hj) h2, fun j => (hg.frozen_far _ (h.lt st.bk (.inr (.inl rfl))) h2).trans (h.fk j)⟩

end Go.Proofs.Ytkcaeeighjblkaa
