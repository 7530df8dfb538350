/- A slice of rows of ints, each on a block of its own. No condition. -/
import Derived.Test.YtkcaeeighjblkaaClkTurn
namespace Go.Proofs.Ytkcaeeighjblkaa
open Go.RowKit

structure IRows (w : World) (v : Value) (rows : List Value) (K : List (List Int)) : Prop where
  kn : w.ownsRow 0 46 1 v K.length rows
  row : ∀ i, i < K.length → w.ownsRow 0 3 1 (rows.getD i undef) (K.getD i []).length (ints (K.getD i []))
  apart : ∀ i j b, i < K.length → j < K.length → (rows.getD i undef).ownBlock = some b → (rows.getD j undef).ownBlock = some b → i = j

def rowsFp (v : Value) (rows : List Value) (k : Nat) : Prop := v.ownBlock = some k ∨ ∃ i, i < rows.length ∧ (rows.getD i undef).ownBlock = some k

section
variable {w w' w3 : World} {v : Value} {rows : List Value} {K : List (List Int)}

theorem IRows.nil (w : World) : IRows w (.slice none 0 0) [] [] := ⟨World.ownsRow_nil _ _ _ _, fun i h => by simp at h, fun i _ _ h => by simp at h⟩

theorem IRows.rowsLen (h : IRows w v rows K) : rows.length = K.length := by have := h.kn.1; omega

theorem IRows.frame (h : IRows w v rows K) (hk : ∀ k, rowsFp v rows k → w'.heap[k]? = w.heap[k]?) : IRows w' v rows K where
  kn := row_same h.kn (fun k e => hk _ (.inl e))
  row := fun i hi => row_same (h.row i hi) (fun k e => hk _ (.inr ⟨i, by rw [h.rowsLen]; exact hi, e⟩))
  apart := h.apart

theorem IRows.lt (h : IRows w v rows K) : ∀ k, rowsFp v rows k → k < w.heap.size := by
  rintro k (e | ⟨i, hi, e⟩)
  · exact (h.kn.lt _ e).2
  · rw [h.rowsLen] at hi; exact ((h.row i hi).lt _ e).2

theorem IRows.of_below (h : IRows w v rows K) (hb : Below w.heap.size w w') : IRows w' v rows K := h.frame (fun k hk => hb.block k (h.lt k hk))
theorem IRows.drew (h : IRows w v rows K) : IRows w.drew v rows K := h.frame (fun _ _ => rfl)
theorem IRows.alloc (h : IRows w v rows K) (o : Obj) : IRows (w.alloc o) v rows K := h.frame (fun k hk => Below.heap_alloc w o k (h.lt k hk))

/-- The blocks' kinds. -/
theorem IRows.v_at (h : IRows w v rows K) {k : Nat} (e : v.ownBlock = some k) : ∃ cur, w.heap[k]? = some (.cells cur 46 (0, 0)) := row_at h.kn e
theorem IRows.row_at' (h : IRows w v rows K) {i k : Nat} (hi : i < K.length) (e : (rows.getD i undef).ownBlock = some k) : ∃ cur, w.heap[k]? = some (.cells cur 3 (0, 0)) := row_at (h.row i hi) e
theorem IRows.fp_at (h : IRows w v rows K) {k : Nat} (hk : rowsFp v rows k) : ∃ cur t, w.heap[k]? = some (.cells cur t (0, 0)) ∧ (t = 46 ∨ t = 3) := by
  rcases hk with e | ⟨i, hi, e⟩
  · obtain ⟨c, e⟩ := h.v_at e; exact ⟨c, _, e, .inl rfl⟩
  · obtain ⟨c, e⟩ := h.row_at' (by rw [← h.rowsLen]; exact hi) e; exact ⟨c, _, e, .inr rfl⟩
theorem IRows.row_ne_v (h : IRows w v rows K) {i k : Nat} (hi : i < K.length) (e : (rows.getD i undef).ownBlock = some k) : v.ownBlock ≠ some k := by
  intro e1
  obtain ⟨c, e2⟩ := h.v_at e1
  obtain ⟨c', e3⟩ := h.row_at' hi e
  rw [e3] at e2
  simp at e2

/-- The row of the rows in constructor form. -/
theorem IRows.form (h : IRows w v rows K) (hp : 0 < K.length) : ∃ bk cap, v = .slice (some ⟨bk, 0, none⟩) K.length cap ∧ bk < w.heap.size := by
  obtain ⟨g, cap, e, _, hlt⟩ := h.kn.form hp
  exact ⟨g, cap, e, hlt⟩

theorem IRows.ck {bk cap : Nat} (h : IRows w (.slice (some ⟨bk, 0, none⟩) K.length cap) rows K) {i : Nat} (hi : i < K.length) : w.cell? ⟨bk, i, none⟩ = some (rows.getD i undef) := by
  have hl := h.rowsLen
  have := h.kn.cells (g := bk) rfl i (rows.getD i undef) (by simp [List.getD, hl, hi])
  simpa [Addr.add_lit] using this
theorem IRows.fk {bk n cap : Nat} (h : IRows w (.slice (some ⟨bk, 0, none⟩) n cap) rows K) (j : Nat) : w.frozen? ⟨bk, j, none⟩ = false := by
  obtain ⟨cur, e⟩ := row_at h.kn (k := bk) rfl
  simp [World.frozen?, e]

/-- A row is turned. -/
theorem IRows.turn {i : Nat} {v2 : Value} {r2 : List Int} (h : IRows w v rows K) (hi : i < K.length)
    (hk : w3.ownsRow 0 46 1 v K.length (rows.set i v2)) (hv : w3.ownsRow 0 3 1 v2 r2.length (ints r2))
    (hsame : ∀ k, rowsFp v rows k → v.ownBlock ≠ some k → (rows.getD i undef).ownBlock ≠ some k → w3.heap[k]? = w.heap[k]?)
    (hb : ∀ k, v2.ownBlock = some k → (rows.getD i undef).ownBlock = some k ∨ w.heap.size ≤ k) : IRows w3 v (rows.set i v2) (K.set i r2) := by
  have hrl := h.rowsLen
  have hi' : i < rows.length := by omega
  have hrow : ∀ j, (rows.set i v2).getD j undef = if i = j then v2 else rows.getD j undef := fun j => getD_set_cases _ _ _ _ _ hi'
  have hKj : ∀ j, (K.set i r2).getD j [] = if i = j then r2 else K.getD j [] := fun j => getD_set_cases _ _ _ _ _ hi
  refine ⟨by simpa using hk, fun j hj => ?_, fun j l b hj hl e1 e2 => ?_⟩
  · simp at hj
    rw [hrow, hKj]
    split
    · exact hv
    · rename_i hij
      exact row_same (h.row j hj) (fun k e => hsame k (.inr ⟨j, by omega, e⟩) (h.row_ne_v hj e) (fun e2 => hij (h.apart i j k hi hj e2 e)))
  · simp at hj hl
    rw [hrow] at e1 e2
    have hold : ∀ j, j < K.length → (rows.getD j undef).ownBlock = some b → b < w.heap.size := fun j hj e => h.lt b (.inr ⟨j, by omega, e⟩)
    split at e1
    · split at e2
      · omega
      · rename_i h1 h2
        rcases hb b e1 with e | e
        · exact absurd (h.apart i l b hi hl e e2) h2
        · have := hold l hl e2; omega
    · split at e2
      · rename_i h1 h2
        rcases hb b e2 with e | e
        · exact absurd (h.apart i j b hi hj e e1) h1
        · have := hold j hj e1; omega
      · exact h.apart j l b hj hl e1 e2

theorem rowsFp_set {i : Nat} {v2 : Value} {B : Nat} (hi : i < rows.length) (hb : ∀ k, v2.ownBlock = some k → (rows.getD i undef).ownBlock = some k ∨ B ≤ k) : ∀ k, rowsFp v (rows.set i v2) k → rowsFp v rows k ∨ B ≤ k := by
  rintro k (e | ⟨j, hj, e⟩)
  · exact .inl (.inl e)
  · have hj' : j < rows.length := by simpa using hj
    rw [getD_set_cases _ _ _ _ _ hi] at e
    split at e
    · rcases hb k e with e | e
      · exact .inl (.inr ⟨i, hi, e⟩)
      · exact .inr e
    · exact .inl (.inr ⟨j, hj', e⟩)

/-- A store of a row into the rows. -/
theorem IRows.store {w2 : World} {bk cap i : Nat} {v2 : Value} {r2 : List Int} (h : IRows w (.slice (some ⟨bk, 0, none⟩) K.length cap) rows K) (hi : i < K.length)
    (hg : w.grownBy w2 (rows.getD i undef).ownBlock) (hv : w2.ownsRow 0 3 1 v2 r2.length (ints r2))
    (hb : ∀ k, v2.ownBlock = some k → (rows.getD i undef).ownBlock = some k ∨ w.heap.size ≤ k) :
    IRows (w2.setCell ⟨bk, i, none⟩ v2) (.slice (some ⟨bk, 0, none⟩) K.length cap) (rows.set i v2) (K.set i r2) ∧
      Fr (rowsFp (.slice (some ⟨bk, 0, none⟩) K.length cap) rows) w (w2.setCell ⟨bk, i, none⟩ v2) ∧
      ∀ k, rowsFp (.slice (some ⟨bk, 0, none⟩) K.length cap) (rows.set i v2) k → rowsFp (.slice (some ⟨bk, 0, none⟩) K.length cap) rows k ∨ w.heap.size ≤ k := by
  have hrl := h.rowsLen
  have hlk := h.lt bk (.inl rfl)
  have hne : some bk ≠ (rows.getD i undef).ownBlock := fun e => h.row_ne_v hi e.symm rfl
  have hk2 : w2.ownsRow 0 46 1 (.slice (some ⟨bk, 0, none⟩) K.length cap) K.length rows := row_same h.kn (fun k e => by cases e; exact hg.block _ hlk hne)
  refine ⟨h.turn hi (row_setCell hk2 hi) (row_same hv (fun k e => Below.heap_setCell _ _ _ _ ?_)) ?_ hb, ?_, rowsFp_set (by omega) hb⟩
  · intro e2
    rcases hb k e with e3 | e3
    · exact hne (by rw [e3, e2])
    · simp only at e2; omega
  · intro k hk h1 h2
    rw [Below.heap_setCell _ _ _ _ (fun e => h1 (by rw [e]; rfl))]
    exact hg.block k (h.lt k hk) (fun e => h2 e.symm)
  · exact Fr.setCell (p := ⟨bk, i, none⟩) ((Fr.refl (rowsFp (.slice (some ⟨bk, 0, none⟩) K.length cap) rows) w).grown hg (fun k e => .inl (.inr ⟨i, by omega, e⟩))) (.inl (.inl rfl)) _

/-- A number in a row is written. -/
theorem IRows.poke {i j g cap : Nat} {x : Int} (h : IRows w v rows K) (hi : i < K.length)
    (hrow : rows.getD i undef = .slice (some ⟨g, 0, none⟩) (K.getD i []).length cap) (hj : j < (K.getD i []).length) :
    IRows (w.setCell ⟨g, j, none⟩ (.int .i64 x)) v rows (K.set i ((K.getD i []).set j x)) ∧ Fr (rowsFp v rows) w (w.setCell ⟨g, j, none⟩ (.int .i64 x)) := by
  have hrl := h.rowsLen
  have hi' : i < rows.length := by omega
  have hown : (rows.getD i undef).ownBlock = some g := by rw [hrow]; rfl
  have hgk := h.row_ne_v hi hown
  have hrr := h.row i hi
  rw [hrow] at hrr
  have e1 : rows.set i (rows.getD i undef) = rows := by
    apply List.ext_getElem?
    intro k
    by_cases e : i = k
    · subst e; simp [List.getD, hi']
    · simp [List.getElem?_set_ne e]
  have hset : ints ((K.getD i []).set j x) = (ints (K.getD i [])).set j (.int .i64 x) := by simp [List.map_set]
  refine ⟨?_, (Fr.refl _ _).setCell (.inl (.inr ⟨i, hi', hown⟩)) _⟩
  have ht := h.turn (w3 := w.setCell ⟨g, j, none⟩ (.int .i64 x)) (v2 := rows.getD i undef) (r2 := (K.getD i []).set j x) hi ?_ ?_ ?_ (fun k e => .inl e)
  · rw [e1] at ht; exact ht
  · rw [e1]
    exact row_same h.kn (fun k e => Below.heap_setCell _ _ _ _ (fun e' => hgk (by simp only at e'; rw [← e', e])))
  · rw [hrow, List.length_set, hset]
    exact row_setCell hrr hj
  · intro k hk h1 h2
    exact Below.heap_setCell _ _ _ _ (fun e => h2 (by rw [hown]; simp only at e; rw [e]))

/-- A row is put behind the others. -/
theorem IRows.push {w1 w2 : World} {gg cap n : Nat} {nv : Value} {r : List Int} (h : IRows w1 v rows K) (hn : n = K.length)
    (hv : w1.ownsRow 0 3 1 nv r.length (ints r)) (hnf : ∀ k, nv.ownBlock = some k → ¬ rowsFp v rows k)
    (hown2 : w2.ownsRow 0 46 1 (.slice (some ⟨gg, 0, none⟩) (n + 1) cap) (n + 1) (rows ++ [nv])) (hat : AppAt w1 v gg w2) :
    IRows w2 (.slice (some ⟨gg, 0, none⟩) (n + 1) cap) (rows ++ [nv]) (K ++ [r]) ∧ Fr (rowsFp v rows) w1 w2 ∧
      ∀ k, rowsFp (.slice (some ⟨gg, 0, none⟩) (n + 1) cap) (rows ++ [nv]) k → rowsFp v rows k ∨ nv.ownBlock = some k ∨ w1.heap.size ≤ k := by
  subst hn
  have hrl := h.rowsLen
  have hgrow := hat.grown
  have hsame : ∀ k, k < w1.heap.size → v.ownBlock ≠ some k → w2.heap[k]? = w1.heap[k]? := fun k hk h1 => hgrow.block k hk (fun e => h1 e.symm)
  have hnlt : ∀ k, nv.ownBlock = some k → k < w1.heap.size := fun k e => (hv.lt k e).2
  refine ⟨⟨by simpa using hown2, fun i hi => ?_, fun i j k hi hj e1 e2 => ?_⟩, (Fr.refl _ _).grown hgrow (fun k e => .inl (.inl e)), ?_⟩
  · by_cases hi' : i < K.length
    · rw [getD_snoc_lt hi', getD_snoc_lt (by omega)]
      exact row_same (h.row i hi') (fun k e => hsame k (h.lt k (.inr ⟨i, by omega, e⟩)) (h.row_ne_v hi' e))
    · have hi2 : i = K.length := by simp at hi; omega
      rw [getD_snoc_eq hi2, getD_snoc_eq (by omega)]
      exact row_same hv (fun k e => hsame k (hnlt k e) (fun e2 => hnf k e (.inl e2)))
  · simp at hi hj
    by_cases hi' : i < K.length
    · rw [getD_snoc_lt (by omega)] at e1
      by_cases hj' : j < K.length
      · rw [getD_snoc_lt (by omega)] at e2
        exact h.apart i j k hi' hj' e1 e2
      · rw [getD_snoc_eq (by omega)] at e2
        exact absurd (.inr ⟨i, by omega, e1⟩) (hnf k e2)
    · rw [getD_snoc_eq (by omega)] at e1
      by_cases hj' : j < K.length
      · rw [getD_snoc_lt (by omega)] at e2
        exact absurd (.inr ⟨j, by omega, e2⟩) (hnf k e1)
      · omega
  · rintro k (e | ⟨i, hi, e⟩)
    · have hg : gg = k := by simpa [Value.ownBlock] using e
      rcases hat.at with e1 | e1
      · left; left; rw [e1, hg]
      · right; right; omega
    · simp at hi
      by_cases hi' : i < rows.length
      · rw [getD_snoc_lt hi'] at e
        exact .inl (.inr ⟨i, hi', e⟩)
      · rw [getD_snoc_eq (by omega)] at e
        exact .inr (.inl e)
end
end Go.Proofs.Ytkcaeeighjblkaa
