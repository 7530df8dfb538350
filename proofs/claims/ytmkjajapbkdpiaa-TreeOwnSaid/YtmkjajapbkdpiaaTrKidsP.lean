/- Trees in memory, with a word on where their rows lie; rows cell by cell. No condition. -/
import Derived.Test.YtmkjajapbkdpiaaTrAllWalk
import Derived.Test.YtmkjajapbkdpiaaTrOpen
namespace Go.Proofs.Ytmkjajapbkdpiaa
open Go.RowKit

/-- Row a, from place i on, holds the trees F; all rows lie in blocks of which P says yes. -/
def KidsP (P : Nat → Prop) (w : World) (a : Option Addr) : Nat → Fo → Prop
  | _, .nil => True
  | i, .cons k f t s c r => (∃ ad a' cap, a = some ad ∧ P ad.block ∧ w.cell? (ad.add (i * 5)) = some (.int .i64 k) ∧ w.cell? ⟨(ad.add (i * 5)).block, (ad.add (i * 5)).off + 1, none⟩ = some (.int .i64 f) ∧
      w.cell? ⟨(ad.add (i * 5)).block, (ad.add (i * 5)).off + 2, none⟩ = some (.int .i64 t) ∧ w.cell? ⟨(ad.add (i * 5)).block, (ad.add (i * 5)).off + 3, none⟩ = some (.string s) ∧
      w.cell? ⟨(ad.add (i * 5)).block, (ad.add (i * 5)).off + 4, none⟩ = some (.slice a' c.len cap) ∧ c.len ≤ cap ∧ cap ≤ maxLen ∧ KidsP P w a' 0 c) ∧ KidsP P w a (i + 1) r

section
variable {P Q : Nat → Prop} {w w' : World}
theorem KidsP.mono (hPQ : ∀ k, P k → Q k) : ∀ {F : Fo} {a : Option Addr} {i : Nat}, KidsP P w a i F → KidsP Q w a i F := by
  intro F
  induction F with
  | nil => intro _ _ _; trivial
  | cons k f t s c r ihc ihr =>
    rintro a i ⟨⟨ad, a', cap, h0, hp, h1, h2, h3, h4, h5, h6, h7, h8⟩, hr⟩
    exact ⟨⟨ad, a', cap, h0, hPQ _ hp, h1, h2, h3, h4, h5, h6, h7, ihc h8⟩, ihr hr⟩
theorem KidsP.cells (hc : ∀ p v, P p.block → w.cell? p = some v → w'.cell? p = some v) : ∀ {F : Fo} {a : Option Addr} {i : Nat}, KidsP P w a i F → KidsP P w' a i F := by
  intro F
  induction F with
  | nil => intro _ _ _; trivial
  | cons k f t s c r ihc ihr =>
    rintro a i ⟨⟨ad, a', cap, h0, hp, h1, h2, h3, h4, h5, h6, h7, h8⟩, hr⟩
    have hp' : P (ad.add (i * 5)).block := by rw [Addr.add_block]; exact hp
    exact ⟨⟨ad, a', cap, h0, hp, hc _ _ hp' h1, hc _ _ hp' h2, hc _ _ hp' h3, hc _ _ hp' h4, hc _ _ hp' h5, h6, h7, ihc h8⟩, ihr hr⟩
theorem KidsP.at : ∀ {F : Fo} {a : Option Addr} {i : Nat}, KidsP P w a i F → KidsAt w a i F := by
  intro F
  induction F with
  | nil => intro _ _ _; trivial
  | cons k f t s c r ihc ihr =>
    rintro a i ⟨⟨ad, a', cap, h0, hp, h1, h2, h3, h4, h5, h6, h7, h8⟩, hr⟩
    exact ⟨⟨ad, a', cap, h0, h1, h2, h3, h4, h5, h6, h7, ihc h8⟩, ihr hr⟩
theorem KidsAt.p : ∀ {F : Fo} {a : Option Addr} {i : Nat}, KidsAt w a i F → KidsP (· < w.heap.size) w a i F := by
  intro F
  induction F with
  | nil => intro _ _ _; trivial
  | cons k f t s c r ihc ihr =>
    rintro a i ⟨⟨ad, a', cap, h0, h1, h2, h3, h4, h5, h6, h7, h8⟩, hr⟩
    have hp : ad.block < w.heap.size := by
      have := World.block_lt_of_cell? _ _ h1
      rwa [Addr.add_block] at this
    exact ⟨⟨ad, a', cap, h0, hp, h1, h2, h3, h4, h5, h6, h7, ihc h8⟩, ihr hr⟩
theorem KidsP.also (h : ∀ k, k < w.heap.size → Q k) : ∀ {F : Fo} {a : Option Addr} {i : Nat}, KidsP P w a i F → KidsP (fun k => P k ∧ Q k) w a i F := by
  intro F
  induction F with
  | nil => intro _ _ _; trivial
  | cons k f t s c r ihc ihr =>
    rintro a i ⟨⟨ad, a', cap, h0, hp, h1, h2, h3, h4, h5, h6, h7, h8⟩, hr⟩
    have hp' : ad.block < w.heap.size := by
      have := World.block_lt_of_cell? _ _ h1
      rwa [Addr.add_block] at this
    exact ⟨⟨ad, a', cap, h0, ⟨hp, h _ hp'⟩, h1, h2, h3, h4, h5, h6, h7, ihc h8⟩, ihr hr⟩

/-- A tree at place i of the row that begins block g. -/
def ElemG (P : Nat → Prop) (w : World) (g i : Nat) (n : Nd) : Prop :=
  ∃ a' cap, w.cell? ⟨g, i * 5, none⟩ = some (.int .i64 n.k) ∧ w.cell? ⟨g, i * 5 + 1, none⟩ = some (.int .i64 n.f) ∧ w.cell? ⟨g, i * 5 + 2, none⟩ = some (.int .i64 n.t) ∧ w.cell? ⟨g, i * 5 + 3, none⟩ = some (.string n.s) ∧
    w.cell? ⟨g, i * 5 + 4, none⟩ = some (.slice a' n.c.len cap) ∧ n.c.len ≤ cap ∧ cap ≤ maxLen ∧ KidsP P w a' 0 n.c

theorem ElemG.mono {g i : Nat} {n : Nd} (hPQ : ∀ k, P k → Q k) (h : ElemG P w g i n) : ElemG Q w g i n := by
  obtain ⟨a', cap, h1, h2, h3, h4, h5, h6, h7, h8⟩ := h
  exact ⟨a', cap, h1, h2, h3, h4, h5, h6, h7, h8.mono hPQ⟩
/-- A tree of a row whose cells at that place, and whose deeper rows, lie as they lay. -/
theorem ElemG.cells {g i : Nat} {n : Nd} (hc : ∀ p v, P p.block → w.cell? p = some v → w'.cell? p = some v) (hr : ∀ o v, o < 5 → w.cell? ⟨g, i * 5 + o, none⟩ = some v → w'.cell? ⟨g, i * 5 + o, none⟩ = some v) (h : ElemG P w g i n) : ElemG P w' g i n := by
  obtain ⟨a', cap, h1, h2, h3, h4, h5, h6, h7, h8⟩ := h
  exact ⟨a', cap, hr 0 _ (by omega) h1, hr 1 _ (by omega) h2, hr 2 _ (by omega) h3, hr 3 _ (by omega) h4, hr 4 _ (by omega) h5, h6, h7, h8.cells hc⟩

theorem kidsP_of_elems {g : Nat} (hPQ : ∀ k, P k → Q k) (hg : Q g) : ∀ (F : Fo) (i : Nat), (∀ j, j < F.len → ElemG P w g (i + j) (F.get j)) → KidsP Q w (some ⟨g, 0, none⟩) i F
  | .nil, _, _ => trivial
  | .cons k f t s c r, i, h => by
    obtain ⟨a', cap, h1, h2, h3, h4, h5, h6, h7, h8⟩ := h 0 (by simp [Fo.len])
    refine ⟨⟨⟨g, 0, none⟩, a', cap, rfl, hg, ?_⟩, kidsP_of_elems hPQ hg r (i + 1) (fun j hj => by
      have := h (j + 1) (by simp [Fo.len]; omega)
      rw [show i + (j + 1) = i + 1 + j by omega] at this
      exact this)⟩
    rw [add0]
    rw [Nat.add_zero] at h1 h2 h3 h4 h5
    exact ⟨h1, h2, h3, h4, h5, h6, h7, h8.mono hPQ⟩
theorem KidsP.elems {g : Nat} : ∀ {F : Fo} {i : Nat}, KidsP P w (some ⟨g, 0, none⟩) i F → ∀ j, j < F.len → ElemG P w g (i + j) (F.get j)
  | .nil, _, _, _, hj => absurd hj (by simp [Fo.len])
  | .cons k f t s c r, i, ⟨⟨ad, a', cap, h0, hp, h⟩, _⟩, 0, _ => by
    cases h0
    rw [add0] at h
    exact ⟨a', cap, h⟩
  | .cons k f t s c r, i, ⟨_, hr⟩, j + 1, hj => by
    have := KidsP.elems hr j (by simp [Fo.len] at hj; omega)
    rw [show i + 1 + j = i + (j + 1) by omega] at this
    exact this

/-- What a row holds, as a list of cells; and that a row that holds this list holds these trees. -/
theorem KidsP.news {ad : Addr} : ∀ {F : Fo} {i : Nat}, KidsP P w (some ad) i F → ∃ news : List Value, news.length = F.len * 5 ∧ (∀ j u, news[j]? = some u → w.cell? (ad.add (i * 5 + j)) = some u) ∧ (∀ u ∈ news, u.oneCell' = true) ∧
      ∀ (w' : World) (g i' : Nat), (∀ j u, news[j]? = some u → w'.cell? ⟨g, i' * 5 + j, none⟩ = some u) → (∀ p v, P p.block → w.cell? p = some v → w'.cell? p = some v) → ∀ j, j < F.len → ElemG P w' g (i' + j) (F.get j)
  | .nil, _, _ => ⟨[], rfl, fun _ _ h => by simp at h, fun _ h => by simp at h, fun _ _ _ _ _ _ hj => absurd hj (by simp [Fo.len])⟩
  | .cons k f t s c r, i, ⟨⟨ad', a', cap, h0, hp, h1, h2, h3, h4, h5, h6, h7, h8⟩, hr⟩ => by
    cases h0
    obtain ⟨news, q1, q2, q3, q4⟩ := KidsP.news hr
    refine ⟨[.int .i64 k, .int .i64 f, .int .i64 t, .string s, .slice a' c.len cap] ++ news, by simp [Fo.len, q1]; omega, fun j u hj => ?_, fun u hu => ?_, fun w' g i' hw hc j hj => ?_⟩
    · match j, hj with
      | 0, hj => simp at hj; subst hj; exact h1
      | 1, hj => simp at hj; subst hj; rw [fld1 _ _ _ (by omega)]; exact h2
      | 2, hj => simp at hj; subst hj; rw [fld1 _ _ _ (by omega)]; exact h3
      | 3, hj => simp at hj; subst hj; rw [fld1 _ _ _ (by omega)]; exact h4
      | 4, hj => simp at hj; subst hj; rw [fld1 _ _ _ (by omega)]; exact h5
      | j + 5, hj =>
        have hj : news[j]? = some u := by simpa using hj
        have := q2 j u hj
        rw [show (i + 1) * 5 + j = i * 5 + (j + 5) by omega] at this
        exact this
    · rcases List.mem_append.1 hu with hu | hu
      · simp at hu
        rcases hu with h | h | h | h | h <;> (subst h; rfl)
      · exact q3 u hu
    · match j with
      | 0 =>
        refine ⟨a', cap, ?_, ?_, ?_, ?_, ?_, h6, h7, h8.cells hc⟩
        · have := hw 0 (.int .i64 k) rfl; simpa [Fo.get] using this
        · have := hw 1 (.int .i64 f) rfl; simpa [Fo.get] using this
        · have := hw 2 (.int .i64 t) rfl; simpa [Fo.get] using this
        · have := hw 3 (.string s) rfl; simpa [Fo.get] using this
        · have := hw 4 (.slice a' c.len cap) rfl; simpa [Fo.get] using this
      | j + 1 =>
        have := q4 w' g (i' + 1) (fun j u hj => by
          have := hw (j + 5) u (by simpa using hj)
          rw [show i' * 5 + (j + 5) = (i' + 1) * 5 + j by omega] at this
          exact this) hc j (by simp [Fo.len] at hj; omega)
        rw [show i' + 1 + j = i' + (j + 1) by omega] at this
        exact this

/-- Five cells are written. -/
def set5 (w : World) (g i : Nat) (x0 x1 x2 x3 x4 : Value) : World := ((((w.setCell ⟨g, i, none⟩ x0).setCell ⟨g, i + 1, none⟩ x1).setCell ⟨g, i + 2, none⟩ x2).setCell ⟨g, i + 3, none⟩ x3).setCell ⟨g, i + 4, none⟩ x4
theorem set5_block (w : World) {g i k : Nat} (x0 x1 x2 x3 x4 : Value) (h : k ≠ g) : (set5 w g i x0 x1 x2 x3 x4).heap[k]? = w.heap[k]? := by
  unfold set5
  rw [Below.heap_setCell _ _ _ _ h, Below.heap_setCell _ _ _ _ h, Below.heap_setCell _ _ _ _ h, Below.heap_setCell _ _ _ _ h, Below.heap_setCell _ _ _ _ h]
theorem setCell_heap_same {w : World} {g j : Nat} {cur : Array Value} {t : TypeId} (h : w.heap[g]? = some (.cells cur t (0, 0))) (u : Value) : (w.setCell ⟨g, j, none⟩ u).heap[g]? = some (.cells (cur.setIfInBounds j u) t (0, 0)) := by
  simp only [World.setCell, Array.getElem?_modify, h]; simp
theorem set5_same (w : World) {g i : Nat} {cur : Array Value} {t : TypeId} (x0 x1 x2 x3 x4 : Value) (h : w.heap[g]? = some (.cells cur t (0, 0))) :
    (set5 w g i x0 x1 x2 x3 x4).heap[g]? = some (.cells (((((cur.setIfInBounds i x0).setIfInBounds (i + 1) x1).setIfInBounds (i + 2) x2).setIfInBounds (i + 3) x3).setIfInBounds (i + 4) x4) t (0, 0)) :=
  setCell_heap_same (setCell_heap_same (setCell_heap_same (setCell_heap_same (setCell_heap_same h _) _) _) _) _
theorem set5_cell {w : World} {g i : Nat} {x0 x1 x2 x3 x4 : Value} {p : Addr} {v : Value} (h : p.block ≠ g) (hc : w.cell? p = some v) : (set5 w g i x0 x1 x2 x3 x4).cell? p = some v :=
  cell_same (fun _ _ _ e => (set5_block w x0 x1 x2 x3 x4 h).trans e) hc
theorem set5_other {w : World} {g i j : Nat} {x0 x1 x2 x3 x4 : Value} {v : Value} (h : j < i ∨ i + 4 < j) (hc : w.cell? ⟨g, j, none⟩ = some v) : (set5 w g i x0 x1 x2 x3 x4).cell? ⟨g, j, none⟩ = some v := by
  have oth : ∀ (w : World) (a : Nat) (u : Value), a ≠ j → (w.setCell ⟨g, a, none⟩ u).cell? ⟨g, j, none⟩ = w.cell? ⟨g, j, none⟩ := fun w a u ha => World.cell?_setCell_other _ _ _ _ (fun e => ha (by injection e))
  unfold set5
  rw [oth _ _ _ (by omega), oth _ _ _ (by omega), oth _ _ _ (by omega), oth _ _ _ (by omega), oth _ _ _ (by omega)]
  exact hc
theorem set5_new {w : World} {g i : Nat} {cur : Array Value} {t : TypeId} (x0 x1 x2 x3 x4 : Value) (h : w.heap[g]? = some (.cells cur t (0, 0))) (hi : i + 4 < cur.size) :
    (set5 w g i x0 x1 x2 x3 x4).cell? ⟨g, i, none⟩ = some x0 ∧ (set5 w g i x0 x1 x2 x3 x4).cell? ⟨g, i + 1, none⟩ = some x1 ∧ (set5 w g i x0 x1 x2 x3 x4).cell? ⟨g, i + 2, none⟩ = some x2 ∧ (set5 w g i x0 x1 x2 x3 x4).cell? ⟨g, i + 3, none⟩ = some x3 ∧ (set5 w g i x0 x1 x2 x3 x4).cell? ⟨g, i + 4, none⟩ = some x4 := by
  have h5 := set5_same w (i := i) x0 x1 x2 x3 x4 h
  refine ⟨?_, ?_, ?_, ?_, ?_⟩ <;> (simp only [World.cell?, h5, Array.getElem?_setIfInBounds, Array.size_setIfInBounds]; simp <;> omega)
theorem set5_size (w : World) {g i : Nat} (x0 x1 x2 x3 x4 : Value) : (set5 w g i x0 x1 x2 x3 x4).heap.size = w.heap.size := by unfold set5; simp [World.setCell]
theorem set5_below {B : Nat} (hb : Below B w w') {g i : Nat} (hg : B ≤ g) (x0 x1 x2 x3 x4 : Value) : Below B w (set5 w' g i x0 x1 x2 x3 x4) := by
  unfold set5
  exact ((((hb.setCell (p := ⟨g, i, none⟩) hg _).setCell (p := ⟨g, i + 1, none⟩) hg _).setCell (p := ⟨g, i + 2, none⟩) hg _).setCell (p := ⟨g, i + 3, none⟩) hg _).setCell (p := ⟨g, i + 4, none⟩) hg _
end
end Go.Proofs.Ytmkjajapbkdpiaa
