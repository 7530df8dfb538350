/- Two rows of tokens that tell the same are held against each other right. No condition. -/
import Derived.Test.YtdgjegkoncodaaaDoorScAwake
namespace Go.Proofs.YtdgjegkoncodaaaDoor
open Go.RowKit

theorem tokCells_get : ∀ (l : List Tok) (i : Nat) (h : i < l.length) (j : Nat), j < 4 → (tokCells l)[i * 4 + j]? = (tokC l[i])[j]?
  | [], i, h, j, hj => absurd h (Nat.not_lt_zero _)
  | t :: l, 0, h, j, hj => by
    have e : tokCells (t :: l) = tokC t ++ tokCells l := rfl
    rw [e, List.getElem?_append_left (by simp [tokC]; omega), Nat.zero_mul, Nat.zero_add]
    rfl
  | t :: l, i + 1, h, j, hj => by
    have e : tokCells (t :: l) = tokC t ++ tokCells l := rfl
    have e4 : (tokC t).length = 4 := rfl
    rw [e, List.getElem?_append_right (by rw [e4]; omega), e4, show (i + 1) * 4 + j - 4 = i * 4 + j by omega, tokCells_get l i (by simpa using h) j hj]
    rfl
theorem spanCells_get : ∀ (l : List (Nat × Nat)) (i : Nat) (h : i < l.length) (j : Nat), j < 2 → (spanCells l)[i * 2 + j]? = (spanC l[i])[j]?
  | [], i, h, j, hj => absurd h (Nat.not_lt_zero _)
  | t :: l, 0, h, j, hj => by
    have e : spanCells (t :: l) = spanC t ++ spanCells l := rfl
    rw [e, List.getElem?_append_left (by simp [spanC]; omega), Nat.zero_mul, Nat.zero_add]
    rfl
  | t :: l, i + 1, h, j, hj => by
    have e : spanCells (t :: l) = spanC t ++ spanCells l := rfl
    have e4 : (spanC t).length = 2 := rfl
    rw [e, List.getElem?_append_right (by rw [e4]; omega), e4, show (i + 1) * 2 + j - 2 = i * 2 + j by omega, spanCells_get l i (by simpa using h) j hj]
    rfl
/-- A row of tokens that can be read. -/
def TokV (W : World) (tv : Value) (l : List Tok) : Prop := ∃ a cap, tv = .slice a l.length cap ∧ l.length ≤ maxLen ∧ ∀ i (h : i < l.length), ∃ g, a = some ⟨g, 0, none⟩ ∧ g < W.heap.size ∧
  W.cell? ⟨g, i * 4, none⟩ = some (.int .i64 l[i].kind) ∧ W.cell? ⟨g, i * 4 + 1, none⟩ = some (.int .i64 l[i].frm) ∧ W.cell? ⟨g, i * 4 + 2, none⟩ = some (.int .i64 l[i].to) ∧ W.cell? ⟨g, i * 4 + 3, none⟩ = some (.string (strB l[i].text))
/-- A row of remarks that can be read. -/
def SpanV (W : World) (tv : Value) (l : List (Nat × Nat)) : Prop := ∃ a cap, tv = .slice a l.length cap ∧ l.length ≤ maxLen ∧ ∀ i (h : i < l.length), ∃ g, a = some ⟨g, 0, none⟩ ∧ g < W.heap.size ∧
  W.cell? ⟨g, i * 2, none⟩ = some (.int .i64 l[i].1) ∧ W.cell? ⟨g, i * 2 + 1, none⟩ = some (.int .i64 l[i].2)
theorem TokV.of {W : World} {b : Nat} {tv : Value} {l : List Tok} (h : W.ownsRow b 35 4 tv l.length (tokCells l)) : TokV W tv l := by
  have h0 := h
  rcases h.2 with ⟨e, e2⟩ | ⟨g, cap, cur, e, hg, hh, hn, hc, _⟩
  · exact ⟨none, 0, by rw [e, e2], by rw [e2]; exact Nat.zero_le _, fun i hi => by omega⟩
  · refine ⟨_, cap, e, Nat.le_trans hn hc, fun i hi => ⟨g, rfl, (Array.getElem?_eq_some_iff.1 hh).1, ?_⟩⟩
    subst e
    have hl : (tokCells l).length = l.length * 4 := tokCells_len l
    have go : ∀ j v, j < 4 → (tokC l[i])[j]? = some v → W.cell? ⟨g, i * 4 + j, none⟩ = some v := fun j v hj hv => by
      have := h0.cells (g := g) rfl (i * 4 + j) v (by rw [tokCells_get l i hi j hj]; exact hv)
      simpa [Addr.add_lit] using this
    exact ⟨go 0 _ (by decide) rfl, go 1 _ (by decide) rfl, go 2 _ (by decide) rfl, go 3 _ (by decide) rfl⟩
theorem SpanV.of {W : World} {b : Nat} {tv : Value} {l : List (Nat × Nat)} (h : W.ownsRow b 40 2 tv l.length (spanCells l)) : SpanV W tv l := by
  have h0 := h
  rcases h.2 with ⟨e, e2⟩ | ⟨g, cap, cur, e, hg, hh, hn, hc, _⟩
  · exact ⟨none, 0, by rw [e, e2], by rw [e2]; exact Nat.zero_le _, fun i hi => by omega⟩
  · refine ⟨_, cap, e, Nat.le_trans hn hc, fun i hi => ⟨g, rfl, (Array.getElem?_eq_some_iff.1 hh).1, ?_⟩⟩
    subst e
    have go : ∀ j v, j < 2 → (spanC l[i])[j]? = some v → W.cell? ⟨g, i * 2 + j, none⟩ = some v := fun j v hj hv => by
      have := h0.cells (g := g) rfl (i * 2 + j) v (by rw [spanCells_get l i hi j hj]; exact hv)
      simpa [Addr.add_lit] using this
    exact ⟨go 0 _ (by decide) rfl, go 1 _ (by decide) rfl⟩
theorem TokV.go {W W' : World} {tv : Value} {l : List Tok} (h : TokV W tv l) (hb : Below W.heap.size W W') : TokV W' tv l := by
  obtain ⟨a, cap, e, hm, hr⟩ := h
  refine ⟨a, cap, e, hm, fun i hi => ?_⟩
  obtain ⟨g, h1, h2, h3, h4, h5, h6⟩ := hr i hi
  exact ⟨g, h1, Nat.lt_of_lt_of_le h2 hb.size, (hb.cell h2).trans h3, (hb.cell h2).trans h4, (hb.cell h2).trans h5, (hb.cell h2).trans h6⟩
theorem SpanV.go {W W' : World} {tv : Value} {l : List (Nat × Nat)} (h : SpanV W tv l) (hb : Below W.heap.size W W') : SpanV W' tv l := by
  obtain ⟨a, cap, e, hm, hr⟩ := h
  refine ⟨a, cap, e, hm, fun i hi => ?_⟩
  obtain ⟨g, h1, h2, h3, h4⟩ := hr i hi
  exact ⟨g, h1, Nat.lt_of_lt_of_le h2 hb.size, (hb.cell h2).trans h3, (hb.cell h2).trans h4⟩
set_option maxRecDepth 100000 in
set_option maxHeartbeats 1600000 in
theorem same_any {W : World} {t1 t2 : Value} {l : List Tok} (h1 : TokV W t1 l) (h2 : TokV W t2 l) : Calls Tryd.prog 15 #[t1, t2] W (fun e W' => e = .returned (.bool true) ∧ ∃ m, W' = W.drewN m) := by
  obtain ⟨a1, cap1, rfl, hm, R1⟩ := h1
  obtain ⟨a2, cap2, rfl, _, R2⟩ := h2
  obtain ⟨n, Hn⟩ : ∃ n, Hid (l.length = n) := ⟨_, Lib.hid rfl⟩
  have HR1 := Lib.hid R1
  have HR2 := Lib.hid R2
  rw [Hn.out] at hm ⊢
  have hmI : (n : Int) ≤ 9223372036854775807 := by unfold maxLen at hm; omega
  clear R1 R2 hm
  go_enter Tryd.func15, Tryd.ntmps15
  go_wp2_with fail
  go_loopg [5] n (fun g v5 wr => ∃ (i m : Nat), v5 = .int .i64 (i : Int) ∧ g + i = n ∧ wr = W.drewN m)
  case atStart => exact ⟨0, 0, rfl, rfl, rfl⟩
  case round =>
    obtain ⟨i, m, rfl, hg, rfl⟩ := hrel
    by_cases hin : i < n
    · have hinI : (i : Int) < (n : Int) := by omega
      obtain ⟨g1, rfl, _, c10, c11, c12, c13⟩ := HR1.out i (by rw [Hn.out]; exact hin)
      obtain ⟨g2, rfl, _, c20, c21, c22, c23⟩ := HR2.out i (by rw [Hn.out]; exact hin)
      obtain ⟨k, Hk⟩ : ∃ k, Hid ((l[i]'(by rw [Hn.out]; exact hin)).kind = k) := ⟨_, Lib.hid rfl⟩
      obtain ⟨f, Hf⟩ : ∃ k, Hid ((l[i]'(by rw [Hn.out]; exact hin)).frm = k) := ⟨_, Lib.hid rfl⟩
      obtain ⟨o, Ho⟩ : ∃ k, Hid ((l[i]'(by rw [Hn.out]; exact hin)).to = k) := ⟨_, Lib.hid rfl⟩
      obtain ⟨x, Hx⟩ : ∃ k, Hid (strB (l[i]'(by rw [Hn.out]; exact hin)).text = k) := ⟨_, Lib.hid rfl⟩
      rw [Hk.out] at c10 c20
      rw [Hf.out] at c11 c21
      rw [Ho.out] at c12 c22
      rw [Hx.out] at c13 c23
      go_wp2_with fail
      go_quiet (fail)
      go_wp2_with fail
      go_roundg (n - (i + 1))
      case measure => omega
      case rel => exact ⟨i + 1, m + nq, by go_num, by omega, rfl⟩
    · have hinf : decide ((i : Int) < (n : Int)) = false := decide_eq_false (by omega)
      go_wp2_with fail
      go_ret
      exact ⟨rfl, _, rfl⟩
end Go.Proofs.YtdgjegkoncodaaaDoor
