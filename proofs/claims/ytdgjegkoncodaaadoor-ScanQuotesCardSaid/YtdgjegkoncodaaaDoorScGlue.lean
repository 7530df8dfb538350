/- The plain law of ScanJoins; what a source that is read gives. No condition. -/
import Derived.Test.YtdgjegkoncodaaaDoorScRel
namespace Go.Proofs.YtdgjegkoncodaaaDoor
open Go.RowKit

theorem ok_of {l : List UInt8} (h : (resT (scanAll l)).1 = 0) : ∃ x c, resT (scanAll l) = (0, 0, x, c) ∧ Sc3 l 0 false x c ∧ validS l = true ∧ l.length ≤ 65536 := by
  unfold scanAll at h ⊢
  by_cases hc : (decide (l.length ≤ 65536) && validS l) = true
  · rw [if_pos hc] at h ⊢
    rw [Bool.and_eq_true] at hc
    cases hs : scanR l 0 [] [] with
    | bad q => rw [hs] at h; exact absurd h (by show ¬ (3 : Int) = 0; decide)
    | ok x c =>
      obtain ⟨l', c', h1, h2, h3⟩ := sc3_of l.length l 0 [] [] x c (Nat.le_refl _) hs
      rw [List.nil_append] at h2 h3
      subst h2
      subst h3
      exact ⟨_, _, rfl, h1, hc.2, by simpa using hc.1⟩
  · rw [if_neg hc] at h
    exact absurd h (by show ¬ (2 : Int) = 0; decide)
theorem ok_to {l : List UInt8} {x : List Tok} {c : List (Nat × Nat)} (h : Sc3 l 0 false x c) (hv : validS l = true) (hl : l.length ≤ 65536) : resT (scanAll l) = (0, 0, x, c) := by
  unfold scanAll
  rw [hv, Bool.and_true, if_pos (decide_eq_true hl), sc3_to h [] [] rfl]
  rfl
theorem lineE_len (e : Bool) (p : Nat) : (lineE e p).length ≤ 1 := by cases e <;> simp [lineE]
theorem sc3_len {r : List UInt8} {p : Nat} {e : Bool} {l : List Tok} {c : List (Nat × Nat)} (h : Sc3 r p e l c) : l.length ≤ 2 * r.length + 2 ∧ 1 ≤ l.length ∧ c.length ≤ r.length := by
  induction h with
  | done p e => have := lineE_len e p; simp; omega
  | @nl c t p e l s hx _ ih => have := lineE_len e p; simp; omega
  | @blank c t p e l s hx _ ih => simp; omega
  | @rem c t p e l s n b hx _ ih =>
    have hs := step1_size (c :: t) (by simp)
    rw [hx] at hs
    have h1 : 1 ≤ n := hs.1
    have h2 : n ≤ (c :: t).length := hs.2
    have := lineE_len (e && b) p
    rw [List.length_drop] at ih
    simp only [List.length_append, List.length_cons] at ih h2 ⊢
    omega
  | @tok c t p e l s k n x hx _ ih =>
    have hs := step1_size (c :: t) (by simp)
    rw [hx] at hs
    have h1 : 1 ≤ n := hs.1
    have h2 : n ≤ (c :: t).length := hs.2
    rw [List.length_drop] at ih
    simp only [List.length_cons] at ih h2 ⊢
    omega
/-- Two sources with an empty line between: their tokens. -/
theorem join_law {a b : List UInt8} (ha : (resT (scanAll a)).1 = 0) (hb : (resT (scanAll b)).1 = 0) (hl : a.length + b.length ≤ 4000) :
    (resT (scanAll (a ++ [10, 10] ++ b))).1 = 0 ∧ (resT (scanAll (a ++ [10, 10] ++ b))).2.2.1 = (resT (scanAll a)).2.2.1.dropLast ++ (resT (scanAll b)).2.2.1.map (mvT (a.length + 2)) ∧
      1 ≤ (resT (scanAll a)).2.2.1.length ∧ 1 ≤ (resT (scanAll b)).2.2.1.length ∧ (resT (scanAll a)).2.2.1.length ≤ 10000 ∧ (resT (scanAll b)).2.2.1.length ≤ 10000 := by
  obtain ⟨x, c, e1, h1, v1, _⟩ := ok_of ha
  obtain ⟨y, d, e2, h2, v2, _⟩ := ok_of hb
  have hj := sc3_join h1 b _ _ (by have := sc3_mv h2 (a.length + 2); rw [show 0 + (a.length + 2) = 0 + a.length + 2 by omega] at this; exact this)
  have hv : validS (a ++ 10 :: 10 :: b) = true := by
    rw [validS_app (by intro z hz; simp at hz; subst hz; decide), v1, validS_cons (by decide) (by decide), validS_cons (by decide) (by decide), v2]
    rfl
  have e3 := ok_to hj hv (by simp; omega)
  have l1 := sc3_len h1
  have l2 := sc3_len h2
  rw [show a ++ [10, 10] ++ b = a ++ 10 :: 10 :: b by simp, e3, e1, e2]
  exact ⟨rfl, rfl, l1.2.1, l2.2.1, by show x.length ≤ 10000; omega, by show y.length ≤ 10000; omega⟩
theorem join_left {X Y : List Tok} {d i : Nat} (h : i < X.length - 1) (hz : i < (X.dropLast ++ Y.map (mvT d)).length) : (X.dropLast ++ Y.map (mvT d))[i] = X[i]'(by omega) := by
  rw [List.getElem_append_left (by rw [List.length_dropLast]; exact h), List.getElem_dropLast]
theorem join_right {X Y : List Tok} {d i : Nat} (h : ¬ i < X.length - 1) (hz : i < (X.dropLast ++ Y.map (mvT d)).length) (h2 : i - (X.length - 1) < Y.length) : (X.dropLast ++ Y.map (mvT d))[i] = mvT d (Y[i - (X.length - 1)]'h2) := by
  rw [List.getElem_append_right (by rw [List.length_dropLast]; omega), List.getElem_map]
  simp only [List.length_dropLast]
end Go.Proofs.YtdgjegkoncodaaaDoor
