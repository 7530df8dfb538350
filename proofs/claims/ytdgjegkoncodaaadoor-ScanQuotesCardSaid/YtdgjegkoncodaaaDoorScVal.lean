/- Which joined texts are valid; the plain law of ScanLimits. No condition. -/
import Derived.Test.YtdgjegkoncodaaaDoorRsSize3
namespace Go.Proofs.YtdgjegkoncodaaaDoor
open Go.RowKit

set_option maxRecDepth 100000 in
theorem decN_app (n m x0 x1 x2 x3 y1 y2 y3 : Nat) (h0 : 128 ≤ x0) (hn : 1 ≤ n) (hnm : n ≤ m) (h1 : 1 < n → x1 = y1) (h2 : 2 < n → x2 = y2) (h3 : 3 < n → x3 = y3)
    (hb : n < m → (n = 1 → y1 < 128) ∧ (n = 2 → y2 < 128) ∧ (n = 3 → y3 < 128)) : Lib.decodeN m x0 y1 y2 y3 = Lib.decodeN n x0 x1 x2 x3 := by
  have hc : n = 1 ∨ n = 2 ∨ n = 3 ∨ 4 ≤ n := by omega
  rcases hc with rfl | rfl | rfl | hc
  · unfold Lib.decodeN
    rw [if_neg (show ¬ x0 < 128 by omega), if_neg (show ¬ (x0 / 32 = 6 ∧ _) by omega), if_neg (show ¬ (x0 / 16 = 14 ∧ _) by omega), if_neg (show ¬ (x0 / 8 = 30 ∧ _) by omega), if_neg (show ¬ x0 < 128 by omega), if_neg (show ¬ (x0 / 32 = 6 ∧ _) by omega), if_neg (show ¬ (x0 / 16 = 14 ∧ _) by omega), if_neg (show ¬ (x0 / 8 = 30 ∧ _) by omega)]
  · obtain rfl := h1 (by decide)
    unfold Lib.decodeN
    by_cases k : x0 / 32 = 6 ∧ x1 / 64 = 2
    · rw [if_neg (show ¬ x0 < 128 by omega), if_pos (show x0 / 32 = 6 ∧ (1 < m ∧ x1 / 64 = 2) by omega), if_neg (show ¬ x0 < 128 by omega), if_pos (show x0 / 32 = 6 ∧ (1 < 2 ∧ x1 / 64 = 2) by omega)]
    · rw [if_neg (show ¬ x0 < 128 by omega), if_neg (show ¬ (x0 / 32 = 6 ∧ _) by omega), if_neg (show ¬ (x0 / 16 = 14 ∧ _) by omega), if_neg (show ¬ (x0 / 8 = 30 ∧ _) by omega), if_neg (show ¬ x0 < 128 by omega), if_neg (show ¬ (x0 / 32 = 6 ∧ _) by omega), if_neg (show ¬ (x0 / 16 = 14 ∧ _) by omega), if_neg (show ¬ (x0 / 8 = 30 ∧ _) by omega)]
  · obtain rfl := h1 (by decide)
    obtain rfl := h2 (by decide)
    unfold Lib.decodeN
    repeat' split
    all_goals first | (exfalso; omega) | rfl
  · obtain rfl := h1 (by omega)
    obtain rfl := h2 (by omega)
    obtain rfl := h3 (by omega)
    unfold Lib.decodeN
    repeat' split
    all_goals first | (exfalso; omega) | rfl
/-- A text whose first byte is below 128, or none. -/
def headA (l : List UInt8) : Prop := ∀ b, l.head? = some b → b.toNat < 128
theorem getD_app (A B : List UInt8) (i : Nat) (h : i < A.length) : (A ++ B).getD i 0 = A.getD i 0 := by
  rw [List.getD, List.getElem?_append_left h]; rfl
theorem getD_here (A B : List UInt8) : (A ++ B).getD A.length 0 = B.getD 0 0 := by
  rw [List.getD, List.getElem?_append_right (Nat.le_refl _), Nat.sub_self]; rfl
theorem headA_get {B : List UInt8} (h : headA B) : (B.getD 0 0).toNat < 128 := by
  cases B with
  | nil => decide
  | cons b t => exact h b rfl
theorem dec_app (a : UInt8) (A B : List UInt8) (ha : 128 ≤ a.toNat) (hB : headA B) : Lib.decodeL (a :: A ++ B) = Lib.decodeL (a :: A) := by
  rw [Lib.decodeL_N, Lib.decodeL_N]
  have hl : (a :: A ++ B).length = (a :: A).length + B.length := List.length_append
  have h0 : (a :: A ++ B).getD 0 0 = a := rfl
  have h00 : (a :: A).getD 0 0 = a := rfl
  rw [h0, h00]
  refine decN_app _ _ _ _ _ _ _ _ _ ha (by simp) (by omega) (fun h => by rw [getD_app _ _ _ h]) (fun h => by rw [getD_app _ _ _ h]) (fun h => by rw [getD_app _ _ _ h]) (fun _ => ?_)
  have hg := getD_here (a :: A) B
  have hh := headA_get hB
  refine ⟨fun h => ?_, fun h => ?_, fun h => ?_⟩ <;> (rw [h] at hg; rw [hg]; exact hh)
/-- Texts are joined where the second begins with a byte below 128. -/
theorem validD_app : ∀ (n : Nat) (A B : List UInt8), A.length ≤ n → headA B → Lib.validD (A ++ B) = (Lib.validD A && Lib.validD B)
  | _, [], B, _, _ => by rw [List.nil_append, Lib.validD_nil, Bool.true_and]
  | 0, a :: A, B, h, _ => by simp at h
  | n + 1, a :: A, B, h, hB => by
    simp only [List.length_cons] at h
    by_cases ha : a.toNat < 128
    · rw [List.cons_append, Lib.validD_cons _ _ ha, Lib.validD_cons _ _ ha]
      exact validD_app n A B (by omega) hB
    · rw [Lib.validD_step (a :: A ++ B) (by simp), Lib.validD_step (a :: A) (by simp), dec_app a A B (by omega) hB]
      by_cases c : (Lib.decodeL (a :: A)).1 = 65533 ∧ (Lib.decodeL (a :: A)).2 = 1
      · rw [if_pos c, if_pos c, Bool.false_and]
      · rw [if_neg c, if_neg c]
        have h1 := Lib.decodeL_width (a :: A)
        have h2 := Lib.decodeL_le (a :: A) (by simp)
        rw [List.drop_append_of_le_length h2]
        exact validD_app n _ B (by rw [List.length_drop]; simp only [List.length_cons]; omega) hB
theorem validS_app {A B : List UInt8} (hB : headA B) : validS (A ++ B) = (validS A && validS B) := by
  unfold validS
  rw [validD_app _ A B (Nat.le_refl _) hB, List.contains_append]
  cases Lib.validD A <;> cases Lib.validD B <;> cases A.contains 0 <;> cases B.contains 0 <;> rfl
theorem validS_cons {b : UInt8} {t : List UInt8} (h : b.toNat < 128) (h0 : b ≠ 0) : validS (b :: t) = validS t := by
  unfold validS
  rw [Lib.validD_cons b t h, List.contains_cons, show ((0 : UInt8) == b) = false from by simpa using fun e => h0 e.symm, Bool.false_or]
theorem validS_rep (n : Nat) (b : UInt8) (t : List UInt8) (h : b.toNat < 128) (h0 : b ≠ 0) : validS (List.replicate n b ++ t) = validS t := by
  induction n with
  | zero => rfl
  | succ n ih => rw [List.replicate_succ, List.cons_append, validS_cons h h0, ih]

/-- The source of ScanLimits. -/
def limS (n d t : Nat) : List UInt8 := List.replicate n 97 ++ 32 :: (List.replicate d 55 ++ List.replicate t 32)
theorem limS_len (n d t : Nat) : (limS n d t).length = n + 1 + d + t := by simp [limS]; omega
theorem limS_valid (n d t : Nat) : validS (limS n d t) = true := by
  unfold limS
  rw [validS_rep _ _ _ (by decide) (by decide), validS_cons (by decide) (by decide), validS_rep _ _ _ (by decide) (by decide), ← List.append_nil (List.replicate t 32), validS_rep _ _ _ (by decide) (by decide)]
  rfl
theorem nameF_rep (n : Nat) (t : List UInt8) : nameFrom false (List.replicate n 97 ++ 32 :: t) = n := by
  induction n with
  | zero => rfl
  | succ n ih => rw [List.replicate_succ, List.cons_append, nameFrom_cons, if_pos (by decide), ih]
theorem nameL_rep (n : Nat) (t : List UInt8) (h : 1 ≤ n) : nameLen (List.replicate n 97 ++ 32 :: t) = n := by
  obtain ⟨k, rfl⟩ : ∃ k, n = k + 1 := ⟨n - 1, by omega⟩
  have := nameF_rep (k + 1) t
  rw [List.replicate_succ, List.cons_append] at this ⊢
  rw [nameLen_letter (by decide)]
  exact this
theorem digits_rep (d t : Nat) : digits (List.replicate d 55 ++ List.replicate t 32) = d := by
  unfold digits
  induction d with
  | zero =>
    cases t with
    | zero => rfl
    | succ t => rfl
  | succ d ih => rw [List.replicate_succ, List.cons_append, List.takeWhile_cons, if_pos (by decide), List.length_cons, ih]
theorem blanks_ok (t p : Nat) (l : List Tok) (c : List (Nat × Nat)) : ∃ L C, scanR (List.replicate t 32) p l c = .ok L C := by
  induction t generalizing p l c with
  | zero => exact ⟨_, _, rfl⟩
  | succ t ih =>
    rw [scanR_step _ (by simp), show step1 (List.replicate (t + 1) 32) = .blank from rfl]
    exact ih _ _ _
theorem blanks_res (t p : Nat) (l : List Tok) (c : List (Nat × Nat)) : (resT (some (scanR (List.replicate t 32) p l c))).1 = 0 := by
  obtain ⟨L, C, e⟩ := blanks_ok t p l c
  rw [e]
  rfl
theorem lim_first (n : Nat) (t : List UInt8) (h : 1 ≤ n) : step1 (List.replicate n 97 ++ 32 :: t) = if decide (60 < n) then .bad 0 else .tok (if wordB ((List.replicate n 97 ++ 32 :: t).take n) then 4 else 1) n ((List.replicate n 97 ++ 32 :: t).take n) := by
  have hn := nameL_rep n t h
  obtain ⟨k, rfl⟩ : ∃ k, n = k + 1 := ⟨n - 1, by omega⟩
  rw [List.replicate_succ, List.cons_append] at hn ⊢
  show stepC _ _ = _
  unfold stepC
  rw [hn, if_neg (by decide), if_neg (by decide), if_neg (by simp), if_neg (by simp)]
  by_cases h6 : decide (60 < k + 1) = true
  · rw [if_pos h6, if_pos h6]
  · rw [if_neg h6, if_neg h6, if_pos (show decide (0 < k + 1) = true from decide_eq_true (Nat.succ_pos k))]
theorem lim_second (d t : Nat) (h : 1 ≤ d) : step1 (List.replicate d 55 ++ List.replicate t 32) = if decide (200 < d) then .bad 0 else .tok 2 d ((List.replicate d 55 ++ List.replicate t 32 : List UInt8).take d) := by
  have hd := digits_rep d t
  obtain ⟨k, rfl⟩ : ∃ k, d = k + 1 := ⟨d - 1, by omega⟩
  have hr : ((List.replicate (k + 1) 55 ++ List.replicate t 32 : List UInt8).drop (k + 1)).head?.any (fun c => letterB c.toNat) = false := by
    rw [List.drop_append_of_le_length (by simp)]
    cases t with
    | zero => simp
    | succ t => simp [List.replicate_succ]; decide
  rw [List.replicate_succ, List.cons_append] at hd hr ⊢
  show stepC _ _ = _
  have hnm : nameLen (55 :: (List.replicate k 55 ++ List.replicate t 32)) = 0 := rfl
  unfold stepC
  rw [hnm, if_neg (by decide), if_neg (by decide), if_neg (by simp), if_neg (by simp), if_neg (by decide), if_neg (by decide), if_pos (by decide)]
  unfold numItem
  rw [hd, hr, show ((55 :: (List.replicate k 55 ++ List.replicate t 32) : List UInt8).head? == some 48) = false from by simp, Bool.false_and, Bool.false_or, Bool.or_false]
theorem lim_law (n d t : Nat) (hn : 1 ≤ n) (hd : 1 ≤ d) : (resT (scanAll (limS n d t))).1 = 0 ↔ (n ≤ 60 ∧ d ≤ 200 ∧ n + 1 + d + t ≤ 65536) := by
  unfold scanAll
  rw [limS_len, limS_valid, Bool.and_true]
  by_cases h : n + 1 + d + t ≤ 65536
  · rw [if_pos (decide_eq_true h)]
    unfold limS
    rw [scanR_step _ (by simp), lim_first n _ hn]
    by_cases h1 : 60 < n
    · rw [if_pos (decide_eq_true h1)]
      constructor
      · intro h; exact absurd h (by show ¬ (3 : Int) = 0; decide)
      · intro h; omega
    · rw [if_neg (by simpa using h1)]
      simp only
      rw [List.drop_left' (by simp), scanR_step _ (by simp), show step1 (32 :: (List.replicate d 55 ++ List.replicate t 32)) = .blank from rfl]
      simp only [List.drop_succ_cons, List.drop_zero]
      rw [scanR_step _ (by cases d with | zero => omega | succ d => simp [List.replicate_succ]), lim_second d t hd]
      by_cases h2 : 200 < d
      · rw [if_pos (decide_eq_true h2)]
        constructor
        · intro h; exact absurd h (by show ¬ (3 : Int) = 0; decide)
        · intro h; omega
      · rw [if_neg (by simpa using h2)]
        simp only
        rw [List.drop_left' (by simp)]
        exact ⟨fun _ => by omega, fun _ => blanks_res _ _ _ _⟩
  · rw [if_neg (by simpa using h)]
    constructor
    · intro h; exact absurd h (by show ¬ (2 : Int) = 0; decide)
    · intro h; omega
end Go.Proofs.YtdgjegkoncodaaaDoor
