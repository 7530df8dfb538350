/- What stands at a text's head is the same where a blank is put in behind it. No condition. -/
import Derived.Test.YtdgjegkoncodaaaDoorScVal
namespace Go.Proofs.YtdgjegkoncodaaaDoor
open Go.RowKit

/-- A blank that is put in. -/
def isIns (d : UInt8) : Prop := d = 10 ∨ d = 32
theorem nameF_ins : ∀ (l : List UInt8) (b : Bool) (m : Nat) (d : UInt8) (t : List UInt8), isIns d → nameFrom b l ≤ m → nameFrom b (l.take m ++ d :: t) = nameFrom b l
  | [], b, m, d, t, hd, _ => by
    rw [List.take_nil, List.nil_append]
    rcases hd with rfl | rfl <;> cases b <;> rfl
  | c :: l, b, 0, d, t, hd, h => by
    rw [List.take_zero, List.nil_append]
    unfold nameFrom at h ⊢
    by_cases hc : (letterB c.toNat || (!b && digitB c.toNat)) = true
    · rw [if_pos hc] at h; omega
    · rw [if_neg hc]
      rcases hd with rfl | rfl <;> cases b <;> rfl
  | c :: l, b, m + 1, d, t, hd, h => by
    rw [List.take_succ_cons, List.cons_append]
    unfold nameFrom at h ⊢
    by_cases hc : (letterB c.toNat || (!b && digitB c.toNat)) = true
    · rw [if_pos hc] at h ⊢
      rw [if_pos hc, nameF_ins l false m d t hd (by omega)]
    · rw [if_neg hc, if_neg hc]
theorem digits_ins : ∀ (l : List UInt8) (m : Nat) (d : UInt8) (t : List UInt8), isIns d → digits l ≤ m → digits (l.take m ++ d :: t) = digits l
  | [], m, d, t, hd, _ => by
    rw [List.take_nil, List.nil_append]
    rcases hd with rfl | rfl <;> rfl
  | c :: l, 0, d, t, hd, h => by
    rw [List.take_zero, List.nil_append]
    unfold digits at h ⊢
    by_cases hc : digitB c.toNat = true
    · rw [List.takeWhile_cons, if_pos hc] at h; simp at h
    · rw [List.takeWhile_cons (a := c), if_neg hc]
      rcases hd with rfl | rfl <;> rfl
  | c :: l, m + 1, d, t, hd, h => by
    rw [List.take_succ_cons, List.cons_append]
    have ih := digits_ins l m d t hd
    unfold digits at h ih ⊢
    by_cases hc : digitB c.toNat = true
    · rw [List.takeWhile_cons, if_pos hc] at h
      rw [List.takeWhile_cons, if_pos hc, List.takeWhile_cons, if_pos hc, List.length_cons, List.length_cons, ih (by simp at h; omega)]
    · rw [List.takeWhile_cons, if_neg hc, List.takeWhile_cons, if_neg hc]
theorem lineLen_ins : ∀ (l : List UInt8) (m : Nat) (d : UInt8) (t : List UInt8), (lineLen l < m ∨ lineLen l ≤ m ∧ d = 10) → lineLen (l.take m ++ d :: t) = lineLen l ∨ m > l.length
  | [], m, d, t, h => by
    rcases h with h | ⟨h, rfl⟩
    · exact .inr (by simp [lineLen] at h; simpa using h)
    · exact .inl (by rw [List.take_nil, List.nil_append]; rfl)
  | c :: l, 0, d, t, h => by
    rcases h with h | ⟨h, rfl⟩
    · omega
    · left
      have h0 : lineLen (c :: l) = 0 := by omega
      rw [h0]; rfl
  | c :: l, m + 1, d, t, h => by
    rw [List.take_succ_cons, List.cons_append]
    have ih := lineLen_ins l m d t
    unfold lineLen at h ih ⊢
    by_cases hc : (c != 10) = true
    · rw [List.takeWhile_cons, if_pos hc] at h
      rw [List.takeWhile_cons, if_pos hc, List.takeWhile_cons, if_pos hc, List.length_cons, List.length_cons]
      simp only [List.length_cons] at h ⊢
      rcases ih (by rcases h with h | ⟨h, e⟩; exact .inl (by omega); exact .inr ⟨by omega, e⟩) with e | e
      · exact .inl (by rw [e])
      · exact .inr (by omega)
    · left
      rw [List.takeWhile_cons, if_neg hc, List.takeWhile_cons, if_neg hc]
theorem closeAt_ins : ∀ (l : List UInt8) (k j : Nat) (y : List UInt8), closeAt l = some k → k + 2 ≤ j → closeAt (l.take j ++ y) = some k
  | [], k, j, y, h, _ => by simp [closeAt] at h
  | c :: t, k, 0, y, h, hj => by omega
  | c :: t, k, j + 1, y, h, hj => by
    rw [List.take_succ_cons, List.cons_append]
    unfold closeAt at h ⊢
    by_cases hc : (c == 42 && t.head? == some 47) = true
    · rw [if_pos hc] at h
      have : (c == 42 && (t.take j ++ y).head? == some 47) = true := by
        cases t with
        | nil => simp at hc
        | cons e t' =>
          obtain ⟨i, rfl⟩ : ∃ i, j = i + 1 := ⟨j - 1, by omega⟩
          rw [List.take_succ_cons, List.cons_append]
          exact hc
      rw [if_pos this]
      exact h
    · rw [if_neg hc] at h
      cases hk : closeAt t with
      | none => rw [hk] at h; simp at h
      | some i =>
        rw [hk] at h
        simp at h
        have ih := closeAt_ins t i j y hk (by omega)
        have : ¬ (c == 42 && (t.take j ++ y).head? == some 47) = true := by
          intro hh
          apply hc
          cases t with
          | nil => simp [closeAt] at hk
          | cons e t' =>
            obtain ⟨i', rfl⟩ : ∃ i, j = i + 1 := ⟨j - 1, by omega⟩
            rw [List.take_succ_cons, List.cons_append] at hh
            exact hh
        rw [if_neg this, ih]
        simp
        omega
theorem strItem_ins : ∀ (n : Nat) (l : List UInt8) (p : Nat) (out : List UInt8) (k s : Nat) (x : List UInt8) (kk : Int) (j : Nat) (y : List UInt8), l.length ≤ n → strItem l p out = .tok kk s x → s ≤ p + j → k = j → strItem (l.take j ++ y) p out = .tok kk s x
  | 0, l, p, out, k, s, x, kk, j, y, hl, h, hs, hk => by
    have : l = [] := List.eq_nil_of_length_eq_zero (by omega)
    subst this
    simp [strItem] at h
  | n + 1, [], p, out, k, s, x, kk, j, y, hl, h, hs, hk => by simp [strItem] at h
  | n + 1, c :: t, p, out, k, s, x, kk, j, y, hl, h, hs, hk => by
    simp only [List.length_cons] at hl
    have hj : 1 ≤ j := by
      rcases Nat.eq_zero_or_pos j with h0 | h0
      · exfalso
        have h2 : p + 1 ≤ s := by
          by_cases hp : 1 ≤ p
          · exact (strItem_size _ _ _ _ (Nat.le_refl _) hp _ _ _ h).1
          · rw [strItem_cons] at h
            by_cases h1 : (c == 10) = true
            · rw [if_pos h1] at h; cases h
            rw [if_neg h1] at h
            by_cases h2 : (c == 34) = true
            · rw [if_pos h2] at h
              injection h with ha hb hc
              omega
            rw [if_neg h2] at h
            by_cases h3 : (c == 92) = true
            · rw [if_pos h3] at h
              cases hx : t.head?.bind escB with
              | none => rw [hx] at h; cases h
              | some z =>
                rw [hx] at h
                have := (strItem_size _ _ _ _ (Nat.le_refl _) (by omega) _ _ _ h).1
                omega
            · rw [if_neg h3] at h
              have := (strItem_size _ _ _ _ (Nat.le_refl _) (by omega) _ _ _ h).1
              omega
        omega
      · exact h0
    obtain ⟨i, rfl⟩ : ∃ i, j = i + 1 := ⟨j - 1, by omega⟩
    rw [List.take_succ_cons, List.cons_append]
    rw [strItem_cons] at h ⊢
    by_cases h1 : (c == 10) = true
    · rw [if_pos h1] at h; cases h
    rw [if_neg h1] at h ⊢
    by_cases h2 : (c == 34) = true
    · rw [if_pos h2] at h ⊢
      exact h
    rw [if_neg h2] at h ⊢
    by_cases h3 : (c == 92) = true
    · rw [if_pos h3] at h ⊢
      cases t with
      | nil => cases h
      | cons e t' =>
        have hi : 1 ≤ i := by
          cases hx : escB e with
          | none => rw [List.head?_cons, Option.bind_some, hx] at h; cases h
          | some z =>
            rw [List.head?_cons, Option.bind_some, hx] at h
            have := (strItem_size _ _ _ _ (Nat.le_refl _) (by omega) _ _ _ h).1
            omega
        obtain ⟨i', rfl⟩ : ∃ i', i = i' + 1 := ⟨i - 1, by omega⟩
        rw [List.take_succ_cons, List.cons_append, List.head?_cons, Option.bind_some]
        rw [List.head?_cons, Option.bind_some] at h
        cases hx : escB e with
        | none => rw [hx] at h; cases h
        | some z =>
          rw [hx] at h
          simp only [List.length_cons] at hl
          exact strItem_ins n t' (p + 2) _ _ s x kk i' y (by omega) h (by omega) rfl
    · rw [if_neg h3] at h ⊢
      exact strItem_ins n t (p + 1) _ _ s x kk i y (by omega) h (by omega) rfl
theorem take_ins {c : UInt8} {t y : List UInt8} {n m : Nat} (h : n ≤ m + 1) (hm : m ≤ t.length) : (c :: (t.take m ++ y)).take n = (c :: t).take n := by
  cases n with
  | zero => rfl
  | succ n =>
    rw [List.take_succ_cons, List.take_succ_cons, List.take_append_of_le_length (by rw [List.length_take]; omega), List.take_take, Nat.min_eq_left (by omega)]
theorem twoB_ins (c d : UInt8) (hd : isIns d) : twoB [c, d] = false := by
  unfold twoB
  rcases hd with rfl | rfl <;> simp
theorem sign_ins {c d : UInt8} {t y : List UInt8} {m : Nat} (hd : isIns d) (hm : m ≤ t.length) (h : signLen (c :: t) ≤ m + 1) : signLen (c :: (t.take m ++ d :: y)) = signLen (c :: t) := by
  unfold signLen at h ⊢
  have hd46 : d ≠ 46 := by rcases hd with rfl | rfl <;> decide
  by_cases h3 : (List.take 3 (c :: t) == [46, 46, 46]) = true
  · rw [if_pos h3] at h
    rw [if_pos h3, if_pos (by rw [take_ins h hm]; exact h3)]
  · rw [if_neg h3] at h
    rw [if_neg h3]
    have h3' : ¬ (List.take 3 (c :: (t.take m ++ d :: y)) == [46, 46, 46]) = true := by
      intro hh
      by_cases hm2 : 2 ≤ m
      · rw [take_ins (by omega) hm] at hh; exact h3 hh
      · have hh2 := eq_of_beq hh
        have hm01 : m = 0 ∨ m = 1 := by omega
        rcases hm01 with rfl | rfl
        · simp at hh2
          exact hd46 hh2.2.1
        · cases t with
          | nil => simp at hm
          | cons e t' =>
            simp at hh2
            exact hd46 hh2.2.2
    rw [if_neg h3']
    by_cases h2 : twoB (List.take 2 (c :: t)) = true
    · rw [if_pos h2] at h
      rw [if_pos h2, if_pos (by rw [take_ins h hm]; exact h2)]
    · rw [if_neg h2]
      have h2' : ¬ twoB (List.take 2 (c :: (t.take m ++ d :: y))) = true := by
        intro hh
        by_cases hm1 : 1 ≤ m
        · rw [take_ins (by omega) hm] at hh; exact h2 hh
        · obtain rfl : m = 0 := by omega
          rw [List.take_zero, List.nil_append] at hh
          have := twoB_ins c d hd
          rw [show List.take 2 (c :: d :: y) = [c, d] from rfl, this] at hh
          cases hh
      rw [if_neg h2']
      rfl
theorem head_ins {d : UInt8} {t y : List UInt8} {m : Nat} {z : UInt8} (hd : isIns d) (hz : ¬ isIns z) (h : ((t.take m ++ d :: y).head? == some z) = true) : (t.head? == some z) = true ∧ 1 ≤ m := by
  have hzd : d ≠ z := fun e => hz (e ▸ hd)
  cases t with
  | nil => simp at h; exact absurd h hzd
  | cons e t' =>
    cases m with
    | zero => simp at h; exact absurd h hzd
    | succ m => simp at h ⊢; exact h
theorem head_ins2 {d : UInt8} {t y : List UInt8} {m : Nat} (hm : 1 ≤ m) (ht : m ≤ t.length) : (t.take m ++ d :: y).head? = t.head? := by
  cases t with
  | nil => simp at ht; omega
  | cons e t' =>
    obtain ⟨i, rfl⟩ : ∃ i, m = i + 1 := ⟨m - 1, by omega⟩
    rfl
/-- An item stays what it is where a blank comes in behind it (not within it); save a remark up to the line's end. -/
theorem step_ins {c d : UInt8} {t y : List UInt8} {m : Nat} (hd : isIns d) (hm : m ≤ t.length) (hb : ∀ o, step1 (c :: t) ≠ .bad o) (hs : (step1 (c :: t)).size ≤ m + 1) (hl : (c == 47 && t.head? == some 47) = true → lineLen (c :: t) < m + 1 ∨ d = 10) : step1 (c :: (t.take m ++ d :: y)) = step1 (c :: t) := by
  have hb' : ∀ o, stepC c t ≠ .bad o := hb
  have hs' : (stepC c t).size ≤ m + 1 := hs
  show stepC c (t.take m ++ d :: y) = stepC c t
  have hT : ∀ n, n ≤ m + 1 → (c :: (t.take m ++ d :: y)).take n = (c :: t).take n := fun n h => take_ins h hm
  unfold stepC at hb' hs' ⊢
  by_cases a1 : (c == 10) = true
  · rw [if_pos a1, if_pos a1]
  rw [if_neg a1] at hb' hs'
  rw [if_neg a1, if_neg a1]
  by_cases a2 : (c == 32 || c == 9 || c == 13) = true
  · rw [if_pos a2, if_pos a2]
  rw [if_neg a2] at hb' hs'
  rw [if_neg a2, if_neg a2]
  by_cases a3 : (c == 47 && t.head? == some 47) = true
  · rw [if_pos a3] at hs'
    have hs2 : lineLen (c :: t) ≤ m + 1 := hs'
    have hl2 : 2 ≤ lineLen (c :: t) := by
      simp only [Bool.and_eq_true, beq_iff_eq] at a3
      obtain ⟨rfl, h2⟩ := a3
      cases t with
      | nil => simp at h2
      | cons e t' =>
        simp at h2
        subst h2
        unfold lineLen
        rw [List.takeWhile_cons, if_pos (by decide), List.takeWhile_cons, if_pos (by decide)]
        simp
    have h47 : (c == 47 && (t.take m ++ d :: y).head? == some 47) = true := by rw [head_ins2 (by omega) hm]; exact a3
    rw [if_pos h47, if_pos a3]
    have := lineLen_ins (c :: t) (m + 1) d y (by rcases hl a3 with h | h; exact .inl h; exact .inr ⟨hs2, h⟩)
    rw [List.take_succ_cons, List.cons_append] at this
    rcases this with e | e
    · rw [e]
    · simp at e; omega
  have a3' : ¬ (c == 47 && (t.take m ++ d :: y).head? == some 47) = true := fun h => a3 (by
    rw [Bool.and_eq_true] at h ⊢
    exact ⟨h.1, (head_ins hd (by unfold isIns; decide) h.2).1⟩)
  rw [if_neg a3] at hb' hs'
  rw [if_neg a3, if_neg a3']
  by_cases a4 : (c == 47 && t.head? == some 42) = true
  · rw [if_pos a4] at hb' hs'
    cases hk : closeAt (t.drop 1) with
    | none => rw [hk] at hb'; exact absurd rfl (hb' 0)
    | some k =>
      rw [hk] at hs'
      have hs2 : k + 4 ≤ m + 1 := hs'
      have h42 : (c == 47 && (t.take m ++ d :: y).head? == some 42) = true := by rw [head_ins2 (by omega) hm]; exact a4
      rw [if_pos h42, if_pos a4]
      have hdrop : (t.take m ++ d :: y).drop 1 = (t.drop 1).take (m - 1) ++ d :: y := by
        cases t with
        | nil => simp at hm; omega
        | cons e t' =>
          obtain ⟨i, rfl⟩ : ∃ i, m = i + 1 := ⟨m - 1, by omega⟩
          rfl
      rw [hdrop, closeAt_ins _ k (m - 1) _ hk (by omega)]
      simp only
      rw [hT _ hs2]
  have a4' : ¬ (c == 47 && (t.take m ++ d :: y).head? == some 42) = true := fun h => a4 (by
    rw [Bool.and_eq_true] at h ⊢
    exact ⟨h.1, (head_ins hd (by unfold isIns; decide) h.2).1⟩)
  rw [if_neg a4] at hb' hs'
  rw [if_neg a4, if_neg a4']
  by_cases a5 : decide (60 < nameLen (c :: t)) = true
  · rw [if_pos a5] at hb'; exact absurd rfl (hb' 0)
  rw [if_neg a5] at hb' hs'
  have hnm : nameLen (c :: (t.take m ++ d :: y)) = nameLen (c :: t) := by
    have := nameF_ins (c :: t) true (m + 1) d y hd (by
      show nameLen (c :: t) ≤ m + 1
      by_cases a6 : decide (0 < nameLen (c :: t)) = true
      · rw [if_pos a6] at hs'; exact hs'
      · have : ¬ 0 < nameLen (c :: t) := by simpa using a6
        omega)
    exact this
  rw [hnm, if_neg a5, if_neg a5]
  by_cases a6 : decide (0 < nameLen (c :: t)) = true
  · rw [if_pos a6] at hs'
    rw [if_pos a6, if_pos a6, hT _ (show nameLen (c :: t) ≤ m + 1 from hs')]
  rw [if_neg a6] at hb' hs'
  rw [if_neg a6, if_neg a6]
  by_cases a7 : digitB c.toNat = true
  · rw [if_pos a7] at hb' hs'
    rw [if_pos a7, if_pos a7]
    unfold numItem at hb' hs' ⊢
    by_cases b1 : ((c :: t).head? == some 48 && decide (1 < digits (c :: t)) || decide (200 < digits (c :: t)) || ((c :: t).drop (digits (c :: t))).head?.any fun c => letterB c.toNat) = true
    · rw [if_pos b1] at hb'; exact absurd rfl (hb' 0)
    · rw [if_neg b1] at hs'
      have hs2 : digits (c :: t) ≤ m + 1 := hs'
      have hdg : digits (c :: (t.take m ++ d :: y)) = digits (c :: t) := digits_ins (c :: t) (m + 1) d y hd hs2
      have hdr : ((c :: (t.take m ++ d :: y)).drop (digits (c :: t))).head?.any (fun c => letterB c.toNat) = false := by
        have e : (c :: (t.take m ++ d :: y)).drop (digits (c :: t)) = ((c :: t).drop (digits (c :: t))).take (m + 1 - digits (c :: t)) ++ d :: y := by
          rw [← List.cons_append, ← List.take_succ_cons, List.drop_append_of_le_length (by rw [List.length_take]; simp; omega), List.drop_take]
        rw [e]
        by_cases hq : digits (c :: t) = m + 1
        · rw [hq, Nat.sub_self, List.take_zero, List.nil_append]
          rcases hd with rfl | rfl <;> rfl
        · rw [head_ins2 (by omega) (by rw [List.length_drop]; simp; omega)]
          exact (Bool.or_eq_false_iff.1 (Bool.eq_false_iff.2 b1)).2
      have b2 := (Bool.or_eq_false_iff.1 (Bool.eq_false_iff.2 b1)).1
      rw [if_neg b1, hdg, hdr, hT _ hs2, if_neg (c := ((c :: (t.take m ++ d :: y)).head? == some 48 && decide (1 < digits (c :: t)) || decide (200 < digits (c :: t)) || false) = true) (by rw [Bool.or_false]; exact Bool.eq_false_iff.1 b2)]
  rw [if_neg a7] at hb' hs'
  rw [if_neg a7, if_neg a7]
  by_cases a8 : (c == 34) = true
  · rw [if_pos a8] at hb' hs'
    rw [if_pos a8, if_pos a8]
    rcases strItem_norem t.length t 1 [] (Nat.le_refl _) with ⟨k, s, x, h⟩ | ⟨o, h⟩
    · rw [h] at hs' ⊢
      exact strItem_ins t.length t 1 [] m s x k m _ (Nat.le_refl _) h (by have : s ≤ m + 1 := hs'; omega) rfl
    · rw [h] at hb'; exact absurd rfl (hb' o)
  rw [if_neg a8] at hb' hs'
  rw [if_neg a8, if_neg a8]
  by_cases a9 : (c == 59) = true
  · rw [if_pos a9, if_pos a9]
  rw [if_neg a9] at hb' hs'
  rw [if_neg a9, if_neg a9]
  by_cases a10 : (signLen (c :: t) == 0) = true
  · rw [if_pos a10] at hb'; exact absurd rfl (hb' 0)
  rw [if_neg a10] at hs'
  rw [sign_ins hd hm hs', if_neg a10, hT _ (show signLen (c :: t) ≤ m + 1 from hs'), if_neg a10]
end Go.Proofs.YtdgjegkoncodaaaDoor
