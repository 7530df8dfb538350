/- A source's tokens, plain: one step at the head of a text, all steps, where they stand. No condition. -/
import Derived.Test.YtdgjegkoncodaaaDoorScanIdent
import Derived.Lib.ValidLaws
namespace Go.Proofs.YtdgjegkoncodaaaDoor
open Go.RowKit

/-- What stands at a text's head: a line's end, a blank, a remark (its bytes; is there a line's end in it), a token (kind, bytes, text), or what is wrong (so many bytes on). -/
inductive Item where
  | nl
  | blank
  | rem (n : Nat) (lines : Bool)
  | tok (kind : Int) (n : Nat) (text : List UInt8)
  | bad (off : Nat)

/-- A token that has its place. -/
structure Tok where
  kind : Int
  frm : Nat
  to : Nat
  text : List UInt8

/-- How many bytes up to a line's end. -/
def lineLen (l : List UInt8) : Nat := (l.takeWhile (fun c => c != 10)).length
/-- Where the first two bytes 42, 47 stand. -/
def closeAt : List UInt8 → Option Nat
  | [] => none
  | c :: t => if c == 42 && t.head? == some 47 then some 0 else (closeAt t).map (· + 1)
def digits (l : List UInt8) : Nat := (l.takeWhile (fun c => digitB c.toNat)).length
def numItem (r : List UInt8) : Item :=
  if (r.head? == some 48 && decide (1 < digits r)) || decide (200 < digits r) || ((r.drop (digits r)).head?.any fun c => letterB c.toNat) then .bad 0 else .tok 2 (digits r) (r.take (digits r))
/-- What stands behind a backslash. -/
def escB (c : UInt8) : Option UInt8 := if c == 92 || c == 34 then some c else if c == 110 then some 10 else if c == 116 then some 9 else none
/-- A string from place p on (text l), what was read of it. -/
def strItem : List UInt8 → Nat → List UInt8 → Item
  | [], _, _ => .bad 0
  | c :: t, p, out => if c == 10 then .bad 0 else if c == 34 then .tok 3 (p + 1) out else if c == 92 then
      (match t with
      | [] => .bad p
      | e :: t' => match escB e with
        | some x => strItem t' (p + 2) (out ++ [x])
        | none => .bad p)
    else strItem t (p + 1) (out ++ [c])
def twoB (l : List UInt8) : Bool := (l == [38, 38]) || (l == [124, 124]) || (l == [61, 61]) || (l == [33, 61]) || (l == [60, 61]) || (l == [62, 61]) || (l == [58, 61]) || (l == [43, 61]) || (l == [45, 61]) || (l == [42, 61]) || (l == [47, 61]) || (l == [37, 61]) || (l == [43, 43]) || (l == [45, 45]) || (l == [60, 45])
def oneB (c : UInt8) : Bool := [43, 45, 42, 47, 37, 38, 33, 61, 60, 62, 40, 41, 91, 93, 123, 125, 44, 46, 58, 124].contains c
/-- How many bytes of a sign. -/
def signLen (r : List UInt8) : Nat :=
  if r.take 3 == [46, 46, 46] then 3 else if twoB (r.take 2) then 2 else if r.head?.any oneB then 1 else 0
def stepC (c : UInt8) (t : List UInt8) : Item :=
    if c == 10 then .nl
    else if c == 32 || c == 9 || c == 13 then .blank
    else if c == 47 && t.head? == some 47 then .rem (lineLen (c :: t)) false
    else if c == 47 && t.head? == some 42 then (match closeAt (t.drop 1) with | none => .bad 0 | some k => .rem (k + 4) (((c :: t).take (k + 4)).contains 10))
    else if decide (60 < nameLen (c :: t)) then .bad 0
    else if decide (0 < nameLen (c :: t)) then .tok (if wordB ((c :: t).take (nameLen (c :: t))) then 4 else 1) (nameLen (c :: t)) ((c :: t).take (nameLen (c :: t)))
    else if digitB c.toNat then numItem (c :: t)
    else if c == 34 then strItem t 1 []
    else if c == 59 then .tok 6 1 [59]
    else if signLen (c :: t) == 0 then .bad 0 else .tok 5 (signLen (c :: t)) ((c :: t).take (signLen (c :: t)))
def step1 : List UInt8 → Item
  | [] => .bad 0
  | c :: t => stepC c t

/-- May a stmt end behind a token? -/
def endsB (k : Int) (x : List UInt8) : Bool :=
  (k == 1 || k == 2 || k == 3) || (k == 4 && ((x == [98, 114, 101, 97, 107]) || (x == [99, 111, 110, 116, 105, 110, 117, 101]) || (x == [114, 101, 116, 117, 114, 110]))) ||
    (k == 5 && ((x == [43, 43]) || (x == [45, 45]) || (x == [41]) || (x == [93]) || (x == [125])))
/-- A line's end at a place, behind these tokens. -/
def lineT (l : List Tok) (at_ : Nat) : List Tok := match l.getLast? with
  | some t => if endsB t.kind t.text then l ++ [⟨6, at_, at_, [10]⟩] else l
  | none => l
/-- What is told of a source: its tokens and its remarks, or where it is wrong. -/
inductive Told3 where
  | ok (l : List Tok) (c : List (Nat × Nat))
  | bad (at_ : Nat)
/-- From a place on (the text r from it), with what came so far. -/
def scanN : Nat → List UInt8 → Nat → List Tok → List (Nat × Nat) → Told3
  | 0, _, p, l, c => .ok (lineT l p ++ [⟨7, p, p, []⟩]) c
  | f + 1, r, p, l, c => match r with
    | [] => .ok (lineT l p ++ [⟨7, p, p, []⟩]) c
    | _ :: _ => match step1 r with
      | .nl => scanN f (r.drop 1) (p + 1) (lineT l p) c
      | .blank => scanN f (r.drop 1) (p + 1) l c
      | .rem n b => scanN f (r.drop n) (p + n) (if b then lineT l p else l) (c ++ [(p, p + n)])
      | .tok k n x => scanN f (r.drop n) (p + n) (l ++ [⟨k, p, p + n, x⟩]) c
      | .bad o => .bad (p + o)
def scanR (r : List UInt8) (p : Nat) (l : List Tok) (c : List (Nat × Nat)) : Told3 := scanN r.length r p l c

/-- How many bytes an item has. -/
def Item.size : Item → Nat
  | .nl => 1
  | .blank => 1
  | .rem n _ => n
  | .tok _ n _ => n
  | .bad _ => 1
theorem lineLen_le (l : List UInt8) : lineLen l ≤ l.length := by unfold lineLen; exact (List.takeWhile_sublist _).length_le
theorem digits_le (l : List UInt8) : digits l ≤ l.length := by unfold digits; exact (List.takeWhile_sublist _).length_le
theorem closeAt_le : ∀ (l : List UInt8) (k : Nat), closeAt l = some k → k + 2 ≤ l.length
  | [], k, h => by simp [closeAt] at h
  | c :: t, k, h => by
    unfold closeAt at h
    by_cases hc : (c == 42 && t.head? == some 47) = true
    · rw [if_pos hc] at h
      simp only [Bool.and_eq_true, beq_iff_eq] at hc
      obtain ⟨_, h2⟩ := hc
      cases t with
      | nil => simp at h2
      | cons d t' => simp at h; simp; omega
    · rw [if_neg hc] at h
      cases hk : closeAt t with
      | none => rw [hk] at h; simp at h
      | some j =>
        rw [hk] at h
        have := closeAt_le t j hk
        simp at h
        simp
        omega
theorem strItem_size : ∀ (n : Nat) (l : List UInt8) (p : Nat) (out : List UInt8), l.length ≤ n → 1 ≤ p → ∀ k m x, strItem l p out = .tok k m x → p + 1 ≤ m ∧ m ≤ p + l.length ∧ k = 3
  | 0, l, p, out, hl, _, k, m, x, h => by
    have : l = [] := List.eq_nil_of_length_eq_zero (by omega)
    subst this
    simp [strItem] at h
  | n + 1, [], p, out, hl, _, k, m, x, h => by simp [strItem] at h
  | n + 1, c :: t, p, out, hl, hp, k, m, x, h => by
    simp only [List.length_cons] at hl ⊢
    unfold strItem at h
    by_cases h1 : (c == 10) = true
    · rw [if_pos h1] at h; cases h
    · rw [if_neg h1] at h
      by_cases h2 : (c == 34) = true
      · rw [if_pos h2] at h
        injection h with ha hb hc
        omega
      · rw [if_neg h2] at h
        by_cases h3 : (c == 92) = true
        · rw [if_pos h3] at h
          cases t with
          | nil => simp at h
          | cons e t' =>
            simp only [List.length_cons] at hl ⊢
            cases he : escB e with
            | none => simp [he] at h
            | some y =>
              simp only [he] at h
              have := strItem_size n t' (p + 2) _ (by omega) (by omega) k m x h
              omega
        · rw [if_neg h3] at h
          have := strItem_size n t (p + 1) _ (by omega) (by omega) k m x h
          omega
theorem strItem_norem : ∀ (n : Nat) (l : List UInt8) (p : Nat) (out : List UInt8), l.length ≤ n → (∃ k m x, strItem l p out = .tok k m x) ∨ (∃ o, strItem l p out = .bad o)
  | 0, l, p, out, hl => by
    have : l = [] := List.eq_nil_of_length_eq_zero (by omega)
    subst this
    exact .inr ⟨_, rfl⟩
  | n + 1, [], p, out, hl => .inr ⟨_, rfl⟩
  | n + 1, c :: t, p, out, hl => by
    simp only [List.length_cons] at hl
    unfold strItem
    by_cases h1 : (c == 10) = true
    · rw [if_pos h1]; exact .inr ⟨_, rfl⟩
    · rw [if_neg h1]
      by_cases h2 : (c == 34) = true
      · rw [if_pos h2]; exact .inl ⟨_, _, _, rfl⟩
      · rw [if_neg h2]
        by_cases h3 : (c == 92) = true
        · rw [if_pos h3]
          cases t with
          | nil => exact .inr ⟨_, rfl⟩
          | cons e t' =>
            simp only [List.length_cons] at hl
            cases he : escB e with
            | none => simp only [he]; exact .inr ⟨_, rfl⟩
            | some y => simp only [he]; exact strItem_norem n t' _ _ (by omega)
        · rw [if_neg h3]; exact strItem_norem n t _ _ (by omega)
theorem signLen_le (r : List UInt8) : signLen r ≤ r.length := by
  unfold signLen
  by_cases h1 : (r.take 3 == [46, 46, 46]) = true
  · rw [if_pos h1]
    have h := congrArg List.length (eq_of_beq h1)
    simp at h
    omega
  · rw [if_neg h1]
    by_cases h2 : twoB (r.take 2) = true
    · rw [if_pos h2]
      have : (r.take 2).length = 2 := by
        unfold twoB at h2
        simp only [Bool.or_eq_true, beq_iff_eq] at h2
        rcases h2 with ((((((((((((((h | h) | h) | h) | h) | h) | h) | h) | h) | h) | h) | h) | h) | h) | h) <;> rw [h] <;> rfl
      simp at this
      omega
    · rw [if_neg h2]
      cases r with
      | nil => simp
      | cons c t => split <;> simp
/-- An item that is not wrong has one byte at least, and no more than there are. -/
theorem step1_size (r : List UInt8) (hr : r ≠ []) : 1 ≤ (step1 r).size ∧ (step1 r).size ≤ r.length := by
  cases r with
  | nil => exact absurd rfl hr
  | cons c t =>
    have h1 : 1 ≤ (c :: t).length := by simp
    show 1 ≤ (stepC c t).size ∧ (stepC c t).size ≤ _
    unfold stepC
    by_cases a1 : (c == 10) = true
    · rw [if_pos a1]; exact ⟨Nat.le_refl _, h1⟩
    rw [if_neg a1]
    by_cases a2 : (c == 32 || c == 9 || c == 13) = true
    · rw [if_pos a2]; exact ⟨Nat.le_refl _, h1⟩
    rw [if_neg a2]
    by_cases a3 : (c == 47 && t.head? == some 47) = true
    · rw [if_pos a3]
      refine ⟨?_, lineLen_le _⟩
      show 1 ≤ lineLen (c :: t)
      unfold lineLen
      rw [List.takeWhile_cons, if_pos (by simpa using a1)]
      simp
    rw [if_neg a3]
    by_cases a4 : (c == 47 && t.head? == some 42) = true
    · rw [if_pos a4]
      cases hk : closeAt (t.drop 1) with
      | none => exact ⟨Nat.le_refl _, h1⟩
      | some k =>
        have := closeAt_le _ _ hk
        simp only [List.length_drop] at this
        show 1 ≤ k + 4 ∧ k + 4 ≤ _
        simp only [List.length_cons]
        omega
    rw [if_neg a4]
    by_cases a5 : decide (60 < nameLen (c :: t)) = true
    · rw [if_pos a5]; exact ⟨Nat.le_refl _, h1⟩
    rw [if_neg a5]
    by_cases a6 : decide (0 < nameLen (c :: t)) = true
    · rw [if_pos a6]; exact ⟨of_decide_eq_true a6, nameFrom_le _ _⟩
    rw [if_neg a6]
    by_cases a7 : digitB c.toNat = true
    · rw [if_pos a7]
      unfold numItem
      split
      · exact ⟨Nat.le_refl _, h1⟩
      · refine ⟨?_, digits_le _⟩
        show 1 ≤ digits (c :: t)
        unfold digits
        rw [List.takeWhile_cons, if_pos a7]
        simp
    rw [if_neg a7]
    by_cases a8 : (c == 34) = true
    · rw [if_pos a8]
      rcases strItem_norem t.length t 1 [] (Nat.le_refl _) with ⟨k, m, x, h⟩ | ⟨o, h⟩
      · have := strItem_size t.length t 1 [] (Nat.le_refl _) (Nat.le_refl _) k m x h
        rw [h]
        show 1 ≤ m ∧ m ≤ _
        simp only [List.length_cons]
        omega
      · rw [h]; exact ⟨Nat.le_refl _, h1⟩
    rw [if_neg a8]
    by_cases a9 : (c == 59) = true
    · rw [if_pos a9]; exact ⟨Nat.le_refl _, h1⟩
    rw [if_neg a9]
    by_cases a10 : (signLen (c :: t) == 0) = true
    · rw [if_pos a10]; exact ⟨Nat.le_refl _, h1⟩
    rw [if_neg a10]
    have a11 : signLen (c :: t) ≠ 0 := by simpa using a10
    exact ⟨by show 1 ≤ signLen (c :: t); omega, signLen_le _⟩
theorem scanN_nil (f : Nat) (p : Nat) (l : List Tok) (c : List (Nat × Nat)) : scanN f [] p l c = .ok (lineT l p ++ [⟨7, p, p, []⟩]) c := by cases f <;> rfl
theorem scanN_cons (f : Nat) (a : UInt8) (t : List UInt8) (p : Nat) (l : List Tok) (c : List (Nat × Nat)) : scanN (f + 1) (a :: t) p l c = match step1 (a :: t) with
      | .nl => scanN f ((a :: t).drop 1) (p + 1) (lineT l p) c
      | .blank => scanN f ((a :: t).drop 1) (p + 1) l c
      | .rem n b => scanN f ((a :: t).drop n) (p + n) (if b then lineT l p else l) (c ++ [(p, p + n)])
      | .tok k n x => scanN f ((a :: t).drop n) (p + n) (l ++ [⟨k, p, p + n, x⟩]) c
      | .bad o => .bad (p + o) := rfl
theorem scanN_fuel : ∀ (f g : Nat) (r : List UInt8) (p : Nat) (l : List Tok) (c : List (Nat × Nat)), r.length ≤ f → r.length ≤ g → scanN f r p l c = scanN g r p l c
  | 0, g, r, p, l, c, hf, _ => by
    have : r = [] := List.eq_nil_of_length_eq_zero (by omega)
    subst this
    rw [scanN_nil, scanN_nil]
  | f + 1, 0, r, p, l, c, _, hg => by
    have : r = [] := List.eq_nil_of_length_eq_zero (by omega)
    subst this
    rw [scanN_nil, scanN_nil]
  | f + 1, g + 1, [], p, l, c, _, _ => rfl
  | f + 1, g + 1, a :: t, p, l, c, hf, hg => by
    have hs := step1_size (a :: t) (by simp)
    rw [scanN_cons, scanN_cons]
    cases h : step1 (a :: t) with
    | nl => simp only; exact scanN_fuel f g _ _ _ _ (by simp at *; omega) (by simp at *; omega)
    | blank => simp only; exact scanN_fuel f g _ _ _ _ (by simp at *; omega) (by simp at *; omega)
    | rem n b =>
      rw [h] at hs
      have : 1 ≤ n := hs.1
      simp only
      exact scanN_fuel f g _ _ _ _ (by rw [List.length_drop]; omega) (by rw [List.length_drop]; omega)
    | tok k n x =>
      rw [h] at hs
      have : 1 ≤ n := hs.1
      simp only
      exact scanN_fuel f g _ _ _ _ (by rw [List.length_drop]; omega) (by rw [List.length_drop]; omega)
    | bad o => rfl
theorem scanR_nil (p : Nat) (l : List Tok) (c : List (Nat × Nat)) : scanR [] p l c = .ok (lineT l p ++ [⟨7, p, p, []⟩]) c := rfl
/-- One step. -/
theorem scanR_step (r : List UInt8) (hr : r ≠ []) (p : Nat) (l : List Tok) (c : List (Nat × Nat)) : scanR r p l c = match step1 r with
    | .nl => scanR (r.drop 1) (p + 1) (lineT l p) c
    | .blank => scanR (r.drop 1) (p + 1) l c
    | .rem n b => scanR (r.drop n) (p + n) (if b then lineT l p else l) (c ++ [(p, p + n)])
    | .tok k n x => scanR (r.drop n) (p + n) (l ++ [⟨k, p, p + n, x⟩]) c
    | .bad o => .bad (p + o) := by
  have hs := step1_size r hr
  cases r with
  | nil => exact absurd rfl hr
  | cons a t =>
    show scanN (t.length + 1) (a :: t) p l c = _
    rw [scanN_cons]
    cases h : step1 (a :: t) with
    | nl => rfl
    | blank => rfl
    | rem n b =>
      rw [h] at hs
      have : 1 ≤ n := hs.1
      simp only
      exact scanN_fuel _ _ _ _ _ _ (by rw [List.length_drop]; simp only [List.length_cons]; omega) (Nat.le_refl _)
    | tok k n x =>
      rw [h] at hs
      have : 1 ≤ n := hs.1
      simp only
      exact scanN_fuel _ _ _ _ _ _ (by rw [List.length_drop]; simp only [List.length_cons]; omega) (Nat.le_refl _)
    | bad o => rfl
/-- A text that may be a source's. -/
def validS (l : List UInt8) : Bool := Lib.validD l && !l.contains 0
/-- All that is told of a source: a text that is none; else as above. -/
def scanAll (l : List UInt8) : Option Told3 := if decide (l.length ≤ 65536) && validS l then some (scanR l 0 [] []) else none

end Go.Proofs.YtdgjegkoncodaaaDoor
