/- What Quote tells, plain; it is one string that says the text. No condition. -/
import Derived.Test.YtdgjegkoncodaaaDoorScGlue
namespace Go.Proofs.YtdgjegkoncodaaaDoor
open Go.RowKit

/-- A byte within quotes. -/
def qc (c : UInt8) : List UInt8 := if c = 92 ∨ c = 34 then [92, c] else if c = 10 then [92, 110] else if c = 9 then [92, 116] else [c]
def qb (l : List UInt8) : List UInt8 := l.flatMap qc
def quoteL (l : List UInt8) : List UInt8 := 34 :: (qb l ++ [34])
def plainB (c : UInt8) : Prop := c ≠ 92 ∧ c ≠ 34 ∧ c ≠ 10 ∧ c ≠ 9
theorem qc_plain {c : UInt8} (h : plainB c) : qc c = [c] := by
  obtain ⟨h1, h2, h3, h4⟩ := h
  unfold qc
  rw [if_neg (by rintro (h | h); exact h1 h; exact h2 h), if_neg h3, if_neg h4]
theorem qb_app (a b : List UInt8) : qb (a ++ b) = qb a ++ qb b := by unfold qb; rw [List.flatMap_append]
theorem qb_cons (c : UInt8) (l : List UInt8) : qb (c :: l) = qc c ++ qb l := rfl
theorem qb_plain : ∀ (l : List UInt8), (∀ c ∈ l, plainB c) → qb l = l
  | [], _ => rfl
  | c :: l, h => by rw [qb_cons, qc_plain (h c (by simp)), qb_plain l (fun d hd => h d (by simp [hd]))]; rfl
theorem qc_len (c : UInt8) : 1 ≤ (qc c).length ∧ (qc c).length ≤ 2 := by
  unfold qc
  split
  · simp
  · split
    · simp
    · split <;> simp
theorem qb_len : ∀ (l : List UInt8), (qb l).length ≤ 2 * l.length
  | [] => Nat.le_refl _
  | c :: l => by
    have := qb_len l
    have := (qc_len c).2
    rw [qb_cons, List.length_append, List.length_cons]
    omega
theorem qb_len1 : ∀ (l : List UInt8), l.length ≤ (qb l).length
  | [] => Nat.le_refl _
  | c :: l => by
    have := qb_len1 l
    have := (qc_len c).1
    rw [qb_cons, List.length_append, List.length_cons]
    omega
theorem qb_split {l : List UInt8} {f p : Nat} (hfp : f ≤ p) (h : ∀ c ∈ (l.drop f).take (p - f), plainB c) : qb (l.take p) = qb (l.take f) ++ (l.drop f).take (p - f) := by
  have e : l.take p = l.take f ++ (l.drop f).take (p - f) := by
    have := List.take_add (l := l) (i := f) (j := p - f)
    rw [show f + (p - f) = p by omega] at this
    exact this
  rw [e, qb_app, qb_plain _ h]
/-- A special byte behind bytes that are none. -/
theorem qb_step {l : List UInt8} {f p : Nat} (hfp : f ≤ p) (hp : p < l.length) (h : ∀ c ∈ (l.drop f).take (p - f), plainB c) : qb (l.take (p + 1)) = qb (l.take f) ++ ((l.drop f).take (p - f) ++ qc l[p]) := by
  rw [List.take_succ_eq_append_getElem hp, qb_app, qb_split hfp h, List.append_assoc]
  congr 2
  rw [qb_cons]
  simp [qb]
theorem qc_low (c : UInt8) : ∀ b ∈ qc c, plainB c ∧ b = c ∨ b.toNat < 128 := by
  intro b hb
  by_cases h : plainB c
  · rw [qc_plain h] at hb
    exact .inl ⟨h, by simpa using hb⟩
  · right
    unfold qc at hb
    by_cases h1 : c = 92 ∨ c = 34
    · rw [if_pos h1] at hb
      simp at hb
      rcases hb with rfl | rfl
      · decide
      · rcases h1 with rfl | rfl <;> decide
    rw [if_neg h1] at hb
    by_cases h2 : c = 10
    · rw [if_pos h2] at hb
      simp at hb
      rcases hb with rfl | rfl <;> decide
    rw [if_neg h2] at hb
    by_cases h3 : c = 9
    · rw [if_pos h3] at hb
      simp at hb
      rcases hb with rfl | rfl <;> decide
    · exact absurd ⟨fun e => h1 (.inl e), fun e => h1 (.inr e), h2, h3⟩ h
theorem validD_low : ∀ (a b : List UInt8), (∀ c ∈ a, c.toNat < 128) → Lib.validD (a ++ b) = Lib.validD b
  | [], _, _ => rfl
  | c :: a, b, h => by rw [List.cons_append, Lib.validD_cons _ _ (h c (by simp)), validD_low a b (fun d hd => h d (by simp [hd]))]
theorem special_low {c : UInt8} (h : ¬ plainB c) : c.toNat < 128 := by
  unfold plainB at h
  by_cases h1 : c = 92
  · subst h1; decide
  by_cases h2 : c = 34
  · subst h2; decide
  by_cases h3 : c = 10
  · subst h3; decide
  by_cases h4 : c = 9
  · subst h4; decide
  exact absurd ⟨h1, h2, h3, h4⟩ h
theorem headA_qb : ∀ (l r : List UInt8), headA l → headA r → headA (qb l ++ r)
  | [], r, _, h => h
  | c :: l, r, h, _ => by
    intro b hb
    have hc := h c rfl
    rw [qb_cons, List.append_assoc] at hb
    cases hq : qc c with
    | nil => have := (qc_len c).1; rw [hq] at this; simp at this
    | cons x y =>
      rw [hq] at hb
      have hx : x = b := by simpa using hb
      rcases qc_low c x (by rw [hq]; simp) with ⟨_, e⟩ | e
      · rw [← hx, e]; exact hc
      · rw [← hx]; exact e
theorem valid_qb : ∀ (n : Nat) (l r : List UInt8), l.length ≤ n → headA r → Lib.validD r = true → Lib.validD l = true → Lib.validD (qb l ++ r) = true
  | _, [], r, _, _, hv, _ => hv
  | 0, c :: l, r, h, _, _, _ => by simp at h
  | n + 1, c :: l, r, h, hr, hv, hl => by
    simp only [List.length_cons] at h
    -- the bytes ahead of the first special one
    obtain ⟨A, B, hAB, hA, hB⟩ : ∃ A B, c :: l = A ++ B ∧ (∀ x ∈ A, plainB x) ∧ (B = [] ∨ ∃ y t, B = y :: t ∧ ¬ plainB y) := by
      clear h hl
      generalize c :: l = z
      induction z with
      | nil => exact ⟨[], [], rfl, (fun x hx => by cases hx), .inl rfl⟩
      | cons x t ih =>
        by_cases hx : plainB x
        · obtain ⟨A, B, e, h1, h2⟩ := ih
          exact ⟨x :: A, B, by rw [e]; rfl, fun y hy => by rcases List.mem_cons.1 hy with rfl | hy; exact hx; exact h1 y hy, h2⟩
        · exact ⟨[], x :: t, rfl, (fun y hy => by cases hy), .inr ⟨x, t, rfl, hx⟩⟩
    have hBh : headA B := by
      rcases hB with rfl | ⟨y, t, rfl, hy⟩
      · intro b hb; cases hb
      · intro b hb; cases hb; exact special_low hy
    rw [hAB, validD_app _ A B (Nat.le_refl _) hBh, Bool.and_eq_true] at hl
    rw [hAB, qb_app, qb_plain A hA, List.append_assoc, validD_app _ A _ (Nat.le_refl _) (headA_qb B r hBh hr), hl.1, Bool.true_and]
    rcases hB with rfl | ⟨y, t, rfl, hy⟩
    · exact hv
    · rw [qb_cons, List.append_assoc, validD_low (qc y) _ (fun b hb => by
        rcases qc_low y b hb with ⟨e, _⟩ | e
        · exact absurd e hy
        · exact e)]
      have hlen := congrArg List.length hAB
      simp only [List.length_cons, List.length_append] at hlen
      refine valid_qb n t r (by omega) hr hv ?_
      have := hl.2
      rwa [Lib.validD_cons _ _ (special_low hy)] at this
theorem zero_qb : ∀ (l : List UInt8), (qb l).contains 0 = l.contains 0
  | [] => rfl
  | c :: l => by
    rw [qb_cons, List.contains_append, zero_qb l, List.contains_cons]
    congr 1
    by_cases h : plainB c
    · rw [qc_plain h]; simp; rfl
    · unfold qc
      unfold plainB at h
      by_cases h1 : c = 92 ∨ c = 34
      · rw [if_pos h1]
        rcases h1 with rfl | rfl <;> decide
      rw [if_neg h1]
      by_cases h2 : c = 10
      · subst h2; decide
      rw [if_neg h2]
      by_cases h3 : c = 9
      · subst h3; decide
      · exact absurd ⟨fun e => h1 (.inl e), fun e => h1 (.inr e), h2, h3⟩ h
theorem valid_quote {l : List UInt8} (h : validS l = true) : validS (quoteL l) = true := by
  unfold validS at h ⊢
  rw [Bool.and_eq_true] at h
  have h2 : l.contains 0 = false := by simpa using h.2
  unfold quoteL
  rw [Lib.validD_cons _ _ (by decide), valid_qb _ l [34] (Nat.le_refl _) (by intro b hb; cases hb; decide) (by decide) h.1, List.contains_cons, List.contains_append, zero_qb, h2]
  decide
theorem str_quote : ∀ (l r : List UInt8) (p : Nat) (out : List UInt8), strItem (qb l ++ 34 :: r) p out = .tok 3 (p + (qb l).length + 1) (out ++ l)
  | [], r, p, out => by
    rw [show qb [] = [] from rfl, List.nil_append, strItem_cons, if_neg (by decide), if_pos (by decide), List.append_nil]
    rfl
  | c :: l, r, p, out => by
    rw [qb_cons, List.append_assoc, List.length_append]
    by_cases h : plainB c
    · obtain ⟨h1, h2, h3, h4⟩ := h
      rw [qc_plain ⟨h1, h2, h3, h4⟩, List.singleton_append, strItem_cons, if_neg (by simpa using h3), if_neg (by simpa using h2), if_neg (by simpa using h1), str_quote l r (p + 1) (out ++ [c]), List.append_assoc]
      congr 1
      simp; omega
    · have go : ∀ x, qc c = [92, x] → escB x = some c → strItem (qc c ++ (qb l ++ 34 :: r)) p out = .tok 3 (p + ((qc c).length + (qb l).length) + 1) (out ++ c :: l) := by
        intro x hq he
        rw [hq]
        show strItem (92 :: x :: (qb l ++ 34 :: r)) p out = _
        rw [strItem_cons, if_neg (by decide), if_neg (by decide), if_pos (by decide), List.head?_cons, Option.bind_some, he]
        show strItem (qb l ++ 34 :: r) (p + 2) (out ++ [c]) = _
        rw [str_quote l r (p + 2) (out ++ [c]), List.append_assoc]
        congr 1
        simp; omega
      by_cases h1 : c = 92
      · subst h1; exact go 92 (by decide) (by decide)
      by_cases h2 : c = 34
      · subst h2; exact go 34 (by decide) (by decide)
      by_cases h3 : c = 10
      · subst h3; exact go 110 (by decide) (by decide)
      by_cases h4 : c = 9
      · subst h4; exact go 116 (by decide) (by decide)
      exact absurd ⟨h1, h2, h3, h4⟩ h
theorem quote_step (l : List UInt8) : step1 (quoteL l) = .tok 3 (quoteL l).length l := by
  have hnm : nameLen (34 :: (qb l ++ [34])) = 0 := rfl
  show stepC 34 (qb l ++ [34]) = _
  unfold stepC
  rw [if_neg (by decide), if_neg (by decide), if_neg (by simp), if_neg (by simp), hnm, if_neg (by decide), if_neg (by decide), if_neg (by decide), if_pos (by decide), str_quote l [] 1 []]
  unfold quoteL
  congr 1
  simp; omega
/-- The plain law of ScanQuotes. -/
theorem quote_law {l : List UInt8} (hv : validS l = true) (hl : l.length ≤ 4000) :
    resT (scanAll (quoteL l)) = (0, 0, [⟨3, 0, (quoteL l).length, l⟩, ⟨6, (quoteL l).length, (quoteL l).length, [10]⟩, ⟨7, (quoteL l).length, (quoteL l).length, []⟩], []) := by
  have hs := quote_step l
  have hlen : (quoteL l).length ≤ 65536 := by
    have := qb_len l
    unfold quoteL
    simp
    omega
  have h1 : Sc3 (quoteL l) 0 false (⟨3, 0, 0 + (quoteL l).length, l⟩ :: (lineE true (0 + (quoteL l).length) ++ [⟨7, 0 + (quoteL l).length, 0 + (quoteL l).length, []⟩])) [] := by
    refine Sc3.tok (c := 34) (t := qb l ++ [34]) hs ?_
    rw [show (34 :: (qb l ++ [34])).drop (quoteL l).length = [] from List.drop_length]
    exact .done _ _
  have := ok_to h1 (valid_quote hv) hlen
  rw [Nat.zero_add] at this
  exact this
/-- What the rune at a text's head tells of its bytes. -/
theorem dec_plain {l : List UInt8} (hne : l ≠ []) : ((Lib.decodeL l).1 < 128 → (Lib.decodeL l).2 = 1 ∧ (l.getD 0 0).toNat = (Lib.decodeL l).1) ∧
    ((Lib.decodeL l).1 ≠ 92 → (Lib.decodeL l).1 ≠ 34 → (Lib.decodeL l).1 ≠ 10 → (Lib.decodeL l).1 ≠ 9 → ∀ c ∈ l.take (Lib.decodeL l).2, plainB c) := by
  have high : ∀ c : UInt8, 128 ≤ c.toNat → plainB c := fun c h => ⟨fun e => by rw [e] at h; exact absurd h (by decide), fun e => by rw [e] at h; exact absurd h (by decide), fun e => by rw [e] at h; exact absurd h (by decide), fun e => by rw [e] at h; exact absurd h (by decide)⟩
  obtain ⟨y, t, rfl⟩ : ∃ y t, l = y :: t := by cases l with | nil => exact absurd rfl hne | cons y t => exact ⟨y, t, rfl⟩
  rcases dec_cases (y :: t) hne with ⟨h1, h2⟩ | ⟨h1, h2⟩ | ⟨h1, h2, h3, h4⟩
  · rw [h2]
    refine ⟨fun _ => ⟨rfl, rfl⟩, fun a b c d x hx => ?_⟩
    have : x = y := by simpa using hx
    subst this
    refine ⟨fun e => a ?_, fun e => b ?_, fun e => c ?_, fun e => d ?_⟩ <;> (rw [e]; rfl)
  · rw [h2]
    simp only [List.getD_cons_zero] at h1
    refine ⟨fun h => absurd h (by decide), fun _ _ _ _ x hx => ?_⟩
    have : x = y := by simpa using hx
    subst this
    exact high _ h1
  · refine ⟨(fun h => by omega), fun _ _ _ _ x hx => ?_⟩
    obtain ⟨j, hj, e⟩ := List.mem_iff_getElem.1 hx
    rw [List.length_take] at hj
    have h5 := h4 j (by omega)
    rw [List.getElem_take] at e
    rw [List.getD, List.getElem?_eq_getElem (by omega), Option.getD_some, e] at h5
    exact high _ h5
end Go.Proofs.YtdgjegkoncodaaaDoor
