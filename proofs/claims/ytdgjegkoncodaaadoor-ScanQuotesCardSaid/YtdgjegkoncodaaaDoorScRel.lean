/- A source's tokens as a relation that depends on the text from there on alone; they are moved, joined, parted. No condition. -/
import Derived.Test.YtdgjegkoncodaaaDoorScIns
namespace Go.Proofs.YtdgjegkoncodaaaDoor
open Go.RowKit

/-- May a stmt end behind the last token? -/
def lastE (l : List Tok) : Bool := match l.getLast? with
  | some t => endsB t.kind t.text
  | none => false
/-- What a line's end gives. -/
def lineE (e : Bool) (p : Nat) : List Tok := if e then [⟨6, p, p, [10]⟩] else []
theorem lineT_E (l : List Tok) (p : Nat) : lineT l p = l ++ lineE (lastE l) p := by
  unfold lineT lineE lastE
  cases l.getLast? with
  | none => simp
  | some t => cases h : endsB t.kind t.text <;> simp [h]
theorem lastE_push (l : List Tok) (t : Tok) : lastE (l ++ [t]) = endsB t.kind t.text := by
  unfold lastE
  rw [List.getLast?_append]
  rfl
theorem lastE_line (l : List Tok) (p : Nat) : lastE (l ++ lineE (lastE l) p) = false := by
  cases h : lastE l with
  | true => exact lastE_push _ _
  | false => rw [show lineE false p = [] from rfl, List.append_nil]; exact h
/-- From a text's place p on, a stmt may have ended (e): these tokens, these remarks. -/
inductive Sc3 : List UInt8 → Nat → Bool → List Tok → List (Nat × Nat) → Prop
  | done (p : Nat) (e : Bool) : Sc3 [] p e (lineE e p ++ [⟨7, p, p, []⟩]) []
  | nl {c : UInt8} {t : List UInt8} {p : Nat} {e : Bool} {l : List Tok} {s : List (Nat × Nat)} (h : step1 (c :: t) = .nl) (hr : Sc3 t (p + 1) false l s) : Sc3 (c :: t) p e (lineE e p ++ l) s
  | blank {c : UInt8} {t : List UInt8} {p : Nat} {e : Bool} {l : List Tok} {s : List (Nat × Nat)} (h : step1 (c :: t) = .blank) (hr : Sc3 t (p + 1) e l s) : Sc3 (c :: t) p e l s
  | rem {c : UInt8} {t : List UInt8} {p : Nat} {e : Bool} {l : List Tok} {s : List (Nat × Nat)} {n : Nat} {b : Bool} (h : step1 (c :: t) = .rem n b) (hr : Sc3 ((c :: t).drop n) (p + n) (e && !b) l s) : Sc3 (c :: t) p e (lineE (e && b) p ++ l) ((p, p + n) :: s)
  | tok {c : UInt8} {t : List UInt8} {p : Nat} {e : Bool} {l : List Tok} {s : List (Nat × Nat)} {k : Int} {n : Nat} {x : List UInt8} (h : step1 (c :: t) = .tok k n x) (hr : Sc3 ((c :: t).drop n) (p + n) (endsB k x) l s) : Sc3 (c :: t) p e (⟨k, p, p + n, x⟩ :: l) s
theorem sc3_of : ∀ (m : Nat) (r : List UInt8) (p : Nat) (l0 : List Tok) (c0 : List (Nat × Nat)) (L : List Tok) (C : List (Nat × Nat)), r.length ≤ m → scanR r p l0 c0 = .ok L C → ∃ l c, Sc3 r p (lastE l0) l c ∧ L = l0 ++ l ∧ C = c0 ++ c
  | _, [], p, l0, c0, L, C, _, h => by
    rw [scanR_nil] at h
    injection h with h1 h2
    exact ⟨_, _, .done p _, by rw [← h1, lineT_E, List.append_assoc], by rw [← h2, List.append_nil]⟩
  | 0, c :: t, p, l0, c0, L, C, hm, h => by simp at hm
  | m + 1, c :: t, p, l0, c0, L, C, hm, h => by
    have hs := step1_size (c :: t) (by simp)
    rw [scanR_step _ (by simp)] at h
    have hlen : ∀ n, 1 ≤ n → ((c :: t).drop n).length ≤ m := fun n hn => by rw [List.length_drop]; simp only [List.length_cons] at hm ⊢; omega
    cases hx : step1 (c :: t) with
    | nl =>
      rw [hx] at h
      obtain ⟨l, s, h1, h2, h3⟩ := sc3_of m _ _ _ _ L C (hlen 1 (Nat.le_refl _)) h
      rw [lineT_E, lastE_line] at h1
      exact ⟨_, _, .nl hx h1, by rw [h2, lineT_E, List.append_assoc], h3⟩
    | blank =>
      rw [hx] at h
      obtain ⟨l, s, h1, h2, h3⟩ := sc3_of m _ _ _ _ L C (hlen 1 (Nat.le_refl _)) h
      exact ⟨_, _, .blank hx h1, h2, h3⟩
    | rem n b =>
      rw [hx] at h hs
      obtain ⟨l, s, h1, h2, h3⟩ := sc3_of m _ _ _ _ L C (hlen n hs.1) h
      refine ⟨_, _, .rem (l := l) (s := s) hx ?_, ?_, ?_⟩
      · cases b with
        | true => rw [if_pos rfl, lineT_E, lastE_line] at h1; simpa using h1
        | false => rw [if_neg (by decide)] at h1; simpa using h1
      · cases b with
        | true => rw [h2, if_pos rfl, lineT_E, Bool.and_true, List.append_assoc]
        | false => rw [h2, if_neg (by decide), Bool.and_false]; rfl
      · rw [h3, List.append_assoc]; rfl
    | tok k n x =>
      rw [hx] at h hs
      obtain ⟨l, s, h1, h2, h3⟩ := sc3_of m _ _ _ _ L C (hlen n hs.1) h
      rw [lastE_push] at h1
      exact ⟨_, _, .tok hx h1, by rw [h2, List.append_assoc]; rfl, h3⟩
    | bad o => rw [hx] at h; cases h
theorem sc3_to {r : List UInt8} {p : Nat} {e : Bool} {l : List Tok} {c : List (Nat × Nat)} (h : Sc3 r p e l c) : ∀ l0 c0, lastE l0 = e → scanR r p l0 c0 = .ok (l0 ++ l) (c0 ++ c) := by
  induction h with
  | done p e =>
    intro l0 c0 he
    rw [scanR_nil, lineT_E, he, List.append_assoc, List.append_nil]
  | nl hx _ ih =>
    intro l0 c0 he
    rw [scanR_step _ (by simp), hx]
    simp only [List.drop_succ_cons, List.drop_zero]
    rw [ih _ _ (by rw [lineT_E, lastE_line]), lineT_E, he, List.append_assoc]
  | blank hx _ ih =>
    intro l0 c0 he
    rw [scanR_step _ (by simp), hx]
    simp only [List.drop_succ_cons, List.drop_zero]
    rw [ih _ _ he]
  | @rem c t p e l s n b hx _ ih =>
    intro l0 c0 he
    rw [scanR_step _ (by simp), hx]
    simp only
    cases b with
    | true => rw [ih _ _ (by rw [if_pos rfl, lineT_E, lastE_line]; simp), if_pos rfl, lineT_E, he, Bool.and_true, List.append_assoc, List.append_assoc]; rfl
    | false => rw [ih _ _ (by rw [if_neg (by decide)]; simp [he]), if_neg (by decide), Bool.and_false, List.append_assoc]; rfl
  | tok hx _ ih =>
    intro l0 c0 he
    rw [scanR_step _ (by simp), hx]
    simp only
    rw [ih _ _ (lastE_push _ _), List.append_assoc]
    rfl
/-- Tokens, remarks moved on. -/
def mvT (d : Nat) (t : Tok) : Tok := ⟨t.kind, t.frm + d, t.to + d, t.text⟩
def mvC (d : Nat) (x : Nat × Nat) : Nat × Nat := (x.1 + d, x.2 + d)
theorem lineE_mv (e : Bool) (p d : Nat) : (lineE e p).map (mvT d) = lineE e (p + d) := by cases e <;> rfl
theorem sc3_mv {r : List UInt8} {p : Nat} {e : Bool} {l : List Tok} {c : List (Nat × Nat)} (h : Sc3 r p e l c) (d : Nat) : Sc3 r (p + d) e (l.map (mvT d)) (c.map (mvC d)) := by
  induction h with
  | done p e =>
    rw [List.map_append, lineE_mv]
    exact .done _ _
  | nl hx _ ih =>
    rw [List.map_append, lineE_mv]
    exact .nl hx (by rw [Nat.add_right_comm]; exact ih)
  | blank hx _ ih => exact .blank hx (by rw [Nat.add_right_comm]; exact ih)
  | @rem c t p e l s n b hx _ ih =>
    rw [List.map_append, lineE_mv, List.map_cons, show mvC d (p, p + n) = (p + d, p + d + n) from by unfold mvC; rw [Nat.add_right_comm]]
    exact .rem hx (by rw [Nat.add_right_comm]; exact ih)
  | @tok c t p e l s k n x hx _ ih =>
    rw [List.map_cons, show mvT d ⟨k, p, p + n, x⟩ = ⟨k, p + d, p + d + n, x⟩ from by unfold mvT; simp only [Nat.add_right_comm]]
    exact .tok hx (by rw [Nat.add_right_comm]; exact ih)
/-- The last token stands at the end; it is no other. -/
theorem sc3_end {r : List UInt8} {p : Nat} {e : Bool} {l : List Tok} {c : List (Nat × Nat)} (h : Sc3 r p e l c) : ∃ l', l = l' ++ [⟨7, p + r.length, p + r.length, []⟩] := by
  induction h with
  | done p e => exact ⟨_, rfl⟩
  | @nl c t p e l s hx _ ih => obtain ⟨l', rfl⟩ := ih; exact ⟨lineE e p ++ l', by rw [List.append_assoc, show p + (c :: t).length = p + 1 + t.length by simp; omega]⟩
  | @blank c t p e l s hx _ ih => obtain ⟨l', rfl⟩ := ih; exact ⟨l', by rw [show p + (c :: t).length = p + 1 + t.length by simp; omega]⟩
  | @rem c t p e l s n b hx _ ih =>
    have hs := step1_size (c :: t) (by simp)
    rw [hx] at hs
    obtain ⟨l', rfl⟩ := ih
    refine ⟨lineE (e && b) p ++ l', ?_⟩
    have h2 : n ≤ (c :: t).length := hs.2
    rw [List.append_assoc, List.length_drop, show p + n + ((c :: t).length - n) = p + (c :: t).length by omega]
  | @tok c t p e l s k n x hx _ ih =>
    have hs := step1_size (c :: t) (by simp)
    rw [hx] at hs
    obtain ⟨l', rfl⟩ := ih
    refine ⟨⟨k, p, p + n, x⟩ :: l', ?_⟩
    have h2 : n ≤ (c :: t).length := hs.2
    rw [List.length_drop, show p + n + ((c :: t).length - n) = p + (c :: t).length by omega]
    rfl
theorem step1_nl (t : List UInt8) : step1 (10 :: t) = .nl := rfl
theorem step1_sp (t : List UInt8) : step1 (32 :: t) = .blank := rfl
theorem step1_tab (t : List UInt8) : step1 (9 :: t) = .blank := rfl
/-- Two sources with an empty line between. -/
theorem sc3_join {r : List UInt8} {p : Nat} {e : Bool} {l : List Tok} {c : List (Nat × Nat)} (h : Sc3 r p e l c) : ∀ (b : List UInt8) (l2 : List Tok) (c2 : List (Nat × Nat)), Sc3 b (p + r.length + 2) false l2 c2 → Sc3 (r ++ 10 :: 10 :: b) p e (l.dropLast ++ l2) (c ++ c2) := by
  induction h with
  | done p e =>
    intro b l2 c2 h2
    rw [List.dropLast_concat]
    exact .nl (step1_nl _) (.nl (e := false) (step1_nl _) h2)
  | @nl c t p e l s hx hr ih =>
    intro b l2 c2 h2
    obtain ⟨l', hl'⟩ := sc3_end hr
    have := ih b l2 c2 (by rw [show p + 1 + t.length = p + (c :: t).length by simp; omega]; exact h2)
    rw [hl', ← List.append_assoc, List.dropLast_concat, List.append_assoc]
    rw [hl', List.dropLast_concat] at this
    have hs := step_ins (c := c) (t := t) (y := 10 :: b) (d := 10) (.inl rfl) (Nat.le_refl _) (by rw [hx]; intro o h; cases h) (step1_size (c :: t) (by simp)).2 (fun _ => .inr rfl)
    rw [List.take_length, hx] at hs
    exact .nl hs this
  | @blank c t p e l s hx hr ih =>
    intro b l2 c2 h2
    have := ih b l2 c2 (by rw [show p + 1 + t.length = p + (c :: t).length by simp; omega]; exact h2)
    have hs := step_ins (c := c) (t := t) (y := 10 :: b) (d := 10) (.inl rfl) (Nat.le_refl _) (by rw [hx]; intro o h; cases h) (step1_size (c :: t) (by simp)).2 (fun _ => .inr rfl)
    rw [List.take_length, hx] at hs
    exact .blank hs this
  | @rem c t p e l s n bb hx hr ih =>
    intro b l2 c2 h2
    have hz := step1_size (c :: t) (by simp)
    obtain ⟨l', hl'⟩ := sc3_end hr
    have hs := step_ins (c := c) (t := t) (y := 10 :: b) (d := 10) (.inl rfl) (Nat.le_refl _) (by rw [hx]; intro o h; cases h) hz.2 (fun _ => .inr rfl)
    rw [hx] at hz
    have hn : n ≤ (c :: t).length := hz.2
    have := ih b l2 c2 (by rw [List.length_drop, show p + n + ((c :: t).length - n) = p + (c :: t).length by omega]; exact h2)
    rw [hl', ← List.append_assoc, List.dropLast_concat, List.append_assoc]
    rw [hl', List.dropLast_concat] at this
    rw [List.take_length, hx] at hs
    exact .rem hs (by show Sc3 (List.drop n ((c :: t) ++ 10 :: 10 :: b)) _ _ _ _; rw [List.drop_append_of_le_length hn]; exact this)
  | @tok c t p e l s k n x hx hr ih =>
    intro b l2 c2 h2
    have hz := step1_size (c :: t) (by simp)
    obtain ⟨l', hl'⟩ := sc3_end hr
    have hs := step_ins (c := c) (t := t) (y := 10 :: b) (d := 10) (.inl rfl) (Nat.le_refl _) (by rw [hx]; intro o h; cases h) hz.2 (fun _ => .inr rfl)
    rw [hx] at hz
    have hn : n ≤ (c :: t).length := hz.2
    have := ih b l2 c2 (by rw [List.length_drop, show p + n + ((c :: t).length - n) = p + (c :: t).length by omega]; exact h2)
    rw [hl', ← List.cons_append, List.dropLast_concat]
    rw [hl', List.dropLast_concat] at this
    rw [List.take_length, hx] at hs
    exact .tok hs (by show Sc3 (List.drop n ((c :: t) ++ 10 :: 10 :: b)) _ _ _ _; rw [List.drop_append_of_le_length hn]; exact this)
end Go.Proofs.YtdgjegkoncodaaaDoor
