/- The plain law of ScanBlanks. No condition. -/
import Derived.Test.YtdgjegkoncodaaaDoorScGlue
namespace Go.Proofs.YtdgjegkoncodaaaDoor
open Go.RowKit

theorem nl_head {c : UInt8} {t : List UInt8} (h : step1 (c :: t) = .nl) : c = 10 := by
  by_cases a1 : (c == 10) = true
  · exact eq_of_beq a1
  exfalso
  have h : stepC c t = .nl := h
  unfold stepC at h
  rw [if_neg a1] at h
  by_cases a2 : (c == 32 || c == 9 || c == 13) = true
  · rw [if_pos a2] at h; cases h
  rw [if_neg a2] at h
  by_cases a3 : (c == 47 && t.head? == some 47) = true
  · rw [if_pos a3] at h; cases h
  rw [if_neg a3] at h
  by_cases a4 : (c == 47 && t.head? == some 42) = true
  · rw [if_pos a4] at h
    cases hk : closeAt (t.drop 1) with
    | none => rw [hk] at h; cases h
    | some k => rw [hk] at h; cases h
  rw [if_neg a4] at h
  by_cases a5 : decide (60 < nameLen (c :: t)) = true
  · rw [if_pos a5] at h; cases h
  rw [if_neg a5] at h
  by_cases a6 : decide (0 < nameLen (c :: t)) = true
  · rw [if_pos a6] at h; cases h
  rw [if_neg a6] at h
  by_cases a7 : digitB c.toNat = true
  · rw [if_pos a7] at h
    unfold numItem at h
    split at h <;> cases h
  rw [if_neg a7] at h
  by_cases a8 : (c == 34) = true
  · rw [if_pos a8] at h
    rcases strItem_norem t.length t 1 [] (Nat.le_refl _) with ⟨k, s, x, e⟩ | ⟨o, e⟩ <;> (rw [e] at h; cases h)
  rw [if_neg a8] at h
  by_cases a9 : (c == 59) = true
  · rw [if_pos a9] at h; cases h
  rw [if_neg a9] at h
  by_cases a10 : (signLen (c :: t) == 0) = true
  · rw [if_pos a10] at h; cases h
  · rw [if_neg a10] at h; cases h
theorem blank_head {c : UInt8} {t : List UInt8} (h : step1 (c :: t) = .blank) : (c == 32 || c == 9 || c == 13) = true := by
  by_cases a2 : (c == 32 || c == 9 || c == 13) = true
  · exact a2
  exfalso
  have h : stepC c t = .blank := h
  unfold stepC at h
  by_cases a1 : (c == 10) = true
  · rw [if_pos a1] at h; cases h
  rw [if_neg a1, if_neg a2] at h
  by_cases a3 : (c == 47 && t.head? == some 47) = true
  · rw [if_pos a3] at h; cases h
  rw [if_neg a3] at h
  by_cases a4 : (c == 47 && t.head? == some 42) = true
  · rw [if_pos a4] at h
    cases hk : closeAt (t.drop 1) with
    | none => rw [hk] at h; cases h
    | some k => rw [hk] at h; cases h
  rw [if_neg a4] at h
  by_cases a5 : decide (60 < nameLen (c :: t)) = true
  · rw [if_pos a5] at h; cases h
  rw [if_neg a5] at h
  by_cases a6 : decide (0 < nameLen (c :: t)) = true
  · rw [if_pos a6] at h; cases h
  rw [if_neg a6] at h
  by_cases a7 : digitB c.toNat = true
  · rw [if_pos a7] at h
    unfold numItem at h
    split at h <;> cases h
  rw [if_neg a7] at h
  by_cases a8 : (c == 34) = true
  · rw [if_pos a8] at h
    rcases strItem_norem t.length t 1 [] (Nat.le_refl _) with ⟨k, s, x, e⟩ | ⟨o, e⟩ <;> (rw [e] at h; cases h)
  rw [if_neg a8] at h
  by_cases a9 : (c == 59) = true
  · rw [if_pos a9] at h; cases h
  rw [if_neg a9] at h
  by_cases a10 : (signLen (c :: t) == 0) = true
  · rw [if_pos a10] at h; cases h
  · rw [if_neg a10] at h; cases h
/-- What a remark begins with; what is no token or remark. -/
theorem rem_head {c : UInt8} {t : List UInt8} {n : Nat} {b : Bool} (h : step1 (c :: t) = .rem n b) : c = 47 ∧ ((c == 47 && t.head? == some 47) = true → n = lineLen (c :: t) ∧ b = false) := by
  have h : stepC c t = .rem n b := h
  unfold stepC at h
  by_cases a1 : (c == 10) = true
  · rw [if_pos a1] at h; cases h
  rw [if_neg a1] at h
  by_cases a2 : (c == 32 || c == 9 || c == 13) = true
  · rw [if_pos a2] at h; cases h
  rw [if_neg a2] at h
  by_cases a3 : (c == 47 && t.head? == some 47) = true
  · rw [if_pos a3] at h
    injection h with h1 h2
    rw [Bool.and_eq_true] at a3
    exact ⟨eq_of_beq a3.1, fun _ => ⟨h1.symm, h2.symm⟩⟩
  rw [if_neg a3] at h
  refine ⟨?_, fun e => absurd e a3⟩
  by_cases a4 : (c == 47 && t.head? == some 42) = true
  · rw [Bool.and_eq_true] at a4
    exact eq_of_beq a4.1
  exfalso
  rw [if_neg a4] at h
  by_cases a5 : decide (60 < nameLen (c :: t)) = true
  · rw [if_pos a5] at h; cases h
  rw [if_neg a5] at h
  by_cases a6 : decide (0 < nameLen (c :: t)) = true
  · rw [if_pos a6] at h; cases h
  rw [if_neg a6] at h
  by_cases a7 : digitB c.toNat = true
  · rw [if_pos a7] at h
    unfold numItem at h
    split at h <;> cases h
  rw [if_neg a7] at h
  by_cases a8 : (c == 34) = true
  · rw [if_pos a8] at h
    rcases strItem_norem t.length t 1 [] (Nat.le_refl _) with ⟨k, s, x, e⟩ | ⟨o, e⟩ <;> (rw [e] at h; cases h)
  rw [if_neg a8] at h
  by_cases a9 : (c == 59) = true
  · rw [if_pos a9] at h; cases h
  rw [if_neg a9] at h
  by_cases a10 : (signLen (c :: t) == 0) = true
  · rw [if_pos a10] at h; cases h
  · rw [if_neg a10] at h; cases h
theorem letter_low {c : UInt8} (h : letterB c.toNat = true) : c.toNat < 128 := by
  unfold letterB at h
  simp only [Bool.or_eq_true, Bool.and_eq_true, decide_eq_true_eq, beq_iff_eq] at h
  omega
theorem digit_low {c : UInt8} (h : digitB c.toNat = true) : c.toNat < 128 := by
  unfold digitB at h
  simp only [Bool.and_eq_true, decide_eq_true_eq] at h
  omega
theorem sign_low {c : UInt8} {t : List UInt8} (h : signLen (c :: t) ≠ 0) : c.toNat < 128 := by
  unfold signLen at h
  by_cases h3 : (List.take 3 (c :: t) == [46, 46, 46]) = true
  · have := eq_of_beq h3
    rw [List.take_succ_cons] at this
    injection this with h1 _
    subst h1
    decide
  rw [if_neg h3] at h
  by_cases h2 : twoB (List.take 2 (c :: t)) = true
  · unfold twoB at h2
    simp only [Bool.or_eq_true, beq_iff_eq, List.take_succ_cons, List.cons.injEq] at h2
    rcases h2 with ((((((((((((((h | h) | h) | h) | h) | h) | h) | h) | h) | h) | h) | h) | h) | h) | h) <;> (rw [h.1]; decide)
  rw [if_neg h2] at h
  by_cases h1 : (c :: t).head?.any oneB = true
  · rw [List.head?_cons, Option.any_some] at h1
    unfold oneB at h1
    simp only [List.contains_cons, Bool.or_eq_true, beq_iff_eq] at h1
    rcases h1 with h | h | h | h | h | h | h | h | h | h | h | h | h | h | h | h | h | h | h | h | h
    all_goals first | (rw [h]; decide) | (simp at h)
  · rw [if_neg h1] at h
    exact absurd rfl h
/-- What a token begins with. -/
theorem tok_head {c : UInt8} {t : List UInt8} {k : Int} {n : Nat} {x : List UInt8} (h : step1 (c :: t) = .tok k n x) : c.toNat < 128 ∧ ¬ (c == 47 && t.head? == some 47) = true := by
  have h : stepC c t = .tok k n x := h
  unfold stepC at h
  by_cases a1 : (c == 10) = true
  · rw [if_pos a1] at h; cases h
  rw [if_neg a1] at h
  by_cases a2 : (c == 32 || c == 9 || c == 13) = true
  · rw [if_pos a2] at h; cases h
  rw [if_neg a2] at h
  by_cases a3 : (c == 47 && t.head? == some 47) = true
  · rw [if_pos a3] at h; cases h
  rw [if_neg a3] at h
  refine ⟨?_, a3⟩
  by_cases a4 : (c == 47 && t.head? == some 42) = true
  · rw [Bool.and_eq_true] at a4
    rw [eq_of_beq a4.1]
    decide
  rw [if_neg a4] at h
  by_cases a5 : decide (60 < nameLen (c :: t)) = true
  · rw [if_pos a5] at h; cases h
  rw [if_neg a5] at h
  by_cases a6 : decide (0 < nameLen (c :: t)) = true
  · by_cases hl : letterB c.toNat = true
    · exact letter_low hl
    · exfalso
      have : nameLen (c :: t) = 0 := by
        show nameFrom true (c :: t) = 0
        unfold nameFrom
        rw [if_neg (by simpa using hl)]
      rw [this] at a6
      exact absurd a6 (by decide)
  rw [if_neg a6] at h
  by_cases a7 : digitB c.toNat = true
  · exact digit_low a7
  rw [if_neg a7] at h
  by_cases a8 : (c == 34) = true
  · rw [eq_of_beq a8]; decide
  rw [if_neg a8] at h
  by_cases a9 : (c == 59) = true
  · rw [eq_of_beq a9]; decide
  rw [if_neg a9] at h
  by_cases a10 : (signLen (c :: t) == 0) = true
  · rw [if_pos a10] at h; cases h
  · exact sign_low (by simpa using a10)
theorem lineLen_self : ∀ (l x : List UInt8), lineLen (l.take (lineLen l) ++ x) = lineLen l + lineLen x
  | [], x => by show lineLen ([] ++ x) = 0 + lineLen x; rw [List.nil_append, Nat.zero_add]
  | c :: l, x => by
    have ih := lineLen_self l x
    unfold lineLen at ih ⊢
    by_cases hc : (c != 10) = true
    · rw [List.takeWhile_cons, if_pos hc, List.length_cons, List.take_succ_cons, List.cons_append, List.takeWhile_cons, if_pos hc, List.length_cons, ih]
      omega
    · rw [List.takeWhile_cons, if_neg hc]
      simp
theorem lineLen_rest : ∀ (l : List UInt8), lineLen (l.drop (lineLen l)) = 0
  | [] => rfl
  | c :: l => by
    have ih := lineLen_rest l
    unfold lineLen at ih ⊢
    by_cases hc : (c != 10) = true
    · rw [List.takeWhile_cons, if_pos hc, List.length_cons, List.drop_succ_cons, ih]
    · rw [List.takeWhile_cons, if_neg hc, List.length_nil, List.drop_zero, List.takeWhile_cons, if_neg hc]
      rfl
/-- What is put in. -/
def insB (y : List UInt8) : List UInt8 := 32 :: 47 :: 42 :: 32 :: 120 :: 32 :: 42 :: 47 :: 9 :: y
theorem lineLen_insB (y : List UInt8) (h : lineLen y = 0) : lineLen (insB y) = 9 := by
  unfold lineLen at h ⊢
  unfold insB
  simp only [List.takeWhile_cons]
  rw [if_pos (by decide), if_pos (by decide), if_pos (by decide), if_pos (by decide), if_pos (by decide), if_pos (by decide), if_pos (by decide), if_pos (by decide), if_pos (by decide)]
  simp only [List.length_cons]
  rw [h]
theorem sc3_front {r : List UInt8} {p : Nat} {e : Bool} {l : List Tok} {c : List (Nat × Nat)} (h : Sc3 r p e l c) : ∃ c', Sc3 (insB r) p e (l.map (mvT 9)) c' := by
  have h9 := sc3_mv h 9
  have hs : step1 (47 :: 42 :: 32 :: 120 :: 32 :: 42 :: 47 :: 9 :: r) = .rem 7 false := rfl
  have hb : Sc3 (9 :: r) (p + 8) e (l.map (mvT 9)) (c.map (mvC 9)) := .blank (step1_tab _) h9
  have hr := Sc3.rem (p := p + 1) (e := e) (l := l.map (mvT 9)) (s := c.map (mvC 9)) hs (by rw [Bool.not_false, Bool.and_true]; exact hb)
  rw [Bool.and_false] at hr
  exact ⟨_, .blank (step1_sp _) hr⟩
theorem lineE_nil (e : Bool) (p : Nat) : lineE (e && false) p = [] := by rw [Bool.and_false]; rfl
/-- From a place at which a token begins: the tokens are the same, from one on moved by nine bytes. -/
theorem sc3_ins {r : List UInt8} {p : Nat} {e : Bool} {l : List Tok} {c : List (Nat × Nat)} (h : Sc3 r p e l c) : ∀ (a : Nat) (tk : Tok), tk ∈ l → tk.frm = a →
    ∃ d, a = p + d ∧ d ≤ r.length ∧ headA (r.drop d) ∧ ∃ j c', Sc3 (r.take d ++ insB (r.drop d)) p e (l.take j ++ (l.drop j).map (mvT 9)) c' := by
  have front : ∀ {r : List UInt8} {p : Nat} {e : Bool} {l : List Tok} {c : List (Nat × Nat)}, Sc3 r p e l c → headA r → ∃ d, p = p + d ∧ d ≤ r.length ∧ headA (r.drop d) ∧ ∃ j c', Sc3 (r.take d ++ insB (r.drop d)) p e (l.take j ++ (l.drop j).map (mvT 9)) c' := by
    intro r p e l c h hr
    obtain ⟨c', h'⟩ := sc3_front h
    exact ⟨0, rfl, Nat.zero_le _, hr, 0, c', h'⟩
  have inE : ∀ {e : Bool} {p : Nat} {tk : Tok}, tk ∈ lineE e p → tk.frm = p := by
    intro e p tk hm
    cases e with
    | true => simp [lineE] at hm; rw [hm]
    | false => simp [lineE] at hm
  have later : ∀ (E l : List Tok) (j : Nat), (E ++ l).take (E.length + j) ++ ((E ++ l).drop (E.length + j)).map (mvT 9) = E ++ (l.take j ++ (l.drop j).map (mvT 9)) := by
    intro E l j
    rw [List.take_length_add_append, List.drop_length_add_append, List.append_assoc]
  induction h with
  | done p e =>
    intro a tk hm ha
    have hp : tk.frm = p := by
      rcases List.mem_append.1 hm with h | h
      · exact inE h
      · rw [List.mem_singleton.1 h]
    rw [← ha, hp]
    exact front (.done p e) (fun b hb => by cases hb)
  | @nl c t p e l s hx hr ih =>
    intro a tk hm ha
    rcases List.mem_append.1 hm with h | h
    · rw [← ha, inE h]
      refine front (.nl hx hr) ?_
      intro b hb
      cases hb
      rw [nl_head hx]
      decide
    · obtain ⟨d, h1, h2, h3, j, c', h4⟩ := ih a tk h ha
      obtain rfl := nl_head hx
      refine ⟨d + 1, by omega, by simpa using h2, h3, (lineE e p).length + j, c', ?_⟩
      rw [later, List.take_succ_cons, List.drop_succ_cons, List.cons_append]
      exact .nl (step1_nl _) h4
  | @blank c t p e l s hx hr ih =>
    intro a tk hm ha
    obtain ⟨d, h1, h2, h3, j, c', h4⟩ := ih a tk hm ha
    refine ⟨d + 1, by omega, by simpa using h2, h3, j, c', ?_⟩
    rw [List.take_succ_cons, List.drop_succ_cons, List.cons_append]
    refine .blank ?_ h4
    have hb := blank_head hx
    show stepC c _ = .blank
    unfold stepC
    rw [if_neg (by intro h10; rw [eq_of_beq h10] at hb; exact absurd hb (by decide)), if_pos hb]
  | @rem c t p e l s n b hx hr ih =>
    intro a tk hm ha
    obtain ⟨rfl, hline⟩ := rem_head hx
    have hz := step1_size (47 :: t) (by simp)
    have hz2 := hz
    rw [hx] at hz
    have hn1 : 1 ≤ n := hz.1
    have hn2 : n ≤ t.length + 1 := hz.2
    rcases List.mem_append.1 hm with h | h
    · rw [← ha, inE h]
      refine front (.rem hx hr) ?_
      intro b hb
      cases hb
      decide
    · obtain ⟨d, h1, h2, h3, j, c', h4⟩ := ih a tk h ha
      rw [List.length_drop, List.length_cons] at h2
      have hdd : ((47 :: t).drop n).drop d = t.drop (n + d - 1) := by
        rw [List.drop_drop]
        obtain ⟨q, hq⟩ : ∃ q, n + d = q + 1 := ⟨n + d - 1, by omega⟩
        rw [hq, List.drop_succ_cons, Nat.add_sub_cancel]
      have hq : n + d = (n + d - 1) + 1 := by omega
      have htk : (47 :: t).take (n + d) = 47 :: t.take (n + d - 1) := by rw [hq, List.take_succ_cons, Nat.add_sub_cancel]
      have hdr : (47 :: t).drop (n + d) = t.drop (n + d - 1) := by rw [hq, List.drop_succ_cons, Nat.add_sub_cancel]
      by_cases hsp : (((47 : UInt8) == 47 && t.head? == some 47) = true) ∧ d = 0
      · obtain ⟨hl, rfl⟩ := hsp
        obtain ⟨e1, e2⟩ := hline hl
        subst e2
        have hr9 := sc3_mv hr 9
        refine ⟨n + 0, by omega, by simp only [List.length_cons]; omega, by rw [hdr, ← hdd]; exact h3, 0, (p, p + (n + 9)) :: s.map (mvC 9), ?_⟩
        rw [List.take_zero, List.nil_append, List.drop_zero, lineE_nil, List.nil_append]
        have hs : step1 (47 :: (t.take (n - 1) ++ insB (t.drop (n - 1)))) = .rem (n + 9) false := by
          have e47 : ((47 : UInt8) == 47 && (t.take (n - 1) ++ insB (t.drop (n - 1))).head? == some 47) = true := by
            rw [show insB (t.drop (n - 1)) = 32 :: (insB (t.drop (n - 1))).drop 1 from rfl, head_ins2 (by
              rw [e1]
              rw [Bool.and_eq_true] at hl
              cases t with
              | nil => simp at hl
              | cons z t' =>
                have := hl.2
                simp at this
                subst this
                unfold lineLen
                rw [List.takeWhile_cons, if_pos (by decide), List.takeWhile_cons, if_pos (by decide)]
                simp) (by omega)]
            exact hl
          show stepC _ _ = _
          unfold stepC
          rw [if_neg (by decide), if_neg (by decide), if_pos e47]
          have h5 := lineLen_self (47 :: t) (insB ((47 :: t).drop n))
          rw [← e1, lineLen_insB _ (by rw [e1]; exact lineLen_rest _)] at h5
          have hq0 : n = (n - 1) + 1 := by omega
          have h6 : (47 :: t).take n = 47 :: t.take (n - 1) := by conv => lhs; rw [hq0, List.take_succ_cons]
          have h7 : (47 :: t).drop n = t.drop (n - 1) := by conv => lhs; rw [hq0, List.drop_succ_cons]
          rw [h6, h7, List.cons_append] at h5
          rw [h5]
        rw [htk, hdr, Nat.add_zero, List.cons_append]
        refine (by
          have := Sc3.rem (p := p) (e := e) (l := l.map (mvT 9)) (s := s.map (mvC 9)) hs ?_
          · rw [lineE_nil, List.nil_append] at this
            exact this
          · rw [show (47 :: (t.take (n - 1) ++ insB (t.drop (n - 1)))).drop (n + 9) = (47 :: t).drop n from by
              have hq0 : n + 9 = (n - 1) + 9 + 1 := by omega
              rw [hq0, List.drop_succ_cons, ← List.drop_drop, List.drop_append_of_le_length (by rw [List.length_take]; omega), List.drop_take, Nat.sub_self, List.take_zero, List.nil_append]
              have hq1 : n = (n - 1) + 1 := by omega
              conv => rhs; rw [hq1, List.drop_succ_cons]
              rfl, ← Nat.add_assoc]
            exact hr9)
      · have hs := step_ins (c := 47) (t := t) (m := n + d - 1) (d := 32) (y := (insB (t.drop (n + d - 1))).drop 1) (.inr rfl) (by omega) (by rw [hx]; intro o h; cases h) (by rw [hx]; show n ≤ _; omega) (fun hl => .inl (by
          rw [← (hline hl).1]
          have : d ≠ 0 := fun h0 => hsp ⟨hl, h0⟩
          omega))
        rw [hx] at hs
        refine ⟨n + d, by omega, by simp only [List.length_cons]; omega, by rw [hdr, ← hdd]; exact h3, (lineE (e && b) p).length + j, (p, p + n) :: c', ?_⟩
        rw [later, htk, hdr, List.cons_append]
        refine Sc3.rem (n := n) (b := b) hs ?_
        have e5 : (47 :: (t.take (n + d - 1) ++ insB (t.drop (n + d - 1)))).drop n = ((47 :: t).drop n).take d ++ insB (((47 :: t).drop n).drop d) := by
          rw [hdd, ← List.cons_append, ← List.take_succ_cons, ← hq, List.drop_append_of_le_length (by rw [List.length_take, List.length_cons]; omega), List.drop_take, Nat.add_sub_cancel_left]
        show Sc3 ((47 :: (t.take (n + d - 1) ++ insB (t.drop (n + d - 1)))).drop n) _ _ _ _
        rw [e5]
        exact h4
  | @tok c t p e l s k n x hx hr ih =>
    intro a tk hm ha
    obtain ⟨hlow, hnl⟩ := tok_head hx
    have hz := step1_size (c :: t) (by simp)
    rw [hx] at hz
    have hn1 : 1 ≤ n := hz.1
    have hn2 : n ≤ t.length + 1 := hz.2
    rcases List.mem_cons.1 hm with h | h
    · rw [← ha, h]
      refine front (.tok hx hr) ?_
      intro b hb
      cases hb
      exact hlow
    · obtain ⟨d, h1, h2, h3, j, c', h4⟩ := ih a tk h ha
      rw [List.length_drop, List.length_cons] at h2
      have hdd : ((c :: t).drop n).drop d = t.drop (n + d - 1) := by
        rw [List.drop_drop]
        obtain ⟨q, hq⟩ : ∃ q, n + d = q + 1 := ⟨n + d - 1, by omega⟩
        rw [hq, List.drop_succ_cons, Nat.add_sub_cancel]
      have hq : n + d = (n + d - 1) + 1 := by omega
      have htk : (c :: t).take (n + d) = c :: t.take (n + d - 1) := by rw [hq, List.take_succ_cons, Nat.add_sub_cancel]
      have hdr : (c :: t).drop (n + d) = t.drop (n + d - 1) := by rw [hq, List.drop_succ_cons, Nat.add_sub_cancel]
      have hs := step_ins (c := c) (t := t) (m := n + d - 1) (d := 32) (y := (insB (t.drop (n + d - 1))).drop 1) (.inr rfl) (by omega) (by rw [hx]; intro o h; cases h) (by rw [hx]; show n ≤ _; omega) (fun hl => absurd hl hnl)
      rw [hx] at hs
      refine ⟨n + d, by omega, by simp only [List.length_cons]; omega, by rw [hdr, ← hdd]; exact h3, 1 + j, c', ?_⟩
      rw [show (1 + j) = j + 1 from Nat.add_comm _ _, List.take_succ_cons, List.drop_succ_cons, htk, hdr, List.cons_append, List.cons_append]
      refine Sc3.tok (n := n) hs ?_
      have e5 : (c :: (t.take (n + d - 1) ++ insB (t.drop (n + d - 1)))).drop n = ((c :: t).drop n).take d ++ insB (((c :: t).drop n).drop d) := by
        rw [hdd, ← List.cons_append, ← List.take_succ_cons, ← hq, List.drop_append_of_le_length (by rw [List.length_take, List.length_cons]; omega), List.drop_take, Nat.add_sub_cancel_left]
      show Sc3 ((c :: (t.take (n + d - 1) ++ insB (t.drop (n + d - 1)))).drop n) _ _ _ _
      rw [e5]
      exact h4
/-- ScanBlanks, plain. -/
theorem blanks_law {s : List UInt8} (h : (resT (scanAll s)).1 = 0) (hl : s.length ≤ 4000) (k : Nat) (hk : k < (resT (scanAll s)).2.2.1.length) :
    (resT (scanAll s)).2.2.1[k].frm ≤ s.length ∧ (resT (scanAll (s.take (resT (scanAll s)).2.2.1[k].frm ++ insB (s.drop (resT (scanAll s)).2.2.1[k].frm)))).1 = 0 ∧
      ∃ j, (resT (scanAll (s.take (resT (scanAll s)).2.2.1[k].frm ++ insB (s.drop (resT (scanAll s)).2.2.1[k].frm)))).2.2.1 = (resT (scanAll s)).2.2.1.take j ++ ((resT (scanAll s)).2.2.1.drop j).map (mvT 9) := by
  obtain ⟨x, c, e1, h1, v1, _⟩ := ok_of h
  have ex : (resT (scanAll s)).2.2.1 = x := by rw [e1]
  simp only [ex] at hk ⊢
  obtain ⟨d, a1, a2, a3, j, c', a4⟩ := sc3_ins h1 x[k].frm x[k] (List.getElem_mem hk) rfl
  rw [Nat.zero_add] at a1
  rw [a1]
  have hv := v1
  rw [← List.take_append_drop d s, validS_app a3, Bool.and_eq_true] at hv
  have hv2 : validS (s.take d ++ insB (s.drop d)) = true := by
    rw [validS_app (by intro b hb; cases hb; decide), hv.1]
    unfold insB
    rw [validS_cons (by decide) (by decide), validS_cons (by decide) (by decide), validS_cons (by decide) (by decide), validS_cons (by decide) (by decide), validS_cons (by decide) (by decide), validS_cons (by decide) (by decide), validS_cons (by decide) (by decide), validS_cons (by decide) (by decide), validS_cons (by decide) (by decide), hv.2]
    rfl
  have e3 := ok_to a4 hv2 (by rw [List.length_append, List.length_take]; unfold insB; simp only [List.length_cons, List.length_drop]; omega)
  rw [e3]
  exact ⟨a2, rfl, j, rfl⟩
theorem ins_get {X : List Tok} {j i : Nat} (h : i < X.length) (hz : i < (X.take j ++ (X.drop j).map (mvT 9)).length) :
    (X.take j ++ (X.drop j).map (mvT 9))[i].kind = X[i].kind ∧ (X.take j ++ (X.drop j).map (mvT 9))[i].text = X[i].text ∧ ((X.take j ++ (X.drop j).map (mvT 9))[i].frm = X[i].frm ∨ (X.take j ++ (X.drop j).map (mvT 9))[i].frm = X[i].frm + 9) := by
  by_cases hj : i < j
  · have e : (X.take j ++ (X.drop j).map (mvT 9))[i] = X[i] := by rw [List.getElem_append_left (by rw [List.length_take]; omega), List.getElem_take]
    rw [e]
    exact ⟨rfl, rfl, .inl rfl⟩
  · have e : (X.take j ++ (X.drop j).map (mvT 9))[i] = mvT 9 X[i] := by
      rw [List.getElem_append_right (by rw [List.length_take]; omega), List.getElem_map, List.getElem_drop]
      congr 2
      rw [List.length_take]
      omega
    rw [e]
    exact ⟨rfl, rfl, .inr rfl⟩
theorem ins_len {X : List Tok} {j : Nat} : (X.take j ++ (X.drop j).map (mvT 9)).length = X.length := by
  rw [List.length_append, List.length_map, List.length_take, List.length_drop]
  omega
end Go.Proofs.YtdgjegkoncodaaaDoor
