/- The plain law of ScanCovers; a row of counts in memory. No condition. -/
import Derived.Test.YtdgjegkoncodaaaDoorScIns2
namespace Go.Proofs.YtdgjegkoncodaaaDoor
open Go.RowKit

/-- How many tokens, remarks cover a place. -/
def cntT : List Tok → Nat → Nat
  | [], _ => 0
  | t :: l, i => (if t.frm ≤ i ∧ i < t.to then 1 else 0) + cntT l i
def cntC : List (Nat × Nat) → Nat → Nat
  | [], _ => 0
  | t :: l, i => (if t.1 ≤ i ∧ i < t.2 then 1 else 0) + cntC l i
theorem cntT_app (a b : List Tok) (i : Nat) : cntT (a ++ b) i = cntT a i + cntT b i := by
  induction a with
  | nil => simp [cntT]
  | cons t a ih => simp only [List.cons_append, cntT, ih]; omega
theorem cntC_app (a b : List (Nat × Nat)) (i : Nat) : cntC (a ++ b) i = cntC a i + cntC b i := by
  induction a with
  | nil => simp [cntC]
  | cons t a ih => simp only [List.cons_append, cntC, ih]; omega
theorem cntT_low {l : List Tok} {q i : Nat} (h : ∀ t ∈ l, q ≤ t.frm) (hi : i < q) : cntT l i = 0 := by
  induction l with
  | nil => rfl
  | cons t l ih =>
    have h1 := h t (by simp)
    simp only [cntT, ih (fun u hu => h u (by simp [hu]))]
    rw [if_neg (by omega)]
theorem cntC_low {l : List (Nat × Nat)} {q i : Nat} (h : ∀ t ∈ l, q ≤ t.1) (hi : i < q) : cntC l i = 0 := by
  induction l with
  | nil => rfl
  | cons t l ih =>
    have h1 := h t (by simp)
    simp only [cntC, ih (fun u hu => h u (by simp [hu]))]
    rw [if_neg (by omega)]
theorem cntT_take (X : List Tok) (j i : Nat) : cntT (X.take j) i ≤ cntT X i := by
  have h := cntT_app (X.take j) (X.drop j) i
  rw [List.take_append_drop] at h
  omega
theorem cntC_take (X : List (Nat × Nat)) (j i : Nat) : cntC (X.take j) i ≤ cntC X i := by
  have h := cntC_app (X.take j) (X.drop j) i
  rw [List.take_append_drop] at h
  omega
theorem cntT_succ (X : List Tok) (j i : Nat) (h : j < X.length) : cntT (X.take (j + 1)) i = cntT (X.take j) i + (if X[j].frm ≤ i ∧ i < X[j].to then 1 else 0) := by
  rw [List.take_succ_eq_append_getElem h, cntT_app]
  simp [cntT]
theorem cntC_succ (X : List (Nat × Nat)) (j i : Nat) (h : j < X.length) : cntC (X.take (j + 1)) i = cntC (X.take j) i + (if X[j].1 ≤ i ∧ i < X[j].2 then 1 else 0) := by
  rw [List.take_succ_eq_append_getElem h, cntC_app]
  simp [cntC]
/-- Where the last token that has bytes ends. -/
def lastT (l : List Tok) : Nat := l.foldl (fun a t => if t.frm < t.to then t.to else a) 0
theorem lastT_succ (X : List Tok) (j : Nat) (h : j < X.length) : lastT (X.take (j + 1)) = if X[j].frm < X[j].to then X[j].to else lastT (X.take j) := by
  unfold lastT
  rw [List.take_succ_eq_append_getElem h, List.foldl_append]
  rfl
def blankZ (z : Nat) : Prop := z = 32 ∨ z = 9 ∨ z = 13 ∨ z = 10
structure Cov (s : List UInt8) (X : List Tok) (C : List (Nat × Nat)) : Prop where
  tok : ∀ j (h : j < X.length), X[j].frm ≤ X[j].to ∧ X[j].to ≤ s.length ∧ (X[j].kind ≠ 6 → lastT (X.take j) ≤ X[j].frm)
  rem : ∀ j (h : j < C.length), C[j].1 ≤ C[j].2 ∧ C[j].2 ≤ s.length
  one : ∀ i (h : i < s.length), cntT X i + cntC C i ≤ 1 ∧ (cntT X i + cntC C i = 0 → blankZ s[i].toNat)
  fin : ∃ h : X.length - 1 < X.length, X[X.length - 1].kind = 7
theorem lineE_mem {e : Bool} {p : Nat} {t : Tok} (h : t ∈ lineE e p) : t = ⟨6, p, p, [10]⟩ := by
  cases e with
  | true => simpa [lineE] using h
  | false => simp [lineE] at h
theorem cntT_lineE (e : Bool) (p i : Nat) : cntT (lineE e p) i = 0 := by
  cases e with
  | true => simp only [lineE, if_pos, cntT]; rw [if_neg (by omega)]
  | false => rfl
theorem sc3_in {r : List UInt8} {p : Nat} {e : Bool} {l : List Tok} {c : List (Nat × Nat)} (h : Sc3 r p e l c) : (∀ t ∈ l, p ≤ t.frm ∧ t.frm ≤ t.to ∧ t.to ≤ p + r.length) ∧ (∀ x ∈ c, p ≤ x.1 ∧ x.1 ≤ x.2 ∧ x.2 ≤ p + r.length) := by
  induction h with
  | done p e =>
    refine ⟨fun t ht => ?_, fun x hx => by cases hx⟩
    rcases List.mem_append.1 ht with h | h
    · rw [lineE_mem h]; simp
    · rw [List.mem_singleton.1 h]; simp
  | @nl c t p e l s hx _ ih =>
    refine ⟨fun u hu => ?_, fun x hx => ?_⟩
    · rcases List.mem_append.1 hu with h | h
      · rw [lineE_mem h]; simp
      · have := ih.1 u h; simp only [List.length_cons]; omega
    · have := ih.2 x hx; simp only [List.length_cons]; omega
  | @blank c t p e l s hx _ ih =>
    refine ⟨fun u hu => ?_, fun x hx => ?_⟩
    · have := ih.1 u hu; simp only [List.length_cons]; omega
    · have := ih.2 x hx; simp only [List.length_cons]; omega
  | @rem c t p e l s n b hx _ ih =>
    have hs := step1_size (c :: t) (by simp)
    rw [hx] at hs
    have h1 : 1 ≤ n := hs.1
    have h2 : n ≤ (c :: t).length := hs.2
    rw [List.length_drop] at ih
    refine ⟨fun u hu => ?_, fun x hx => ?_⟩
    · rcases List.mem_append.1 hu with h | h
      · rw [lineE_mem h]; simp
      · have := ih.1 u h; omega
    · rcases List.mem_cons.1 hx with h | h
      · rw [h]; exact ⟨Nat.le_refl _, by simp, by simp only; omega⟩
      · have := ih.2 x h; omega
  | @tok c t p e l s k n x hx _ ih =>
    have hs := step1_size (c :: t) (by simp)
    rw [hx] at hs
    have h1 : 1 ≤ n := hs.1
    have h2 : n ≤ (c :: t).length := hs.2
    rw [List.length_drop] at ih
    refine ⟨fun u hu => ?_, fun x hx => ?_⟩
    · rcases List.mem_cons.1 hu with h | h
      · rw [h]; exact ⟨Nat.le_refl _, by simp, by simp only; omega⟩
      · have := ih.1 u h; omega
    · have := ih.2 x hx; omega
/-- In order. -/
def OrdT : Nat → List Tok → Prop
  | _, [] => True
  | a, t :: l => (t.kind ≠ 6 → a ≤ t.frm) ∧ OrdT (if t.frm < t.to then t.to else a) l
theorem ord_lineE {e : Bool} {p a : Nat} {l : List Tok} (h : OrdT a l) : OrdT a (lineE e p ++ l) := by
  cases e with
  | true => exact ⟨fun h => absurd rfl h, by rw [if_neg (by simp)]; exact h⟩
  | false => exact h
theorem sc3_ord {r : List UInt8} {p : Nat} {e : Bool} {l : List Tok} {c : List (Nat × Nat)} (h : Sc3 r p e l c) : ∀ a, a ≤ p → OrdT a l := by
  induction h with
  | done p e => intro a ha; exact ord_lineE ⟨fun _ => ha, trivial⟩
  | nl hx _ ih => intro a ha; exact ord_lineE (ih a (by omega))
  | blank hx _ ih => intro a ha; exact ih a (by omega)
  | rem hx _ ih => intro a ha; exact ord_lineE (ih a (by omega))
  | @tok c t p e l s k n x hx _ ih =>
    intro a ha
    refine ⟨fun _ => ha, ?_⟩
    simp only
    split
    · exact ih _ (Nat.le_refl _)
    · exact ih _ (by omega)
theorem ord_get : ∀ (X : List Tok) (a : Nat), OrdT a X → ∀ j (h : j < X.length), X[j].kind ≠ 6 → (X.take j).foldl (fun a t => if t.frm < t.to then t.to else a) a ≤ X[j].frm
  | [], a, _, j, h, _ => absurd h (Nat.not_lt_zero _)
  | t :: l, a, ho, 0, h, hk => ho.1 hk
  | t :: l, a, ho, j + 1, h, hk => by
    rw [List.take_succ_cons, List.foldl_cons]
    exact ord_get l _ ho.2 j (by simpa using h) hk
theorem sc3_one {r : List UInt8} {p : Nat} {e : Bool} {l : List Tok} {c : List (Nat × Nat)} (h : Sc3 r p e l c) : ∀ i (hi : i < r.length), cntT l (p + i) + cntC c (p + i) ≤ 1 ∧ (cntT l (p + i) + cntC c (p + i) = 0 → blankZ r[i].toNat) := by
  induction h with
  | done p e => intro i hi; simp at hi
  | @nl c t p e l s hx hr ih =>
    intro i hi
    have hin := sc3_in hr
    rw [cntT_app, cntT_lineE, Nat.zero_add]
    cases i with
    | zero =>
      rw [Nat.add_zero, cntT_low (fun u hu => (hin.1 u hu).1) (Nat.lt_succ_self p), cntC_low (fun u hu => (hin.2 u hu).1) (Nat.lt_succ_self p)]
      refine ⟨by decide, fun _ => ?_⟩
      rw [nl_head hx]
      exact .inr (.inr (.inr rfl))
    | succ i =>
      have := ih i (by simpa using hi)
      rw [show p + (i + 1) = p + 1 + i by omega]
      exact this
  | @blank c t p e l s hx hr ih =>
    intro i hi
    have hin := sc3_in hr
    cases i with
    | zero =>
      rw [Nat.add_zero, cntT_low (fun u hu => (hin.1 u hu).1) (Nat.lt_succ_self p), cntC_low (fun u hu => (hin.2 u hu).1) (Nat.lt_succ_self p)]
      refine ⟨by decide, fun _ => ?_⟩
      have hb := blank_head hx
      simp only [Bool.or_eq_true, beq_iff_eq] at hb
      rcases hb with (rfl | rfl) | rfl
      · exact .inl rfl
      · exact .inr (.inl rfl)
      · exact .inr (.inr (.inl rfl))
    | succ i =>
      have := ih i (by simpa using hi)
      rw [show p + (i + 1) = p + 1 + i by omega]
      exact this
  | @rem c t p e l s n b hx hr ih =>
    intro i hi
    have hs := step1_size (c :: t) (by simp)
    rw [hx] at hs
    have h1 : 1 ≤ n := hs.1
    have h2 : n ≤ (c :: t).length := hs.2
    have hin := sc3_in hr
    rw [cntT_app, cntT_lineE, Nat.zero_add]
    simp only [cntC]
    by_cases hlt : i < n
    · rw [if_pos (by omega), cntT_low (fun u hu => (hin.1 u hu).1) (by omega), cntC_low (fun u hu => (hin.2 u hu).1) (by omega)]
      exact ⟨by decide, fun h => absurd h (by decide)⟩
    · rw [if_neg (by omega), Nat.zero_add]
      have := ih (i - n) (by rw [List.length_drop]; omega)
      rw [show p + n + (i - n) = p + i by omega] at this
      have e1 : ((c :: t).drop n)[i - n]'(by rw [List.length_drop]; omega) = (c :: t)[i] := by
        rw [List.getElem_drop]
        congr 1
        omega
      rw [e1] at this
      exact this
  | @tok c t p e l s k n x hx hr ih =>
    intro i hi
    have hs := step1_size (c :: t) (by simp)
    rw [hx] at hs
    have h1 : 1 ≤ n := hs.1
    have h2 : n ≤ (c :: t).length := hs.2
    have hin := sc3_in hr
    simp only [cntT]
    by_cases hlt : i < n
    · rw [if_pos (by omega), cntT_low (fun u hu => (hin.1 u hu).1) (by omega), cntC_low (fun u hu => (hin.2 u hu).1) (by omega)]
      exact ⟨by decide, fun h => absurd h (by decide)⟩
    · rw [if_neg (by omega), Nat.zero_add]
      have := ih (i - n) (by rw [List.length_drop]; omega)
      rw [show p + n + (i - n) = p + i by omega] at this
      have e1 : ((c :: t).drop n)[i - n]'(by rw [List.length_drop]; omega) = (c :: t)[i] := by
        rw [List.getElem_drop]
        congr 1
        omega
      rw [e1] at this
      exact this
theorem cov_law {s : List UInt8} (h : (resT (scanAll s)).1 = 0) : Cov s (resT (scanAll s)).2.2.1 (resT (scanAll s)).2.2.2 := by
  obtain ⟨x, c, e1, h1, v1, _⟩ := ok_of h
  rw [e1]
  have hin := sc3_in h1
  refine ⟨fun j hj => ?_, fun j hj => ?_, fun i hi => ?_, ?_⟩
  · have := hin.1 _ (List.getElem_mem hj)
    exact ⟨this.2.1, by have := this.2.2; omega, ord_get x 0 (sc3_ord h1 0 (Nat.le_refl _)) j hj⟩
  · have := hin.2 _ (List.getElem_mem hj)
    exact ⟨this.2.1, by have := this.2.2; omega⟩
  · have := sc3_one h1 i hi
    rw [Nat.zero_add] at this
    exact this
  · obtain ⟨l', hl'⟩ := sc3_end h1
    refine ⟨by rw [hl']; simp, ?_⟩
    simp only [hl']
    simp
theorem bad_rows {t : Option Told3} (h : (resT t).1 ≠ 0) : (resT t).2.2.1 = [] ∧ (resT t).2.2.2 = [] := by
  match t, h with
  | none, _ => exact ⟨rfl, rfl⟩
  | some (.bad q), _ => exact ⟨rfl, rfl⟩
  | some (.ok l c), h => exact absurd rfl h

/-- A row of counts in block b. -/
def Met (W : World) (b n : Nat) (M : Nat → Nat) : Prop := ∃ cs, W.heap[b]? = some (.cells cs 3 (0, 0)) ∧ ∀ i, i < n → cs[i]? = some (.int .i64 (M i : Int))
theorem Met.cell {W : World} {b n : Nat} {M : Nat → Nat} (h : Met W b n M) (i : Nat) (hi : i < n) : W.cell? ⟨b, i, none⟩ = some (.int .i64 (M i : Int)) := by
  obtain ⟨cs, h1, h2⟩ := h
  rw [cell_of_row W b i cs _ _ h1]
  exact h2 i hi
theorem Met.thaw {W : World} {b n : Nat} {M : Nat → Nat} (h : Met W b n M) (i : Nat) : W.frozen? ⟨b, i, none⟩ = false := by
  obtain ⟨cs, h1, h2⟩ := h
  simp only [World.frozen?, h1]
  simp
theorem Met.lt {W : World} {b n : Nat} {M : Nat → Nat} (h : Met W b n M) : b < W.heap.size := by
  obtain ⟨cs, h1, h2⟩ := h
  exact (Array.getElem?_eq_some_iff.1 h1).1
theorem Met.same {W W' : World} {b n : Nat} {M : Nat → Nat} (h : Met W b n M) (hk : W'.heap[b]? = W.heap[b]?) : Met W' b n M := by
  obtain ⟨cs, h1, h2⟩ := h
  exact ⟨cs, hk.trans h1, h2⟩
theorem Met.fn {W : World} {b n : Nat} {M M' : Nat → Nat} (h : Met W b n M) (hk : ∀ i, i < n → M i = M' i) : Met W b n M' := by
  obtain ⟨cs, h1, h2⟩ := h
  exact ⟨cs, h1, fun i hi => by rw [← hk i hi]; exact h2 i hi⟩
theorem Met.set {W : World} {b n : Nat} {M : Nat → Nat} (h : Met W b n M) (k x : Nat) (hk : k < n) : Met (W.setCell ⟨b, k, none⟩ (.int .i64 (x : Int))) b n (fun i => if i = k then x else M i) := by
  obtain ⟨cs, h1, h2⟩ := h
  refine ⟨_, set_same h1 _, fun i hi => ?_⟩
  have hl : k < cs.size := (Array.getElem?_eq_some_iff.1 (h2 k hk)).1
  show (cs.set! k (Value.int IntKind.i64 (x : Int)))[i]? = some (Value.int IntKind.i64 ((if i = k then x else M i : Nat) : Int))
  by_cases hik : i = k
  · subst hik
    rw [if_pos rfl, Array.set!_eq_setIfInBounds, Array.getElem?_setIfInBounds_self_of_lt hl]
  · rw [if_neg hik, Array.set!_eq_setIfInBounds, Array.getElem?_setIfInBounds_ne (Ne.symm hik)]
    exact h2 i hi
end Go.Proofs.YtdgjegkoncodaaaDoor
