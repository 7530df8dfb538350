/- The nodes down to a span, in plain lists: no program is in sight. No condition. -/
import Derived.Test.YtmkjajapbkdpiaaTrLists
namespace Go.Proofs.Ytmkjajapbkdpiaa
open Go.RowKit

def spN (a b : Int) (n : Nd) : Bool := (n.f == a) && (n.t == b)
/-- As the document tells it. -/
def atF (a b : Int) : Fo → List Nd
  | .nil => []
  | .cons k f t s c r => if (atF a b c).isEmpty then (if spN a b ⟨k, f, t, s, c⟩ then [⟨k, f, t, s, c⟩] else atF a b r) else ⟨k, f, t, s, c⟩ :: atF a b c
def atN (a b : Int) (n : Nd) : List Nd := if (atF a b n.c).isEmpty then (if spN a b n then [n] else []) else n :: atF a b n.c
/-- Down to the first that has the span. -/
def pathF (a b : Int) : Fo → List Nd
  | .nil => []
  | .cons k f t s c r => if spN a b ⟨k, f, t, s, c⟩ then [⟨k, f, t, s, c⟩] else if (pathF a b c).isEmpty then pathF a b r else ⟨k, f, t, s, c⟩ :: pathF a b c

theorem atF_cons (a b k f t : Int) (s : ByteArray) (c r : Fo) : atF a b (.cons k f t s c r) = if (atN a b ⟨k, f, t, s, c⟩).isEmpty then atF a b r else atN a b ⟨k, f, t, s, c⟩ := by
  simp only [atF, atN]
  cases h : (atF a b c).isEmpty
  · simp
  · cases h2 : spN a b ⟨k, f, t, s, c⟩ <;> simp
theorem atF_drop (a b : Int) (F : Fo) (i : Nat) (h : i < F.len) : atF a b (F.drop i) = if (atN a b (F.get i)).isEmpty then atF a b (F.drop (i + 1)) else atN a b (F.get i) := by
  rw [Fo.drop_get F i h]
  exact atF_cons a b _ _ _ _ _ _

theorem path_last (a b : Int) : ∀ (F : Fo) (x : Nd), (pathF a b F).getLast? = some x → atF a b F = pathF a b F ++ atF a b x.c ∧ x.c.cnt < F.cnt
  | .nil, x, h => by simp [pathF] at h
  | .cons k f t s c r, x, h => by
    simp only [pathF] at h ⊢
    simp only [atF, Fo.cnt]
    cases h1 : spN a b ⟨k, f, t, s, c⟩ with
    | true =>
      rw [h1] at h
      simp at h
      subst h
      simp
      omega
    | false =>
      rw [h1] at h
      simp only [Bool.false_eq_true, if_false] at h ⊢
      cases h2 : (pathF a b c).isEmpty with
      | true =>
        rw [h2] at h
        simp only [if_true] at h ⊢
        have hp : pathF a b c = [] := by simpa using h2
        have hc : atF a b c = [] := path_none a b c hp
        obtain ⟨q1, q2⟩ := path_last a b r x h
        rw [hc]
        simp only [List.isEmpty_nil, if_true]
        exact ⟨q1, by omega⟩
      | false =>
        rw [h2] at h
        simp only [Bool.false_eq_true, if_false] at h ⊢
        have hne : pathF a b c ≠ [] := by simpa using h2
        rw [List.getLast?_cons] at h
        have hx : (pathF a b c).getLast? = some x := by
          cases hl : (pathF a b c).getLast? with
          | none => simp [List.getLast?_eq_none_iff] at hl; exact absurd hl hne
          | some y => rw [hl] at h; simpa using h
        obtain ⟨q1, q2⟩ := path_last a b c x hx
        rw [q1]
        have : (pathF a b c ++ atF a b x.c).isEmpty = false := by simp [hne]
        rw [this]
        simp only [Bool.false_eq_true, if_false, List.cons_append, true_and]
        omega
where
  path_none (a b : Int) : ∀ F : Fo, pathF a b F = [] → atF a b F = []
  | .nil, _ => rfl
  | .cons k f t s c r, h => by
    simp only [pathF] at h
    simp only [atF]
    cases h1 : spN a b ⟨k, f, t, s, c⟩ with
    | true => rw [h1] at h; simp at h
    | false =>
      rw [h1] at h
      simp only [Bool.false_eq_true, if_false] at h ⊢
      cases h2 : (pathF a b c).isEmpty with
      | true =>
        rw [h2] at h
        simp only [if_true] at h
        have hp : pathF a b c = [] := by simpa using h2
        rw [path_none a b c hp, path_none a b r h]
        rfl
      | false => rw [h2] at h; simp at h

/-- How All's nodes make a path. -/
def foldUp : List Item → List Nv → List Nv
  | [], up => up
  | x :: l, up => foldUp l (up.take x.1.toNat ++ [x.2])
theorem foldUp_append : ∀ (l m : List Item) (up : List Nv), foldUp (l ++ m) up = foldUp m (foldUp l up)
  | [], _, _ => rfl
  | _ :: l, m, _ => foldUp_append l m _
/-- Each stands at most one deeper than the one ahead of it. -/
def goodUp (top : Int) : List Item → List Nv → Prop
  | [], _ => True
  | x :: l, up => 0 ≤ x.1 ∧ x.1.toNat ≤ up.length ∧ x.1 ≤ top ∧ goodUp top l (up.take x.1.toNat ++ [x.2])
theorem goodUp_append {top : Int} : ∀ (l m : List Item) (up : List Nv), goodUp top (l ++ m) up ↔ goodUp top l up ∧ goodUp top m (foldUp l up)
  | [], m, up => by simp [goodUp, foldUp]
  | x :: l, m, up => by
    simp only [List.cons_append, goodUp, foldUp, goodUp_append l m]
    constructor
    · rintro ⟨h1, h2, h3, h4, h5⟩; exact ⟨⟨h1, h2, h3, h4⟩, h5⟩
    · rintro ⟨⟨h1, h2, h3, h4⟩, h5⟩; exact ⟨h1, h2, h3, h4, h5⟩

theorem map_append_eq {α β : Type} {f : α → β} : ∀ {L : List α} {l m : List β}, L.map f = l ++ m → ∃ L1 L2, L = L1 ++ L2 ∧ L1.map f = l ∧ L2.map f = m
  | L, [], m, h => ⟨[], L, rfl, rfl, h⟩
  | [], y :: l, m, h => by simp at h
  | x :: L, y :: l, m, h => by
    simp only [List.map_cons, List.cons_append, List.cons.injEq] at h
    obtain ⟨L1, L2, rfl, h1, h2⟩ := map_append_eq h.2
    exact ⟨x :: L1, L2, rfl, by simp [h.1, h1], h2⟩

theorem flat_split {k f t : Int} {s : ByteArray} {c r : Fo} {d : Nat} {L : List Item} (h : L.map (fun x => (x.1, x.2.1)) = flatF (d : Int) (.cons k f t s c r)) :
    ∃ v L1 L2, L = ((d : Int), ⟨k, f, t, s, c⟩, v) :: (L1 ++ L2) ∧ L1.map (fun x => (x.1, x.2.1)) = flatF ((d + 1 : Nat) : Int) c ∧ L2.map (fun x => (x.1, x.2.1)) = flatF (d : Int) r := by
  simp only [flatF] at h
  cases L with
  | nil => simp at h
  | cons x L =>
    obtain ⟨x1, x2, x3⟩ := x
    simp only [List.map_cons, List.cons.injEq, Prod.mk.injEq] at h
    obtain ⟨⟨rfl, rfl⟩, h2⟩ := h
    obtain ⟨L1, L2, rfl, h3, h4⟩ := map_append_eq h2
    exact ⟨x3, L1, L2, rfl, by rw [h3]; congr 1, h4⟩

theorem fold_take (top : Int) : ∀ (F : Fo) (d : Nat) (L : List Item) (up : List Nv), L.map (fun x => (x.1, x.2.1)) = flatF (d : Int) F → d ≤ up.length → (d : Int) + F.cnt ≤ top →
    (foldUp L up).take d = up.take d ∧ d ≤ (foldUp L up).length ∧ goodUp top L up := by
  intro F
  induction F with
  | nil =>
    intro d L up h hd _
    have h : L = [] := by simpa [flatF] using h
    subst h
    exact ⟨rfl, hd, trivial⟩
  | cons k f t s c r ihc ihr =>
    intro d L up h hd ht
    obtain ⟨v, L1, L2, rfl, h1, h2⟩ := flat_split h
    simp only [Fo.cnt] at ht
    have hl : (up.take d ++ [((⟨k, f, t, s, c⟩ : Nd), v)]).length = d + 1 := by simp; omega
    obtain ⟨a1, a2, a3⟩ := ihc (d + 1) L1 (up.take d ++ [((⟨k, f, t, s, c⟩ : Nd), v)]) h1 (by omega) (by omega)
    obtain ⟨b1, b2, b3⟩ := ihr d L2 (foldUp L1 (up.take d ++ [((⟨k, f, t, s, c⟩ : Nd), v)])) h2 (by omega) (by omega)
    have e : (foldUp L1 (up.take d ++ [((⟨k, f, t, s, c⟩ : Nd), v)])).take d = up.take d := by
      have := congrArg (List.take d) a1
      rw [List.take_take, show min d (d + 1) = d by omega, List.take_take, show min d (d + 1) = d by omega] at this
      rw [this, List.take_append_of_le_length (by simp; omega), List.take_take, Nat.min_self]
    refine ⟨?_, ?_, ?_⟩
    · simp only [foldUp, Int.toNat_natCast, foldUp_append]
      rw [b1, e]
    · simp only [foldUp, Int.toNat_natCast, foldUp_append]
      exact b2
    · simp only [goodUp, Int.toNat_natCast, goodUp_append]
      exact ⟨by omega, hd, by omega, a3, b3⟩

theorem path_nil_iff (a b : Int) : ∀ (F : Fo) (d : Nat) (L : List Item), L.map (fun x => (x.1, x.2.1)) = flatF (d : Int) F → (pathF a b F = [] ↔ ∀ x ∈ L, spN a b x.2.1 = false) := by
  intro F
  induction F with
  | nil =>
    intro d L h
    have h : L = [] := by simpa [flatF] using h
    subst h
    simp [pathF]
  | cons k f t s c r ihc ihr =>
    intro d L h
    obtain ⟨v, L1, L2, rfl, h1, h2⟩ := flat_split h
    have hc := ihc (d + 1) L1 h1
    have hr := ihr d L2 h2
    simp only [pathF]
    cases hs : spN a b ⟨k, f, t, s, c⟩ with
    | true => simp [hs]
    | false =>
      simp only [Bool.false_eq_true, if_false, List.mem_cons, List.mem_append, forall_eq_or_imp, hs, true_and]
      cases hp : (pathF a b c).isEmpty with
      | true =>
        have hp : pathF a b c = [] := by simpa using hp
        simp only [if_true, hr]
        constructor
        · rintro h x (hx | hx)
          · exact (hc.1 hp) x hx
          · exact h x hx
        · exact fun h x hx => h x (.inr hx)
      | false =>
        have hp : pathF a b c ≠ [] := by simpa using hp
        simp only [Bool.false_eq_true, if_false, List.cons_ne_nil, false_iff]
        intro h
        exact hp (hc.2 fun x hx => h x (.inl hx))

/-- The first that has the span ends its path. -/
theorem fold_path (a b : Int) : ∀ (F : Fo) (d : Nat) (L : List Item) (up : List Nv) (pre : List Item) (x : Item) (rest : List Item), L.map (fun x => (x.1, x.2.1)) = flatF (d : Int) F → d ≤ up.length →
    L = pre ++ x :: rest → (∀ y ∈ pre, spN a b y.2.1 = false) → spN a b x.2.1 = true → (foldUp (pre ++ [x]) up).map (·.1) = (up.take d).map (·.1) ++ pathF a b F := by
  intro F
  induction F with
  | nil =>
    intro d L up pre x rest h _ e
    have h : L = [] := by simpa [flatF] using h
    subst h
    simp at e
  | cons k f t s c r ihc ihr =>
    intro d L up pre x rest h hd e hpre hx
    obtain ⟨v, L1, L2, rfl, h1, h2⟩ := flat_split h
    have hl : (up.take d ++ [((⟨k, f, t, s, c⟩ : Nd), v)]).length = d + 1 := by simp; omega
    cases pre with
    | nil =>
      simp only [List.nil_append, List.cons.injEq] at e
      obtain ⟨rfl, _⟩ := e
      have hx : spN a b ⟨k, f, t, s, c⟩ = true := hx
      simp [foldUp, pathF, hx]
    | cons y pre =>
      simp only [List.cons_append, List.cons.injEq] at e
      obtain ⟨rfl, e⟩ := e
      have hs : spN a b ⟨k, f, t, s, c⟩ = false := hpre ((d : Int), ⟨k, f, t, s, c⟩, v) (by simp)
      have hpre' : ∀ y ∈ pre, spN a b y.2.1 = false := fun y hy => hpre y (by simp [hy])
      simp only [List.cons_append, foldUp, Int.toNat_natCast, pathF, hs, Bool.false_eq_true, if_false]
      have hc := path_nil_iff a b c (d + 1) L1 h1
      rcases List.append_eq_append_iff.1 e with ⟨q, e1, e2⟩ | ⟨q, e1, e2⟩
      · -- within the others
        have hp : pathF a b c = [] := hc.2 fun z hz => hpre' z (by rw [e1]; simp [hz])
        rw [hp]
        simp only [List.isEmpty_nil, if_true]
        subst e1
        rw [List.append_assoc, foldUp_append]
        obtain ⟨a1, a2, _⟩ := fold_take ((d + 1 : Nat) + c.cnt) c (d + 1) L1 (up.take d ++ [((⟨k, f, t, s, c⟩ : Nd), v)]) h1 (by omega) (by omega)
        have e5 : (foldUp L1 (up.take d ++ [((⟨k, f, t, s, c⟩ : Nd), v)])).take d = up.take d := by
          have := congrArg (List.take d) a1
          rw [List.take_take, show min d (d + 1) = d by omega, List.take_take, show min d (d + 1) = d by omega] at this
          rw [this, List.take_append_of_le_length (by simp; omega), List.take_take, Nat.min_self]
        have := ihr d L2 (foldUp L1 (up.take d ++ [((⟨k, f, t, s, c⟩ : Nd), v)])) q x rest h2 (by omega) e2 (fun z hz => hpre' z (by simp [hz])) hx
        rw [this, e5]
      · cases q with
        | nil =>
          -- the first of the others
          simp only [List.append_nil, List.nil_append] at e1 e2
          subst e1
          have hp : pathF a b c = [] := hc.2 hpre'
          rw [hp]
          simp only [List.isEmpty_nil, if_true]
          rw [foldUp_append]
          obtain ⟨a1, a2, _⟩ := fold_take ((d + 1 : Nat) + c.cnt) c (d + 1) L1 (up.take d ++ [((⟨k, f, t, s, c⟩ : Nd), v)]) h1 (by omega) (by omega)
          have e5 : (foldUp L1 (up.take d ++ [((⟨k, f, t, s, c⟩ : Nd), v)])).take d = up.take d := by
            have := congrArg (List.take d) a1
            rw [List.take_take, show min d (d + 1) = d by omega, List.take_take, show min d (d + 1) = d by omega] at this
            rw [this, List.take_append_of_le_length (by simp; omega), List.take_take, Nat.min_self]
          have := ihr d L2 (foldUp L1 (up.take d ++ [((⟨k, f, t, s, c⟩ : Nd), v)])) [] x rest h2 (by omega) e2.symm (fun z hz => by simp at hz) hx
          rw [List.nil_append] at this
          rw [this, e5]
        | cons z q =>
          simp only [List.cons_append, List.cons.injEq] at e2
          obtain ⟨rfl, e3⟩ := e2
          have hp : pathF a b c ≠ [] := fun hp => by
            have := hc.1 hp x (by rw [e1]; simp)
            rw [hx] at this
            cases this
          have hpe : (pathF a b c).isEmpty = false := by simpa using hp
          rw [hpe]
          simp only [Bool.false_eq_true, if_false]
          have := ihc (d + 1) L1 (up.take d ++ [((⟨k, f, t, s, c⟩ : Nd), v)]) pre x q h1 (by omega) e1 hpre' hx
          rw [this, List.take_of_length_le (by omega)]
          simp
end Go.Proofs.Ytmkjajapbkdpiaa
