/- Sizes, word by word, in plain lists: no program is in sight. No condition. -/
import Derived.Test.YtahgbbnpbhfaeaaDoorKit
namespace Go.Proofs.YtahgbbnpbhfaeaaDoor

/-- What words say, the lowest first. -/
def ofW : List Nat → Nat
  | [] => 0
  | x :: l => x + 4294967296 * ofW l
/-- Without the words 0 at the end. -/
def trimZ : List Nat → List Nat
  | [] => []
  | x :: l => if (trimZ l).isEmpty && x == 0 then [] else x :: trimZ l
def Words (z : List Nat) : Prop := ∀ x ∈ z, x < 4294967296
/-- A size's own words. -/
def canW : Nat → List Nat
  | 0 => []
  | n + 1 => (n + 1) % 4294967296 :: canW ((n + 1) / 4294967296)
decreasing_by exact Nat.div_lt_self (Nat.succ_pos _) (by decide)

theorem Words.nil : Words [] := fun _ h => by simp at h
theorem Words.cons {x : Nat} {l : List Nat} : Words (x :: l) ↔ x < 4294967296 ∧ Words l := by simp [Words]
theorem Words.append {l m : List Nat} : Words (l ++ m) ↔ Words l ∧ Words m := by
  constructor
  · exact fun h => ⟨fun x hx => h x (by simp [hx]), fun x hx => h x (by simp [hx])⟩
  · rintro ⟨h1, h2⟩ x hx
    rcases List.mem_append.1 hx with hx | hx
    · exact h1 x hx
    · exact h2 x hx
theorem Words.take {l : List Nat} (h : Words l) (n : Nat) : Words (l.take n) := fun x hx => h x (List.mem_of_mem_take hx)
theorem Words.get {l : List Nat} (h : Words l) (i : Nat) : l.getD i 0 < 4294967296 := by
  simp only [List.getD]
  cases hi : l[i]? with
  | none => simp
  | some x => simpa using h x (List.mem_of_getElem? hi)

theorem ofW_append : ∀ l m : List Nat, ofW (l ++ m) = ofW l + 4294967296 ^ l.length * ofW m
  | [], m => by simp [ofW]
  | x :: l, m => by
    simp only [List.cons_append, ofW, ofW_append l m, List.length_cons, Nat.pow_succ, Nat.mul_add, Nat.add_assoc]
    rw [show 4294967296 * (4294967296 ^ l.length * ofW m) = 4294967296 ^ l.length * 4294967296 * ofW m by rw [← Nat.mul_assoc, Nat.mul_comm 4294967296]]
theorem ofW_lt : ∀ {l : List Nat}, Words l → ofW l < 4294967296 ^ l.length
  | [], _ => by simp [ofW]
  | x :: l, h => by
    obtain ⟨h1, h2⟩ := Words.cons.1 h
    have := ofW_lt h2
    simp only [ofW, List.length_cons, Nat.pow_succ]
    omega
theorem ofW_trim : ∀ l : List Nat, ofW (trimZ l) = ofW l
  | [] => rfl
  | x :: l => by
    have h := ofW_trim l
    simp only [trimZ]
    split
    · rename_i hc
      simp at hc
      obtain ⟨h1, h2⟩ := hc
      rw [h1] at h
      simp only [ofW] at h ⊢
      omega
    · simp only [ofW, h]
theorem Words.trim : ∀ {l : List Nat}, Words l → Words (trimZ l)
  | [], h => h
  | x :: l, h => by
    obtain ⟨h1, h2⟩ := Words.cons.1 h
    simp only [trimZ]
    split
    · exact Words.nil
    · exact Words.cons.2 ⟨h1, h2.trim⟩
theorem trim_can : ∀ {l : List Nat}, Words l → trimZ l = canW (ofW l)
  | [], _ => by simp [trimZ, ofW, canW]
  | x :: l, h => by
    obtain ⟨h1, h2⟩ := Words.cons.1 h
    have ih := trim_can h2
    simp only [trimZ, ofW]
    split
    · rename_i hc
      simp at hc
      obtain ⟨h3, h4⟩ := hc
      have h5 := ofW_trim l
      rw [h3] at h5
      simp only [ofW] at h5
      rw [h4, ← h5]
      simp [canW]
    · rename_i hc
      have hne : x + 4294967296 * ofW l ≠ 0 := fun e => by
        have hx : x = 0 := by omega
        have hl : ofW l = 0 := by omega
        rw [hl] at ih
        rw [ih] at hc
        simp [canW, hx] at hc
      obtain ⟨m, hm⟩ := Nat.exists_eq_succ_of_ne_zero hne
      rw [hm, Nat.succ_eq_add_one, canW]
      have e1 : (m + 1) % 4294967296 = x := by omega
      have e2 : (m + 1) / 4294967296 = ofW l := by omega
      rw [e1, e2, ih]
theorem canW_words : ∀ n : Nat, Words (canW n) ∧ ofW (canW n) = n := by
  intro n
  induction n using Nat.strongRecOn with
  | _ n ih =>
    cases n with
    | zero => simp [canW, ofW, Words]
    | succ n =>
      obtain ⟨h1, h2⟩ := ih ((n + 1) / 4294967296) (Nat.div_lt_self (Nat.succ_pos _) (by decide))
      rw [canW]
      refine ⟨Words.cons.2 ⟨Nat.mod_lt _ (by decide), h1⟩, ?_⟩
      simp only [ofW, h2]
      omega
theorem canW_nil (n : Nat) : canW n = [] ↔ n = 0 := by
  cases n with
  | zero => simp [canW]
  | succ n => simp [canW]
theorem trim_pre : ∀ l : List Nat, trimZ l = l.take (trimZ l).length
  | [] => rfl
  | x :: l => by
    have h := trim_pre l
    simp only [trimZ]
    split
    · rfl
    · simp only [List.length_cons, List.take_succ_cons]
      rw [← h]
theorem trim_le : ∀ l : List Nat, (trimZ l).length ≤ l.length
  | [] => Nat.le_refl _
  | x :: l => by
    have h := trim_le l
    simp only [trimZ]
    split
    · simp
    · simp; exact h
theorem trim_snoc0 : ∀ l : List Nat, trimZ (l ++ [0]) = trimZ l
  | [] => by simp [trimZ]
  | x :: l => by simp only [List.cons_append, trimZ, trim_snoc0 l]
theorem trim_snoc : ∀ (l : List Nat) (x : Nat), x ≠ 0 → trimZ (l ++ [x]) = l ++ [x]
  | [], x, h => by simp [trimZ, h]
  | y :: l, x, h => by
    simp only [List.cons_append, trimZ, trim_snoc l x h]
    simp
/-- One step of a trimming loop. -/
theorem trim_step (l : List Nat) (n : Nat) (hn : n < l.length) : trimZ (l.take (n + 1)) = if l.getD n 0 = 0 then trimZ (l.take n) else l.take (n + 1) := by
  have e : l.take (n + 1) = l.take n ++ [l.getD n 0] := by
    rw [List.take_add_one, List.getElem?_eq_getElem hn]
    simp [List.getD, hn]
  rw [e]
  split
  · rename_i h
    rw [h, trim_snoc0]
  · rename_i h
    exact trim_snoc _ _ h
theorem trim_nil (l : List Nat) : trimZ l = [] ↔ ofW l = 0 := by
  constructor
  · intro h
    have := ofW_trim l
    rw [h] at this
    simpa [ofW] using this.symm
  · induction l with
    | nil => intro _; rfl
    | cons x l ih =>
      intro h
      simp only [ofW] at h
      have hx : x = 0 := by omega
      have hl : ofW l = 0 := by omega
      simp [trimZ, ih hl, hx]

/-- Below, like, above. -/
def cmpN (a b : Nat) : Int := if a < b then -1 else if a = b then 0 else 1
def cmpI (a b : Int) : Int := if a < b then -1 else if a = b then 0 else 1
/-- The top word of words in form is none of 0. -/
theorem trim_top {l : List Nat} (h : trimZ l = l) (hl : l ≠ []) : 4294967296 ^ (l.length - 1) ≤ ofW l := by
  have hn : 0 < l.length := List.length_pos_iff.2 hl
  have e : l = l.take (l.length - 1) ++ [l.getD (l.length - 1) 0] := by
    have := trim_step l (l.length - 1) (by omega)
    rw [show l.length - 1 + 1 = l.length by omega, List.take_length] at this
    have e : l.take (l.length - 1 + 1) = l.take (l.length - 1) ++ [l.getD (l.length - 1) 0] := by
      rw [List.take_add_one, List.getElem?_eq_getElem (show l.length - 1 < l.length by omega)]
      simp [List.getD, show l.length - 1 < l.length by omega]
    rwa [show l.length - 1 + 1 = l.length by omega, List.take_length] at e
  have h0 : l.getD (l.length - 1) 0 ≠ 0 := fun h0 => by
    have := trim_step l (l.length - 1) (by omega)
    rw [show l.length - 1 + 1 = l.length by omega, List.take_length, if_pos h0, h] at this
    have hl := congrArg List.length this
    have := trim_le (l.take (l.length - 1))
    simp at this
    omega
  have hv : ofW l = ofW (l.take (l.length - 1)) + 4294967296 ^ (l.length - 1) * l.getD (l.length - 1) 0 := by
    have h9 := congrArg ofW e
    rw [ofW_append] at h9
    simp only [ofW, List.length_take, Nat.mul_zero, Nat.add_zero] at h9
    rw [Nat.min_eq_left (by omega)] at h9
    exact h9
  rw [hv]
  have : 4294967296 ^ (l.length - 1) * 1 ≤ 4294967296 ^ (l.length - 1) * l.getD (l.length - 1) 0 := Nat.mul_le_mul_left _ (by omega)
  omega
theorem trim_idem {l : List Nat} : trimZ (trimZ l) = trimZ l := by
  induction l with
  | nil => rfl
  | cons x l ih =>
    simp only [trimZ]
    split
    · rfl
    · rename_i h
      simp only [trimZ, ih]
      rw [if_neg h]
theorem ofW_len_lt {l m : List Nat} (hm : Words l) (h1 : trimZ m = m) (hlt : l.length < m.length) : ofW l < ofW m := by
  have a1 := ofW_lt hm
  have a2 := trim_top h1 (fun e => by subst e; simp at hlt)
  have : 4294967296 ^ l.length ≤ 4294967296 ^ (m.length - 1) := Nat.pow_le_pow_right (by decide) (by omega)
  omega
/-- Held against each other from the top, above i they are alike. -/
theorem ofW_top {l m : List Nat} (hl : Words l) (hm : Words m) (he : l.length = m.length) (i : Nat) (hi : i < l.length) (htop : l.drop (i + 1) = m.drop (i + 1)) (h : l.getD i 0 < m.getD i 0) : ofW l < ofW m := by
  have split : ∀ (q : List Nat), Words q → i < q.length → ofW q = ofW (q.take i) + 4294967296 ^ i * (q.getD i 0 + 4294967296 * ofW (q.drop (i + 1))) ∧ ofW (q.take i) < 4294967296 ^ i := fun q hq hiq => by
    constructor
    · have e : q = q.take i ++ (q.getD i 0 :: q.drop (i + 1)) := by
        have : q.drop i = q.getD i 0 :: q.drop (i + 1) := by
          rw [List.drop_eq_getElem_cons hiq]
          simp [List.getD, hiq]
        rw [← this, List.take_append_drop]
      have h9 := congrArg ofW e
      rw [ofW_append] at h9
      simp only [ofW, List.length_take] at h9
      rw [Nat.min_eq_left (by omega)] at h9
      exact h9
    · have := ofW_lt (hq.take i)
      rw [List.length_take, Nat.min_eq_left (by omega)] at this
      exact this
  obtain ⟨a1, a2⟩ := split l hl hi
  obtain ⟨b1, b2⟩ := split m hm (by omega)
  rw [a1, b1, htop]
  have : 4294967296 ^ i * (l.getD i 0 + 4294967296 * ofW (m.drop (i + 1)) + 1) ≤ 4294967296 ^ i * (m.getD i 0 + 4294967296 * ofW (m.drop (i + 1))) := Nat.mul_le_mul_left _ (by omega)
  rw [Nat.mul_add _ _ 1, Nat.mul_one] at this
  omega
theorem pow_as (B b a k m : Nat) (hB : B = b ^ a) (hm : a * k = m) : B ^ k = b ^ m := by rw [hB, ← hm, Nat.pow_mul]
theorem pow16 : (4294967296 : Nat) ^ 16 = 2 ^ 512 := pow_as 4294967296 2 32 16 512 (by decide) (by decide)
theorem pow17 : (4294967296 : Nat) ^ 17 = 2 ^ 512 * 4294967296 := by rw [Nat.pow_succ, pow16]
theorem pow_mono (b k m : Nat) (hb : 0 < b) (h : k ≤ m) : b ^ k ≤ b ^ m := Nat.pow_le_pow_right hb h
theorem not_le_pow (a k m : Nat) (h : a < 2 ^ k) (hk : k ≤ m) : ¬ 2 ^ m ≤ a := Nat.not_le.2 (Nat.lt_of_lt_of_le h (pow_mono 2 k m (by decide) hk))
theorem lt512 {n : Nat} (h : n < 2 ^ 64) : ¬ 2 ^ 512 ≤ n := not_le_pow n 64 512 h (by decide)
end Go.Proofs.YtahgbbnpbhfaeaaDoor
