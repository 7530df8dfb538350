/- Decimal digits, in plain lists. No condition. -/
import Derived.Test.YtahgbbnpbhfaeaaDoorExDig
namespace Go.Proofs.YtahgbbnpbhfaeaaDoor
open Go.RowKit

/-- Decimal digits, the highest first. -/
def decN (n : Nat) : List Nat := if n < 10 then [48 + n] else decN (n / 10) ++ [48 + n % 10]
termination_by n
/-- The lowest k digits. -/
def padN : Nat → Nat → List Nat
  | 0, _ => []
  | k + 1, n => padN k (n / 10) ++ [48 + n % 10]
theorem decN_small {n : Nat} (h : n < 10) : decN n = [48 + n] := by rw [decN, if_pos h]
theorem decN_big {n : Nat} (h : 10 ≤ n) : decN n = decN (n / 10) ++ [48 + n % 10] := by rw [decN, if_neg (by omega)]
theorem decN_ne (n : Nat) : decN n ≠ [] := by
  by_cases h : n < 10
  · rw [decN_small h]; simp
  · rw [decN_big (by omega)]; simp
theorem padN_len : ∀ k n, (padN k n).length = k
  | 0, _ => rfl
  | k + 1, n => by simp [padN, padN_len k]
theorem padN_get : ∀ (k n j : Nat), j < k → (padN k n).getD j 0 = 48 + n / 10 ^ (k - 1 - j) % 10
  | 0, _, _, h => by omega
  | k + 1, n, j, h => by
    unfold padN
    by_cases hj : j < k
    · have := padN_get k (n / 10) j hj
      rw [List.getD_eq_getElem?_getD, List.getElem?_append_left (by rw [padN_len]; exact hj), ← List.getD_eq_getElem?_getD, this, Nat.div_div_eq_div_mul, show k + 1 - 1 - j = (k - 1 - j) + 1 by omega, Nat.pow_succ, Nat.mul_comm 10]
    · have e : j = k := by omega
      subst e
      rw [List.getD_eq_getElem?_getD, List.getElem?_append_right (by rw [padN_len]; exact Nat.le_refl _), padN_len]
      simp
theorem padC_pad (n : Nat) : padC n = padN 9 n := by
  apply List.ext_getElem
  · rw [padC_len, padN_len]
  · intro i h1 h2
    have := padN_get 9 n i (by rw [padN_len] at h2; exact h2)
    rw [List.getD_eq_getElem?_getD, List.getElem?_eq_getElem h2] at this
    simp only [Option.getD_some] at this
    rw [this]
    simp [padC]
theorem padN_add : ∀ (a b n : Nat), padN (a + b) n = padN a (n / 10 ^ b) ++ padN b (n % 10 ^ b)
  | a, 0, n => by simp [padN]
  | a, b + 1, n => by
    have e1 : n % 10 ^ (b + 1) / 10 = n / 10 % 10 ^ b := by
      rw [Nat.pow_succ, Nat.mul_comm, Nat.mod_mul_right_div_self]
    have e2 : n % 10 ^ (b + 1) % 10 = n % 10 := by
      rw [Nat.pow_succ]
      exact Nat.mod_mod_of_dvd _ (Nat.dvd_mul_left _ _)
    show padN (a + b) (n / 10) ++ [48 + n % 10] = padN a (n / 10 ^ (b + 1)) ++ (padN b (n % 10 ^ (b + 1) / 10) ++ [48 + n % 10 ^ (b + 1) % 10])
    rw [padN_add a b (n / 10), e1, e2, Nat.div_div_eq_div_mul, Nat.pow_succ, Nat.mul_comm 10, List.append_assoc]
theorem padN_zero : ∀ k, (padN k 0).dropWhile (· == 48) = []
  | 0 => rfl
  | k + 1 => by simp [padN, List.dropWhile_append, padN_zero k]
theorem pad_drop : ∀ (k n : Nat), n < 10 ^ k → 0 < n → (padN k n).dropWhile (· == 48) = decN n
  | 0, n, h, h0 => by simp at h; omega
  | k + 1, n, h, h0 => by
    unfold padN
    by_cases h10 : n < 10
    · have e : (48 + n % 10 == 48) = false := by simp; omega
      rw [show n / 10 = 0 by omega, List.dropWhile_append, padN_zero, decN_small h10]
      simp only [List.isEmpty_nil, if_true, List.dropWhile_cons, e]
      rw [Nat.mod_eq_of_lt h10]
      rfl
    · have := pad_drop k (n / 10) (by rw [Nat.pow_succ] at h; omega) (by omega)
      rw [List.dropWhile_append, this, decN_big (n := n) (by omega)]
      have h9 : (decN (n / 10)).isEmpty = false := by
        have := decN_ne (n / 10)
        cases he : decN (n / 10) with
        | nil => exact absurd he this
        | cons x l => rfl
      rw [h9]
      simp
theorem decN_bytes (n : Nat) : ∀ x ∈ decN n, 48 ≤ x ∧ x ≤ 57 := by
  induction n using Nat.strongRecOn with
  | _ n ih =>
    by_cases h : n < 10
    · rw [decN_small h]
      intro x hx
      simp at hx
      omega
    · rw [decN_big (by omega)]
      intro x hx
      rcases List.mem_append.1 hx with hx | hx
      · exact ih _ (by omega) x hx
      · simp at hx
        omega
theorem padN_bytes : ∀ (k n : Nat), ∀ x ∈ padN k n, 48 ≤ x ∧ x ≤ 57
  | 0, _, x, hx => by simp [padN] at hx
  | k + 1, n, x, hx => by
    unfold padN at hx
    rcases List.mem_append.1 hx with hx | hx
    · exact padN_bytes k _ x hx
    · simp at hx
      omega

/-- Bytes. -/
def toB (l : List Nat) : List UInt8 := l.map UInt8.ofNat
theorem toB_append (l m : List Nat) : toB (l ++ m) = toB l ++ toB m := by simp [toB]
theorem toB_cells {l : List Nat} (h : ∀ x ∈ l, x < 256) : Lib.byteCells (toB l) = mapB l := by
  unfold Lib.byteCells toB mapB
  rw [List.map_map]
  refine List.map_congr_left fun x hx => ?_
  have := h x hx
  simp [Nat.mod_eq_of_lt this]
theorem toB_drop : ∀ {l : List Nat}, (∀ x ∈ l, x < 256) → (toB l).dropWhile (· == 48) = toB (l.dropWhile (· == 48))
  | [], _ => rfl
  | x :: l, h => by
    have hx := h x (by simp)
    have ih := toB_drop (l := l) fun y hy => h y (by simp [hy])
    have e : (UInt8.ofNat x == 48) = (x == 48) := by
      by_cases h48 : x = 48
      · subst h48; rfl
      · have : UInt8.ofNat x ≠ 48 := fun e => by
          have := congrArg UInt8.toNat e
          simp [Nat.mod_eq_of_lt hx] at this
          exact h48 this
        rw [beq_eq_false_iff_ne.2 this, beq_eq_false_iff_ne.2 h48]
    unfold toB at ih ⊢
    rw [List.map_cons, List.dropWhile_cons, List.dropWhile_cons, e]
    by_cases h48 : (x == 48) = true
    · rw [if_pos h48, if_pos h48]
      exact ih
    · rw [if_neg h48, if_neg h48]
      rfl

/-- A number in decimal digits. -/
def decI (i : Int) : List UInt8 := toB (if i < 0 then 45 :: decN i.natAbs else decN i.natAbs)
/-- Pieces, the lowest first. -/
def ofP : List Nat → Nat
  | [] => 0
  | x :: l => x + 1000000000 * ofP l
/-- The digits of pieces, the highest piece first. -/
def digP : List Nat → List Nat
  | [] => []
  | x :: l => digP l ++ padN 9 x
theorem ofP_snoc : ∀ (l : List Nat) (x : Nat), ofP (l ++ [x]) = ofP l + 1000000000 ^ l.length * x
  | [], x => by simp [ofP]
  | y :: l, x => by
    rw [List.cons_append, ofP, ofP, ofP_snoc l x, List.length_cons, Nat.pow_succ, Nat.mul_add, Nat.mul_comm (1000000000 ^ l.length) 1000000000, Nat.mul_assoc, Nat.add_assoc]
theorem ofP_lt : ∀ {l : List Nat}, (∀ x ∈ l, x < 1000000000) → ofP l < 1000000000 ^ l.length
  | [], _ => by simp [ofP]
  | y :: l, h => by
    have h1 := ofP_lt (l := l) fun x hx => h x (by simp [hx])
    have h2 := h y (by simp)
    rw [ofP, List.length_cons, Nat.pow_succ]
    omega
theorem digP_pad : ∀ {l : List Nat}, (∀ x ∈ l, x < 1000000000) → digP l = padN (9 * l.length) (ofP l)
  | [], _ => rfl
  | y :: l, h => by
    have h1 := digP_pad (l := l) fun x hx => h x (by simp [hx])
    have h2 := h y (by simp)
    rw [digP, h1, List.length_cons, Nat.mul_add, padN_add, ofP]
    have e : (10 : Nat) ^ (9 * 1) = 1000000000 := by decide
    rw [e]
    congr 2 <;> omega
theorem digP_dec {l : List Nat} (h : ∀ x ∈ l, x < 1000000000) (h0 : 0 < ofP l) : (digP l).dropWhile (· == 48) = decN (ofP l) := by
  rw [digP_pad h]
  refine pad_drop _ _ ?_ h0
  have := ofP_lt h
  rw [Nat.pow_mul]
  exact this
theorem digP_bytes : ∀ (l : List Nat), ∀ x ∈ digP l, 48 ≤ x ∧ x ≤ 57
  | [], x, hx => by simp [digP] at hx
  | y :: l, x, hx => by
    unfold digP at hx
    rcases List.mem_append.1 hx with hx | hx
    · exact digP_bytes l x hx
    · exact padN_bytes 9 y x hx
theorem digP_len : ∀ l : List Nat, (digP l).length = 9 * l.length
  | [] => rfl
  | y :: l => by rw [digP, List.length_append, digP_len l, padN_len, List.length_cons]; omega
end Go.Proofs.YtahgbbnpbhfaeaaDoor
