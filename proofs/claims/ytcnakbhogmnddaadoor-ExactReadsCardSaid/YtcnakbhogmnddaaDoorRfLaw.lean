/- Reading decimal digits, plain. No condition. -/
import Derived.Test.YtcnakbhogmnddaaDoorExDec
namespace Go.Proofs.YtcnakbhogmnddaaDoor

def valS (l : List Nat) : Nat := l.foldl (fun a d => 10 * a + (d - 48)) 0
theorem valS_snoc (l : List Nat) (d : Nat) : valS (l ++ [d]) = 10 * valS l + (d - 48) := by simp [valS]
theorem valS_more (l : List Nat) : ∀ r : List Nat, valS l ≤ valS (l ++ r.reverse)
  | [] => by simp
  | d :: r => by
    have := valS_more l r
    rw [List.reverse_cons, ← List.append_assoc, valS_snoc]
    omega
theorem valS_take (l : List Nat) (i : Nat) : valS (l.take i) ≤ valS l := by
  have h := valS_more (l.take i) (l.drop i).reverse
  rwa [List.reverse_reverse, List.take_append_drop] at h
theorem valS_step {l : List Nat} {i : Nat} (h : i < l.length) : valS (l.take (i + 1)) = 10 * valS (l.take i) + (l.getD i 0 - 48) := by
  have e : l.take (i + 1) = l.take i ++ [l.getD i 0] := by
    rw [List.take_add_one, List.getElem?_eq_getElem h]
    simp [List.getD, h]
  rw [e, valS_snoc]
theorem valS_dec : ∀ r : List Nat, r ≠ [] → (∀ x ∈ r, 48 ≤ x ∧ x ≤ 57) → (2 ≤ r.length → r.getLast? ≠ some 48) → decN (valS r.reverse) = r.reverse
  | [], h, _, _ => absurd rfl h
  | [d], _, h, _ => by
    have := h d (by simp)
    simp only [List.reverse_cons, List.reverse_nil, List.nil_append, valS, List.foldl_cons, List.foldl_nil]
    rw [decN_small (by omega)]
    congr 1
    omega
  | d :: e :: r, _, h, h0 => by
    have hl : (e :: r).getLast? ≠ some 48 := by
      have := h0 (by simp)
      rwa [List.getLast?_cons_cons] at this
    have ih := valS_dec (e :: r) (by simp) (fun x hx => h x (List.mem_cons_of_mem _ hx)) (fun _ => hl)
    have hd := h d (by simp)
    rw [List.reverse_cons, valS_snoc]
    have hv : 0 < valS (e :: r).reverse := by
      refine Nat.pos_of_ne_zero fun h0 => hl ?_
      rw [h0, decN_small (by decide)] at ih
      have e2 := congrArg List.reverse ih
      rw [List.reverse_reverse] at e2
      rw [← e2]
      rfl
    rw [decN_big (by omega), show (10 * valS (e :: r).reverse + (d - 48)) / 10 = valS (e :: r).reverse by omega, ih]
    congr 2
    omega
theorem valS_big : ∀ r : List Nat, r ≠ [] → (∀ x ∈ r, 48 ≤ x ∧ x ≤ 57) → r.getLast? ≠ some 48 → 10 ^ (r.length - 1) ≤ valS r.reverse
  | [], h, _, _ => absurd rfl h
  | [d], _, h, h0 => by
    have := h d (by simp)
    have h1 : d ≠ 48 := fun e => h0 (by rw [e]; rfl)
    simp only [List.reverse_cons, List.reverse_nil, List.nil_append, valS, List.foldl_cons, List.foldl_nil, List.length_singleton, Nat.sub_self, Nat.pow_zero]
    omega
  | d :: e :: r, _, h, h0 => by
    have ih := valS_big (e :: r) (by simp) (fun x hx => h x (List.mem_cons_of_mem _ hx)) (by rwa [List.getLast?_cons_cons] at h0)
    rw [List.reverse_cons, valS_snoc, List.length_cons, Nat.add_sub_cancel, show (e :: r).length = ((e :: r).length - 1) + 1 by simp, Nat.pow_succ]
    omega
theorem pow200 : 2 ^ 512 ≤ 10 ^ 200 := by
  have h1 : (8 : Nat) ^ 171 = 2 ^ 513 := pow_as 8 2 3 171 513 (by decide) (by decide)
  have h2 : (8 : Nat) ^ 171 ≤ 10 ^ 171 := Nat.pow_le_pow_left (by decide) 171
  have h3 : (10 : Nat) ^ 171 ≤ 10 ^ 200 := pow_mono 10 171 200 (by decide) (by decide)
  have h4 : (2 : Nat) ^ 512 ≤ 2 ^ 513 := pow_mono 2 512 513 (by decide) (by decide)
  rw [h1] at h2
  exact Nat.le_trans h4 (Nat.le_trans h2 h3)

/-- Digits told from the end. -/
def decD (n : Nat) : List Nat := if n = 0 then [] else decN n
theorem decD_zero : decD 0 = [] := rfl
theorem decD_step {n : Nat} (h : 0 < n) : decD n = decD (n / 10) ++ [48 + n % 10] := by
  unfold decD
  rw [if_neg (by omega)]
  by_cases h10 : n < 10
  · rw [if_pos (by omega), decN_small h10, Nat.mod_eq_of_lt h10]
    rfl
  · rw [if_neg (by omega), decN_big (by omega)]
end Go.Proofs.YtcnakbhogmnddaaDoor
