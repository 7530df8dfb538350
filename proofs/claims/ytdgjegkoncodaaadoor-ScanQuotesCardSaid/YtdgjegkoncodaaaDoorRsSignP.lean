/- The signs in the reference's order: the first that stands there is the longest. Plain Lean. -/
import Derived.Test.YtdgjegkoncodaaaDoorRsAt
namespace Go.Proofs.YtdgjegkoncodaaaDoor

def twoL : List (List UInt8) := [[124, 124], [38, 38], [61, 61], [33, 61], [60, 61], [62, 61], [58, 61], [43, 61], [45, 61], [42, 61], [47, 61], [37, 61], [43, 43], [45, 45], [60, 45]]
def oneL : List (List UInt8) := [[43], [45], [42], [47], [37], [38], [33], [61], [60], [62], [40], [41], [91], [93], [123], [125], [44], [46], [58], [124]]
def signsL : List (List UInt8) := [[46, 46, 46]] ++ (twoL ++ oneL)
theorem hp_take {r s : List UInt8} {n : Nat} (h : s.length = n) : Lib.hasPrefix r s = (r.take n == s) := by
  rw [hasPrefix_take, h]
  cases he : (r.take n == s) with
  | false => simp
  | true =>
    have := congrArg List.length (eq_of_beq he)
    rw [List.length_take, h] at this
    rw [decide_eq_true (show n ≤ r.length by omega)]
    rfl
theorem find_n (r : List UInt8) (n : Nat) : (L : List (List UInt8)) → (∀ s ∈ L, s.length = n) → L.find? (Lib.hasPrefix r) = if L.contains (r.take n) then some (r.take n) else none
  | [], _ => rfl
  | s :: L, h => by
    rw [List.find?_cons, hp_take (h s (List.mem_cons_self ..)), find_n r n L (fun x hx => h x (List.mem_cons_of_mem _ hx)), List.contains_cons]
    cases he : (r.take n == s) with
    | true => simp [eq_of_beq he]
    | false => simp
theorem two_contains (l : List UInt8) : twoL.contains l = twoB l := by
  rw [Bool.eq_iff_iff]
  constructor
  · intro h
    rw [List.contains_iff_mem] at h
    simp only [twoL, List.mem_cons, List.not_mem_nil, or_false] at h
    rcases h with h | h | h | h | h | h | h | h | h | h | h | h | h | h | h <;> subst h <;> rfl
  · intro h
    simp only [twoB, Bool.or_eq_true, beq_iff_eq] at h
    rcases h with ((((((((((((((h | h) | h) | h) | h) | h) | h) | h) | h) | h) | h) | h) | h) | h) | h) <;> subst h <;> rfl
theorem one_contains (c : UInt8) : oneL.contains [c] = oneB c := by
  unfold oneL oneB
  simp only [List.contains_cons, List.contains_nil, List.cons_beq_cons, List.nil_beq_eq, List.isEmpty_nil, Bool.and_true]
theorem sign_find {r : List UInt8} (hr : r ≠ []) : signsL.find? (Lib.hasPrefix r) = if signLen r == 0 then none else some (r.take (signLen r)) := by
  have h3 : ([[46, 46, 46]] : List (List UInt8)).contains (r.take 3) = (r.take 3 == [46, 46, 46]) := by rw [List.contains_cons]; simp
  have h1 : oneL.contains (r.take 1) = r.head?.any oneB := by
    cases r with
    | nil => exact absurd rfl hr
    | cons c t => exact one_contains c
  unfold signsL
  rw [List.find?_append, List.find?_append, find_n r 3 _ (by decide), find_n r 2 twoL (by decide), find_n r 1 oneL (by decide), h3, h1, two_contains]
  unfold signLen
  cases (r.take 3 == [46, 46, 46]) <;> cases twoB (r.take 2) <;> cases r.head?.any oneB <;> simp
end Go.Proofs.YtdgjegkoncodaaaDoor
