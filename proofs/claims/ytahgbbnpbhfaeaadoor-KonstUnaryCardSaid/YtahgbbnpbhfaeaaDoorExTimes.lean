/- Products word by word, in plain lists and rows. No condition. -/
import Derived.Test.YtahgbbnpbhfaeaaDoorExSub
namespace Go.Proofs.YtahgbbnpbhfaeaaDoor
open Go.RowKit

theorem ofW_set : ∀ (l : List Nat) (k u : Nat), k < l.length → ofW (l.set k u) + 4294967296 ^ k * l.getD k 0 = ofW l + 4294967296 ^ k * u
  | [], _, _, h => by simp at h
  | x :: l, 0, u, _ => by simp [ofW]; omega
  | x :: l, k + 1, u, h => by
    have ih := ofW_set l k u (by simpa using h)
    have e := congrArg (fun q => 4294967296 * q) ih
    simp only [Nat.mul_add] at e
    simp only [List.set_cons_succ, ofW, List.getD_cons_succ, Nat.pow_succ]
    rw [show 4294967296 ^ k * 4294967296 * l.getD k 0 = 4294967296 * (4294967296 ^ k * l.getD k 0) by rw [Nat.mul_comm (4294967296 ^ k), Nat.mul_assoc], show 4294967296 ^ k * 4294967296 * u = 4294967296 * (4294967296 ^ k * u) by rw [Nat.mul_comm (4294967296 ^ k), Nat.mul_assoc]]
    omega
theorem zero_ofW (n : Nat) : ofW (List.replicate n 0) = 0 := by
  induction n with
  | zero => rfl
  | succ n ih => simp [List.replicate_succ, ofW, ih]
theorem getD_set_ne {l : List Nat} {i k x : Nat} (h : i ≠ k) : (l.set i x).getD k 0 = l.getD k 0 := by simp [List.getD, List.getElem?_set, h]

/-- The product so far: i words of the first one are told. -/
def MulR (w wr : World) (g : Nat) (y1 y2 : List Nat) (N i : Nat) : Prop :=
  ∃ l, OwnW wr g l ∧ l.length = N ∧ Words l ∧ ofW l = ofW (y1.take i) * ofW y2 ∧ (∀ k, i + y2.length ≤ k → l.getD k 0 = 0) ∧ Below w.heap.size w wr
/-- .. and j words of the second one for the word x. -/
def MulI (w wr : World) (g : Nat) (y2 : List Nat) (N i x V j c : Nat) : Prop :=
  ∃ l, OwnW wr g l ∧ l.length = N ∧ Words l ∧ ofW l + 4294967296 ^ (i + j) * c = V + 4294967296 ^ i * (x * ofW (y2.take j)) ∧ (∀ k, i + y2.length ≤ k → l.getD k 0 = 0) ∧ Below w.heap.size w wr

theorem mul_fits {x y c o : Nat} (hx : x < 4294967296) (hy : y < 4294967296) (hc : c < 4294967296) (ho : o < 4294967296) : x * y + o < 18446744073709551616 ∧ c + (x * y + o) < 18446744073709551616 ∧ (c + (x * y + o)) / 4294967296 < 4294967296 ∧ x * y < 18446744073709551616 := by
  have h : x * y ≤ 4294967295 * 4294967295 := Nat.mul_le_mul (by omega) (by omega)
  have e : (4294967295 : Nat) * 4294967295 = 18446744065119617025 := by decide
  rw [e] at h
  refine ⟨by omega, by omega, ?_, by omega⟩
  omega
theorem MulI.step {w wr : World} {g N i x V j c o y u : Nat} {y2 : List Nat} (h : MulI w wr g y2 N i x V j c) (hj : j < y2.length) (hN : i + y2.length ≤ N) (hg : w.heap.size ≤ g) (hy : y2.getD j 0 = y) (ho : ∀ l, OwnW wr g l → l.length = N → l.getD (i + j) 0 = o) (hu : c + (x * y + o) = u) :
    MulI w (wr.setCell ⟨g, i + j, none⟩ (.int .u32 ((u % 4294967296 : Nat) : Int))) g y2 N i x V (j + 1) (u / 4294967296) := by
  obtain ⟨l, r1, r2, r3, r4, r5, r6⟩ := h
  have ho := ho l r1 r2
  refine ⟨l.set (i + j) (u % 4294967296), r1.set _ _, by simpa using r2, r3.set (Nat.mod_lt _ (by decide)), ?_, fun k hk => ?_, r6.setCell (by simpa using hg) _⟩
  · have h1 := ofW_set l (i + j) (u % 4294967296) (by omega)
    rw [ho] at h1
    rw [ofW_take, hy]
    have hd : 4294967296 ^ (i + j) * u = 4294967296 ^ (i + j) * (u % 4294967296) + 4294967296 ^ (i + j) * 4294967296 * (u / 4294967296) := by
      rw [Nat.mul_assoc, ← Nat.mul_add]
      congr 1
      omega
    have e1 : 4294967296 ^ (i + (j + 1)) = 4294967296 ^ (i + j) * 4294967296 := by rw [← Nat.add_assoc, Nat.pow_succ]
    rw [e1]
    have e2 : 4294967296 ^ i * (x * (ofW (y2.take j) + 4294967296 ^ j * y)) = 4294967296 ^ i * (x * ofW (y2.take j)) + 4294967296 ^ (i + j) * (x * y) := by
      rw [Nat.mul_add, Nat.mul_add, Nat.pow_add]
      congr 1
      rw [Nat.mul_left_comm x, ← Nat.mul_assoc]
    rw [e2]
    have e3 : 4294967296 ^ (i + j) * u = 4294967296 ^ (i + j) * c + (4294967296 ^ (i + j) * (x * y) + 4294967296 ^ (i + j) * o) := by
      rw [← hu, Nat.mul_add, Nat.mul_add]
    omega
  · rw [getD_set_ne (by omega)]
    exact r5 k hk
theorem MulI.done {w wr : World} {g N i x V c : Nat} {y1 y2 : List Nat} (h : MulI w wr g y2 N i x V y2.length c) (hN : i + y2.length < N) (hg : w.heap.size ≤ g) (hV : V = ofW (y1.take i) * ofW y2) (hx : y1.getD i 0 = x) (hc : c < 4294967296) :
    MulR w (wr.setCell ⟨g, i + y2.length, none⟩ (.int .u32 (c : Int))) g y1 y2 N (i + 1) := by
  obtain ⟨l, r1, r2, r3, r4, r5, r6⟩ := h
  refine ⟨l.set (i + y2.length) c, r1.set _ _, by simpa using r2, r3.set hc, ?_, fun k hk => ?_, r6.setCell (by simpa using hg) _⟩
  · have h1 := ofW_set l (i + y2.length) c (by omega)
    rw [r5 _ (Nat.le_refl _), Nat.mul_zero, Nat.add_zero] at h1
    rw [h1, r4, List.take_of_length_le (Nat.le_refl _), hV, ofW_take, hx, Nat.add_mul, Nat.mul_assoc]
  · rw [getD_set_ne (by omega)]
    exact r5 k (by omega)
theorem MulR.start {w wr : World} {g i x N : Nat} {y1 y2 : List Nat} (h : MulR w wr g y1 y2 N i) : MulI w wr g y2 N i x (ofW (y1.take i) * ofW y2) 0 0 := by
  obtain ⟨l, r1, r2, r3, r4, r5, r6⟩ := h
  exact ⟨l, r1, r2, r3, by simp [ofW, r4], r5, r6⟩
end Go.Proofs.YtahgbbnpbhfaeaaDoor
