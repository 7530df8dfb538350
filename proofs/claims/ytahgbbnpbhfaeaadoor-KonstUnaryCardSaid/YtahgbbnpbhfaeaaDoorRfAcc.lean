/- Sums and differences word by word, appended. No condition. -/
import Derived.Test.YtahgbbnpbhfaeaaDoorExTwice
namespace Go.Proofs.YtahgbbnpbhfaeaaDoor
open Go.RowKit

/-- What was appended so far: i words. -/
def RfR (w wr : World) (v : Value) (l : List Nat) (i : Nat) : Prop := RowO wr w.heap.size v l ∧ l.length = i ∧ Words l ∧ Below w.heap.size w wr
theorem RfR.start (w : World) : RfR w w (.slice none 0 0) [] 0 := ⟨RowO.nil, rfl, Words.nil, Below.refl _ _⟩
theorem RfR.step {w wr w' : World} {v : Value} {l : List Nat} {i g cap x : Nat} (h : RfR w wr v l i) (hx : x < 4294967296) (h1 : RowW w' g cap (l ++ [x])) (h2 : w.heap.size ≤ g) (h3 : Below w.heap.size wr w') : RfR w w' (.slice (some ⟨g, 0, none⟩) (i + 1) cap) (l ++ [x]) (i + 1) :=
  ⟨.inr ⟨g, cap, by simp [h.2.1], h2, h1⟩, by simp [h.2.1], Words.append.2 ⟨h.2.2.1, Words.cons.2 ⟨hx, Words.nil⟩⟩, h.2.2.2.trans h3⟩
theorem RfR.shape {w wr : World} {v : Value} {l : List Nat} {i : Nat} (h : RfR w wr v l i) : ∃ a c, v = .slice a i c ∧ i ≤ c := by
  obtain ⟨a, c, e, hc, _⟩ := h.1.shape
  have := h.2.1
  exact ⟨a, c, by rw [e, this], by omega⟩
/-- The sum's law. -/
def SumL (z1 z2 l : List Nat) (i c : Nat) : Prop := ofW l + 4294967296 ^ i * c = ofW (z1.take i) + ofW (z2.take i)
theorem SumL.start (z1 z2 : List Nat) : SumL z1 z2 [] 0 0 := by simp [SumL, ofW]
theorem SumL.step {z1 z2 l : List Nat} {i c u1 u2 : Nat} (h : SumL z1 z2 l i c) (hl : l.length = i) (h1 : z1.getD i 0 = u1) (h2 : z2.getD i 0 = u2) : SumL z1 z2 (l ++ [(c + u1 + u2) % 4294967296]) (i + 1) ((c + u1 + u2) / 4294967296) := by
  unfold SumL at h ⊢
  rw [ofW_append, ofW_take, ofW_take, h1, h2, hl]
  simp only [ofW, Nat.mul_zero, Nat.add_zero]
  have e : 4294967296 ^ i * (c + u1 + u2) = 4294967296 ^ i * ((c + u1 + u2) % 4294967296) + 4294967296 ^ i * 4294967296 * ((c + u1 + u2) / 4294967296) := by
    rw [Nat.mul_assoc, ← Nat.mul_add]
    congr 1
    omega
  rw [Nat.mul_add, Nat.mul_add] at e
  rw [Nat.pow_succ]
  omega
theorem SumL.done {z1 z2 l : List Nat} {i c : Nat} (h : SumL z1 z2 l i c) (hl : l.length = i) (h1 : z1.length ≤ i) (h2 : z2.length ≤ i) : ofW (l ++ [c]) = ofW z1 + ofW z2 := by
  unfold SumL at h
  rw [List.take_of_length_le h1, List.take_of_length_le h2] at h
  rw [ofW_append, hl]
  simp only [ofW, Nat.mul_zero, Nat.add_zero]
  exact h
theorem getD_over {z : List Nat} {i : Nat} (h : z.length ≤ i) : z.getD i 0 = 0 := by simp [List.getD, List.getElem?_eq_none h]
/-- The difference's law. -/
def DifL (z1 z2 l : List Nat) (i c : Nat) : Prop := ofW (z1.take i) + 4294967296 ^ i * c = ofW l + ofW (z2.take i)
theorem DifL.start (z1 z2 : List Nat) : DifL z1 z2 [] 0 0 := by simp [DifL, ofW]
theorem DifL.step {z1 z2 l : List Nat} {i c u1 u2 x c' : Nat} (h : DifL z1 z2 l i c) (hl : l.length = i) (h1 : z1.getD i 0 = u1) (h2 : z2.getD i 0 = u2) (hx : u1 + 4294967296 * c' = x + u2 + c) : DifL z1 z2 (l ++ [x]) (i + 1) c' := by
  unfold DifL at h ⊢
  rw [ofW_append, ofW_take, ofW_take, h1, h2, hl]
  simp only [ofW, Nat.mul_zero, Nat.add_zero]
  have e := congrArg (fun q => 4294967296 ^ i * q) hx
  simp only [Nat.mul_add] at e
  rw [Nat.pow_succ, Nat.mul_assoc]
  omega
theorem DifL.done {z1 z2 l : List Nat} {c : Nat} (h : DifL z1 z2 l z1.length c) (hw : Words l) (hl : l.length = z1.length) (h2 : z2.length ≤ z1.length) (hle : ofW z2 ≤ ofW z1) : ofW l = ofW z1 - ofW z2 := by
  unfold DifL at h
  rw [List.take_of_length_le (Nat.le_refl _), List.take_of_length_le h2] at h
  have := ofW_lt hw
  rw [hl] at this
  cases c with
  | zero => omega
  | succ c =>
    rw [Nat.mul_add] at h
    omega
end Go.Proofs.YtahgbbnpbhfaeaaDoor
