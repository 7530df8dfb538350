/- What recastref2.Text keeps, round by round. No condition. -/
import Derived.Test.YtcnakbhogmnddaaDoorRfByte
import Derived.Test.YtcnakbhogmnddaaDoorRfLaw
import Derived.Test.YtcnakbhogmnddaaDoorExTxtLaw
import Derived.Test.YtcnakbhogmnddaaDoorRfTrim
namespace Go.Proofs.YtcnakbhogmnddaaDoor
open Go.RowKit

theorem BytO.other {w : World} {base : Nat} {v : Value} {l : List Nat} (h : BytO w base v l) {p : Addr} (hp : v.ownBlock ≠ some p.block) (u : Value) : BytO (w.setCell p u) base v l := by
  rcases h with h | ⟨g, cap, rfl, h2, h3⟩
  · exact .inl h
  · exact .inr ⟨g, cap, rfl, h2, h3.other (fun e => hp (by rw [e]; simp [Value.ownBlock])) u⟩
/-- The words that are left and the digits that are told. -/
def TxtD (w wr : World) (v3 v4 : Value) (y b : List Nat) (N : Nat) : Prop :=
  ∃ s, w.heap.size ≤ s ∧ RowO wr s v3 y ∧ BytO wr w.heap.size v4 b ∧ (∀ k, v4.ownBlock = some k → k < s) ∧ Words y ∧ trimZ y = y ∧ (decD N = decD (ofW y) ++ b.reverse ∧ 10 ^ b.length * ofW y ≤ N ∧ ∀ x ∈ b, 48 ≤ x ∧ x ≤ 57) ∧ Below w.heap.size w wr
/-- The words from k on are divided. -/
def DivD (w wr : World) (g c : Nat) (v4 : Value) (y0 b : List Nat) (k r : Nat) : Prop :=
  ∃ l, RowW wr g c l ∧ l.length = y0.length ∧ Words l ∧ l.take k = y0.take k ∧ 10 * ofW (l.drop k) + r = ofW (y0.drop k) ∧ BytO wr w.heap.size v4 b ∧ Below w.heap.size w wr
theorem TxtD.start {w wr : World} {v3 v4 : Value} {y b : List Nat} {N : Nat} (h : TxtD w wr v3 v4 y b N) (hy : y ≠ []) : ∃ g c, v3 = .slice (some ⟨g, 0, none⟩) y.length c ∧ y.length ≤ c ∧ w.heap.size ≤ g ∧ v4.ownBlock ≠ some g ∧ DivD w wr g c v4 y b y.length 0 := by
  obtain ⟨s, h1, h2, h3, h4, h5, h6, h7, h8⟩ := h
  rcases h2 with ⟨_, h2⟩ | ⟨g, c, rfl, q1, q2⟩
  · exact absurd h2 hy
  · exact ⟨g, c, rfl, q2.1, by omega, fun e => by have := h4 g e; omega, y, q2, rfl, h5, rfl, by simp [ofW], h3, h8⟩
theorem DivD.cell {w wr : World} {g c k r : Nat} {v4 : Value} {y0 b : List Nat} (h : DivD w wr g c v4 y0 b (k + 1) r) (hk : k < y0.length) : wr.cell? ⟨g, k, none⟩ = some (.int .u32 ((y0.getD k 0 : Nat) : Int)) ∧ wr.frozen? ⟨g, k, none⟩ = false := by
  obtain ⟨l, h1, h2, h3, h4, _⟩ := h
  have e := congrArg (fun q => q.getD k 0) h4
  simp only [List.getD, List.getElem?_take, show k < k + 1 by omega, if_true] at e
  have := h1.cell k (by omega)
  rw [show l.getD k 0 = y0.getD k 0 from e] at this
  exact ⟨this, h1.frozen k⟩
theorem DivD.step {w wr : World} {g c k r x X : Nat} {v4 : Value} {y0 b : List Nat} (h : DivD w wr g c v4 y0 b (k + 1) r) (hk : k < y0.length) (hr : r < 10) (hx : y0.getD k 0 = x) (hx9 : x < 4294967296) (hX : r * 4294967296 + x = X) (hg : w.heap.size ≤ g) (hv : v4.ownBlock ≠ some g) :
    DivD w (wr.setCell ⟨g, k, none⟩ (.int .u32 ((X / 10 : Nat) : Int))) g c v4 y0 b k (X % 10) := by
  subst hX
  obtain ⟨l, h1, h2, h3, h4, h5, h6, h7⟩ := h
  refine ⟨l.set k ((r * 4294967296 + x) / 10), h1.set _ _, by simpa using h2, h3.set (by omega), ?_, ?_, h6.other hv _, h7.setCell hg _⟩
  · rw [take_set]
    have := congrArg (List.take k) h4
    rwa [List.take_take, List.take_take, show min k (k + 1) = k by omega] at this
  · rw [drop_set_self (by omega), drop_getD hk, hx]
    simp only [ofW]
    have := Nat.div_add_mod (r * 4294967296 + x) 10
    omega
theorem RowO.ofNil {w : World} {s : Nat} : RowO w s (.slice none 0 0) [] := RowO.nil
/-- A round's end: the digit is told. -/
theorem DivD.done {w wr w' : World} {g c r g4 c4 N : Nat} {v4 : Value} {y0 b : List Nat} (h : DivD w wr g c v4 y0 b 0 r) (hr : r < 10) (hy : 0 < ofW y0)
    (hN : decD N = decD (ofW y0) ++ b.reverse ∧ 10 ^ b.length * ofW y0 ≤ N ∧ ∀ x ∈ b, 48 ≤ x ∧ x ≤ 57) (hg : w.heap.size ≤ g) (hv : v4.ownBlock ≠ some g)
    (q1 : BytW w' g4 c4 (b ++ [48 + r])) (q2 : w.heap.size ≤ g4) (q3 : Below w.heap.size wr w') (q4 : ∀ k, k < wr.heap.size → v4.ownBlock ≠ some k → w'.heap[k]? = wr.heap[k]?) :
    ∃ l, WordsAt w' (some ⟨g, 0, none⟩) y0.length l ∧ (ofW l < ofW y0) ∧ l.length = y0.length ∧
      ∀ w9 v3, RowO w9 w'.heap.size v3 (trimZ l) → Below w'.heap.size w' w9 → TxtD w w9 v3 (.slice (some ⟨g4, 0, none⟩) (b.length + 1) c4) (trimZ l) (b ++ [48 + r]) N := by
  obtain ⟨l, h1, h2, h3, h4, h5, h6, h7⟩ := h
  simp only [List.drop_zero] at h5
  have h1' := h1.heap (q4 g h1.lt hv)
  refine ⟨l, ?_, by omega, h2, fun w9 v3 p1 p2 => ?_⟩
  · have := h1'.words h3
    rwa [h2] at this
  · have hs := q3.size
    have hs7 := h7.size
    refine ⟨w'.heap.size, by omega, p1, .inr ⟨g4, c4, by simp, q2, ?_⟩, fun k e => ?_, h3.trim, trim_idem, ⟨?_, ?_, ?_⟩, (h7.trans (Below.mono q3 (by omega))).trans (Below.mono p2 (by omega))⟩
    · exact q1.below p2 q1.lt
    · have e2 : g4 = k := by simpa [Value.ownBlock] using e
      rw [← e2]
      exact q1.lt
    · rw [hN.1, decD_step hy, ofW_trim, ← h5, show (10 * ofW l + r) / 10 = ofW l by omega, show (10 * ofW l + r) % 10 = r by omega]
      simp
    · rw [ofW_trim, List.length_append, List.length_singleton, Nat.pow_succ, Nat.mul_assoc]
      exact Nat.le_trans (Nat.mul_le_mul_left _ (by omega)) hN.2.1
    · intro x hx
      rcases List.mem_append.1 hx with hx | hx
      · exact hN.2.2 x hx
      · simp at hx
        omega
/-- How many digits there may be. -/
theorem digits_few {b y : List Nat} {N n : Nat} (hN : 10 ^ b.length * ofW y ≤ N) (hy : 0 < ofW y) (hlt : N < 4294967296 ^ n) : b.length ≤ 11 * n := by
  have h1 : (10 : Nat) ^ b.length ≤ N := by
    have : 10 ^ b.length * 1 ≤ 10 ^ b.length * ofW y := Nat.mul_le_mul_left _ hy
    omega
  have h2 : (2 : Nat) ^ (3 * b.length) ≤ 10 ^ b.length := by
    rw [Nat.pow_mul]
    exact Nat.pow_le_pow_left (by decide) _
  have h3 : (4294967296 : Nat) ^ n = 2 ^ (32 * n) := by
    rw [Nat.pow_mul]
  rw [h3] at hlt
  have := (Nat.pow_lt_pow_iff_right (show 1 < 2 by decide)).1 (Nat.lt_of_le_of_lt (Nat.le_trans h2 h1) hlt)
  omega
/-- The digits from j on stand turned round. -/
def RevD (w wr : World) (v7 : Value) (b : List Nat) (j : Nat) : Prop := BytO wr w.heap.size v7 (b.drop j).reverse ∧ Below w.heap.size w wr
theorem RevD.start (w : World) (b : List Nat) : RevD w w (.slice none 0 0) b b.length := ⟨.inl ⟨rfl, by simp⟩, Below.refl _ _⟩
theorem RevD.step {w wr w' : World} {v7 : Value} {b : List Nat} {j g c u : Nat} (h : RevD w wr v7 b (j + 1)) (hj : j < b.length) (hu : b.getD j 0 = u)
    (q1 : BytW w' g c ((b.drop (j + 1)).reverse ++ [u])) (q2 : w.heap.size ≤ g) (q3 : Below w.heap.size wr w') : RevD w w' (.slice (some ⟨g, 0, none⟩) (b.length - j) c) b j := by
  have e : (b.drop j).reverse = (b.drop (j + 1)).reverse ++ [u] := by
    rw [drop_getD hj, hu, List.reverse_cons]
  refine ⟨.inr ⟨g, c, ?_, q2, by rw [e]; exact q1⟩, h.2.trans (Below.mono q3 (by omega))⟩
  rw [List.length_reverse, List.length_drop]
theorem decI_nz {neg : Bool} {z : List Nat} (h : 0 < ofW z) : decI (valI neg z) = toB (if neg then 45 :: decN (ofW z) else decN (ofW z)) := by
  unfold decI valI
  cases neg with
  | false =>
    simp only [Bool.false_eq_true, if_false]
    rw [if_neg (by omega)]
    simp
  | true =>
    simp only [if_true]
    rw [if_pos (by omega)]
    simp
end Go.Proofs.YtcnakbhogmnddaaDoor
