/- exact.form, length, large, negative, sizes. No condition. -/
import Derived.Test.YtahgbbnpbhfaeaaDoorExBits
import Derived.Test.YtahgbbnpbhfaeaaDoorExLen
namespace Go.Proofs.YtahgbbnpbhfaeaaDoor
open Go.RowKit

/-- How many binary digits. -/
def bitsN (n : Nat) : Nat := if n = 0 then 0 else n.log2 + 1
theorem bitsN_uniq {n L : Nat} (h1 : n < 2 ^ L) (h2 : n ≠ 0 → 0 < L ∧ 2 ^ (L - 1) ≤ n) (h3 : n = 0 → L = 0) : bitsN n = L := by
  unfold bitsN
  by_cases h : n = 0
  · rw [if_pos h, h3 h]
  · rw [if_neg h]
    obtain ⟨h4, h5⟩ := h2 h
    have : n.log2 = L - 1 := (Nat.log2_eq_iff h).2 ⟨h5, by rw [show L - 1 + 1 = L by omega]; exact h1⟩
    omega
theorem bitsN_lt (n : Nat) : n < 2 ^ bitsN n := by
  unfold bitsN
  split
  · subst_vars; decide
  · exact Nat.lt_log2_self
theorem bitsN_le {n : Nat} (h : n ≠ 0) : 0 < bitsN n ∧ 2 ^ (bitsN n - 1) ≤ n := by
  unfold bitsN
  rw [if_neg h]
  exact ⟨by omega, by simpa using Nat.log2_self_le h⟩
theorem bitsN_le_iff (n L : Nat) : bitsN n ≤ L ↔ n < 2 ^ L := by
  constructor
  · intro h
    exact Nat.lt_of_lt_of_le (bitsN_lt n) (Nat.pow_le_pow_right (by decide) h)
  · intro h
    by_cases h0 : n = 0
    · simp [bitsN, h0]
    · obtain ⟨h1, h2⟩ := bitsN_le h0
      have : 2 ^ (bitsN n - 1) < 2 ^ L := Nat.lt_of_le_of_lt h2 h
      have := (Nat.pow_lt_pow_iff_right (show 1 < 2 by decide)).1 this
      omega
theorem libBits : ∀ x : Nat, x < 2 ^ 64 → Lib.bitLen x = bitsN x := by
  intro x
  induction x using Nat.strongRecOn with
  | _ x ih =>
    intro hx
    by_cases h0 : x = 0
    · subst h0
      decide
    · rw [Lib.bitLen_half x h0 hx, ih (x / 2) (by omega) (by omega)]
      have h1 := bitsN_lt (x / 2)
      refine (bitsN_uniq ?_ (fun _ => ⟨by omega, ?_⟩) (fun h => absurd h h0)).symm
      · rw [show 1 + bitsN (x / 2) = bitsN (x / 2) + 1 by omega, Nat.pow_succ]
        omega
      · rw [show 1 + bitsN (x / 2) - 1 = bitsN (x / 2) by omega]
        by_cases h2 : x / 2 = 0
        · rw [h2]
          simp [bitsN]
          omega
        · obtain ⟨h3, h4⟩ := bitsN_le h2
          have e : bitsN (x / 2) = bitsN (x / 2) - 1 + 1 := by omega
          rw [e, Nat.pow_succ]
          omega
/-- The length of words in form. -/
theorem bits_words {l : List Nat} (hw : Words l) (h : trimZ l = l) (hl : l ≠ []) : bitsN (ofW l) = (l.length - 1) * 32 + bitsN (l.getD (l.length - 1) 0) := by
  have hn : 0 < l.length := List.length_pos_iff.2 hl
  have e : l = l.take (l.length - 1) ++ [l.getD (l.length - 1) 0] := by
    have e : l.take (l.length - 1 + 1) = l.take (l.length - 1) ++ [l.getD (l.length - 1) 0] := by
      rw [List.take_add_one, List.getElem?_eq_getElem (show l.length - 1 < l.length by omega)]
      simp [List.getD, show l.length - 1 < l.length by omega]
    rwa [show l.length - 1 + 1 = l.length by omega, List.take_length] at e
  have h0 : l.getD (l.length - 1) 0 ≠ 0 := fun h0 => by
    have := trim_step l (l.length - 1) (by omega)
    rw [show l.length - 1 + 1 = l.length by omega, List.take_length, if_pos h0, h] at this
    have hl := congrArg List.length this
    have := trim_le (l.take (l.length - 1))
    simp at this
    omega
  have hv : ofW l = ofW (l.take (l.length - 1)) + 4294967296 ^ (l.length - 1) * l.getD (l.length - 1) 0 := by
    have h9 := congrArg ofW e
    rw [ofW_append] at h9
    simp only [ofW, List.length_take, Nat.mul_zero, Nat.add_zero] at h9
    rw [Nat.min_eq_left (by omega)] at h9
    exact h9
  have hlow := ofW_lt (hw.take (l.length - 1))
  rw [List.length_take, Nat.min_eq_left (by omega)] at hlow
  have hp : (4294967296 : Nat) ^ (l.length - 1) = 2 ^ ((l.length - 1) * 32) := by
    rw [show (4294967296 : Nat) = 2 ^ 32 by decide, ← Nat.pow_mul, Nat.mul_comm]
  rw [hp] at hv hlow
  obtain ⟨t, ht⟩ : ∃ t, l.getD (l.length - 1) 0 = t := ⟨_, rfl⟩
  obtain ⟨q, hq⟩ : ∃ q, 2 ^ ((l.length - 1) * 32) = q := ⟨_, rfl⟩
  have hq0 : 0 < q := by rw [← hq]; exact Nat.two_pow_pos _
  rw [ht] at hv h0 ⊢
  have b1 := bitsN_lt t
  obtain ⟨b2, b3⟩ := bitsN_le h0
  have hne : ofW l ≠ 0 := by
    rw [hv]
    have : 0 < 2 ^ ((l.length - 1) * 32) * t := Nat.mul_pos (Nat.two_pow_pos _) (by omega)
    omega
  refine bitsN_uniq ?_ (fun _ => ⟨by omega, ?_⟩) (fun h => absurd h hne)
  · rw [Nat.pow_add, hv, hq]
    rw [hq] at hlow
    have : q * (t + 1) ≤ q * 2 ^ bitsN t := Nat.mul_le_mul_left _ b1
    rw [Nat.mul_add, Nat.mul_one] at this
    omega
  · rw [show (l.length - 1) * 32 + bitsN t - 1 = (l.length - 1) * 32 + (bitsN t - 1) by omega, Nat.pow_add, hv, hq]
    have : q * 2 ^ (bitsN t - 1) ≤ q * t := Nat.mul_le_mul_left _ b3
    omega

/-- A number, as it came. -/
def IntV (w : World) (v : Value) (neg : Bool) (z : List Nat) : Prop := ∃ a n cap, v = .agg #[.bool neg, .slice a n cap] ∧ WordsAt w a n z ∧ n ≤ cap ∧ n ≤ 1000000
def valI (neg : Bool) (z : List Nat) : Int := if neg then -(ofW z : Int) else (ofW z : Int)
/-- A number in form. -/
def IntC (w : World) (v : Value) (i : Int) : Prop := IntV w v (decide (i < 0)) (canW i.natAbs)
theorem IntV.below {w w' : World} {v : Value} {neg : Bool} {z : List Nat} (h : IntV w v neg z) (hb : Below w.heap.size w w') : IntV w' v neg z := by
  obtain ⟨a, n, cap, h1, h2, h3⟩ := h
  exact ⟨a, n, cap, h1, h2.below hb, h3⟩
theorem IntC.below {w w' : World} {v : Value} {i : Int} (h : IntC w v i) (hb : Below w.heap.size w w') : IntC w' v i := IntV.below h hb
theorem valI_can (i : Int) : valI (decide (i < 0)) (canW i.natAbs) = i := by
  unfold valI
  rw [(canW_words _).2]
  by_cases h : i < 0
  · simp [h]; omega
  · simp [h]; omega

theorem setCell_same2 {w : World} {g j : Nat} {cur : Array Value} {t : TypeId} (h : w.heap[g]? = some (.cells cur t (0, 0))) (u : Value) : (w.setCell ⟨g, j, none⟩ u).heap[g]? = some (.cells (cur.setIfInBounds j u) t (0, 0)) := by
  simp only [World.setCell, Array.getElem?_modify, h]; simp

set_option maxHeartbeats 800000 in
theorem form_big (neg : Bool) (a : Option Addr) (n cap : Nat) (z : List Nat) (w : World) (h : WordsAt w a n z) (hn : n ≤ 4000000) (ht : (trimZ z).length ≤ 1000000) (hc : n ≤ cap) :
    Calls Tryd.prog 47 #[.bool neg, .slice a n cap] w fun e w' => ∃ v, e = .returned v ∧ IntC w' v (valI neg z) ∧ Below w.heap.size w w' := by
  obtain ⟨w1, Hw1⟩ : ∃ w1, Hid (w1 = w.alloc (.cells #[.bool false, .slice none 0 0] 24)) := ⟨_, Lib.hid rfl⟩
  have hB : Below w.heap.size w w1 := by
    rw [Hw1.out]
    exact (Below.refl _ w).alloc (Nat.le_refl _) _
  have HT := Lib.hid (trim_any a n cap z w1 (h.below hB) hn hc)
  have HZ := Lib.hid (And.intro (h.below hB) hB)
  obtain ⟨m, Hm⟩ : ∃ m, Hid ((trimZ z).length = m) := ⟨_, Lib.hid rfl⟩
  rw [Hm.out] at HT
  clear h hB
  go_enter Tryd.func47, Tryd.ntmps47
  go_wp2_with (go_at_call 54; refine hold ?_)
  rw [← Hw1.out]
  refine Hold.mk ?_
  refine HT.out.mono ?_
  rintro e w2 ⟨rfl, rfl⟩
  obtain ⟨bo, Hbo⟩ : ∃ b, Hid (b = w.heap.size) := ⟨_, Lib.hid rfl⟩
  have q1 : w1.heap[bo]? = some (.cells #[.bool false, .slice none 0 0] 24 (0, 0)) := by
    rw [Hw1.out, Hbo.out]
    exact heap_alloc_new w _
  have HQ := Lib.hid q1
  have r0 : w1.cell? ⟨bo, 0, none⟩ = some (.bool false) := by simp only [World.cell?, q1]; rfl
  have r1 : w1.cell? ⟨bo, 1, none⟩ = some (.slice none 0 0) := by simp only [World.cell?, q1]; rfl
  have fz : ∀ j, w1.frozen? ⟨bo, j, none⟩ = false := fun j => by simp only [World.frozen?, q1]; simp
  have f0 := fz 0
  have f1 := fz 1
  have hm9 : m ≤ 1000000 := by have := Hm.out; omega
  rw [← Hbo.out]
  clear q1 fz
  have fin : ∀ b : Bool, b = (neg && decide (0 < m)) → ∃ v, v = .agg #[.bool b, .slice a m cap] ∧ IntC ((w1.setCell ⟨bo, 0, none⟩ (.bool b)).setCell ⟨bo, 1, none⟩ (.slice a m cap)) v (valI neg z) ∧ Below w.heap.size w ((w1.setCell ⟨bo, 0, none⟩ (.bool b)).setCell ⟨bo, 1, none⟩ (.slice a m cap)) ∧
      ((w1.setCell ⟨bo, 0, none⟩ (.bool b)).setCell ⟨bo, 1, none⟩ (.slice a m cap)).heap[bo]? = some (.cells #[.bool b, .slice a m cap] 24 (0, 0)) := fun b hb => by
    have hz := HZ.out.1
    refine ⟨_, rfl, ⟨a, m, cap, ?_, ?_, by have := trim_le z; have := hz.1; have := Hm.out; omega, hm9⟩, (HZ.out.2.setCell (by have := Hbo.out; simp only; omega) _).setCell (by have := Hbo.out; simp only; omega) _, ?_⟩
    · have e : decide (valI neg z < 0) = b := by
        rw [hb]
        have h1 : 0 < m ↔ ofW z ≠ 0 := by
          have := trim_nil z
          rw [← Hm.out, List.length_pos_iff, Ne, this]
        unfold valI
        cases neg with
        | false => simp
        | true =>
          simp only [Bool.true_and, if_true]
          exact decide_eq_decide.2 (by rw [h1]; omega)
      rw [e]
    · have e : (valI neg z).natAbs = ofW z := by unfold valI; cases neg <;> simp
      rw [e, ← trim_can hz.2.1]
      have hz2 := hz.trim
      rw [Hm.out] at hz2
      refine ⟨hz2.1, hz2.2.1, fun i hi => ?_⟩
      obtain ⟨x, e, hx⟩ := hz2.2.2 i hi
      refine ⟨x, e, ?_⟩
      have hne : ∀ j, x.add i ≠ (⟨bo, j, none⟩ : Addr) := fun j e2 => by
        have hx1 := hx
        rw [e2] at hx1
        simp only [World.cell?, HQ.out] at hx1
        match j with
        | 0 => simp at hx1
        | 1 => simp at hx1
        | j + 2 => simp at hx1
      rw [World.cell?_setCell_other _ _ _ _ (hne 1).symm, World.cell?_setCell_other _ _ _ _ (hne 0).symm]
      exact hx
    · exact (setCell_same2 (setCell_same2 HQ.out _) _).trans rfl
  have FIN := Lib.hid fin
  clear fin
  cases neg with
  | false =>
    go_wp2_with fail
    obtain ⟨v, rfl, h1, h2, h3⟩ := FIN.out false rfl
    refine bodyPost_ret (results_cell_row rfl _ _ bo 24 #[.bool false, .slice a m cap] (0, 0) _ rfl h3 Tryd.underlying24 rfl (by kernel_rfl)) rfl ?_
    exact ⟨_, rfl, h1, h2⟩
  | true =>
    by_cases h0 : 0 < m
    · go_wp2_with fail
      obtain ⟨v, rfl, h1, h2, h3⟩ := FIN.out true (by simp [h0])
      refine bodyPost_ret (results_cell_row rfl _ _ bo 24 #[.bool true, .slice a m cap] (0, 0) _ rfl h3 Tryd.underlying24 rfl (by kernel_rfl)) rfl ?_
      exact ⟨_, rfl, h1, h2⟩
    · have h00 : m = 0 := by omega
      subst h00
      go_wp2_with fail
      obtain ⟨v, rfl, h1, h2, h3⟩ := FIN.out false (by simp)
      refine bodyPost_ret (results_cell_row rfl _ _ bo 24 #[.bool false, .slice a 0 cap] (0, 0) _ rfl h3 Tryd.underlying24 rfl (by kernel_rfl)) rfl ?_
      exact ⟨_, rfl, h1, h2⟩
theorem form_any (neg : Bool) (a : Option Addr) (n cap : Nat) (z : List Nat) (w : World) (h : WordsAt w a n z) (hn : n ≤ 1000000) (hc : n ≤ cap) :
    Calls Tryd.prog 47 #[.bool neg, .slice a n cap] w fun e w' => ∃ v, e = .returned v ∧ IntC w' v (valI neg z) ∧ Below w.heap.size w w' :=
  form_big neg a n cap z w h (by omega) (by have := trim_le z; have := h.1; omega) hc
end Go.Proofs.YtahgbbnpbhfaeaaDoor
