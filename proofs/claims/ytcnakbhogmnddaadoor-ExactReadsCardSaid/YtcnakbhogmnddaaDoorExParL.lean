/- Decimal texts, plain: what Parse tells. No condition. -/
import Derived.Test.YtcnakbhogmnddaaDoorExMore
import Derived.Test.YtcnakbhogmnddaaDoorRfLaw
import Derived.Test.YtcnakbhogmnddaaDoorExOps
namespace Go.Proofs.YtcnakbhogmnddaaDoor
open Go.RowKit

def bytesN (s : ByteArray) : List Nat := s.data.toList.map UInt8.toNat
theorem bytesN_len (s : ByteArray) : (bytesN s).length = s.size := by
  unfold bytesN
  rw [List.length_map, Array.length_toList]
  rfl
theorem bytesN_get {s : ByteArray} {k : Nat} (hk : k < s.size) : s[k].toNat = (bytesN s).getD k 0 := by
  have hk2 : k < s.data.size := hk
  have e : (bytesN s).getD k 0 = s.data[k].toNat := by
    unfold bytesN
    rw [List.getD_eq_getElem?_getD, List.getElem?_map, Array.getElem?_toList, Array.getElem?_eq_getElem hk2]
    rfl
  rw [e]
  rfl
theorem bytesN_back (s : ByteArray) : strL (toB (bytesN s)) = s := by
  have e : toB (bytesN s) = s.data.toList := by
    unfold toB bytesN
    rw [List.map_map]
    conv => rhs; rw [← List.map_id s.data.toList]
    refine List.map_congr_left fun x _ => ?_
    simp
  unfold strL
  rw [e]
def dig (x : Nat) : Bool := decide (48 ≤ x) && decide (x ≤ 57)
def good (l : List Nat) : Bool := decide (l ≠ []) && (!(decide (l.getD 0 0 = 48) && decide (1 < l.length))) && l.all dig
def parK (l : List Nat) : Int := if good l then (if big (valS l : Int) then 2 else 0) else 3
def parV (l : List Nat) : Int := if good l then (if big (valS l : Int) then 0 else (valS l : Int)) else 0
theorem par_bad {l : List Nat} (h : good l = false) : parK l = 3 ∧ parV l = 0 := by unfold parK parV; rw [if_neg (by rw [h]; decide), if_neg (by rw [h]; decide)]; exact ⟨rfl, rfl⟩
theorem par_ok {l : List Nat} (h : good l = true) : parK l = (if big (valS l : Int) then 2 else 0) ∧ parV l = (if big (valS l : Int) then 0 else (valS l : Int)) := by unfold parK parV; rw [if_pos h, if_pos h]; exact ⟨rfl, rfl⟩
theorem good_nil : good [] = false := rfl
theorem good_zero {l : List Nat} (h : l.getD 0 0 = 48) (h1 : 1 < l.length) : good l = false := by
  unfold good
  rw [decide_eq_true h, decide_eq_true h1]
  simp
theorem good_bad {l : List Nat} {i : Nat} (hi : i < l.length) (h : dig (l.getD i 0) = false) : good l = false := by
  have : l.all dig = false := by
    rw [List.all_eq_false]
    have e : l.getD i 0 = l[i] := by simp [List.getD, hi]
    rw [e] at h
    exact ⟨l[i], List.getElem_mem hi, by simp [h]⟩
  unfold good
  rw [this]
  simp
theorem good_of {l : List Nat} (h0 : l ≠ []) (h1 : ¬ (l.getD 0 0 = 48 ∧ 1 < l.length)) (h2 : ∀ j, j < l.length → dig (l.getD j 0) = true) : good l = true := by
  have : l.all dig = true := by
    rw [List.all_eq_true]
    intro x hx
    obtain ⟨j, hj, rfl⟩ := List.getElem_of_mem hx
    have := h2 j hj
    simpa [List.getD, hj] using this
  unfold good
  rw [this, decide_eq_true h0]
  by_cases h : l.getD 0 0 = 48
  · rw [decide_eq_false (p := 1 < l.length) (fun h9 => h1 ⟨h, h9⟩)]
    simp
  · rw [decide_eq_false h]
    simp
theorem good_dec {l : List Nat} (h : good l = true) : decN (valS l) = l ∧ (∀ x ∈ l, x < 256) ∧ (200 < l.length → big (valS l : Int) = true) := by
  unfold good at h
  simp only [Bool.and_eq_true, decide_eq_true_eq, Bool.not_eq_true', List.all_eq_true] at h
  obtain ⟨⟨h0, h1⟩, h2⟩ := h
  have hb : ∀ x ∈ l.reverse, 48 ≤ x ∧ x ≤ 57 := fun x hx => by
    have := h2 x (List.mem_reverse.1 hx)
    unfold dig at this
    simpa using this
  have hne : l.reverse ≠ [] := by simpa using h0
  have hz : 2 ≤ l.reverse.length → l.reverse.getLast? ≠ some 48 := fun h9 e => by
    rw [List.length_reverse] at h9
    rw [List.getLast?_reverse] at e
    have e2 : l.getD 0 0 = 48 := by
      cases l with
      | nil => simp at e
      | cons x l => simpa using e
    rw [decide_eq_true e2, decide_eq_true (p := 1 < l.length) (by omega)] at h1
    simp at h1
  have h9 := valS_dec l.reverse hne hb hz
  rw [List.reverse_reverse] at h9
  refine ⟨h9, fun x hx => by have := hb x (List.mem_reverse.2 hx); omega, fun hl => ?_⟩
  have h8 := valS_big l.reverse hne hb (hz (by rw [List.length_reverse]; omega))
  rw [List.reverse_reverse, List.length_reverse] at h8
  have h7 := pow_mono 10 200 (l.length - 1) (by decide) (by omega)
  unfold big
  refine decide_eq_true ?_
  rw [Int.natAbs_natCast]
  exact Nat.le_trans pow200 (Nat.le_trans h7 h8)
theorem big_up {a b : Nat} (h : a ≤ b) (ha : big (a : Int) = true) : big (b : Int) = true := by
  unfold big at ha ⊢
  have := of_decide_eq_true ha
  rw [Int.natAbs_natCast] at this
  refine decide_eq_true ?_
  rw [Int.natAbs_natCast]
  exact Nat.le_trans this h
theorem big_bits {a : Nat} : (bitsN a ≤ 512 → big (a : Int) = false) ∧ (¬ bitsN a ≤ 512 → big (a : Int) = true) := by
  have h := bitsN_le_iff a 512
  unfold big
  rw [Int.natAbs_natCast]
  constructor
  · intro h1
    refine decide_eq_false ?_
    exact Nat.not_le_of_lt (h.1 h1)
  · intro h1
    refine decide_eq_true ?_
    exact Nat.le_of_not_lt (fun h2 => h1 (h.2 h2))
theorem more_len (N d : Nat) (hd : d < 10) : (canW (10 * N + d)).length ≤ (canW N).length + 1 := by
  refine Nat.le_of_not_lt fun h => ?_
  have h1 := canW_ge (10 * N + d) ((canW N).length + 1) (by omega)
  have h2 := ofW_lt (canW_words N).1
  rw [(canW_words N).2] at h2
  rw [Nat.pow_succ] at h1
  omega
/-- The value so far. -/
theorem val_step {l : List Nat} {i u : Nat} (hi : i < l.length) (hu : l.getD i 0 = u) : valS (l.take (i + 1)) = 10 * valS (l.take i) + (u - 48) := by
  rw [valS_step hi, hu]
theorem fits_t {v : Value} {i : Int} {w : World} (h : IntC w v i) : Calls Tryd.prog 96 #[v] w fun e w' => Told w' e (if big i then 2 else 0) (if big i then 0 else i) ∧ Below w.heap.size w w' := by
  refine (fits_any v i w h).mono fun e w' h => ?_
  obtain ⟨⟨v, e1, h1⟩, hb⟩ := h
  rw [if_big] at e1 h1
  obtain ⟨n, a, k, c, rfl⟩ := h1.agg
  exact ⟨⟨n, a, k, c, _, e1, rfl, h1⟩, hb⟩
end Go.Proofs.YtcnakbhogmnddaaDoor
