/- The contracts of scan's name and Ident, and of the reference's Ident: both tell the same (identB). No condition but that the text fits a machine. -/
import Derived.Test.YtdgjegkoncodaaaDoorScanNames
namespace Go.Proofs.YtdgjegkoncodaaaDoor
open Go.RowKit

/-- How many bytes of a name a text begins with. -/
def nameFrom (first : Bool) : List UInt8 → Nat
  | [] => 0
  | c :: t => if letterB c.toNat || (!first && digitB c.toNat) then nameFrom false t + 1 else 0
def nameLen (l : List UInt8) : Nat := nameFrom true l
theorem nameFrom_le (b : Bool) (l : List UInt8) : nameFrom b l ≤ l.length := by
  induction l generalizing b with
  | nil => simp [nameFrom]
  | cons c t ih => unfold nameFrom; split <;> simp; exact ih false
theorem nameFrom_step {b : Bool} {s : ByteArray} {k : Nat} (hk : k < s.size) :
    nameFrom b (s.data.toList.drop k) = if letterB s[k].toNat || (!b && digitB s[k].toNat) then nameFrom false (s.data.toList.drop (k + 1)) + 1 else 0 := by
  have h : s.data.toList.drop k = s[k] :: s.data.toList.drop (k + 1) := by
    rw [List.drop_eq_getElem_cons (by simpa using hk)]; rfl
  rw [h, nameFrom]
theorem nameFrom_end {b : Bool} {s : ByteArray} : nameFrom b (s.data.toList.drop s.size) = 0 := by
  have : s.data.toList.drop s.size = [] := by apply List.drop_eq_nil_of_le; simp
  rw [this]; rfl

set_option maxHeartbeats 400000 in
theorem name_any (s : ByteArray) (w : World) (hs : s.size ≤ maxLen) :
    Calls Tryd.prog 27 #[.string s] w fun e w' => e = .returned (.int .i64 (nameLen s.data.toList)) ∧ w = w' := by
  unfold maxLen at hs
  go_enter Tryd.func27, Tryd.ntmps27
  go_wp2_with fail
  go_loop [3] (fun n => ∃ k : Nat, k ≤ s.size ∧ n = .int .i64 k ∧ nameLen s.data.toList = k + nameFrom (decide (k = 0)) (s.data.toList.drop k)) (fun n => s.size - (intOf n).toNat)
  case atStart => exact ⟨0, Nat.zero_le _, rfl, by simp [nameLen]⟩
  case round =>
    obtain ⟨k, hk, rfl, hn⟩ := hrel
    have Hn := Lib.hid hn; clear hn
    by_cases hlt : k < s.size
    · have Hs := Lib.hid (nameFrom_step (b := decide (k = 0)) hlt)
      by_cases h0 : k = 0
      · subst h0
        cases hl : letterB s[0].toNat
        all_goals
          go_wp2_with (first | (go_at_call 45; refine (letter_any _ _).mono ?_; rintro e w' ⟨rfl, rfl⟩) | (go_at_call 46; refine (digit_any _ _).mono ?_; rintro e w' ⟨rfl, rfl⟩))
        · go_ret
          exact ⟨ret_int (by rw [Hn.out, Hs.out]; simp [hl]), rfl⟩
        · go_round
          case rel => exact ⟨1, by omega, rfl, by rw [Hn.out, Hs.out]; simp [hl]; omega⟩
          case measure => simp [intOf]; omega
      · have hk0 : 0 < k := by omega
        cases hl : letterB s[k].toNat
        · cases hd : digitB s[k].toNat
          all_goals
            go_wp2_with (first | (go_at_call 45; refine (letter_any _ _).mono ?_; rintro e w' ⟨rfl, rfl⟩) | (go_at_call 46; refine (digit_any _ _).mono ?_; rintro e w' ⟨rfl, rfl⟩))
          · go_ret
            exact ⟨ret_int (by rw [Hn.out, Hs.out]; simp [hl, hd]), rfl⟩
          · go_round
            case rel => exact ⟨k + 1, by omega, by go_num, by rw [Hn.out, Hs.out]; simp [hl, hd, h0]; omega⟩
            case measure => simp [intOf]; omega
        · go_wp2_with (first | (go_at_call 45; refine (letter_any _ _).mono ?_; rintro e w' ⟨rfl, rfl⟩) | (go_at_call 46; refine (digit_any _ _).mono ?_; rintro e w' ⟨rfl, rfl⟩))
          go_round
          case rel => exact ⟨k + 1, by omega, by go_num, by rw [Hn.out, Hs.out]; simp [hl, h0]; omega⟩
          case measure => simp [intOf]; omega
    · have hk' : k = s.size := by omega
      go_wp2_with fail
      go_ret
      exact ⟨ret_int (by rw [Hn.out, hk', nameFrom_end]; simp), rfl⟩

/-- Is a text an identifier? -/
def identB (s : ByteArray) : Bool := !(s.toList.isEmpty) && (decide (nameLen s.data.toList = s.size) && (decide (s.size ≤ 60) && !wordB s.toList))

theorem ident_any (s : ByteArray) (w : World) (hs : s.size ≤ maxLen) :
    Calls Tryd.prog 18 #[.string s] w fun e w' => e = .returned (.bool (identB s)) ∧ w = w' := by
  have hl := nameFrom_le true s.data.toList
  have hm := hs
  unfold maxLen at hm
  unfold identB
  have hl' : nameLen s.data.toList ≤ s.size := by unfold nameLen; simpa using hl
  clear hl
  go_enter Tryd.func18, Tryd.ntmps18
  go_wp2_with (first | (go_at_call 27; refine (name_any _ _ hs).mono ?_; rintro e w' ⟨rfl, rfl⟩) | (go_at_call 16; refine (word_any _ _).mono ?_; rintro e w' ⟨rfl, rfl⟩))
  all_goals (go_ret; refine ⟨ret_bool ?_, rfl⟩; grind)

def ldB (c : UInt8) : Bool := letterB c.toNat || digitB c.toNat
theorem nameFrom_all (l : List UInt8) : nameFrom false l = l.length ↔ l.all ldB = true := by
  induction l with
  | nil => simp [nameFrom]
  | cons c t ih =>
    have hl := nameFrom_le false t
    unfold nameFrom
    simp only [List.length_cons, List.all_cons, Bool.and_eq_true, Bool.not_false, Bool.true_and]
    by_cases h : (letterB c.toNat || digitB c.toNat) = true
    · rw [if_pos h, ← ih]; simp [ldB, h]
    · rw [if_neg h]; simp [ldB, h]
theorem nameLen_all {s : ByteArray} (h0 : 0 < s.size) (hl : letterB s[0].toNat = true) : nameLen s.data.toList = s.size ↔ s.data.toList.all ldB = true := by
  have h := nameFrom_step (b := true) h0
  have hd : s.data.toList = s[0] :: s.data.toList.drop 1 := by
    exact List.drop_eq_getElem_cons (i := 0) (l := s.data.toList) (by simpa using h0)
  have hz : s.size = (s.data.toList.drop 1).length + 1 := by simp; omega
  have e1 : s.data.toList.all ldB = (s.data.toList.drop 1).all ldB := by
    conv => lhs; rw [hd]
    simp [ldB, hl]
  rw [e1, ← nameFrom_all, nameLen]
  simp only [List.drop_zero, hl, Bool.true_or, if_true, Nat.zero_add] at h
  rw [h]; omega
theorem all_take_succ {s : ByteArray} {k : Nat} (hk : k < s.size) (p : UInt8 → Bool) : (s.data.toList.take (k + 1)).all p = ((s.data.toList.take k).all p && p s[k]) := by
  have e : s[k] = s.data.toList[k]'(by simpa using hk) := rfl
  rw [List.take_succ_eq_append_getElem (by simpa using hk), e]
  simp only [List.all_append, List.all_cons, List.all_nil, Bool.and_true]
theorem all_at {s : ByteArray} {k : Nat} (hk : k < s.size) (p : UInt8 → Bool) (h : p s[k] = false) : s.data.toList.all p = false := by
  rw [List.all_eq_false]
  exact ⟨s[k], by have : s[k] = s.data.toList[k]'(by simpa using hk) := rfl
                  rw [this]; exact List.getElem_mem _, by simp [h]⟩
theorem nonempty_toList {s : ByteArray} : s.toList = [] ↔ s.size = 0 := by
  rw [ByteArray.toList_eq, ← List.length_eq_zero_iff, Array.length_toList]; exact Iff.rfl

set_option maxHeartbeats 800000 in
theorem rident_any (s : ByteArray) (w : World) (hs : s.size ≤ maxLen) :
    Calls Tryd.prog 19 #[.string s] w fun e w' => e = .returned (.bool (identB s)) ∧ w = w' := by
  have hm := hs
  unfold maxLen at hm
  clear hs
  by_cases h0 : s.size = 0
  · have hl0 : s.toList = [] := nonempty_toList.2 h0
    go_enter Tryd.func19, Tryd.ntmps19
    go_wp2_with fail
    go_ret
    exact ⟨ret_bool (by simp [identB, hl0]), rfl⟩
  have hpos : 0 < s.size := by omega
  have hne : s.toList.isEmpty = false := by
    cases h : s.toList with
    | nil => exact absurd (nonempty_toList.1 h) h0
    | cons _ _ => rfl
  clear h0
  cases hl : letterB s[0].toNat
  · have hnl : nameLen s.data.toList = 0 := by
      have h := nameFrom_step (b := true) hpos
      simpa [nameLen, hl] using h
    go_enter Tryd.func19, Tryd.ntmps19
    go_wp2_with (first | (go_at_call 28; refine (rletter_any _ _).mono ?_; rintro e w' ⟨rfl, rfl⟩))
    go_ret
    exact ⟨ret_bool (by unfold identB; grind), rfl⟩
  · by_cases hsz : s.size ≤ 60
    · have Ha := Lib.hid (nameLen_all hpos hl)
      go_enter Tryd.func19, Tryd.ntmps19
      go_wp2_with (first | (go_at_call 28; refine (rletter_any _ _).mono ?_; rintro e w' ⟨rfl, rfl⟩))
      go_loop [3] (fun i => ∃ k : Nat, k ≤ s.size ∧ i = .int .i64 k ∧ (s.data.toList.take k).all ldB = true) (fun n => s.size - (intOf n).toNat)
      case atStart => exact ⟨0, Nat.zero_le _, rfl, by simp⟩
      case round =>
        obtain ⟨k, hk, rfl, hn⟩ := hrel
        have Hn := Lib.hid hn; clear hn
        by_cases hlt : k < s.size
        · have Hs := Lib.hid (all_take_succ hlt ldB)
          have Hz := Lib.hid (all_at hlt ldB)
          cases hk1 : letterB s[k].toNat
          · cases hd : digitB s[k].toNat
            all_goals
              go_wp2_with (first | (go_at_call 28; refine (rletter_any _ _).mono ?_; rintro e w' ⟨rfl, rfl⟩) | (go_at_call 29; refine (rdigit_any _ _).mono ?_; rintro e w' ⟨rfl, rfl⟩))
            · go_ret
              have hz := Hz.out (by simp [ldB, hk1, hd])
              have ha := Ha.out
              rw [hz] at ha
              exact ⟨ret_bool (by unfold identB; grind), rfl⟩
            · go_round
              case rel => exact ⟨k + 1, by omega, by go_num, by rw [Hs.out, Hn.out]; simp [ldB, hk1, hd]⟩
              case measure => simp [intOf]; omega
          · go_wp2_with (first | (go_at_call 28; refine (rletter_any _ _).mono ?_; rintro e w' ⟨rfl, rfl⟩) | (go_at_call 29; refine (rdigit_any _ _).mono ?_; rintro e w' ⟨rfl, rfl⟩))
            go_round
            case rel => exact ⟨k + 1, by omega, by go_num, by rw [Hs.out, Hn.out]; simp [ldB, hk1]⟩
            case measure => simp [intOf]; omega
        · have hk' : k = s.size := by omega
          have hall : s.data.toList.all ldB = true := by
            have h := Hn.out
            rw [hk', List.take_of_length_le (by simp)] at h
            exact h
          have hnl := Ha.out.2 hall
          have Hnl := Lib.hid hnl
          clear hnl hall hk'
          go_wp2_with (first | (go_at_call 17; refine (rword_any _ _).mono ?_; rintro e w' ⟨rfl, rfl⟩))
          go_ret
          exact ⟨ret_bool (by have := Hnl.out; unfold identB; grind), rfl⟩
    · go_enter Tryd.func19, Tryd.ntmps19
      go_wp2_with (first | (go_at_call 28; refine (rletter_any _ _).mono ?_; rintro e w' ⟨rfl, rfl⟩))
      go_ret
      exact ⟨ret_bool (by unfold identB; grind), rfl⟩

end Go.Proofs.YtdgjegkoncodaaaDoor
