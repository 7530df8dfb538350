/- scan's sign. Condition: the text is not empty. -/
import Derived.Test.YtdgjegkoncodaaaDoorScBad
import Derived.Test.YtdgjegkoncodaaaDoorScShelf
namespace Go.Proofs.YtdgjegkoncodaaaDoor
open Go.RowKit

def signS (pre : Bool) (t : List UInt8) (v : Int) : Int := if pre then 3 else if twoB t then 2 else if 0 ≤ v then 1 else 0
theorem at0 {s : ByteArray} {c : UInt8} {r : List UInt8} (hr : s.data.toList = c :: r) (h : 0 < s.size) : s[0] = c := by
  have h1 : s.data.toList[0]'(by rw [bytes_len]; exact h) = c := by
    simp only [hr, List.getElem_cons_zero]
  rw [← h1]
  rfl
theorem index_contains (l : List UInt8) (c : UInt8) : decide (0 ≤ Lib.indexByte l c) = l.contains c := by
  rw [Bool.eq_iff_iff, decide_eq_true_iff, List.contains_iff_mem]
  constructor
  · intro h
    obtain ⟨o, ho⟩ := Int.eq_ofNat_of_zero_le h
    exact List.mem_of_getElem? (Lib.indexByte_some ho).1
  · intro h
    have := Lib.indexByte_ge l c
    by_cases hn : Lib.indexByte l c = -1
    · obtain ⟨k, hk, e⟩ := List.mem_iff_getElem.1 h
      exact absurd (by rw [List.getElem?_eq_getElem hk, e]) (Lib.indexByte_none hn k)
    · omega
theorem oneB_eq (c : UInt8) : decide (0 ≤ Lib.indexByte [43, 45, 42, 47, 37, 38, 33, 61, 60, 62, 40, 41, 91, 93, 123, 125, 44, 46, 58, 124] c) = oneB c := by
  rw [index_contains]
  rfl
theorem signLen_eq (r : List UInt8) (c : UInt8) (t : List UInt8) (hr : r = c :: t) : (signLen r : Int) = signS (Lib.hasPrefix r [46, 46, 46]) (r.take 2) (Lib.indexByte [43, 45, 42, 47, 37, 38, 33, 61, 60, 62, 40, 41, 91, 93, 123, 125, 44, 46, 58, 124] c) := by
  have h1 : Lib.hasPrefix r [46, 46, 46] = (r.take 3 == [46, 46, 46]) := by
    unfold Lib.hasPrefix
    rw [Bool.eq_iff_iff, List.isPrefixOf_iff_prefix, beq_iff_eq, List.prefix_iff_eq_take]
    exact ⟨fun h => h.symm, fun h => h.symm⟩
  unfold signS signLen
  rw [h1]
  have h2 : r.head?.any oneB = decide (0 ≤ Lib.indexByte [43, 45, 42, 47, 37, 38, 33, 61, 60, 62, 40, 41, 91, 93, 123, 125, 44, 46, 58, 124] c) := by rw [hr, oneB_eq]; rfl
  rw [h2]
  by_cases a1 : (r.take 3 == [46, 46, 46]) = true
  · rw [if_pos a1, if_pos a1]; rfl
  · rw [if_neg a1, if_neg a1]
    by_cases a2 : twoB (r.take 2) = true
    · rw [if_pos a2, if_pos a2]; rfl
    · rw [if_neg a2, if_neg a2]
      by_cases a3 : 0 ≤ Lib.indexByte [43, 45, 42, 47, 37, 38, 33, 61, 60, 62, 40, 41, 91, 93, 123, 125, 44, 46, 58, 124] c
      · rw [if_pos a3, if_pos (decide_eq_true a3)]; rfl
      · rw [if_neg a3, if_neg (by rw [decide_eq_false a3]; exact Bool.false_ne_true)]; rfl
theorem toList_strB' (l : List UInt8) : (strB l).toList = l := by rw [Lib.toList_data, strB_toList]
theorem extract_take (s : ByteArray) (n : Nat) : s.extract 0 n = strB (s.data.toList.take n) := by
  apply ByteArray.ext
  apply Array.ext'
  simp [strB]
set_option maxHeartbeats 1600000 in
theorem sign_any (s : ByteArray) (hs : 0 < s.size) (w : World) :
    Calls Tryd.prog 56 #[.string s] w fun e w' => e = .returned (.int .i64 (signLen s.data.toList)) ∧ w = w' := by
  obtain ⟨c, r, hr⟩ : ∃ c r, s.data.toList = c :: r := by
    cases h : s.data.toList with
    | nil => rw [← bytes_len, h] at hs; simp at hs
    | cons c r => exact ⟨c, r, rfl⟩
  rw [signLen_eq _ c r hr]
  obtain ⟨b, Hb⟩ : ∃ b, Hid (Lib.hasPrefix s.data.toList [46, 46, 46] = b) := ⟨_, Lib.hid rfl⟩
  obtain ⟨v, Hv⟩ : ∃ v, Hid (Lib.indexByte [43, 45, 42, 47, 37, 38, 33, 61, 60, 62, 40, 41, 91, 93, 123, 125, 44, 46, 58, 124] c = v) := ⟨_, Lib.hid rfl⟩
  rw [Hb.out, Hv.out]
  have HB := Lib.hid (Tryd.strings_HasPrefix s ⟨#[46, 46, 46]⟩ w)
  rw [show (⟨#[46, 46, 46]⟩ : ByteArray).data.toList = [46, 46, 46] from rfl, Hb.out] at HB
  have hc : s[0] = c := at0 hr hs
  have HI := Lib.hid (Tryd.strings_IndexByte ⟨#[43, 45, 42, 47, 37, 38, 33, 61, 60, 62, 40, 41, 91, 93, 123, 125, 44, 46, 58, 124]⟩ (s[0].toNat : Int) w)
  rw [show ((s[0].toNat : Int)).toNat.toUInt8 = c from by rw [hc]; simp, show (⟨#[43, 45, 42, 47, 37, 38, 33, 61, 60, 62, 40, 41, 91, 93, 123, 125, 44, 46, 58, 124]⟩ : ByteArray).data.toList = [43, 45, 42, 47, 37, 38, 33, 61, 60, 62, 40, 41, 91, 93, 123, 125, 44, 46, 58, 124] from rfl, Hv.out] at HI
  clear hc
  by_cases h1 : 1 < s.size
  · obtain ⟨t, ht⟩ : ∃ t, s.extract 0 2 = t := ⟨_, rfl⟩
    rw [show s.data.toList.take 2 = t.toList from by rw [← ht, extract_take, toList_strB']]
    cases b
    all_goals
      go_enter Tryd.func56, Tryd.ntmps56
      go_wp2_with (first | (go_at_call 50; refine HB.out.mono ?_; rintro e w' ⟨rfl, rfl⟩) | (go_at_call 62; refine HI.out.mono ?_; rintro e w' ⟨rfl, rfl⟩))
    all_goals (go_ret; exact ⟨ret_int (by simp_all [signS, twoB]), rfl⟩)
  · have ht : s.data.toList.take 2 = [c] := by
      have : s.size = 1 := by omega
      rw [← bytes_len, hr] at this
      have hr0 : r = [] := List.eq_nil_of_length_eq_zero (by simpa using this)
      rw [hr, hr0]
      rfl
    have h0 : twoB [c] = false := by unfold twoB; simp
    rw [ht]
    have Hg := Lib.hid (show signS b [c] v = if b then 3 else if 0 ≤ v then 1 else 0 from by unfold signS; rw [h0]; simp)
    rw [Hg.out]
    clear h0 ht
    cases b
    all_goals
      go_enter Tryd.func56, Tryd.ntmps56
      go_wp2_with (first | (go_at_call 50; refine HB.out.mono ?_; rintro e w' ⟨rfl, rfl⟩) | (go_at_call 62; refine HI.out.mono ?_; rintro e w' ⟨rfl, rfl⟩))
    all_goals (go_ret; exact ⟨ret_int (by simp_all), rfl⟩)
end Go.Proofs.YtdgjegkoncodaaaDoor
