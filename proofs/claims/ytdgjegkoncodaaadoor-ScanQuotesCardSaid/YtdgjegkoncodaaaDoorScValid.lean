/- spans.Valid. Conditions: the text fits; the tables of unicode/utf8 stand in blocks 0 and 1. -/
import Derived.Test.YtdgjegkoncodaaaDoorScShelf
import Derived.Test.YtdgjegkoncodaaaDoorScSt
import Derived.Laws.RangeAny
import Derived.Lib.RuneCount
import Derived.Stop.FmtQuoteTie
namespace Go.Proofs.YtdgjegkoncodaaaDoor
open Go.RowKit

/-- A range over a string goes on. -/
def setIt (W : World) (b : Nat) (s : ByteArray) (pos : Nat) : World := { W with heap := W.heap.setIfInBounds b (.stringIter s pos) }
theorem run_next_at {P : Program} {W : World} {b pos : Nat} {s : ByteArray} (ty : TypeId) (h : W.heap[b]? = some (.stringIter s pos)) (hp : pos < s.size) :
    (Instr.next (.pointer (some ⟨b, 0, none⟩)) true ty).run P W = .ok (.tuple #[.bool true, .int .i64 pos, .int .i32 (Utf8.decode s pos).1]) (setIt W b s (pos + (Utf8.decode s pos).2)) := by
  simp only [Instr.next, getObj, setObj, Sem.run_bind, Sem.run, h, Result.andThen, hp, if_true]
  simp [goInt, setIt]
theorem run_next_stop {P : Program} {W : World} {b pos : Nat} {s : ByteArray} (ty : TypeId) (h : W.heap[b]? = some (.stringIter s pos)) (hp : ¬ pos < s.size) :
    (Instr.next (.pointer (some ⟨b, 0, none⟩)) true ty).run P W = .ok (.tuple #[.bool false]) W := by
  simp [Instr.next, getObj, Sem.run, h, hp]
theorem setIt_heap {W : World} {b pos pos' : Nat} {s : ByteArray} (h : W.heap[b]? = some (.stringIter s pos)) : (setIt W b s pos').heap[b]? = some (.stringIter s pos') := by
  have hb := (Array.getElem?_eq_some_iff.1 h).1
  unfold setIt
  simp [hb]
theorem setIt_below {w W : World} {b pos : Nat} {s : ByteArray} (h : Below b w W) : Below b w (setIt W b s pos) := by
  refine ⟨h.os, h.tape, h.output, by unfold setIt; simp; exact h.size, fun k hk => ?_⟩
  have hne : b ≠ k := by omega
  have : (setIt W b s pos).heap[k]? = W.heap[k]? := by unfold setIt; simp [hne]
  rw [this]
  exact h.block k hk
/-- What stands at a text's head, decoded. -/
theorem dec_cases (l : List UInt8) (hne : l ≠ []) : ((l.getD 0 0).toNat < 128 ∧ Lib.decodeL l = ((l.getD 0 0).toNat, 1)) ∨ (128 ≤ (l.getD 0 0).toNat ∧ Lib.decodeL l = (65533, 1)) ∨ (2 ≤ (Lib.decodeL l).2 ∧ (Lib.decodeL l).2 ≤ l.length ∧ 128 ≤ (Lib.decodeL l).1 ∧ ∀ i, i < (Lib.decodeL l).2 → 128 ≤ (l.getD i 0).toNat) := by
  have hle := Lib.decodeL_le l hne
  have b0 := (l.getD 0 0).toNat_lt
  have b1 := (l.getD 1 0).toNat_lt
  have b2 := (l.getD 2 0).toNat_lt
  have b3 := (l.getD 3 0).toNat_lt
  rw [Lib.decodeL_N] at hle ⊢
  generalize e0 : (l.getD 0 0).toNat = x0 at *
  generalize e1 : (l.getD 1 0).toNat = x1 at *
  generalize e2 : (l.getD 2 0).toNat = x2 at *
  generalize e3 : (l.getD 3 0).toNat = x3 at *
  unfold Lib.decodeN at hle ⊢
  by_cases c0 : x0 < 128
  · left; rw [if_pos c0]; exact ⟨c0, rfl⟩
  rw [if_neg c0] at hle ⊢
  by_cases c1 : x0 / 32 = 6 ∧ (1 < l.length ∧ x1 / 64 = 2)
  · rw [if_pos c1] at hle ⊢
    by_cases d1 : x0 % 32 * 64 + x1 % 64 ≥ 128
    · rw [if_pos d1] at hle ⊢
      right; right
      refine ⟨Nat.le_refl 2, hle, d1, fun i hi => ?_⟩
      have hi2 : i = 0 ∨ i = 1 := by simp only at hi; omega
      rcases hi2 with rfl | rfl <;> omega
    · rw [if_neg d1]
      right; left
      exact ⟨by omega, rfl⟩
  rw [if_neg c1] at hle ⊢
  by_cases c2 : x0 / 16 = 14 ∧ (1 < l.length ∧ x1 / 64 = 2) ∧ (2 < l.length ∧ x2 / 64 = 2)
  · rw [if_pos c2] at hle ⊢
    split at hle
    · rename_i d1
      rw [if_pos d1]
      right; right
      refine ⟨by show 2 ≤ _; omega, hle, by simp only; omega, fun i hi => ?_⟩
      have hi2 : i = 0 ∨ i = 1 ∨ i = 2 := by simp only at hi; omega
      rcases hi2 with rfl | rfl | rfl <;> omega
    · rename_i d1
      rw [if_neg d1]
      right; left
      exact ⟨by omega, rfl⟩
  rw [if_neg c2] at hle ⊢
  by_cases c3 : x0 / 8 = 30 ∧ (1 < l.length ∧ x1 / 64 = 2) ∧ (2 < l.length ∧ x2 / 64 = 2) ∧ (3 < l.length ∧ x3 / 64 = 2)
  · rw [if_pos c3] at hle ⊢
    split at hle
    · rename_i d1
      rw [if_pos d1]
      right; right
      refine ⟨by show 2 ≤ _; omega, hle, by simp only; omega, fun i hi => ?_⟩
      have hi2 : i = 0 ∨ i = 1 ∨ i = 2 ∨ i = 3 := by simp only at hi; omega
      rcases hi2 with rfl | rfl | rfl | rfl <;> omega
    · rename_i d1
      rw [if_neg d1]
      right; left
      exact ⟨by omega, rfl⟩
  · rw [if_neg c3]
    right; left
    exact ⟨by omega, rfl⟩
theorem take_zero (l : List UInt8) (k : Nat) (h : ∀ i, i < k → 128 ≤ (l.getD i 0).toNat) : (l.take k).contains 0 = false := by
  rw [Bool.eq_false_iff, ne_eq, List.contains_iff_mem]
  intro hm
  obtain ⟨i, hi, e⟩ := List.mem_iff_getElem.1 hm
  rw [List.getElem_take] at e
  have hi2 : i < k ∧ i < l.length := by rw [List.length_take] at hi; omega
  have := h i hi2.1
  rw [List.getD, List.getElem?_eq_getElem hi2.2] at this
  simp [e] at this
/-- One step of what may be a source's text. -/
theorem validS_step (l : List UInt8) (hne : l ≠ []) : validS l = if (Lib.decodeL l).1 = 0 then false else if (Lib.decodeL l).1 = 65533 ∧ (Lib.decodeL l).2 = 1 then false else validS (l.drop (Lib.decodeL l).2) := by
  unfold validS
  rw [Lib.validD_step l hne]
  obtain ⟨c, t, rfl⟩ : ∃ c t, l = c :: t := by cases l with | nil => exact absurd rfl hne | cons c t => exact ⟨c, t, rfl⟩
  rcases dec_cases (c :: t) hne with ⟨h1, h2⟩ | ⟨h1, h2⟩ | ⟨h1, h2, h3, h4⟩
  · rw [h2]
    simp only [List.getD_cons_zero] at h1 ⊢
    by_cases hc : c.toNat = 0
    · have : c = 0 := UInt8.toNat_inj.1 hc
      rw [if_pos hc, this]
      simp
    · have hc2 : (0 == c) = false := by rw [beq_eq_false_iff_ne]; intro e; rw [← e] at hc; exact hc rfl
      rw [if_neg hc, if_neg (by omega)]
      simp only [List.drop_succ_cons, List.drop_zero, List.contains_cons, hc2, Bool.false_or]
      rw [if_neg (by omega)]
  · rw [h2]
    simp
  · rw [if_neg (by omega), if_neg (by omega)]
    have h5 : (c :: t).contains 0 = ((c :: t).drop (Lib.decodeL (c :: t)).2).contains 0 := by
      conv => lhs; rw [← List.take_append_drop (Lib.decodeL (c :: t)).2 (c :: t)]
      rw [List.contains_append, take_zero _ _ h4, Bool.false_or]
    rw [h5, if_neg (by omega)]
theorem utf8_below {w w' : World} (h : Lib.Utf8Tabs 0 1 w) (hb : Below w.heap.size w w') : Lib.Utf8Tabs 0 1 w' := by
  refine ⟨fun c hc => ?_, fun i hi => ⟨?_, ?_⟩⟩
  · have := h.1 c hc
    rw [hb.cell (World.block_lt_of_cell? _ _ this)]
    exact this
  · have := (h.2 i hi).1
    rw [hb.cell (World.block_lt_of_cell? _ _ this)]
    exact this
  · have := (h.2 i hi).2
    rw [hb.cell (World.block_lt_of_cell? _ _ this)]
    exact this
set_option maxRecDepth 100000 in
set_option maxHeartbeats 1600000 in
theorem valid_any (s : ByteArray) (w : World) (hT : Lib.Utf8Tabs 0 1 w) (_hs : s.size ≤ 70000) :
    Calls Tryd.prog 34 #[.string s] w fun e w' => e = .returned (.bool (validS s.data.toList)) ∧ Below w.heap.size w w' := by
  have HT := Lib.hid hT
  clear hT
  go_enter Tryd.func34, Tryd.ntmps34
  go_wp2_with fail
  go_loopg [] s.size (fun g wr => ∃ pos, pos ≤ s.size ∧ g = s.size - pos ∧ Hid (validS s.data.toList = validS (s.data.toList.drop pos)) ∧ Hid (wr.heap[w.heap.size]? = some (.stringIter s pos) ∧ Below w.heap.size w wr))
  case atStart => exact ⟨0, Nat.zero_le _, rfl, Lib.hid rfl, Lib.hid ⟨World.iter_heap w s 0, (Below.refl _ w).alloc (Nat.le_refl _) _⟩⟩
  case round =>
    obtain ⟨pos, hpos, rfl, HE, HI⟩ := hrel
    by_cases hlt : pos < s.size
    · obtain ⟨W2, HW2⟩ : ∃ W2, Hid (setIt wr w.heap.size s (pos + (Utf8.decode s pos).2) = W2) := ⟨_, Lib.hid rfl⟩
      have hn := fun ty => run_next_at (P := Tryd.prog) ty HI.out.1 hlt
      rw [HW2.out] at hn
      have HI2 := Lib.hid (show W2.heap[w.heap.size]? = some (.stringIter s (pos + (Utf8.decode s pos).2)) ∧ Below w.heap.size w W2 from by rw [← HW2.out]; exact ⟨setIt_heap HI.out.1, setIt_below HI.out.2⟩)
      have hne : s.data.toList.drop pos ≠ [] := by rw [List.drop_eq_getElem_cons (by rw [bytes_len]; exact hlt)]; simp
      have HV := Lib.hid (validS_step _ hne)
      have HK := Lib.hid (Lib.decodeL_le _ hne)
      have HK1 := Lib.hid (show 1 ≤ (Utf8.decode s pos).2 from Lib.decode_width_pos s pos hlt)
      rw [Lib.decodeL_drop] at HV HK
      obtain ⟨R, HR⟩ : ∃ R, Hid ((Utf8.decode s pos).1 = R) := ⟨_, Lib.hid rfl⟩
      obtain ⟨k, Hk⟩ : ∃ k, Hid ((Utf8.decode s pos).2 = k) := ⟨_, Lib.hid rfl⟩
      rw [HR.out] at hn HV
      rw [Hk.out] at HV HK HI2 HK1
      have Hlen := Lib.hid (show pos + k ≤ s.size from by have := HK.out; rw [List.length_drop, bytes_len] at this; omega)
      clear hne
      have hdr : (s.data.toList.drop pos).drop k = s.data.toList.drop (pos + k) := by rw [List.drop_drop]
      cases d0 : ((R : Int) == 0) with
      | true =>
        have HF := Lib.hid (show validS s.data.toList = false from by rw [HE.out, HV.out, if_pos (by simpa using d0)])
        go_wp2_with fail
        go_ret
        exact ⟨ret_bool HF.out.symm, HI2.out.2⟩
      | false =>
        have HV2 := Lib.hid (show validS s.data.toList = if R = 65533 ∧ k = 1 then false else validS (s.data.toList.drop (pos + k)) from by rw [HE.out, HV.out, if_neg (by simpa using d0), hdr])
        cases d1 : ((R : Int) == 65533) with
        | false =>
          have HV3 := Lib.hid (show validS s.data.toList = validS (s.data.toList.drop (pos + k)) from by rw [HV2.out, if_neg (fun h => by rw [h.1] at d1; simp at d1)])
          clear hdr
          go_wp2_with fail
          go_roundg (s.size - (pos + k))
          case measure => have := HK1.out; have := Hlen.out; omega
          case rel => exact ⟨pos + k, Hlen.out, rfl, HV3, HI2⟩
        | true =>
          obtain ⟨T, hTs⟩ : ∃ T, s.extract pos s.size = T := ⟨_, rfl⟩
          have HD := Lib.hid (show Calls Tryd.prog 48 #[.string T] W2 (fun e w' => e = .returned (.tuple #[.int .i32 (R : Int), .int .i64 (k : Int)]) ∧ Below W2.heap.size W2 w') from by
            have h := Tryd.utf8_DecodeRuneInString T W2 (utf8_below HT.out HI2.out.2)
            have e : Lib.decodeGo T = Utf8.decode s pos := by
              unfold Lib.decodeGo
              rw [if_neg (by rw [← hTs, ByteArray.size_extract]; omega), ← hTs]
              exact Extern.FmtText.decode_extract s pos
            rw [e, HR.out, Hk.out] at h
            exact h)
          go_wp2_with (go_at_call 48; refine hold ?_)
          refine Hold.mk ?_
          refine HD.out.mono ?_
          rintro e W3 ⟨rfl, hb⟩
          have HI3 := Lib.hid (show W3.heap[w.heap.size]? = some (.stringIter s (pos + k)) ∧ Below w.heap.size w W3 from ⟨(hb.block _ (Array.getElem?_eq_some_iff.1 HI2.out.1).1).trans HI2.out.1, HI2.out.2.trans (Below.mono hb HI2.out.2.size)⟩)
          clear hb
          cases d2 : ((k : Int) == 1) with
          | true =>
            have HF := Lib.hid (show validS s.data.toList = false from by rw [HV2.out, if_pos (And.intro (show R = 65533 from by have h := of_decide_eq_true d1; omega) (show k = 1 from Int.ofNat.inj (show (k : Int) = 1 from by simpa using d2)))])
            go_wp2_with fail
            go_ret
            exact ⟨ret_bool HF.out.symm, HI3.out.2⟩
          | false =>
            have HV3 := Lib.hid (show validS s.data.toList = validS (s.data.toList.drop (pos + k)) from by rw [HV2.out, if_neg (fun h => by rw [h.2] at d2; simp at d2)])
            clear hdr
            go_wp2_with fail
            go_roundg (s.size - (pos + k))
            case measure => have := HK1.out; have := Hlen.out; omega
            case rel => exact ⟨pos + k, Hlen.out, rfl, HV3, HI3⟩
    · have hn := fun ty => run_next_stop (P := Tryd.prog) ty HI.out.1 hlt
      have HF := Lib.hid (show validS s.data.toList = true from by rw [HE.out, List.drop_eq_nil_of_le (by rw [bytes_len]; omega)]; rfl)
      go_wp2_with fail
      go_ret
      exact ⟨ret_bool HF.out.symm, HI.out.2⟩
end Go.Proofs.YtdgjegkoncodaaaDoor
