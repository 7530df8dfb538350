/- The reference's Valid. Condition: size's contract. -/
import Derived.Test.YtdgjegkoncodaaaDoorRsTok
import Derived.Test.YtdgjegkoncodaaaDoorScValid
namespace Go.Proofs.YtdgjegkoncodaaaDoor
open Go.RowKit

/-- How many bytes the rune at a text's head has; 0: there is none. -/
def rsz (l : List UInt8) : Nat := if (Lib.decodeL l).1 = 65533 ∧ (Lib.decodeL l).2 = 1 then 0 else (Lib.decodeL l).2
theorem valid_rs (y : UInt8) (t : List UInt8) : validS (y :: t) = if rsz (y :: t) = 0 then false else if y.toNat = 0 then false else validS ((y :: t).drop (rsz (y :: t))) := by
  rw [validS_step _ (List.cons_ne_nil _ _)]
  unfold rsz
  rcases dec_cases (y :: t) (List.cons_ne_nil _ _) with ⟨h1, h2⟩ | ⟨h1, h2⟩ | ⟨h1, h2, h3, h4⟩
  · rw [h2]
    simp only [List.getD_cons_zero] at h1 ⊢
    have hn : ¬ (y.toNat = 65533 ∧ True) := by omega
    rw [if_neg hn, if_neg hn, if_neg (show ¬ (1 = 0) from Nat.one_ne_zero)]
  · rw [h2]
    simp
  · have h5 := h4 0 (by omega)
    simp only [List.getD_cons_zero] at h5
    have hn : ¬ ((Lib.decodeL (y :: t)).1 = 65533 ∧ (Lib.decodeL (y :: t)).2 = 1) := by omega
    rw [if_neg hn, if_neg hn, if_neg (by omega), if_neg (by omega), if_neg (by omega)]
theorem rsz_le (l : List UInt8) (h : l ≠ []) : rsz l ≤ l.length := by
  have := Lib.decodeL_le l h
  unfold rsz
  split <;> omega
set_option maxRecDepth 100000 in
set_option maxHeartbeats 1600000 in
theorem rvalid_any (hZ : ∀ (s : ByteArray) (W : World), 0 < s.size → Calls Tryd.prog 30 #[.string s] W (fun e W' => e = .returned (.int .i64 (rsz s.data.toList : Int)) ∧ W = W')) (src : ByteArray) (w : World) :
    Calls Tryd.prog 22 #[.string src] w (fun e W' => e = .returned (.bool (validS src.data.toList)) ∧ ∃ m, W' = w.drewN m) := by
  have HZ := Lib.hid hZ
  clear hZ
  obtain ⟨v, Hv⟩ : ∃ v, Hid (validS src.data.toList = v) := ⟨_, Lib.hid rfl⟩
  rw [Hv.out]
  go_enter Tryd.func22, Tryd.ntmps22
  go_wp2_with fail
  go_loopg [0] src.size (fun g v0 wr => ∃ (T : ByteArray) (m : Nat), v0 = .string T ∧ g = T.size ∧ wr = w.drewN m ∧ Hid (v = validS T.data.toList))
  case atStart => exact ⟨src, 0, rfl, rfl, rfl, Lib.hid Hv.out.symm⟩
  case round =>
    obtain ⟨T, m, rfl, rfl, rfl, HE⟩ := hrel
    by_cases hT : 0 < T.size
    · have hTI : (0 : Int) < (T.size : Int) := by omega
      obtain ⟨n, Hn⟩ : ∃ n, Hid (rsz T.data.toList = n) := ⟨_, Lib.hid rfl⟩
      have HC := Lib.hid (fun W => HZ.out T W hT)
      rw [Hn.out] at HC
      obtain ⟨z, hz⟩ : ∃ z, T[0].toNat = z := ⟨_, rfl⟩
      have HR := Lib.hid (show T.data.toList = T[0] :: T.data.toList.drop 1 from by have h := drop_at hT; rw [List.drop_zero] at h; exact h)
      have HS := Lib.hid (show validS T.data.toList = if n = 0 then false else if z = 0 then false else validS (T.data.toList.drop n) from by
        rw [← Hn.out, ← hz]
        have h := valid_rs T[0] (T.data.toList.drop 1)
        rw [← HR.out] at h
        exact h)
      have HL := Lib.hid (show n ≤ T.size from by rw [← Hn.out, ← bytes_len]; exact rsz_le _ (by rw [HR.out]; exact List.cons_ne_nil _ _))
      cases d0 : ((n : Int) == 0) with
      | true =>
        have HF := Lib.hid (show v = false from by rw [HE.out, HS.out, if_pos (by simpa using d0)])
        go_wp2_with (go_at_call 30; refine (HC.out _).mono ?_; rintro e w' ⟨rfl, rfl⟩)
        go_ret
        exact ⟨by rw [HF.out]; rfl, _, rfl⟩
      | false =>
        cases dz : ((z : Int) == 0) with
        | true =>
          have HF := Lib.hid (show v = false from by rw [HE.out, HS.out, if_neg (by simpa using d0), if_pos (by simpa using dz)])
          go_wp2_with (go_at_call 30; refine (HC.out _).mono ?_; rintro e w' ⟨rfl, rfl⟩)
          go_ret
          exact ⟨by rw [HF.out]; rfl, _, rfl⟩
        | false =>
          have hn1 : (n : Int) ≤ (T.size : Int) := by have := HL.out; omega
          obtain ⟨T2, hT2⟩ : ∃ T2, T.extract n T.size = T2 := ⟨_, rfl⟩
          have HT2 := Lib.hid (show T2.data.toList = T.data.toList.drop n from by rw [← hT2, extract_at, strB_toList, List.take_of_length_le (by rw [List.length_drop, bytes_len]; omega)])
          have HT2s := Lib.hid (show T2.size = T.size - n from by rw [← bytes_len, HT2.out, List.length_drop, bytes_len])
          have Hn0 := Lib.hid (show n ≠ 0 from by simpa using d0)
          have HF := Lib.hid (show v = validS T2.data.toList from by rw [HE.out, HS.out, if_neg (by simpa using d0), if_neg (by simpa using dz), HT2.out])
          go_wp2_with (go_at_call 30; refine (HC.out _).mono ?_; rintro e w' ⟨rfl, rfl⟩)
          go_roundg T2.size
          case measure => have := Hn0.out; have := HT2s.out; omega
          case rel => exact ⟨T2, m, rfl, rfl, rfl, HF⟩
    · have HF := Lib.hid (show v = true from by
        have h : T.data.toList = [] := List.eq_nil_of_length_eq_zero (by rw [bytes_len]; omega)
        rw [HE.out, h]; rfl)
      have hTf : decide ((0 : Int) < (T.size : Int)) = false := decide_eq_false (by omega)
      go_wp2_with fail
      go_ret
      exact ⟨by rw [HF.out]; rfl, _, rfl⟩
end Go.Proofs.YtdgjegkoncodaaaDoor
