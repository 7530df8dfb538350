/- The law ExactReads: the walk. No condition. -/
import Derived.Test.YtcnakbhogmnddaaDoorRfParse
import Derived.Test.YtcnakbhogmnddaaDoorRegQ
namespace Go.Proofs.YtcnakbhogmnddaaDoor
open Go.RowKit

theorem par_text {s : ByteArray} (h : parK (bytesN s) = 0) : strL (decI (parV (bytesN s))) = s := by
  have hg : good (bytesN s) = true := by
    by_cases hg : good (bytesN s) = true
    · exact hg
    · have := (par_bad (l := bytesN s) (by simpa using hg)).1
      rw [this] at h
      exact absurd h (by decide)
  obtain ⟨h1, h2⟩ := par_ok hg
  have hb : big (valS (bytesN s) : Int) = false := by
    cases hb : big (valS (bytesN s) : Int) with
    | false => rfl
    | true =>
      rw [h1, if_pos hb] at h
      exact absurd h (by decide)
  rw [h2, hb, if_neg (by decide)]
  unfold decI
  rw [if_neg (by omega), Int.natAbs_natCast, (good_dec hg).1, bytesN_back]

set_option maxRecDepth 100000 in
set_option maxHeartbeats 6400000 in
theorem exactReads_any (s : ByteArray) (w : World)  :
    Calls Tryd.prog 8 #[.string s] w fun e w' => e = .returned (.bool true) ∧ Below w.heap.size w w' := by
  have ST0 := Lib.hid (St.start w)
  go_enter Tryd.func8, Tryd.ntmps8
  obtain ⟨K, V, HKV⟩ : ∃ K V, Hid (parK (bytesN s) = K ∧ parV (bytesN s) = V) := ⟨_, _, Lib.hid ⟨rfl, rfl⟩⟩
  by_cases hs : s.size ≤ 400
  · skip
    have D1 := Lib.hid (parse_any s w hs)
    rw [HKV.out.1, HKV.out.2] at D1
    go_wp2_with (go_at_call 50; refine hold ?_)
    refine Hold.mk ?_
    refine D1.out.mono ?_
    rintro e W2 ⟨⟨n5, a5, c5, d5, k5, rfl, hk, hv⟩, hb⟩
    have Hk5 := Lib.hid hk
    have ST3 := Lib.hid (ST0.out.next hb hv)
    clear hk hv hb
    go_upto_region 4 with fail
    obtain ⟨W4, HW4⟩ : ∃ W', Hid (W' = W2.alloc (.cells #[.bool n5, .slice a5 c5 d5] 25)) := ⟨_, Lib.hid rfl⟩
    obtain ⟨b5, Hb5⟩ : ∃ b, Hid (b = W2.heap.size) := ⟨_, Lib.hid rfl⟩
    have ST5 := Lib.hid (ST3.out.box Hb5.out HW4.out)
    rw [← HW4.out]
    try rw [← Hb5.out]
    have D6 := Lib.hid (rparse_any s W4 hs)
    rw [HKV.out.1, HKV.out.2] at D6
    go_wp2_with (go_at_call 51; refine hold ?_)
    refine Hold.mk ?_
    refine D6.out.mono ?_
    rintro e W7 ⟨⟨n6, a6, c6, d6, k6, rfl, hk, hv⟩, hb⟩
    have Hk6 := Lib.hid hk
    have ST8 := Lib.hid (ST5.out.next hb hv)
    clear hk hv hb
    go_upto_region 5 with fail
    obtain ⟨W9, HW9⟩ : ∃ W', Hid (W' = W7.alloc (.cells #[.bool n6, .slice a6 c6 d6] 25)) := ⟨_, Lib.hid rfl⟩
    obtain ⟨b6, Hb6⟩ : ∃ b, Hid (b = W7.heap.size) := ⟨_, Lib.hid rfl⟩
    have ST10 := Lib.hid (ST8.out.box Hb6.out HW9.out)
    rw [← HW9.out]
    try rw [← Hb6.out]
    have e6 : k6 = k5 := by rw [Hk6.out, Hk5.out]
    subst e6
    obtain ⟨qb60, qb61⟩ := ST10.out.cells (b := b6) (n := n6) (s := .slice a6 c6 d6) (by simp)
    obtain ⟨qb50, qb51⟩ := ST10.out.cells (b := b5) (n := n5) (s := .slice a5 c5 d5) (by simp)
    go_wp2_with (go_at_call 40; refine hold ?_)
    refine Hold.mk ?_
    refine (whole_same _ _ V W9 (ST10.out.getC (v := (.agg #[.bool n5, .slice a5 c5 d5])) (i := V) (by simp)) (ST10.out.getC (v := (.agg #[.bool n6, .slice a6 c6 d6])) (i := V) (by simp))).mono ?_
    rintro e W11 ⟨rfl, hb⟩
    clear qb60 qb61 qb50 qb51
    have ST12 := Lib.hid (ST10.out.go hb)
    clear hb
    by_cases h0 : k6 = 0
    · subst h0
      have HT := Lib.hid (text_int _ V W11 (ST12.out.getC (v := (.agg #[.bool n5, .slice a5 c5 d5])) (i := V) (by simp)))
      rw [← HKV.out.2, par_text (HKV.out.1.trans Hk5.out.symm)] at HT
      obtain ⟨qb50, qb51⟩ := ST12.out.cells (b := b5) (n := n5) (s := .slice a5 c5 d5) (by simp)
      go_wp2_with (go_at_call 46; refine hold ?_)
      refine Hold.mk ?_
      refine HT.out.mono ?_
      rintro e W13 ⟨rfl, hb⟩
      clear qb50 qb51
      have ST14 := Lib.hid (ST12.out.go hb)
      clear hb
      go_wp2_with (go_at_call 36; refine hold ?_)
      refine Hold.mk ?_
      refine (awake_any W13).mono ?_
      rintro e W15 ⟨rfl, hb⟩
      have ST15 := Lib.hid (ST14.out.go hb)
      clear hb
      go_wp2_with fail
      go_ret
      exact ⟨rfl, ST15.out.below⟩
    · have e0 : ((k6 : Int) != 0) = true := by simp; exact h0
      go_wp2_with (go_at_call 36; refine hold ?_)
      refine Hold.mk ?_
      refine (awake_any W11).mono ?_
      rintro e W16 ⟨rfl, hb⟩
      have ST16 := Lib.hid (ST12.out.go hb)
      clear hb
      go_wp2_with fail
      go_ret
      exact ⟨rfl, ST16.out.below⟩
  · skip
    go_wp2_with (go_at_call 36; refine hold ?_)
    refine Hold.mk ?_
    refine (awake_any w).mono ?_
    rintro e W17 ⟨rfl, hb⟩
    have ST17 := Lib.hid (ST0.out.go hb)
    clear hb
    go_wp2_with fail
    go_ret
    exact ⟨rfl, ST17.out.below⟩
end Go.Proofs.YtcnakbhogmnddaaDoor
