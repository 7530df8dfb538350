/- exact.Parse. Condition: the text has at most 400 bytes. -/
import Derived.Test.YtcnakbhogmnddaaDoorExParL
import Derived.Test.YtcnakbhogmnddaaDoorRfSt
namespace Go.Proofs.YtcnakbhogmnddaaDoor
open Go.RowKit

/-- The row holds the value of the first i digits. -/
def ParR (w1 wr : World) (v : Value) (l : List Nat) (i : Nat) : Prop := RowO wr w1.heap.size v (canW (valS (l.take i))) ∧ Below w1.heap.size w1 wr
theorem ParR.step {w1 wr w' : World} {v v' : Value} {l : List Nat} {i u : Nat} (h : ParR w1 wr v l i) (hi : i < l.length) (hu : l.getD i 0 = u) (h1 : RowO w' w1.heap.size v' (canW (10 * valS (l.take i) + (u - 48)))) (h2 : Below w1.heap.size wr w') : ParR w1 w' v' l (i + 1) := by
  refine ⟨?_, h.2.trans h2⟩
  rw [val_step hi hu]
  exact h1

set_option maxRecDepth 100000 in
set_option maxHeartbeats 3200000 in
theorem parse_any (s : ByteArray) (w : World) (hs : s.size ≤ 400) :
    Calls Tryd.prog 50 #[.string s] w fun e w' => Told w' e (parK (bytesN s)) (parV (bytesN s)) ∧ Below w.heap.size w w' := by
  obtain ⟨l, Hl⟩ : ∃ l, Hid (bytesN s = l) := ⟨_, Lib.hid rfl⟩
  rw [Hl.out]
  have Hn := Lib.hid (show s.size = l.length from by rw [← Hl.out, bytesN_len])
  have Hg := Lib.hid (show ∀ k (hk : k < s.size), s[k].toNat = l.getD k 0 from fun k hk => by rw [← Hl.out]; exact bytesN_get hk)
  obtain ⟨w1, Hw1⟩ : ∃ w1, Hid (w1 = w.alloc (.cells #[.bool false, .slice none 0 0] 25)) := ⟨_, Lib.hid rfl⟩
  obtain ⟨bo, Hbo⟩ : ∃ b, Hid (b = w.heap.size) := ⟨_, Lib.hid rfl⟩
  have HB := Lib.hid (show Below w.heap.size w w1 from by
    rw [Hw1.out]
    exact (Below.refl _ w).alloc (Nat.le_refl _) _)
  have HQ := Lib.hid (show w1.heap[bo]? = some (.cells #[.bool false, .slice none 0 0] 25 (0, 0)) from by rw [Hw1.out, Hbo.out]; exact heap_alloc_new w _)
  obtain ⟨K9, V9, HKV⟩ : ∃ K9 V9, Hid (parK l = K9 ∧ parV l = V9) := ⟨_, _, Lib.hid ⟨rfl, rfl⟩⟩
  rw [HKV.out.1, HKV.out.2]
  have FIN := Lib.hid (show ∀ (wr : World) (tm : Array Value) (b : Bool) (a : Option Addr) (n c : Nat) (k : Int), wr.heap[bo]? = some (.cells #[.bool false, .slice none 0 0] 25 (0, 0)) → Below w.heap.size w wr → IntC wr (.agg #[.bool b, .slice a n c]) V9 → k = K9 → tm.getD 2 undef = .pointer (some ⟨bo, 0, none⟩) → tm.getD 3 undef = .int .i64 k →
      bodyPost Tryd.prog Tryd.f50 (fun e w' => Told w' e K9 V9 ∧ Below w.heap.size w w') .ret { tmps := tm, defers := [] } ((wr.setCell ⟨bo, 0, none⟩ (.bool b)).setCell ⟨bo, 1, none⟩ (.slice a n c)) from fun wr tm b a n c k q hb hi hk h2 h3 => by
    obtain ⟨hi2, hq2⟩ := hi.store q
    refine bodyPost_ret (results_cell_pair rfl tm _ bo 25 (.bool b) (.slice a n c) (0, 0) h2 hq2) rfl ?_
    rw [h3]
    exact ⟨⟨b, a, n, c, k, rfl, hk, hi2⟩, (hb.setCell (by have := Hbo.out; simp only; omega) _).setCell (by have := Hbo.out; simp only; omega) _⟩)
  have Hsz := Lib.hid (show w1.heap.size = bo + 1 from by rw [Hw1.out, Hbo.out]; simp)
  obtain ⟨⟨r0, r1⟩, f0, f1⟩ := box_cells HQ.out
  go_enter Tryd.func50, Tryd.ntmps50
  go_upto_region 1 with fail
  rw [← Hw1.out]
  try rw [← Hbo.out]
  by_cases h0 : s.size = 0
  · have HK := Lib.hid (par_bad (l := l) (by rw [show l = [] from List.length_eq_zero_iff.1 (by have := Hn.out; omega)]; exact good_nil))
    have e0 : s = ⟨#[]⟩ := by
      cases s with
      | mk d => congr 1; exact Array.eq_empty_of_size_eq_zero h0
    clear Hg hs h0
    subst e0
    go_wp2_with fail
    exact FIN.out w1 _ false none 0 0 3 HQ.out HB.out (by rw [← HKV.out.2, HK.out.2]; exact intC_zero _) (by rw [← HKV.out.1, HK.out.1]) rfl rfl
  · have hne : ¬ s = ⟨#[]⟩ := fun e => h0 (by rw [e]; rfl)
    have hne2 : s.toList.isEmpty = false := by
      rw [ByteArray.toList_eq, List.isEmpty_eq_false_iff]
      intro e
      have := congrArg List.length e
      rw [Array.length_toList] at this
      exact h0 this
    clear hne
    have hpos : 0 < s.size := by omega
    obtain ⟨u, Hu⟩ : ∃ u, Hid (l.getD 0 0 = u) := ⟨_, Lib.hid rfl⟩
    have e0 : s[0].toNat = u := by rw [Hg.out 0 hpos, Hu.out]
    by_cases hz : u = 48 ∧ 1 < s.size
    · have HK := Lib.hid (par_bad (l := l) (good_zero (by rw [Hu.out]; exact hz.1) (by rw [← Hn.out]; exact hz.2)))
      obtain ⟨hz1, hz2⟩ := hz
      have e1 : ((u : Int) == 48) = true := by simp; omega
      clear h0
      go_wp2_with fail
      exact FIN.out w1 _ false none 0 0 3 HQ.out HB.out (by rw [← HKV.out.2, HK.out.2]; exact intC_zero _) (by rw [← HKV.out.1, HK.out.1]) rfl rfl
    · have HZ := Lib.hid hz
      clear hz h0
      have Hpos := Lib.hid hpos
      have Hne := Lib.hid (show l ≠ [] from fun e => by have h9 := Hn.out; rw [e, List.length_nil] at h9; omega)
      have HZ2 := Lib.hid (show ¬ (l.getD 0 0 = 48 ∧ 1 < l.length) from by rw [Hu.out, ← Hn.out]; exact HZ.out)
      obtain ⟨n, Hnn⟩ : ∃ n, Hid (s.size = n) := ⟨_, Lib.hid rfl⟩
      go_upto_region 3 with fail
      · exfalso
        exact HZ.out ⟨by omega, by omega⟩
      all_goals
        clear e0 hpos r0 r1 f0 f1
        go_wp2_with fail
        go_loopg [22, 3] s.size (fun gg v22 v3 wr => ∃ i : Nat, i ≤ s.size ∧ v22 = .int .i64 i ∧ v3 = .int .i64 0 ∧ gg = s.size - i ∧ wr = w1 ∧ Hid (∀ j, j < i → dig (l.getD j 0) = true))
        case atStart => exact ⟨0, Nat.zero_le _, rfl, rfl, rfl, rfl, Lib.hid (fun j hj => absurd hj (Nat.not_lt_zero _))⟩
        case round =>
          obtain ⟨i, hi, rfl, rfl, hgg, rfl, Hr⟩ := hrel
          by_cases hlt : i < s.size
          · obtain ⟨c, Hc⟩ : ∃ c, Hid (l.getD i 0 = c) := ⟨_, Lib.hid rfl⟩
            have e0 : s[i].toNat = c := by rw [Hg.out i hlt, Hc.out]
            have Hil := Lib.hid (show i < l.length from by rw [← Hn.out]; exact hlt)
            by_cases hd : dig c = true
            · have Hd := Lib.hid hd
              unfold dig at hd
              simp only [Bool.and_eq_true, decide_eq_true_eq] at hd
              obtain ⟨hd1, hd2⟩ := hd
              go_wp2_with fail
              go_roundg (s.size - (i + 1))
              case measure => omega
              case rel => exact ⟨i + 1, by omega, by go_num, rfl, rfl, rfl, Lib.hid (fun j hj => by
                by_cases h : j = i
                · rw [h, Hc.out]; exact Hd.out
                · exact Hr.out j (by omega))⟩
            · have hd0 : dig c = false := by simpa using hd
              have HK := Lib.hid (par_bad (good_bad Hil.out (by rw [Hc.out]; exact hd0)))
              have hd1 : c < 48 ∨ 57 < c := by
                unfold dig at hd0
                simp at hd0
                omega
              clear hd hd0
              obtain ⟨⟨r0, r1⟩, f0, f1⟩ := box_cells HQ.out
              rcases hd1 with hd1 | hd1
              all_goals
                go_wp2_with fail
                exact FIN.out wr _ false none 0 0 3 HQ.out HB.out (by rw [← HKV.out.2, HK.out.2]; exact intC_zero _) (by rw [← HKV.out.1, HK.out.1]) rfl rfl
          · have e : i = s.size := by omega
            subst e
            have HK := Lib.hid (par_ok (good_of Hne.out HZ2.out (fun j hj => Hr.out j (by rw [Hn.out]; exact hj))))
            have HGd := Lib.hid (show ∀ j, j < s.size → dig (l.getD j 0) = true from Hr.out)
            clear hgg Hr
            go_wp2_with fail
            obtain ⟨w1, Hwr⟩ : ∃ w', Hid (w' = wr) := ⟨_, Lib.hid rfl⟩
            rw [← Hwr.out] at HQ HB Hsz ⊢
            go_loopg [5, 6] s.size (fun gg v5 v6 wr => ∃ (i m c : Nat) (a : Option Addr), i ≤ s.size ∧ v6 = .int .i64 i ∧ v5 = .slice a m c ∧ m ≤ i ∧ m ≤ c ∧ gg = s.size - i ∧ Hid (m = (canW (valS (l.take i))).length ∧ ParR w1 wr (.slice a m c) l i))
            case atStart => exact ⟨0, 0, 0, none, Nat.zero_le _, rfl, rfl, Nat.le_refl _, Nat.le_refl _, rfl, Lib.hid ⟨by rw [List.take_zero]; exact (canW_len.2 rfl).symm, .inl ⟨rfl, by rw [List.take_zero]; exact (canW_nil _).2 rfl⟩, Below.refl _ _⟩⟩
            case round =>
              obtain ⟨i, m, c, a, hi, rfl, rfl, hm, hmc, hgg, Hr⟩ := hrel
              obtain ⟨V, HV⟩ : ∃ V, Hid (valS (l.take i) = V) := ⟨_, Lib.hid rfl⟩
              have HW := Lib.hid (show WordsAt wr a m (canW V) ∧ RowO wr w1.heap.size (.slice a m c) (canW V) ∧ Below w1.heap.size w1 wr ∧ m = (canW V).length from by
                obtain ⟨h1, h2, h3⟩ := Hr.out
                rw [HV.out] at h1 h2
                refine ⟨?_, h2, h3, h1⟩
                have := h2.wordsAt (canW_words V).1
                exact this)
              have HLn := Lib.hid (length_any a m c (canW V) wr HW.out.1 (by omega) hmc)
              rw [(canW_words V).2] at HLn
              obtain ⟨q, Hq⟩ : ∃ q, Hid (bitsN V = q) := ⟨_, Lib.hid rfl⟩
              rw [Hq.out] at HLn
              have HBx := Lib.hid (show wr.heap[bo]? = some (.cells #[.bool false, .slice none 0 0] 25 (0, 0)) ∧ Below w.heap.size w wr from
                ⟨(HW.out.2.2.1.block bo (Array.getElem?_eq_some_iff.1 HQ.out).1).trans HQ.out, HB.out.trans (Below.mono HW.out.2.2.1 HB.out.size)⟩)
              have TAIL : (if big (V : Int) then 2 else 0) = K9 ∧ (if big (V : Int) then 0 else (V : Int)) = V9 →
                  Calls Tryd.prog 81 #[.bool false, .slice a m c] wr fun e w5 => ∃ v5, e = .returned v5 ∧ Hid (wr.heap.size ≤ w5.heap.size ∧ Below wr.heap.size wr w5) ∧ Calls Tryd.prog 96 #[v5] w5 fun e w6 => ∃ (b : Bool) (a6 : Option Addr) (n6 c6 : Nat) (k6 : Int), e = .returned (.tuple #[.agg #[.bool b, .slice a6 n6 c6], .int .i64 k6]) ∧ Hid (k6 = K9 ∧ IntC w6 (.agg #[.bool b, .slice a6 n6 c6]) V9 ∧ Below w5.heap.size w5 w6) := fun hE => by
                refine (form_any false a m c (canW V) wr HW.out.1 (by omega) hmc).mono ?_
                rintro e w5 ⟨v5, rfl, hv, hb5⟩
                rw [valI_f, (canW_words V).2] at hv
                refine ⟨v5, rfl, Lib.hid ⟨hb5.size, hb5⟩, ?_⟩
                have HF := fits_t hv
                rw [hE.1, hE.2] at HF
                refine HF.mono ?_
                rintro e w6 ⟨⟨b, a6, n6, c6, k6, rfl, hk, hv6⟩, hb6⟩
                exact ⟨b, a6, n6, c6, k6, rfl, Lib.hid ⟨hk, hv6, hb6⟩⟩
              have HTL := Lib.hid TAIL
              clear TAIL
              by_cases hlt : i < s.size
              · obtain ⟨c0, Hc⟩ : ∃ c, Hid (l.getD i 0 = c) := ⟨_, Lib.hid rfl⟩
                have Hil := Lib.hid (show i < l.length from by rw [← Hn.out]; exact hlt)
                have hd := HGd.out i hlt
                rw [Hc.out] at hd
                unfold dig at hd
                simp only [Bool.and_eq_true, decide_eq_true_eq] at hd
                obtain ⟨d, Hd⟩ : ∃ d, Hid (c0 = 48 + d) := ⟨c0 - 48, Lib.hid (by omega)⟩
                have hd9 : d < 10 := by have := Hd.out; omega
                have e0 : s[i].toNat = 48 + d := by rw [Hg.out i hlt, Hc.out, Hd.out]
                clear hd
                by_cases hq : q ≤ 512
                · have HM := Lib.hid (more_any (.slice a m c) V d w1.heap.size wr HW.out.2.1 hd9 (by have := HW.out.2.2.2; omega) HW.out.2.2.1.size)
                  go_wp2_with first
                    | (go_at_call 77; refine HLn.out.mono ?_; rintro e wl ⟨rfl, rfl⟩)
                    | (go_at_call 98; refine hold ?_)
                  refine Hold.mk ?_
                  rw [show (48 + (d : Int) - 48) = (d : Int) from by omega]
                  refine HM.out.mono ?_
                  rintro e w7 ⟨v7, rfl, h7, hb7⟩
                  obtain ⟨a7, c7, rfl, hc7, _⟩ := h7.shape
                  obtain ⟨m7, Hm7⟩ : ∃ m7, Hid ((canW (10 * V + d)).length = m7) := ⟨_, Lib.hid rfl⟩
                  rw [Hm7.out] at h7 hc7 ⊢
                  have hm7 : m7 ≤ m + 1 := by have := more_len V d hd9; have := HW.out.2.2.2; have := Hm7.out; omega
                  have HP := Lib.hid (show ParR w1 w7 (.slice a7 m7 c7) l (i + 1) from Hr.out.2.step Hil.out Hc.out (by rw [HV.out, Hd.out, Nat.add_sub_cancel_left]; exact h7) hb7)
                  have HE7 := Lib.hid (show m7 = (canW (valS (l.take (i + 1)))).length from by rw [val_step Hil.out Hc.out, HV.out, Hd.out, Nat.add_sub_cancel_left]; exact Hm7.out.symm)
                  clear h7 hb7
                  go_wp2_with fail
                  go_roundg (s.size - (i + 1))
                  case measure => omega
                  case rel => exact ⟨i + 1, m7, c7, a7, by omega, by go_num, rfl, by omega, hc7, rfl, Lib.hid ⟨HE7.out, HP.out⟩⟩
                · have HB5 := Lib.hid (HTL.out (by
                    have h1 := big_bits.2 (by rw [Hq.out]; exact hq)
                    have h2 := big_up (valS_take l i) (by rw [HV.out]; exact h1)
                    rw [← HKV.out.1, ← HKV.out.2, HK.out.1, HK.out.2, if_pos h1, if_pos h1, if_pos h2, if_pos h2]
                    exact ⟨rfl, rfl⟩))
                  go_wp2_with first
                    | (go_at_call 77; refine HLn.out.mono ?_; rintro e wl ⟨rfl, rfl⟩)
                    | (go_at_call 81; refine hold ?_)
                  refine Hold.mk ?_
                  refine HB5.out.mono ?_
                  rintro e w5 ⟨v5, rfl, Hb5, hf⟩
                  have HF5 := Lib.hid hf
                  clear hf
                  go_wp2_with (go_at_call 96; refine hold ?_)
                  refine Hold.mk ?_
                  refine HF5.out.mono ?_
                  rintro e w6 ⟨b, a6, n6, c6, k6, rfl, H6⟩
                  have HX6 := Lib.hid (show w6.heap[bo]? = some (.cells #[.bool false, .slice none 0 0] 25 (0, 0)) ∧ Below w.heap.size w w6 from by
                    have h1 := Hb5.out.2.trans (Below.mono H6.out.2.2 Hb5.out.1)
                    exact ⟨(h1.block bo (Array.getElem?_eq_some_iff.1 HBx.out.1).1).trans HBx.out.1, HBx.out.2.trans (Below.mono h1 HBx.out.2.size)⟩)
                  obtain ⟨⟨r0, r1⟩, f0, f1⟩ := box_cells HX6.out.1
                  go_wp2_with fail
                  exact FIN.out w6 _ b a6 n6 c6 k6 HX6.out.1 HX6.out.2 H6.out.2.1 H6.out.1 rfl rfl
              · have e : i = s.size := by omega
                subst e
                have HB5 := Lib.hid (HTL.out (by
                  have hV : valS l = V := by rw [← HV.out, Hn.out, List.take_length]
                  rw [← HKV.out.1, ← HKV.out.2, HK.out.1, HK.out.2, hV]
                  exact ⟨rfl, rfl⟩))
                go_wp2_with (go_at_call 81; refine hold ?_)
                refine Hold.mk ?_
                refine HB5.out.mono ?_
                rintro e w5 ⟨v5, rfl, Hb5, hf⟩
                have HF5 := Lib.hid hf
                clear hf
                go_wp2_with (go_at_call 96; refine hold ?_)
                refine Hold.mk ?_
                refine HF5.out.mono ?_
                rintro e w6 ⟨b, a6, n6, c6, k6, rfl, H6⟩
                have HX6 := Lib.hid (show w6.heap[bo]? = some (.cells #[.bool false, .slice none 0 0] 25 (0, 0)) ∧ Below w.heap.size w w6 from by
                  have h1 := Hb5.out.2.trans (Below.mono H6.out.2.2 Hb5.out.1)
                  exact ⟨(h1.block bo (Array.getElem?_eq_some_iff.1 HBx.out.1).1).trans HBx.out.1, HBx.out.2.trans (Below.mono h1 HBx.out.2.size)⟩)
                obtain ⟨⟨r0, r1⟩, f0, f1⟩ := box_cells HX6.out.1
                go_wp2_with fail
                exact FIN.out w6 _ b a6 n6 c6 k6 HX6.out.1 HX6.out.2 H6.out.2.1 H6.out.1 rfl rfl
end Go.Proofs.YtcnakbhogmnddaaDoor
