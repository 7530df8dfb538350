/- scan's text: the walk. Conditions: a quote stands there; the text fits. -/
import Derived.Test.YtdgjegkoncodaaaDoorScText
namespace Go.Proofs.YtdgjegkoncodaaaDoor
open Go.RowKit

theorem ScE.below {w0 W : World} {p a : Nat} {src : ByteArray} {l : List Tok} {c : List (Nat × Nat)} (h : ScE w0 W p src a l c) : Below p w0 W := by
  obtain ⟨_, _, h⟩ := h
  exact h.below
theorem ScE.cells {w0 W : World} {p a : Nat} {src : ByteArray} {l : List Tok} {c : List (Nat × Nat)} (h : ScE w0 W p src a l c) : W.cell? ⟨p, 0, none⟩ = some (.string src) ∧ W.cell? ⟨p, 1, none⟩ = some (.int .i64 a) ∧ W.frozen? ⟨p, 1, none⟩ = false := by
  obtain ⟨_, _, h⟩ := h
  exact ⟨h.cells.1, h.cells.2.1, h.thaw 1⟩
theorem ScE.setAt {w0 W : World} {p a : Nat} {src : ByteArray} {l : List Tok} {c : List (Nat × Nat)} (h : ScE w0 W p src a l c) (b : Nat) : ScE w0 (W.setCell ⟨p, 1, none⟩ (.int .i64 b)) p src b l c := by
  obtain ⟨_, _, h⟩ := h
  exact ⟨_, _, h.setAt b⟩
theorem ScE.drewN {w0 W : World} {p a : Nat} {src : ByteArray} {l : List Tok} {c : List (Nat × Nat)} (h : ScE w0 W p src a l c) (n : Nat) : ScE w0 (W.drewN n) p src a l c := by
  obtain ⟨_, _, h⟩ := h
  exact ⟨_, _, sc_drewN h n⟩
theorem Out.drewN {w : World} {b : Nat} {v : Value} {l : List UInt8} (h : Out w b v l) (n : Nat) : Out (w.drewN n) b v l := h.go (below_drewN (Below.refl _ _) n)
theorem panBelow {w0 W : World} {p : Nat} (h : Below p w0 W) (n : Nat) : Below p w0 (W.drewN n) := below_drewN h n
set_option maxRecDepth 100000 in
set_option maxHeartbeats 3200000 in
theorem text_any {w0 W : World} {p a : Nat} {src : ByteArray} {l : List Tok} {c : List (Nat × Nat)} (h : ScE w0 W p src a l c) (hn : l.length ≤ 1000000) (ha : a < src.size) (hs : src.size ≤ 65536) :
    Calls Tryd.prog 55 #[.pointer (some ⟨p, 0, none⟩)] W fun e W' => ItemP w0 W' p src a l c e (strItem (src.data.toList.drop (a + 1)) 1 []) := by
  have Hn := Lib.hid hn
  have H0 := Lib.hid h
  obtain ⟨c0, c1, f1⟩ := h.cells
  clear h hn
  obtain ⟨a1, Ha1⟩ : ∃ a1, Hid (a + 1 = a1) := ⟨_, Lib.hid rfl⟩
  have hwa : IntKind.i64.wrap ((a : Int) + 1) = (a1 : Int) := by rw [IntKind.wrap_i64, ← Ha1.out]; omega
  have HB := Lib.hid (fun W => bad_any (W := W) (p := p) (a : Int))
  go_enter Tryd.func55, Tryd.ntmps55
  go_wp2_with fail
  clear c0 c1 f1
  go_loopg [3] (src.size + 1 - a1) (fun g v3 wr => ∃ q ob, a < q ∧ q ≤ src.size ∧ g = src.size + 1 - q ∧ Hid (strItem (src.data.toList.drop (a + 1)) 1 [] = strItem (src.data.toList.drop q) (q - a) ob ∧ ob.length ≤ q) ∧ Hid (ScE w0 wr p src q l c) ∧ Hid (Out wr (p + 1) v3 ob))
  case atStart =>
    have := Ha1.out
    refine ⟨a1, [], by omega, by omega, rfl, Lib.hid ⟨?_, by simp⟩, Lib.hid (H0.out.setAt a1), Lib.hid (Out.nil _ _)⟩
    rw [Ha1.out]
    congr 1
    omega
  case round =>
    obtain ⟨q, ob, haq, hq, rfl, HE, HS, HO⟩ := hrel
    obtain ⟨c0, c1, f1⟩ := HS.out.cells
    by_cases hlt : q < src.size
    · have hge : decide ((src.size : Int) ≤ (q : Int)) = false := decide_eq_false (by omega)
      obtain ⟨z, hz⟩ : ∃ z, src[q].toNat = z := ⟨_, rfl⟩
      have HZ := Lib.hid hz
      cases hz10 : ((z : Int) == 10) with
      | true =>
        have HI := Lib.hid (show strItem (src.data.toList.drop (a + 1)) 1 [] = .bad 0 from by rw [HE.out.1, drop_at hlt, strItem_cons, if_pos (show (src[q] == 10) = true from beq_z (n := 10) HZ.out hz10 (by decide))])
        go_wp2_with fail
        go_quiet (fail)
        go_wp2_with (go_at_call 52; refine (HB.out _).mono ?_; rintro e W' ⟨rfl, rfl⟩)
        exact ⟨rfl, item_bad HI.out (by first | assumption | exact Eq.symm (by assumption)) (below_drewN HS.out.below _)⟩
      | false =>
        go_wp2_with fail
        go_quiet (fail)
        obtain ⟨wA, HwA⟩ : ∃ wA, Hid (wr.drewN nq = wA) := ⟨_, Lib.hid rfl⟩
        have HA := Lib.hid (HS.out.drewN nq)
        have HOA := Lib.hid (HO.out.drewN nq)
        rw [HwA.out] at HA HOA ⊢
        clear c0 c1 f1
        obtain ⟨c0, c1, f1⟩ := HA.out.cells
        go_wp2_with fail
        go_quiet (fail)
        obtain ⟨wB, HwB⟩ : ∃ wB, Hid (wA.drewN nq = wB) := ⟨_, Lib.hid rfl⟩
        have HB1 := Lib.hid (HA.out.drewN nq)
        have HOB := Lib.hid (HOA.out.drewN nq)
        rw [HwB.out] at HB1 HOB ⊢
        clear c0 c1 f1
        obtain ⟨c0, c1, f1⟩ := HB1.out.cells
        obtain ⟨q1, Hq1⟩ : ∃ q1, Hid (q + 1 = q1) := ⟨_, Lib.hid rfl⟩
        have hw : IntKind.i64.wrap ((q : Int) + 1) = (q1 : Int) := by rw [IntKind.wrap_i64, ← Hq1.out]; omega
        go_upto_region 7 with fail
        obtain ⟨wC, HwC⟩ : ∃ wC, Hid (wB.setCell ⟨p, 1, none⟩ (.int .i64 (q1 : Int)) = wC) := ⟨_, Lib.hid rfl⟩
        have HC := Lib.hid (HB1.out.setAt q1)
        have HOC := Lib.hid (HOB.out.setAt 1 (.int .i64 (q1 : Int)))
        rw [HwC.out] at HC HOC ⊢
        clear c0 c1 f1
        have H10 := Lib.hid (beq_z (n := 10) HZ.out hz10 (by decide))
        cases hz34 : ((z : Int) == 34) with
        | true =>
          have HI := Lib.hid (show strItem (src.data.toList.drop (a + 1)) 1 [] = .tok 3 (q1 - a) ob from by
            rw [HE.out.1, drop_at hlt, strItem_cons, if_neg (by rw [show (src[q] == 10) = false from H10.out]; exact Bool.false_ne_true), if_pos (show (src[q] == 34) = true from beq_z (n := 34) HZ.out hz34 (by decide)), show q - a + 1 = q1 - a from by have := Hq1.out; omega])
          go_wp2_with (refine wpList_strB rfl _ rfl rfl HOC.out ?_)
          go_wp2_with (go_at_call 53; refine hold ?_)
          refine Hold.mk ?_
          refine (add_any HC.out Hn.out 3 a ob _ rfl).mono ?_
          rintro e W' ⟨rfl, hS⟩
          have HS2 := Lib.hid hS
          clear hS
          go_wp2_with fail
          refine bodyPost_ret (results_none rfl _ _ _) rfl ?_
          refine item_tok HI.out rfl ?_
          rw [show a + (q1 - a) = q1 from by have := Hq1.out; omega]
          exact HS2.out
        | false =>
          have H34 := Lib.hid (beq_z (n := 34) HZ.out hz34 (by decide))
          cases hz92 : ((z : Int) == 92) with
          | true =>
            have hw2 : IntKind.i64.wrap ((q1 : Int) - 1) = (q : Int) := by rw [IntKind.wrap_i64, ← Hq1.out]; omega
            have HE2 := Lib.hid (show strItem (src.data.toList.drop (a + 1)) 1 [] = escGo ((src.data.toList.drop (q + 1)).head?.bind escB) (src.data.toList.drop (q + 1)) (q - a) ob from by
              rw [HE.out.1, drop_at hlt, strItem_cons, if_neg (by rw [show (src[q] == 10) = false from H10.out]; exact Bool.false_ne_true), if_neg (by rw [show (src[q] == 34) = false from H34.out]; exact Bool.false_ne_true), if_pos (show (src[q] == 92) = true from beq_z (n := 92) HZ.out hz92 (by decide))])
            have HX := Lib.hid (escape_any HC.out q hlt hs)
            obtain ⟨c0, c1, f1⟩ := HC.out.cells
            cases hx : (src.data.toList.drop (q + 1)).head?.bind escB with
            | none =>
              have HI := Lib.hid (show strItem (src.data.toList.drop (a + 1)) 1 [] = .bad (q - a) from by rw [HE2.out, hx]; rfl)
              have HX2 := Lib.hid (show escE (src.data.toList.drop (q + 1)) q = pan (q : Int) from by unfold escE; rw [hx])
              rw [HX2.out] at HX
              clear hx
              go_wp2_with (go_at_call 64; refine HX.out.mono ?_; rintro e W' ⟨rfl, rfl⟩)
              exact ⟨rfl, item_bad HI.out (by rw [show a + (q - a) = q from by omega]; first | assumption | exact Eq.symm (by assumption)) HC.out.below⟩
            | some x =>
              have HI := Lib.hid (show strItem (src.data.toList.drop (a + 1)) 1 [] = strItem (src.data.toList.drop (q1 + 1)) (q1 + 1 - a) (ob ++ [x]) from by
                rw [HE2.out, hx]
                unfold escGo
                simp only
                rw [List.drop_drop, show q + 1 + 1 = q1 + 1 from by rw [Hq1.out], show q - a + 2 = q1 + 1 - a from by have := Hq1.out; omega])
              have HX2 := Lib.hid (show escE (src.data.toList.drop (q + 1)) q = .returned (.int .u8 (x.toNat : Int)) from by unfold escE; rw [hx])
              rw [HX2.out] at HX
              have Hlen := Lib.hid (show q1 + 1 ≤ src.size from by
                by_cases h : q + 1 < src.size
                · have := Hq1.out; omega
                · rw [drop_end h] at hx; cases hx)
              clear hx
              obtain ⟨q2, Hq2⟩ : ∃ q2, Hid (q1 + 1 = q2) := ⟨_, Lib.hid rfl⟩
              have hw3 : IntKind.i64.wrap ((q1 : Int) + 1) = (q2 : Int) := by have := Hlen.out; rw [IntKind.wrap_i64, ← Hq2.out]; omega
              go_upto_region 13 with (go_at_call 64; refine HX.out.mono ?_; rintro e W' ⟨rfl, rfl⟩)
              obtain ⟨wD, HwD⟩ : ∃ wD, Hid (wC.setCell ⟨p, 1, none⟩ (.int .i64 (q2 : Int)) = wD) := ⟨_, Lib.hid rfl⟩
              have HD := Lib.hid (HC.out.setAt q2)
              have HOD := Lib.hid (HOC.out.setAt 1 (.int .i64 (q2 : Int)))
              rw [HwD.out] at HD HOD ⊢
              clear c0 c1 f1
              obtain ⟨tv, rv, hD⟩ := HD.out
              have HD2 := Lib.hid hD
              clear hD
              go_wp2_with (at_builtin; refine hold ?_)
              refine Hold.mk ?_
              refine wpList_out (v := u3) (ob := ob) rfl _ _ rfl rfl rfl HD2.out HOD.out rfl (by have := HE.out.2; omega) ?_
              intro g cap w' h1 h2
              have HF := Lib.hid (show ScE w0 w' p src q2 l c from ⟨_, _, h1⟩)
              have HOF := Lib.hid h2
              clear h1 h2
              go_wp2_with fail
              go_roundg (src.size + 1 - q2)
              case measure => have := Hq1.out; have := Hq2.out; omega
              case rel => exact ⟨q2, ob ++ [x], by have := Hq1.out; have := Hq2.out; omega, by have := Hlen.out; have := Hq2.out; omega, rfl, Lib.hid ⟨by rw [HI.out, Hq2.out], by have := HE.out.2; have := Hq1.out; have := Hq2.out; simp; omega⟩, HF, by have h := HOF.out; unfold Out at h ⊢; rw [List.length_append] at h ⊢; exact Lib.hid h⟩
          | false =>
            have H92 := Lib.hid (beq_z (n := 92) HZ.out hz92 (by decide))
            have HI := Lib.hid (show strItem (src.data.toList.drop (a + 1)) 1 [] = strItem (src.data.toList.drop q1) (q1 - a) (ob ++ [src[q]]) from by
              rw [HE.out.1, drop_at hlt, strItem_cons, if_neg (by rw [show (src[q] == 10) = false from H10.out]; exact Bool.false_ne_true), if_neg (by rw [show (src[q] == 34) = false from H34.out]; exact Bool.false_ne_true), if_neg (by rw [show (src[q] == 92) = false from H92.out]; exact Bool.false_ne_true), Hq1.out, show q - a + 1 = q1 - a from by have := Hq1.out; omega])
            obtain ⟨x, Hx⟩ : ∃ x, Hid (src[q] = x) := ⟨_, Lib.hid rfl⟩
            rw [Hx.out] at HI
            have HU := Lib.hid (show (z : Int) = (x.toNat : Int) from by rw [← HZ.out, Hx.out])
            obtain ⟨tv, rv, hC⟩ := HC.out
            have HC2 := Lib.hid hC
            clear hC hz
            go_wp2_with (at_builtin; refine hold ?_)
            refine Hold.mk ?_
            refine wpList_out (v := u3) (ob := ob) rfl _ _ rfl rfl rfl HC2.out HOC.out HU.out (by have := HE.out.2; omega) ?_
            intro g cap w' h1 h2
            have HF := Lib.hid (show ScE w0 w' p src q1 l c from ⟨_, _, h1⟩)
            have HOF := Lib.hid h2
            clear h1 h2
            go_wp2_with fail
            go_roundg (src.size + 1 - q1)
            case measure => have := Hq1.out; omega
            case rel => exact ⟨q1, ob ++ [x], by have := Hq1.out; omega, by have := Hq1.out; omega, rfl, Lib.hid ⟨HI.out, by have := HE.out.2; have := Hq1.out; simp; omega⟩, HF, by have h := HOF.out; unfold Out at h ⊢; rw [List.length_append] at h ⊢; exact Lib.hid h⟩
    · have e : q = src.size := by omega
      have hge : (src.size : Int) ≤ (q : Int) := by omega
      have HI := Lib.hid (show strItem (src.data.toList.drop (a + 1)) 1 [] = .bad 0 from by rw [HE.out.1, drop_end hlt]; rfl)
      clear e
      go_wp2_with fail
      go_quiet (fail)
      go_wp2_with (go_at_call 52; refine (HB.out _).mono ?_; rintro e W' ⟨rfl, rfl⟩)
      exact ⟨rfl, item_bad HI.out (by first | assumption | exact Eq.symm (by assumption)) (below_drewN HS.out.below _)⟩
end Go.Proofs.YtdgjegkoncodaaaDoor
