/- The reference's text. Conditions: a quote stands there; the text fits. -/
import Derived.Test.YtdgjegkoncodaaaDoorScTextW
import Derived.Test.YtdgjegkoncodaaaDoorRsName
namespace Go.Proofs.YtdgjegkoncodaaaDoor
open Go.RowKit

theorem Out.setAt' {w : World} {p n cap g : Nat} {l : List UInt8} (h : Out w (p + 1) (.slice (some ⟨g, 0, none⟩) n cap) l) (j : Nat) (u : Value) : Out (w.setCell ⟨p, j, none⟩ u) (p + 1) (.slice (some ⟨g, 0, none⟩) n cap) l := h.setAt j u
set_option maxRecDepth 100000 in
set_option maxHeartbeats 6400000 in
theorem rtext_any {w0 W : World} {p a : Nat} {src : ByteArray} {l : List Tok} {c : List (Nat × Nat)} (h : RsE w0 W p src a l c 0 0) (hn : l.length ≤ 1000000) (ha : a < src.size) (hs : src.size ≤ 65536) :
    Calls Tryd.prog 42 #[.pointer (some ⟨p, 0, none⟩)] W fun e W' => RItemP w0 W' p src a l c e (strItem (src.data.toList.drop (a + 1)) 1 []) := by
  have Hn := Lib.hid hn
  have H0 := Lib.hid h
  obtain ⟨c0, c1, f1⟩ := h.cells
  clear h hn
  obtain ⟨a1, Ha1⟩ : ∃ a1, Hid (a + 1 = a1) := ⟨_, Lib.hid rfl⟩
  have hwa : IntKind.i64.wrap ((a : Int) + 1) = (a1 : Int) := by rw [IntKind.wrap_i64, ← Ha1.out]; omega
  go_enter Tryd.func42, Tryd.ntmps42
  go_wp2_with fail
  clear c0 c1 f1
  go_loopg [3] (src.size + 1 - a1) (fun g v3 wr => ∃ q ob, a < q ∧ q ≤ src.size ∧ g = src.size + 1 - q ∧ Hid (strItem (src.data.toList.drop (a + 1)) 1 [] = strItem (src.data.toList.drop q) (q - a) ob ∧ ob.length ≤ q) ∧ Hid (RsE w0 wr p src q l c 0 0) ∧ Hid (Out wr (p + 1) v3 ob))
  case atStart =>
    have := Ha1.out
    refine ⟨a1, [], by omega, by omega, rfl, Lib.hid ⟨?_, by simp⟩, Lib.hid (H0.out.setAt a1), Lib.hid (Out.nil _ _)⟩
    rw [Ha1.out]
    congr 1
    omega
  case round =>
    obtain ⟨q, ob, haq, hq, rfl, HE, HS, HO⟩ := hrel
    obtain ⟨c0, c1, f1⟩ := HS.out.cells
    by_cases hlt : q < src.size
    · have hge : decide ((src.size : Int) ≤ (q : Int)) = false := decide_eq_false (by omega)
      obtain ⟨z, hz⟩ : ∃ z, src[q].toNat = z := ⟨_, rfl⟩
      have HZ := Lib.hid hz
      cases hz10 : ((z : Int) == 10) with
      | true =>
        have HI := Lib.hid (show strItem (src.data.toList.drop (a + 1)) 1 [] = .bad 0 from by rw [HE.out.1, drop_at hlt, strItem_cons, if_pos (show (src[q] == 10) = true from beq_z (n := 10) HZ.out hz10 (by decide))])
        go_wp2_with fail
        go_quiet (fail)
        go_wp2_with (go_at_call 57; refine hold ?_)
        refine Hold.mk ?_
        refine (wrong_any (HS.out.drewN _) (a : Int)).mono ?_
        rintro e W' ⟨rfl, hS⟩
        have HS2 := Lib.hid hS
        clear hS
        go_wp2_with fail
        refine bodyPost_ret (results_none rfl _ _ _) rfl ?_
        exact ritem_bad HI.out rfl (by simp) ⟨_, HS2.out⟩
      | false =>
        go_wp2_with fail
        go_quiet (fail)
        obtain ⟨wA, HwA⟩ : ∃ wA, Hid (wr.drewN nq = wA) := ⟨_, Lib.hid rfl⟩
        have HA := Lib.hid (HS.out.drewN nq)
        have HOA := Lib.hid (Out.drewN HO.out nq)
        rw [HwA.out] at HA HOA ⊢
        clear c0 c1 f1
        obtain ⟨c0, c1, f1⟩ := HA.out.cells
        go_wp2_with fail
        go_quiet (fail)
        obtain ⟨wB, HwB⟩ : ∃ wB, Hid (wA.drewN nq = wB) := ⟨_, Lib.hid rfl⟩
        have HB1 := Lib.hid (HA.out.drewN nq)
        have HOB := Lib.hid (Out.drewN HOA.out nq)
        rw [HwB.out] at HB1 HOB ⊢
        clear c0 c1 f1
        obtain ⟨c0, c1, f1⟩ := HB1.out.cells
        obtain ⟨q1, Hq1⟩ : ∃ q1, Hid (q + 1 = q1) := ⟨_, Lib.hid rfl⟩
        have hw : IntKind.i64.wrap ((q : Int) + 1) = (q1 : Int) := by rw [IntKind.wrap_i64, ← Hq1.out]; omega
        go_upto_region 6 with fail
        have H10 := Lib.hid (beq_z (n := 10) HZ.out hz10 (by decide))
        cases hz34 : ((z : Int) == 34) with
        | true =>
          have HI := Lib.hid (show strItem (src.data.toList.drop (a + 1)) 1 [] = .tok 3 (q1 - a) ob from by
            rw [HE.out.1, drop_at hlt, strItem_cons, if_neg (by rw [show (src[q] == 10) = false from H10.out]; exact Bool.false_ne_true), if_pos (show (src[q] == 34) = true from beq_z (n := 34) HZ.out hz34 (by decide)), show q - a + 1 = q1 - a from by have := Hq1.out; omega])
          go_upto_region 8 with fail
          obtain ⟨wC, HwC⟩ : ∃ wC, Hid (wB.setCell ⟨p, 1, none⟩ (.int .i64 (q1 : Int)) = wC) := ⟨_, Lib.hid rfl⟩
          have HC := Lib.hid (HB1.out.setAt q1)
          have HOC := Lib.hid (HOB.out.setAt 1 (.int .i64 (q1 : Int)))
          rw [HwC.out] at HC HOC ⊢
          clear c0 c1 f1
          go_wp2_with (refine wpList_strB rfl _ rfl rfl HOC.out ?_)
          go_wp2_with (go_at_call 44; refine hold ?_)
          refine Hold.mk ?_
          refine (radd_any HC.out Hn.out 3 a ob _ rfl).mono ?_
          rintro e W' ⟨rfl, hS⟩
          have HS2 := Lib.hid hS
          clear hS
          go_wp2_with fail
          refine bodyPost_ret (results_none rfl _ _ _) rfl ?_
          refine ritem_tok HI.out rfl ?_
          rw [show a + (q1 - a) = q1 from by have := Hq1.out; omega]
          exact HS2.out
        | false =>
          have H34 := Lib.hid (beq_z (n := 34) HZ.out hz34 (by decide))
          cases hz92 : ((z : Int) == 92) with
          | false =>
            have H92 := Lib.hid (beq_z (n := 92) HZ.out hz92 (by decide))
            have hne92 : ((z : Int) != 92) = true := by simp only [bne, hz92, Bool.not_false]
            have HI := Lib.hid (show strItem (src.data.toList.drop (a + 1)) 1 [] = strItem (src.data.toList.drop q1) (q1 - a) (ob ++ [src[q]]) from by
              rw [HE.out.1, drop_at hlt, strItem_cons, if_neg (by rw [show (src[q] == 10) = false from H10.out]; exact Bool.false_ne_true), if_neg (by rw [show (src[q] == 34) = false from H34.out]; exact Bool.false_ne_true), if_neg (by rw [show (src[q] == 92) = false from H92.out]; exact Bool.false_ne_true), Hq1.out, show q - a + 1 = q1 - a from by have := Hq1.out; omega])
            obtain ⟨x, Hx⟩ : ∃ x, Hid (src[q] = x) := ⟨_, Lib.hid rfl⟩
            rw [Hx.out] at HI
            have HU := Lib.hid (show (z : Int) = (x.toNat : Int) from by rw [← HZ.out, Hx.out])
            clear hz
            obtain ⟨tv, rv, hC⟩ := HB1.out
            have HC2 := Lib.hid hC
            clear hC
            go_wp2_with (at_builtin; refine hold ?_)
            refine Hold.mk ?_
            refine wpList_rout (v := u3) (ob := ob) rfl _ _ rfl rfl rfl HC2.out HOB.out HU.out (by have := HE.out.2; omega) ?_
            intro g cap w' h1 h2
            have HF := Lib.hid (show RsE w0 w' p src q l c 0 0 from ⟨_, _, h1⟩)
            have HOF := Lib.hid h2
            clear h1 h2 c0 c1 f1
            obtain ⟨c0, c1, f1⟩ := HF.out.cells
            go_wp2_with fail
            have HF2 := Lib.hid (HF.out.setAt q1)
            have HOF2 := Lib.hid (HOF.out.setAt' 1 (.int .i64 (q1 : Int)))
            go_roundg (src.size + 1 - q1)
            case measure => have := Hq1.out; skip; omega
            case rel => exact ⟨q1, ob ++ [x], by have := Hq1.out; omega, by have := Hq1.out; omega, rfl, Lib.hid ⟨HI.out, by have := HE.out.2; have := Hq1.out; simp; omega⟩, HF2, by have h := HOF2.out; unfold Out at h ⊢; rw [List.length_append] at h ⊢; exact Lib.hid h⟩
          | true =>
            have hne92 : ((z : Int) != 92) = false := by simp only [bne, hz92, Bool.not_true]
            have HE2 := Lib.hid (show strItem (src.data.toList.drop (a + 1)) 1 [] = escGo ((src.data.toList.drop (q + 1)).head?.bind escB) (src.data.toList.drop (q + 1)) (q - a) ob from by
              rw [HE.out.1, drop_at hlt, strItem_cons, if_neg (by rw [show (src[q] == 10) = false from H10.out]; exact Bool.false_ne_true), if_neg (by rw [show (src[q] == 34) = false from H34.out]; exact Bool.false_ne_true), if_pos (show (src[q] == 92) = true from beq_z (n := 92) HZ.out hz92 (by decide))])
            obtain ⟨q2, Hq2⟩ : ∃ q2, Hid (q + 2 = q2) := ⟨_, Lib.hid rfl⟩
            have hw3 : IntKind.i64.wrap ((q : Int) + 2) = (q2 : Int) := by rw [IntKind.wrap_i64, ← Hq2.out]; omega
            by_cases hlt1 : q1 < src.size
            · have hl1I : (q1 : Int) < (src.size : Int) := by omega
              obtain ⟨y, Hy⟩ : ∃ y, Hid (src[q1] = y) := ⟨_, Lib.hid rfl⟩
              obtain ⟨z1, hz1⟩ : ∃ z1, src[q1].toNat = z1 := ⟨_, rfl⟩
              have HZ1 := Lib.hid (show y.toNat = z1 from by rw [← Hy.out]; exact hz1)
              have HD1 := Lib.hid (show src.data.toList.drop (q + 1) = y :: src.data.toList.drop q2 from by rw [Hq1.out, drop_at hlt1, Hy.out, show q1 + 1 = q2 from by have := Hq1.out; have := Hq2.out; omega])
              have HE3 := Lib.hid (show strItem (src.data.toList.drop (a + 1)) 1 [] = escGo (escB y) (y :: src.data.toList.drop q2) (q - a) ob from by rw [HE2.out, HD1.out]; rfl)
              go_wp2_with fail
              go_quiet (fail)
              obtain ⟨wC, HwC⟩ : ∃ wC, Hid (wB.drewN nq = wC) := ⟨_, Lib.hid rfl⟩
              have HC := Lib.hid (HB1.out.drewN nq)
              have HOC := Lib.hid (Out.drewN HOB.out nq)
              rw [HwC.out] at HC HOC ⊢
              clear c0 c1 f1
              obtain ⟨c0, c1, f1⟩ := HC.out.cells
              go_wp2_with fail
              go_quiet (fail)
              obtain ⟨wD, HwD⟩ : ∃ wD, Hid (wC.drewN nq = wD) := ⟨_, Lib.hid rfl⟩
              have HD := Lib.hid (HC.out.drewN nq)
              have HOD := Lib.hid (Out.drewN HOC.out nq)
              rw [HwD.out] at HD HOD ⊢
              clear c0 c1 f1
              obtain ⟨c0, c1, f1⟩ := HD.out.cells
              go_upto_region 15 with fail
              have HSz := Lib.hid (show q2 ≤ src.size from by have := Hq1.out; have := Hq2.out; omega)
              clear hz1
              cases hy92 : ((z1 : Int) == 92) with
              | true =>
                have HI := Lib.hid (show strItem (src.data.toList.drop (a + 1)) 1 [] = strItem (src.data.toList.drop q2) (q2 - a) (ob ++ [y]) from by
                  rw [HE3.out, show escB y = some y from by unfold escB; rw [show (y == 92) = true from beq_z (n := 92) HZ1.out hy92 (by decide)]; first | rfl | simp]
                  unfold escGo
                  simp only [List.drop_succ_cons, List.drop_zero]
                  rw [show q - a + 2 = q2 - a from by have := Hq2.out; omega])
                obtain ⟨tv, rv, hC⟩ := HD.out
                have HC2 := Lib.hid hC
                clear hC
                go_wp2_with (at_builtin; refine hold ?_)
                refine Hold.mk ?_
                refine wpList_rout (v := u3) (ob := ob) rfl _ _ rfl rfl rfl HC2.out HOD.out (show (z1 : Int) = (y.toNat : Int) from by rw [HZ1.out]) (by have := HE.out.2; omega) ?_
                intro g cap w' h1 h2
                have HF := Lib.hid (show RsE w0 w' p src q l c 0 0 from ⟨_, _, h1⟩)
                have HOF := Lib.hid h2
                clear h1 h2 c0 c1 f1
                obtain ⟨c0, c1, f1⟩ := HF.out.cells
                go_wp2_with fail
                have HF2 := Lib.hid (HF.out.setAt q2)
                have HOF2 := Lib.hid (HOF.out.setAt' 1 (.int .i64 (q2 : Int)))
                go_roundg (src.size + 1 - q2)
                case measure => have := Hq1.out; have := Hq2.out; have := HSz.out; omega
                case rel => exact ⟨q2, ob ++ [y], by have := Hq2.out; omega, HSz.out, rfl, Lib.hid ⟨HI.out, by have := HE.out.2; have := Hq2.out; simp; omega⟩, HF2, by have h := HOF2.out; unfold Out at h ⊢; rw [List.length_append] at h ⊢; exact Lib.hid h⟩
              | false =>
                cases hy34 : ((z1 : Int) == 34) with
                | true =>
                  have HI := Lib.hid (show strItem (src.data.toList.drop (a + 1)) 1 [] = strItem (src.data.toList.drop q2) (q2 - a) (ob ++ [y]) from by
                    rw [HE3.out, show escB y = some y from by unfold escB; rw [show (y == 92) = false from beq_z (n := 92) HZ1.out hy92 (by decide), show (y == 34) = true from beq_z (n := 34) HZ1.out hy34 (by decide)]; first | rfl | simp]
                    unfold escGo
                    simp only [List.drop_succ_cons, List.drop_zero]
                    rw [show q - a + 2 = q2 - a from by have := Hq2.out; omega])
                  obtain ⟨tv, rv, hC⟩ := HD.out
                  have HC2 := Lib.hid hC
                  clear hC
                  go_wp2_with (at_builtin; refine hold ?_)
                  refine Hold.mk ?_
                  refine wpList_rout (v := u3) (ob := ob) rfl _ _ rfl rfl rfl HC2.out HOD.out (show (z1 : Int) = (y.toNat : Int) from by rw [HZ1.out]) (by have := HE.out.2; omega) ?_
                  intro g cap w' h1 h2
                  have HF := Lib.hid (show RsE w0 w' p src q l c 0 0 from ⟨_, _, h1⟩)
                  have HOF := Lib.hid h2
                  clear h1 h2 c0 c1 f1
                  obtain ⟨c0, c1, f1⟩ := HF.out.cells
                  go_wp2_with fail
                  have HF2 := Lib.hid (HF.out.setAt q2)
                  have HOF2 := Lib.hid (HOF.out.setAt' 1 (.int .i64 (q2 : Int)))
                  go_roundg (src.size + 1 - q2)
                  case measure => have := Hq1.out; have := Hq2.out; have := HSz.out; omega
                  case rel => exact ⟨q2, ob ++ [y], by have := Hq2.out; omega, HSz.out, rfl, Lib.hid ⟨HI.out, by have := HE.out.2; have := Hq2.out; simp; omega⟩, HF2, by have h := HOF2.out; unfold Out at h ⊢; rw [List.length_append] at h ⊢; exact Lib.hid h⟩
                | false =>
                  cases hy110 : ((z1 : Int) == 110) with
                  | true =>
                    have HI := Lib.hid (show strItem (src.data.toList.drop (a + 1)) 1 [] = strItem (src.data.toList.drop q2) (q2 - a) (ob ++ [10]) from by
                      rw [HE3.out, show escB y = some 10 from by unfold escB; rw [show (y == 92) = false from beq_z (n := 92) HZ1.out hy92 (by decide), show (y == 34) = false from beq_z (n := 34) HZ1.out hy34 (by decide), show (y == 110) = true from beq_z (n := 110) HZ1.out hy110 (by decide)]; first | rfl | simp]
                      unfold escGo
                      simp only [List.drop_succ_cons, List.drop_zero]
                      rw [show q - a + 2 = q2 - a from by have := Hq2.out; omega])
                    obtain ⟨tv, rv, hC⟩ := HD.out
                    have HC2 := Lib.hid hC
                    clear hC
                    go_wp2_with (at_builtin; refine hold ?_)
                    refine Hold.mk ?_
                    refine wpList_rout (v := u3) (ob := ob) rfl _ _ rfl rfl rfl HC2.out HOD.out (show ((10 : Int)) = (((10 : UInt8).toNat : Nat) : Int) from rfl) (by have := HE.out.2; omega) ?_
                    intro g cap w' h1 h2
                    have HF := Lib.hid (show RsE w0 w' p src q l c 0 0 from ⟨_, _, h1⟩)
                    have HOF := Lib.hid h2
                    clear h1 h2 c0 c1 f1
                    obtain ⟨c0, c1, f1⟩ := HF.out.cells
                    go_wp2_with fail
                    have HF2 := Lib.hid (HF.out.setAt q2)
                    have HOF2 := Lib.hid (HOF.out.setAt' 1 (.int .i64 (q2 : Int)))
                    go_roundg (src.size + 1 - q2)
                    case measure => have := Hq1.out; have := Hq2.out; have := HSz.out; omega
                    case rel => exact ⟨q2, ob ++ [10], by have := Hq2.out; omega, HSz.out, rfl, Lib.hid ⟨HI.out, by have := HE.out.2; have := Hq2.out; simp; omega⟩, HF2, by have h := HOF2.out; unfold Out at h ⊢; rw [List.length_append] at h ⊢; exact Lib.hid h⟩
                  | false =>
                    cases hy116 : ((z1 : Int) == 116) with
                    | true =>
                      have HI := Lib.hid (show strItem (src.data.toList.drop (a + 1)) 1 [] = strItem (src.data.toList.drop q2) (q2 - a) (ob ++ [9]) from by
                        rw [HE3.out, show escB y = some 9 from by unfold escB; rw [show (y == 92) = false from beq_z (n := 92) HZ1.out hy92 (by decide), show (y == 34) = false from beq_z (n := 34) HZ1.out hy34 (by decide), show (y == 110) = false from beq_z (n := 110) HZ1.out hy110 (by decide), show (y == 116) = true from beq_z (n := 116) HZ1.out hy116 (by decide)]; first | rfl | simp]
                        unfold escGo
                        simp only [List.drop_succ_cons, List.drop_zero]
                        rw [show q - a + 2 = q2 - a from by have := Hq2.out; omega])
                      obtain ⟨tv, rv, hC⟩ := HD.out
                      have HC2 := Lib.hid hC
                      clear hC
                      go_wp2_with (at_builtin; refine hold ?_)
                      refine Hold.mk ?_
                      refine wpList_rout (v := u3) (ob := ob) rfl _ _ rfl rfl rfl HC2.out HOD.out (show ((9 : Int)) = (((9 : UInt8).toNat : Nat) : Int) from rfl) (by have := HE.out.2; omega) ?_
                      intro g cap w' h1 h2
                      have HF := Lib.hid (show RsE w0 w' p src q l c 0 0 from ⟨_, _, h1⟩)
                      have HOF := Lib.hid h2
                      clear h1 h2 c0 c1 f1
                      obtain ⟨c0, c1, f1⟩ := HF.out.cells
                      go_wp2_with fail
                      have HF2 := Lib.hid (HF.out.setAt q2)
                      have HOF2 := Lib.hid (HOF.out.setAt' 1 (.int .i64 (q2 : Int)))
                      go_roundg (src.size + 1 - q2)
                      case measure => have := Hq1.out; have := Hq2.out; have := HSz.out; omega
                      case rel => exact ⟨q2, ob ++ [9], by have := Hq2.out; omega, HSz.out, rfl, Lib.hid ⟨HI.out, by have := HE.out.2; have := Hq2.out; simp; omega⟩, HF2, by have h := HOF2.out; unfold Out at h ⊢; rw [List.length_append] at h ⊢; exact Lib.hid h⟩
                    | false =>
                      have HI := Lib.hid (show strItem (src.data.toList.drop (a + 1)) 1 [] = .bad (q - a) from by rw [HE3.out, show escB y = none from by unfold escB; rw [show (y == 92) = false from beq_z (n := 92) HZ1.out hy92 (by decide), show (y == 34) = false from beq_z (n := 34) HZ1.out hy34 (by decide), show (y == 110) = false from beq_z (n := 110) HZ1.out hy110 (by decide), show (y == 116) = false from beq_z (n := 116) HZ1.out hy116 (by decide)]; rfl]; rfl)
                      go_wp2_with (go_at_call 57; refine hold ?_)
                      refine Hold.mk ?_
                      refine (wrong_any (HD.out) (q : Int)).mono ?_
                      rintro e W' ⟨rfl, hS⟩
                      have HS2 := Lib.hid hS
                      clear hS
                      go_wp2_with fail
                      refine bodyPost_ret (results_none rfl _ _ _) rfl ?_
                      exact ritem_bad HI.out rfl (by congr 1; omega) ⟨_, HS2.out⟩
            · have hl1f : decide ((q1 : Int) < (src.size : Int)) = false := decide_eq_false (by omega)
              have HI := Lib.hid (show strItem (src.data.toList.drop (a + 1)) 1 [] = .bad (q - a) from by rw [HE2.out, Hq1.out, drop_end hlt1]; rfl)
              go_wp2_with fail
              go_quiet (fail)
              obtain ⟨wC, HwC⟩ : ∃ wC, Hid (wB.drewN nq = wC) := ⟨_, Lib.hid rfl⟩
              have HC := Lib.hid (HB1.out.drewN nq)
              rw [HwC.out] at HC ⊢
              clear c0 c1 f1
              obtain ⟨c0, c1, f1⟩ := HC.out.cells
              go_wp2_with (go_at_call 57; refine hold ?_)
              refine Hold.mk ?_
              refine (wrong_any (HC.out) (q : Int)).mono ?_
              rintro e W' ⟨rfl, hS⟩
              have HS2 := Lib.hid hS
              clear hS
              go_wp2_with fail
              refine bodyPost_ret (results_none rfl _ _ _) rfl ?_
              exact ritem_bad HI.out rfl (by congr 1; omega) ⟨_, HS2.out⟩
    · have hge : (src.size : Int) ≤ (q : Int) := by omega
      have HI := Lib.hid (show strItem (src.data.toList.drop (a + 1)) 1 [] = .bad 0 from by rw [HE.out.1, drop_end hlt]; rfl)
      go_wp2_with fail
      go_quiet (fail)
      go_wp2_with (go_at_call 57; refine hold ?_)
      refine Hold.mk ?_
      refine (wrong_any (HS.out.drewN _) (a : Int)).mono ?_
      rintro e W' ⟨rfl, hS⟩
      have HS2 := Lib.hid hS
      clear hS
      go_wp2_with fail
      refine bodyPost_ret (results_none rfl _ _ _) rfl ?_
      exact ritem_bad HI.out rfl (by simp) ⟨_, HS2.out⟩
end Go.Proofs.YtdgjegkoncodaaaDoor
