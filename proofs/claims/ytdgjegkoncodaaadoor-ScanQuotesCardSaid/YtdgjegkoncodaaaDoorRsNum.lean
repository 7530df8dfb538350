/- The reference's number. Conditions: a digit stands there; the text fits. -/
import Derived.Test.YtdgjegkoncodaaaDoorRsLine
namespace Go.Proofs.YtdgjegkoncodaaaDoor
open Go.RowKit

/-- What the reading of an item leaves. -/
def RItemP (w0 W : World) (p : Nat) (src : ByteArray) (a : Nat) (l : List Tok) (c : List (Nat × Nat)) (e : Ending) : Item → Prop
  | .tok k n x => e = .returned (.tuple #[]) ∧ RsE w0 W p src (a + n) (l ++ [⟨k, a, a + n, x⟩]) c 0 0
  | .rem n b => e = .returned (.tuple #[]) ∧ RsE w0 W p src (a + n) (if b then lineT l a else l) (c ++ [(a, a + n)]) 0 0
  | .bad o => e = .returned (.tuple #[]) ∧ ∃ a', RsE w0 W p src a' l c 3 ((a + o : Nat) : Int)
  | _ => False
theorem ritem_bad {w0 W : World} {p a : Nat} {src : ByteArray} {l : List Tok} {c : List (Nat × Nat)} {e : Ending} {it : Item} {o : Nat} {q : Int} (hi : it = .bad o) (he : e = .returned (.tuple #[])) (hq : q = ((a + o : Nat) : Int)) (h : ∃ a', RsE w0 W p src a' l c 3 q) : RItemP w0 W p src a l c e it := by
  subst hi
  subst hq
  exact ⟨he, h⟩
theorem ritem_tok {w0 W : World} {p a n : Nat} {src : ByteArray} {l : List Tok} {c : List (Nat × Nat)} {e : Ending} {it : Item} {k : Int} {x : List UInt8} (hi : it = .tok k n x) (he : e = .returned (.tuple #[])) (h : RsE w0 W p src (a + n) (l ++ [⟨k, a, a + n, x⟩]) c 0 0) : RItemP w0 W p src a l c e it := by
  subst hi
  exact ⟨he, h⟩
theorem rletter_C {c : UInt8} {v : Bool} (h : letterB c.toNat = v) (W : World) : Calls Tryd.prog 28 #[.int .u8 (c.toNat : Int)] W (fun e w' => e = .returned (.bool v) ∧ W = w') := by
  have h2 := rletter_any (c.toNat : Int) W
  rw [h] at h2
  exact h2
theorem rdigit_C {c : UInt8} {v : Bool} (h : digitB c.toNat = v) (W : World) : Calls Tryd.prog 29 #[.int .u8 (c.toNat : Int)] W (fun e w' => e = .returned (.bool v) ∧ W = w') := by
  have h2 := rdigit_any (c.toNat : Int) W
  rw [h] at h2
  exact h2
set_option maxRecDepth 100000 in
set_option maxHeartbeats 3200000 in
theorem rnumber_any {w0 W : World} {p a : Nat} {src : ByteArray} {l : List Tok} {c : List (Nat × Nat)} (h : RsE w0 W p src a l c 0 0) (hn : l.length ≤ 1000000) (ha : a < src.size) (hd : digitB src[a].toNat = true) (hs : src.size ≤ 65536) :
    Calls Tryd.prog 41 #[.pointer (some ⟨p, 0, none⟩)] W fun e W' => RItemP w0 W' p src a l c e (numItem (src.data.toList.drop a)) := by
  obtain ⟨d, Hd⟩ : ∃ d, Hid (digits (src.data.toList.drop a) = d) := ⟨_, Lib.hid rfl⟩
  have HD0 := Lib.hid (show 1 ≤ d from by rw [← Hd.out, drop_at ha, digits_cons, if_pos hd]; omega)
  have Hn := Lib.hid hn
  obtain ⟨tv0, rv0, h0⟩ := h
  have H0 := Lib.hid h0
  obtain ⟨c0, c1, _, _⟩ := h0.cells
  obtain ⟨A0, HA0⟩ : ∃ b, Hid (src[a] = b) := ⟨_, Lib.hid rfl⟩
  clear h0 hn hd
  go_enter Tryd.func41, Tryd.ntmps41
  go_wp2_with fail
  clear c0 c1
  go_loopg [] (src.size - a) (fun g wr => ∃ q, a ≤ q ∧ q ≤ src.size ∧ g = src.size - q ∧ Hid (d = (q - a) + digits (src.data.toList.drop q)) ∧ Hid (RsE w0 wr p src q l c 0 0))
  case atStart => exact ⟨a, Nat.le_refl _, Nat.le_of_lt ha, rfl, Lib.hid (by rw [← Hd.out]; omega), Lib.hid ⟨_, _, H0.out⟩⟩
  case round =>
    obtain ⟨q, haq, hq, rfl, HE, HS⟩ := hrel
    obtain ⟨tv, rv, hSc⟩ := HS.out
    have HT := Lib.hid hSc
    obtain ⟨c0, c1, _, _⟩ := hSc.cells
    clear hSc HS
    obtain ⟨T, hT⟩ : ∃ T, src.extract a q = T := ⟨_, rfl⟩
    have HTl := Lib.hid (show strB ((src.data.toList.drop a).take (q - a)) = T from by rw [← hT, extract_at])
    have HTs := Lib.hid (show T.size = q - a from by rw [← HTl.out, strB_size, List.length_take, List.length_drop, bytes_len]; omega)
    have HT0 := Lib.hid (show ∀ (h : 0 < T.size), T[0] = A0 from fun h => by
      have e : T.data.toList = A0 :: ((src.data.toList.drop (a + 1)).take (q - a - 1)) := by
        rw [← HTl.out, strB_toList, drop_at ha, HA0.out]
        obtain ⟨k, hk⟩ : ∃ k, q - a = k + 1 := ⟨q - a - 1, by have := HTs.out; omega⟩
        rw [hk]
        simp
      exact at0 e h)
    by_cases hlt : q < src.size
    · have hlI : (q : Int) < (src.size : Int) := by omega
      cases hdq : digitB src[q].toNat with
      | true =>
        clear hT HTl HTs HT0
        have f1 := HT.out.thaw 1
        obtain ⟨q1, Hq1⟩ : ∃ q1, Hid (q + 1 = q1) := ⟨_, Lib.hid rfl⟩
        have hw : IntKind.i64.wrap ((q : Int) + 1) = (q1 : Int) := by rw [IntKind.wrap_i64, ← Hq1.out]; omega
        have HDq := Lib.hid (fun W => rdigit_C hdq W)
        go_wp2_with fail
        go_quiet ((go_at_call 29; exact (HDq.out _).mono (fun e w h => ⟨h.1, _, h.2.symm⟩)))
        go_wp2_with fail
        go_roundg (src.size - q1)
        case measure => have := Hq1.out; omega
        case rel =>
          refine ⟨q1, by have := Hq1.out; omega, by have := Hq1.out; omega, rfl, Lib.hid ?_, Lib.hid ((RsE.drewN ⟨_, _, HT.out⟩ _).setAt q1)⟩
          rw [HE.out, drop_at hlt, digits_cons, if_pos hdq, Hq1.out]
          have := Hq1.out
          omega
      | false =>
        have hdn : d = q - a := by rw [HE.out, drop_at hlt, digits_cons, hdq]; simp
        have HDq := Lib.hid (fun W => rdigit_C hdq W)
        go_wp2_with fail
        go_quiet ((go_at_call 29; exact (HDq.out _).mono (fun e w h => ⟨h.1, _, h.2.symm⟩)))
        go_wp2_with fail
        go_quiet (fail)
        have Hdn := Lib.hid (show d = q - a from hdn)
        clear hdn
        have hT0 : 0 < T.size := by rw [HTs.out]; have := Hdn.out; have := HD0.out; omega
        have hT0I : (0 : Int) < (T.size : Int) := by omega
        have Hz0 := HT0.out hT0
        have HR := Lib.hid (show (src.data.toList.drop a).head? = some A0 from by rw [drop_at ha, HA0.out]; rfl)
        have HQ := Lib.hid (show ((src.data.toList.drop a).drop d).head? = some src[q] from by rw [List.drop_drop, show a + d = q from by have := Hdn.out; omega, drop_at hlt]; rfl)
        obtain ⟨z0, hz0⟩ : ∃ z0, T[0].toNat = z0 := ⟨_, rfl⟩
        have HZ0 := Lib.hid (show A0.toNat = z0 from by rw [← Hz0]; exact hz0)
        clear Hz0
        cases hz : ((z0 : Int) == 48) with
        | true =>
          have HZ := Lib.hid (show ((some A0 : Option UInt8) == some 48) = true from by simp; exact u8_eq (n := 48) (by rw [HZ0.out]; exact hz) (by decide))
          by_cases h1 : (1 : Int) < (T.size : Int)
          · skip
            have HI := Lib.hid (show numItem (src.data.toList.drop a) = .bad 0 from by
              unfold numItem
              rw [Hd.out, HR.out, HZ.out, decide_eq_true (show 1 < d from by have := HTs.out; have := Hdn.out; omega)]
              rfl)
            clear HQ
            go_wp2_with fail
            go_quiet (fail)
            go_wp2_with (go_at_call 57; refine hold ?_)
            refine Hold.mk ?_
            refine (wrong_any (RsE.drewN ⟨_, _, HT.out⟩ _) (a : Int)).mono ?_
            rintro e W' ⟨rfl, hS⟩
            have HS2 := Lib.hid hS
            clear hS
            go_wp2_with fail
            refine bodyPost_ret (results_none rfl _ _ _) rfl ?_
            exact ritem_bad HI.out rfl (by simp) ⟨_, HS2.out⟩
          · have h1f : decide ((1 : Int) < (T.size : Int)) = false := decide_eq_false h1
            have h2f : decide ((200 : Int) < (T.size : Int)) = false := decide_eq_false (by omega)
            cases hl : letterB src[q].toNat with
            | true =>
              have HI := Lib.hid (show numItem (src.data.toList.drop a) = .bad 0 from by
                unfold numItem
                rw [Hd.out, HR.out, HQ.out, HZ.out, decide_eq_false (show ¬ 200 < d from by have := HTs.out; have := Hdn.out; omega)]
                rw [decide_eq_false (show ¬ 1 < d from by have := HTs.out; have := Hdn.out; omega)]
                simp [hl])
              go_wp2_with fail
              have HLC := Lib.hid (fun W => rletter_C hl W)
              go_quiet ((go_at_call 28; exact (HLC.out _).mono (fun e w h => ⟨h.1, _, h.2.symm⟩)))
              go_wp2_with (go_at_call 57; refine hold ?_)
              refine Hold.mk ?_
              refine (wrong_any (RsE.drewN ⟨_, _, HT.out⟩ _) (a : Int)).mono ?_
              rintro e W' ⟨rfl, hS⟩
              have HS2 := Lib.hid hS
              clear hS
              go_wp2_with fail
              refine bodyPost_ret (results_none rfl _ _ _) rfl ?_
              exact ritem_bad HI.out rfl (by simp) ⟨_, HS2.out⟩
            | false =>
              have HI := Lib.hid (show numItem (src.data.toList.drop a) = .tok 2 d ((src.data.toList.drop a).take d) from by
                unfold numItem
                rw [Hd.out, HR.out, HQ.out, HZ.out, decide_eq_false (show ¬ 200 < d from by have := HTs.out; have := Hdn.out; omega)]
                rw [decide_eq_false (show ¬ 1 < d from by have := HTs.out; have := Hdn.out; omega)]
                simp [hl])
              go_wp2_with fail
              have HLC := Lib.hid (fun W => rletter_C hl W)
              go_quiet ((go_at_call 28; exact (HLC.out _).mono (fun e w h => ⟨h.1, _, h.2.symm⟩)))
              go_wp2_with (go_at_call 44; refine hold ?_)
              refine Hold.mk ?_
              refine (radd_any (RsE.drewN ⟨_, _, HT.out⟩ _) Hn.out 2 a _ _ HTl.out.symm).mono ?_
              rintro e W' ⟨rfl, hS⟩
              have HS2 := Lib.hid hS
              clear hS
              go_wp2_with fail
              go_end0
              refine ritem_tok HI.out rfl ?_
              rw [show a + d = q from by have := Hdn.out; omega, Hdn.out]
              exact HS2.out
        | false =>
          have HZ := Lib.hid (show ((some A0 : Option UInt8) == some 48) = false from by simp; exact fun h => by have e := HZ0.out; rw [h] at e; rw [← e] at hz; simp at hz)
          by_cases h1 : (200 : Int) < (T.size : Int)
          · skip
            have HI := Lib.hid (show numItem (src.data.toList.drop a) = .bad 0 from by
              unfold numItem
              rw [Hd.out, decide_eq_true (show 200 < d from by have := HTs.out; have := Hdn.out; omega)]
              simp)
            clear HQ
            go_wp2_with fail
            go_quiet (fail)
            go_wp2_with (go_at_call 57; refine hold ?_)
            refine Hold.mk ?_
            refine (wrong_any (RsE.drewN ⟨_, _, HT.out⟩ _) (a : Int)).mono ?_
            rintro e W' ⟨rfl, hS⟩
            have HS2 := Lib.hid hS
            clear hS
            go_wp2_with fail
            refine bodyPost_ret (results_none rfl _ _ _) rfl ?_
            exact ritem_bad HI.out rfl (by simp) ⟨_, HS2.out⟩
          · have h1f : decide ((200 : Int) < (T.size : Int)) = false := decide_eq_false h1
            cases hl : letterB src[q].toNat with
            | true =>
              have HI := Lib.hid (show numItem (src.data.toList.drop a) = .bad 0 from by
                unfold numItem
                rw [Hd.out, HR.out, HQ.out, HZ.out, decide_eq_false (show ¬ 200 < d from by have := HTs.out; have := Hdn.out; omega)]
                simp [hl])
              go_wp2_with fail
              have HLC := Lib.hid (fun W => rletter_C hl W)
              go_quiet ((go_at_call 28; exact (HLC.out _).mono (fun e w h => ⟨h.1, _, h.2.symm⟩)))
              go_wp2_with (go_at_call 57; refine hold ?_)
              refine Hold.mk ?_
              refine (wrong_any (RsE.drewN ⟨_, _, HT.out⟩ _) (a : Int)).mono ?_
              rintro e W' ⟨rfl, hS⟩
              have HS2 := Lib.hid hS
              clear hS
              go_wp2_with fail
              refine bodyPost_ret (results_none rfl _ _ _) rfl ?_
              exact ritem_bad HI.out rfl (by simp) ⟨_, HS2.out⟩
            | false =>
              have HI := Lib.hid (show numItem (src.data.toList.drop a) = .tok 2 d ((src.data.toList.drop a).take d) from by
                unfold numItem
                rw [Hd.out, HR.out, HQ.out, HZ.out, decide_eq_false (show ¬ 200 < d from by have := HTs.out; have := Hdn.out; omega)]
                simp [hl])
              go_wp2_with fail
              have HLC := Lib.hid (fun W => rletter_C hl W)
              go_quiet ((go_at_call 28; exact (HLC.out _).mono (fun e w h => ⟨h.1, _, h.2.symm⟩)))
              go_wp2_with (go_at_call 44; refine hold ?_)
              refine Hold.mk ?_
              refine (radd_any (RsE.drewN ⟨_, _, HT.out⟩ _) Hn.out 2 a _ _ HTl.out.symm).mono ?_
              rintro e W' ⟨rfl, hS⟩
              have HS2 := Lib.hid hS
              clear hS
              go_wp2_with fail
              go_end0
              refine ritem_tok HI.out rfl ?_
              rw [show a + d = q from by have := Hdn.out; omega, Hdn.out]
              exact HS2.out
    · have hdn : d = q - a := by rw [HE.out, drop_end hlt]; simp [digits_nil]
      have hend : decide ((q : Int) < (src.size : Int)) = false := decide_eq_false (by omega)
      go_wp2_with fail
      go_quiet (fail)
      go_wp2_with fail
      go_quiet (fail)
      have Hdn := Lib.hid (show d = q - a from hdn)
      clear hdn
      have hT0 : 0 < T.size := by rw [HTs.out]; have := Hdn.out; have := HD0.out; omega
      have hT0I : (0 : Int) < (T.size : Int) := by omega
      have Hz0 := HT0.out hT0
      have HR := Lib.hid (show (src.data.toList.drop a).head? = some A0 from by rw [drop_at ha, HA0.out]; rfl)
      have HQ := Lib.hid (show ((src.data.toList.drop a).drop d).head? = none from by rw [List.drop_drop, show a + d = q from by have := Hdn.out; omega, drop_end hlt]; rfl)
      obtain ⟨z0, hz0⟩ : ∃ z0, T[0].toNat = z0 := ⟨_, rfl⟩
      have HZ0 := Lib.hid (show A0.toNat = z0 from by rw [← Hz0]; exact hz0)
      clear Hz0
      cases hz : ((z0 : Int) == 48) with
      | true =>
        have HZ := Lib.hid (show ((some A0 : Option UInt8) == some 48) = true from by simp; exact u8_eq (n := 48) (by rw [HZ0.out]; exact hz) (by decide))
        by_cases h1 : (1 : Int) < (T.size : Int)
        · skip
          have HI := Lib.hid (show numItem (src.data.toList.drop a) = .bad 0 from by
            unfold numItem
            rw [Hd.out, HR.out, HZ.out, decide_eq_true (show 1 < d from by have := HTs.out; have := Hdn.out; omega)]
            rfl)
          clear HQ
          go_wp2_with fail
          go_quiet (fail)
          go_wp2_with (go_at_call 57; refine hold ?_)
          refine Hold.mk ?_
          refine (wrong_any (RsE.drewN ⟨_, _, HT.out⟩ _) (a : Int)).mono ?_
          rintro e W' ⟨rfl, hS⟩
          have HS2 := Lib.hid hS
          clear hS
          go_wp2_with fail
          refine bodyPost_ret (results_none rfl _ _ _) rfl ?_
          exact ritem_bad HI.out rfl (by simp) ⟨_, HS2.out⟩
        · have h1f : decide ((1 : Int) < (T.size : Int)) = false := decide_eq_false h1
          have h2f : decide ((200 : Int) < (T.size : Int)) = false := decide_eq_false (by omega)
          have HI := Lib.hid (show numItem (src.data.toList.drop a) = .tok 2 d ((src.data.toList.drop a).take d) from by
            unfold numItem
            rw [Hd.out, HR.out, HQ.out, HZ.out, decide_eq_false (show ¬ 200 < d from by have := HTs.out; have := Hdn.out; omega)]
            rw [decide_eq_false (show ¬ 1 < d from by have := HTs.out; have := Hdn.out; omega)]
            simp)
          go_wp2_with fail
          go_quiet (fail)
          go_wp2_with (go_at_call 44; refine hold ?_)
          refine Hold.mk ?_
          refine (radd_any (RsE.drewN ⟨_, _, HT.out⟩ _) Hn.out 2 a _ _ HTl.out.symm).mono ?_
          rintro e W' ⟨rfl, hS⟩
          have HS2 := Lib.hid hS
          clear hS
          go_wp2_with fail
          go_end0
          refine ritem_tok HI.out rfl ?_
          rw [show a + d = q from by have := Hdn.out; omega, Hdn.out]
          exact HS2.out
      | false =>
        have HZ := Lib.hid (show ((some A0 : Option UInt8) == some 48) = false from by simp; exact fun h => by have e := HZ0.out; rw [h] at e; rw [← e] at hz; simp at hz)
        by_cases h1 : (200 : Int) < (T.size : Int)
        · skip
          have HI := Lib.hid (show numItem (src.data.toList.drop a) = .bad 0 from by
            unfold numItem
            rw [Hd.out, decide_eq_true (show 200 < d from by have := HTs.out; have := Hdn.out; omega)]
            simp)
          clear HQ
          go_wp2_with fail
          go_quiet (fail)
          go_wp2_with (go_at_call 57; refine hold ?_)
          refine Hold.mk ?_
          refine (wrong_any (RsE.drewN ⟨_, _, HT.out⟩ _) (a : Int)).mono ?_
          rintro e W' ⟨rfl, hS⟩
          have HS2 := Lib.hid hS
          clear hS
          go_wp2_with fail
          refine bodyPost_ret (results_none rfl _ _ _) rfl ?_
          exact ritem_bad HI.out rfl (by simp) ⟨_, HS2.out⟩
        · have h1f : decide ((200 : Int) < (T.size : Int)) = false := decide_eq_false h1
          have HI := Lib.hid (show numItem (src.data.toList.drop a) = .tok 2 d ((src.data.toList.drop a).take d) from by
            unfold numItem
            rw [Hd.out, HR.out, HQ.out, HZ.out, decide_eq_false (show ¬ 200 < d from by have := HTs.out; have := Hdn.out; omega)]
            simp)
          go_wp2_with fail
          go_quiet (fail)
          go_wp2_with (go_at_call 44; refine hold ?_)
          refine Hold.mk ?_
          refine (radd_any (RsE.drewN ⟨_, _, HT.out⟩ _) Hn.out 2 a _ _ HTl.out.symm).mono ?_
          rintro e W' ⟨rfl, hS⟩
          have HS2 := Lib.hid hS
          clear hS
          go_wp2_with fail
          go_end0
          refine ritem_tok HI.out rfl ?_
          rw [show a + d = q from by have := Hdn.out; omega, Hdn.out]
          exact HS2.out
end Go.Proofs.YtdgjegkoncodaaaDoor
