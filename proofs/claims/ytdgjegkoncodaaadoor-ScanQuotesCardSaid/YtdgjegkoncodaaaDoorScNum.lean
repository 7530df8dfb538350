/- scan's number. Conditions: a digit stands there; the text fits. -/
import Derived.Test.YtdgjegkoncodaaaDoorScEsc
namespace Go.Proofs.YtdgjegkoncodaaaDoor
open Go.RowKit

/-- What the reading of an item leaves. -/
def ItemP (w0 W : World) (p : Nat) (src : ByteArray) (a : Nat) (l : List Tok) (c : List (Nat × Nat)) (e : Ending) : Item → Prop
  | .tok k n x => e = .returned (.tuple #[]) ∧ ScE w0 W p src (a + n) (l ++ [⟨k, a, a + n, x⟩]) c
  | .rem n b => e = .returned (.tuple #[]) ∧ ScE w0 W p src (a + n) (if b then lineT l a else l) (c ++ [(a, a + n)])
  | .bad o => e = pan ((a + o : Nat) : Int) ∧ Below p w0 W
  | _ => False
theorem quietC {P : Program} {f : FuncId} {args : Array Value} {w : World} {n : Nat} {v : Value} (h : Calls P f args (w.drewN n) fun e w' => e = .returned v ∧ w.drewN n = w') : Calls P f args (w.drewN n) fun e w'' => e = .returned v ∧ ∃ m, w'' = w.drewN m :=
  h.mono fun _ _ ⟨he, hm⟩ => ⟨he, n, hm.symm⟩
theorem digits_cons (c : UInt8) (t : List UInt8) : digits (c :: t) = if digitB c.toNat then digits t + 1 else 0 := by
  unfold digits
  rw [List.takeWhile_cons]
  split <;> simp
theorem digits_nil : digits [] = 0 := rfl
theorem extract_at (s : ByteArray) (a b : Nat) : s.extract a b = strB ((s.data.toList.drop a).take (b - a)) := by
  apply ByteArray.ext
  apply Array.ext'
  simp [strB, List.take_drop]
  try (congr 1; omega)
theorem sc_drewN {w0 W : World} {p a : Nat} {src : ByteArray} {l : List Tok} {c : List (Nat × Nat)} {tv rv : Value} (h : Sc w0 W p src a l c tv rv) (n : Nat) : Sc w0 (W.drewN n) p src a l c tv rv := h.go (below_drewN (Below.refl _ _) n)
theorem numItem_eq {r : List UInt8} {d : Nat} {z o1 o2 o3 : Bool} (hd : digits r = d) (hz : (r.head? == some 48) = z) (h1 : decide (1 < d) = o1) (h2 : decide (200 < d) = o2) (h3 : ((r.drop d).head?.any fun c => letterB c.toNat) = o3) :
    numItem r = if (z && o1) || o2 || o3 then .bad 0 else .tok 2 d (r.take d) := by
  unfold numItem
  rw [hd, hz, h1, h2, h3]
theorem item_bad {w0 W : World} {p a : Nat} {src : ByteArray} {l : List Tok} {c : List (Nat × Nat)} {e : Ending} {it : Item} {o : Nat} (hi : it = .bad o) (he : e = pan ((a + o : Nat) : Int)) (h : Below p w0 W) : ItemP w0 W p src a l c e it := by
  subst hi
  exact ⟨he, h⟩
theorem item_tok {w0 W : World} {p a n : Nat} {src : ByteArray} {l : List Tok} {c : List (Nat × Nat)} {e : Ending} {it : Item} {k : Int} {x : List UInt8} (hi : it = .tok k n x) (he : e = .returned (.tuple #[])) (h : ScE w0 W p src (a + n) (l ++ [⟨k, a, a + n, x⟩]) c) : ItemP w0 W p src a l c e it := by
  subst hi
  exact ⟨he, h⟩
theorem letter_C {c : UInt8} {v : Bool} (h : letterB c.toNat = v) (W : World) : Calls Tryd.prog 45 #[.int .u8 (c.toNat : Int)] W (fun e w' => e = .returned (.bool v) ∧ W = w') := by
  have h2 := letter_any (c.toNat : Int) W
  rw [h] at h2
  exact h2
theorem digit_C {c : UInt8} {v : Bool} (h : digitB c.toNat = v) (W : World) : Calls Tryd.prog 46 #[.int .u8 (c.toNat : Int)] W (fun e w' => e = .returned (.bool v) ∧ W = w') := by
  have h2 := digit_any (c.toNat : Int) W
  rw [h] at h2
  exact h2
set_option maxRecDepth 100000 in
set_option maxHeartbeats 3200000 in
theorem number_any {w0 W : World} {p a : Nat} {src : ByteArray} {l : List Tok} {c : List (Nat × Nat)} (h : ScE w0 W p src a l c) (hn : l.length ≤ 1000000) (ha : a < src.size) (hd : digitB src[a].toNat = true) (hs : src.size ≤ 65536) :
    Calls Tryd.prog 54 #[.pointer (some ⟨p, 0, none⟩)] W fun e W' => ItemP w0 W' p src a l c e (numItem (src.data.toList.drop a)) := by
  obtain ⟨d, Hd⟩ : ∃ d, Hid (digits (src.data.toList.drop a) = d) := ⟨_, Lib.hid rfl⟩
  have HD0 := Lib.hid (show 1 ≤ d from by rw [← Hd.out, drop_at ha, digits_cons, if_pos hd]; omega)
  have Hn := Lib.hid hn
  obtain ⟨tv0, rv0, h0⟩ := h
  have H0 := Lib.hid h0
  obtain ⟨c0, c1, _, _⟩ := h0.cells
  obtain ⟨A0, HA0⟩ : ∃ b, Hid (src[a] = b) := ⟨_, Lib.hid rfl⟩
  clear h0 hn hd
  go_enter Tryd.func54, Tryd.ntmps54
  go_wp2_with fail
  clear c0 c1
  go_loopg [] (src.size - a) (fun g wr => ∃ q, a ≤ q ∧ q ≤ src.size ∧ g = src.size - q ∧ Hid (d = (q - a) + digits (src.data.toList.drop q)) ∧ Hid (ScE w0 wr p src q l c))
  case atStart => exact ⟨a, Nat.le_refl _, Nat.le_of_lt ha, rfl, Lib.hid (by rw [← Hd.out]; omega), Lib.hid ⟨_, _, H0.out⟩⟩
  case round =>
    obtain ⟨q, haq, hq, rfl, HE, HS⟩ := hrel
    obtain ⟨tv, rv, hSc⟩ := HS.out
    have HT := Lib.hid hSc
    obtain ⟨c0, c1, _, _⟩ := hSc.cells
    clear hSc HS
    obtain ⟨T, hT⟩ : ∃ T, src.extract a q = T := ⟨_, rfl⟩
    have HTl := Lib.hid (show strB ((src.data.toList.drop a).take (q - a)) = T from by rw [← hT, extract_at])
    have HTs := Lib.hid (show T.size = q - a from by rw [← HTl.out, strB_size, List.length_take, List.length_drop, bytes_len]; omega)
    have HT0 := Lib.hid (show ∀ (h : 0 < T.size), T[0] = A0 from fun h => by
      have e : T.data.toList = A0 :: ((src.data.toList.drop (a + 1)).take (q - a - 1)) := by
        rw [← HTl.out, strB_toList, drop_at ha, HA0.out]
        obtain ⟨k, hk⟩ : ∃ k, q - a = k + 1 := ⟨q - a - 1, by have := HTs.out; omega⟩
        rw [hk]
        simp
      exact at0 e h)
    by_cases hlt : q < src.size
    · have hlI : (q : Int) < (src.size : Int) := by omega
      cases hdq : digitB src[q].toNat with
      | true =>
        clear hT HTl HTs HT0
        have f1 := HT.out.thaw 1
        obtain ⟨q1, Hq1⟩ : ∃ q1, Hid (q + 1 = q1) := ⟨_, Lib.hid rfl⟩
        have hw : IntKind.i64.wrap ((q : Int) + 1) = (q1 : Int) := by rw [IntKind.wrap_i64, ← Hq1.out]; omega
        have HDq := Lib.hid (fun W => digit_C hdq W)
        go_wp2_with fail
        go_quiet ((go_at_call 46; exact (HDq.out _).mono (fun e w h => ⟨h.1, _, h.2.symm⟩)))
        go_wp2_with fail
        go_roundg (src.size - q1)
        case measure => have := Hq1.out; omega
        case rel =>
          refine ⟨q1, by have := Hq1.out; omega, by have := Hq1.out; omega, rfl, Lib.hid ?_, Lib.hid ⟨_, _, (sc_drewN HT.out _).setAt q1⟩⟩
          rw [HE.out, drop_at hlt, digits_cons, if_pos hdq, Hq1.out]
          have := Hq1.out
          omega
      | false =>
        have hdn : d = q - a := by rw [HE.out, drop_at hlt, digits_cons, hdq]; simp
        have HDq := Lib.hid (fun W => digit_C hdq W)
        go_wp2_with fail
        go_quiet ((go_at_call 46; exact (HDq.out _).mono (fun e w h => ⟨h.1, _, h.2.symm⟩)))
        go_wp2_with fail
        go_quiet (fail)
        have Hdn := Lib.hid (show d = q - a from hdn)
        clear hdn
        have hT0 : 0 < T.size := by rw [HTs.out]; have := Hdn.out; have := HD0.out; omega
        have hT0I : (0 : Int) < (T.size : Int) := by omega
        have Hz0 := HT0.out hT0
        have HR := Lib.hid (show (src.data.toList.drop a).head? = some A0 from by rw [drop_at ha, HA0.out]; rfl)
        have HQ := Lib.hid (show ((src.data.toList.drop a).drop d).head? = some src[q] from by rw [List.drop_drop, show a + d = q from by have := Hdn.out; omega, drop_at hlt]; rfl)
        obtain ⟨z0, hz0⟩ : ∃ z0, T[0].toNat = z0 := ⟨_, rfl⟩
        have HZ0 := Lib.hid (show A0.toNat = z0 from by rw [← Hz0]; exact hz0)
        clear Hz0
        cases hz : ((z0 : Int) == 48) with
        | true =>
          have HZ := Lib.hid (show ((some A0 : Option UInt8) == some 48) = true from by simp; exact u8_eq (n := 48) (by rw [HZ0.out]; exact hz) (by decide))
          by_cases h1 : (1 : Int) < (T.size : Int)
          · skip
            have HI := Lib.hid (show numItem (src.data.toList.drop a) = .bad 0 from by
              unfold numItem
              rw [Hd.out, HR.out, HZ.out, decide_eq_true (show 1 < d from by have := HTs.out; have := Hdn.out; omega)]
              rfl)
            clear HQ
            go_wp2_with fail
            go_quiet (fail)
            have HB := Lib.hid (fun W => bad_any (W := W) (p := p) (a : Int))
            go_wp2_with (go_at_call 52; refine (HB.out _).mono ?_; rintro e W' ⟨rfl, rfl⟩)
            exact ⟨rfl, item_bad HI.out (by first | assumption | exact Eq.symm (by assumption)) (below_drewN HT.out.below _)⟩
          · have h1f : decide ((1 : Int) < (T.size : Int)) = false := decide_eq_false h1
            have h2f : decide ((200 : Int) < (T.size : Int)) = false := decide_eq_false (by omega)
            cases hl : letterB src[q].toNat with
            | true =>
              have HI := Lib.hid (show numItem (src.data.toList.drop a) = .bad 0 from by
                unfold numItem
                rw [Hd.out, HR.out, HQ.out, HZ.out, decide_eq_false (show ¬ 200 < d from by have := HTs.out; have := Hdn.out; omega)]
                rw [decide_eq_false (show ¬ 1 < d from by have := HTs.out; have := Hdn.out; omega)]
                simp [hl])
              go_wp2_with fail
              have HLC := Lib.hid (fun W => letter_C hl W)
              go_quiet ((go_at_call 45; exact (HLC.out _).mono (fun e w h => ⟨h.1, _, h.2.symm⟩)))
              have HB := Lib.hid (fun W => bad_any (W := W) (p := p) (a : Int))
              go_wp2_with (go_at_call 52; refine (HB.out _).mono ?_; rintro e W' ⟨rfl, rfl⟩)
              exact ⟨rfl, item_bad HI.out (by first | assumption | exact Eq.symm (by assumption)) (below_drewN HT.out.below _)⟩
            | false =>
              have HI := Lib.hid (show numItem (src.data.toList.drop a) = .tok 2 d ((src.data.toList.drop a).take d) from by
                unfold numItem
                rw [Hd.out, HR.out, HQ.out, HZ.out, decide_eq_false (show ¬ 200 < d from by have := HTs.out; have := Hdn.out; omega)]
                rw [decide_eq_false (show ¬ 1 < d from by have := HTs.out; have := Hdn.out; omega)]
                simp [hl])
              go_wp2_with fail
              have HLC := Lib.hid (fun W => letter_C hl W)
              go_quiet ((go_at_call 45; exact (HLC.out _).mono (fun e w h => ⟨h.1, _, h.2.symm⟩)))
              go_wp2_with (go_at_call 53; refine hold ?_)
              refine Hold.mk ?_
              refine (add_any ⟨_, _, sc_drewN HT.out _⟩ Hn.out 2 a _ _ HTl.out.symm).mono ?_
              rintro e W' ⟨rfl, hS⟩
              have HS2 := Lib.hid hS
              clear hS
              go_wp2_with fail
              go_end0
              refine item_tok HI.out rfl ?_
              rw [show a + d = q from by have := Hdn.out; omega, Hdn.out]
              exact HS2.out
        | false =>
          have HZ := Lib.hid (show ((some A0 : Option UInt8) == some 48) = false from by simp; exact fun h => by have e := HZ0.out; rw [h] at e; rw [← e] at hz; simp at hz)
          by_cases h1 : (200 : Int) < (T.size : Int)
          · skip
            have HI := Lib.hid (show numItem (src.data.toList.drop a) = .bad 0 from by
              unfold numItem
              rw [Hd.out, decide_eq_true (show 200 < d from by have := HTs.out; have := Hdn.out; omega)]
              simp)
            clear HQ
            go_wp2_with fail
            go_quiet (fail)
            have HB := Lib.hid (fun W => bad_any (W := W) (p := p) (a : Int))
            go_wp2_with (go_at_call 52; refine (HB.out _).mono ?_; rintro e W' ⟨rfl, rfl⟩)
            exact ⟨rfl, item_bad HI.out (by first | assumption | exact Eq.symm (by assumption)) (below_drewN HT.out.below _)⟩
          · have h1f : decide ((200 : Int) < (T.size : Int)) = false := decide_eq_false h1
            cases hl : letterB src[q].toNat with
            | true =>
              have HI := Lib.hid (show numItem (src.data.toList.drop a) = .bad 0 from by
                unfold numItem
                rw [Hd.out, HR.out, HQ.out, HZ.out, decide_eq_false (show ¬ 200 < d from by have := HTs.out; have := Hdn.out; omega)]
                simp [hl])
              go_wp2_with fail
              have HLC := Lib.hid (fun W => letter_C hl W)
              go_quiet ((go_at_call 45; exact (HLC.out _).mono (fun e w h => ⟨h.1, _, h.2.symm⟩)))
              have HB := Lib.hid (fun W => bad_any (W := W) (p := p) (a : Int))
              go_wp2_with (go_at_call 52; refine (HB.out _).mono ?_; rintro e W' ⟨rfl, rfl⟩)
              exact ⟨rfl, item_bad HI.out (by first | assumption | exact Eq.symm (by assumption)) (below_drewN HT.out.below _)⟩
            | false =>
              have HI := Lib.hid (show numItem (src.data.toList.drop a) = .tok 2 d ((src.data.toList.drop a).take d) from by
                unfold numItem
                rw [Hd.out, HR.out, HQ.out, HZ.out, decide_eq_false (show ¬ 200 < d from by have := HTs.out; have := Hdn.out; omega)]
                simp [hl])
              go_wp2_with fail
              have HLC := Lib.hid (fun W => letter_C hl W)
              go_quiet ((go_at_call 45; exact (HLC.out _).mono (fun e w h => ⟨h.1, _, h.2.symm⟩)))
              go_wp2_with (go_at_call 53; refine hold ?_)
              refine Hold.mk ?_
              refine (add_any ⟨_, _, sc_drewN HT.out _⟩ Hn.out 2 a _ _ HTl.out.symm).mono ?_
              rintro e W' ⟨rfl, hS⟩
              have HS2 := Lib.hid hS
              clear hS
              go_wp2_with fail
              go_end0
              refine item_tok HI.out rfl ?_
              rw [show a + d = q from by have := Hdn.out; omega, Hdn.out]
              exact HS2.out
    · have hdn : d = q - a := by rw [HE.out, drop_end hlt]; simp [digits_nil]
      have hend : decide ((q : Int) < (src.size : Int)) = false := decide_eq_false (by omega)
      go_wp2_with fail
      go_quiet (fail)
      go_wp2_with fail
      go_quiet (fail)
      have Hdn := Lib.hid (show d = q - a from hdn)
      clear hdn
      have hT0 : 0 < T.size := by rw [HTs.out]; have := Hdn.out; have := HD0.out; omega
      have hT0I : (0 : Int) < (T.size : Int) := by omega
      have Hz0 := HT0.out hT0
      have HR := Lib.hid (show (src.data.toList.drop a).head? = some A0 from by rw [drop_at ha, HA0.out]; rfl)
      have HQ := Lib.hid (show ((src.data.toList.drop a).drop d).head? = none from by rw [List.drop_drop, show a + d = q from by have := Hdn.out; omega, drop_end hlt]; rfl)
      obtain ⟨z0, hz0⟩ : ∃ z0, T[0].toNat = z0 := ⟨_, rfl⟩
      have HZ0 := Lib.hid (show A0.toNat = z0 from by rw [← Hz0]; exact hz0)
      clear Hz0
      cases hz : ((z0 : Int) == 48) with
      | true =>
        have HZ := Lib.hid (show ((some A0 : Option UInt8) == some 48) = true from by simp; exact u8_eq (n := 48) (by rw [HZ0.out]; exact hz) (by decide))
        by_cases h1 : (1 : Int) < (T.size : Int)
        · skip
          have HI := Lib.hid (show numItem (src.data.toList.drop a) = .bad 0 from by
            unfold numItem
            rw [Hd.out, HR.out, HZ.out, decide_eq_true (show 1 < d from by have := HTs.out; have := Hdn.out; omega)]
            rfl)
          clear HQ
          go_wp2_with fail
          go_quiet (fail)
          have HB := Lib.hid (fun W => bad_any (W := W) (p := p) (a : Int))
          go_wp2_with (go_at_call 52; refine (HB.out _).mono ?_; rintro e W' ⟨rfl, rfl⟩)
          exact ⟨rfl, item_bad HI.out (by first | assumption | exact Eq.symm (by assumption)) (below_drewN HT.out.below _)⟩
        · have h1f : decide ((1 : Int) < (T.size : Int)) = false := decide_eq_false h1
          have h2f : decide ((200 : Int) < (T.size : Int)) = false := decide_eq_false (by omega)
          have HI := Lib.hid (show numItem (src.data.toList.drop a) = .tok 2 d ((src.data.toList.drop a).take d) from by
            unfold numItem
            rw [Hd.out, HR.out, HQ.out, HZ.out, decide_eq_false (show ¬ 200 < d from by have := HTs.out; have := Hdn.out; omega)]
            rw [decide_eq_false (show ¬ 1 < d from by have := HTs.out; have := Hdn.out; omega)]
            simp)
          go_wp2_with fail
          go_quiet (fail)
          go_wp2_with (go_at_call 53; refine hold ?_)
          refine Hold.mk ?_
          refine (add_any ⟨_, _, sc_drewN HT.out _⟩ Hn.out 2 a _ _ HTl.out.symm).mono ?_
          rintro e W' ⟨rfl, hS⟩
          have HS2 := Lib.hid hS
          clear hS
          go_wp2_with fail
          go_end0
          refine item_tok HI.out rfl ?_
          rw [show a + d = q from by have := Hdn.out; omega, Hdn.out]
          exact HS2.out
      | false =>
        have HZ := Lib.hid (show ((some A0 : Option UInt8) == some 48) = false from by simp; exact fun h => by have e := HZ0.out; rw [h] at e; rw [← e] at hz; simp at hz)
        by_cases h1 : (200 : Int) < (T.size : Int)
        · skip
          have HI := Lib.hid (show numItem (src.data.toList.drop a) = .bad 0 from by
            unfold numItem
            rw [Hd.out, decide_eq_true (show 200 < d from by have := HTs.out; have := Hdn.out; omega)]
            simp)
          clear HQ
          go_wp2_with fail
          go_quiet (fail)
          have HB := Lib.hid (fun W => bad_any (W := W) (p := p) (a : Int))
          go_wp2_with (go_at_call 52; refine (HB.out _).mono ?_; rintro e W' ⟨rfl, rfl⟩)
          exact ⟨rfl, item_bad HI.out (by first | assumption | exact Eq.symm (by assumption)) (below_drewN HT.out.below _)⟩
        · have h1f : decide ((200 : Int) < (T.size : Int)) = false := decide_eq_false h1
          have HI := Lib.hid (show numItem (src.data.toList.drop a) = .tok 2 d ((src.data.toList.drop a).take d) from by
            unfold numItem
            rw [Hd.out, HR.out, HQ.out, HZ.out, decide_eq_false (show ¬ 200 < d from by have := HTs.out; have := Hdn.out; omega)]
            simp)
          go_wp2_with fail
          go_quiet (fail)
          go_wp2_with (go_at_call 53; refine hold ?_)
          refine Hold.mk ?_
          refine (add_any ⟨_, _, sc_drewN HT.out _⟩ Hn.out 2 a _ _ HTl.out.symm).mono ?_
          rintro e W' ⟨rfl, hS⟩
          have HS2 := Lib.hid hS
          clear hS
          go_wp2_with fail
          go_end0
          refine item_tok HI.out rfl ?_
          rw [show a + d = q from by have := Hdn.out; omega, Hdn.out]
          exact HS2.out
end Go.Proofs.YtdgjegkoncodaaaDoor
