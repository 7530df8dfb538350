/- The reference's name. Conditions: a letter stands there; the text fits. -/
import Derived.Test.YtdgjegkoncodaaaDoorRsAt
namespace Go.Proofs.YtdgjegkoncodaaaDoor
open Go.RowKit

/-- The name or word at a text's head. -/
def nameItem (r : List UInt8) : Item := if decide (60 < nameLen r) then .bad 0 else .tok (if wordB (r.take (nameLen r)) then 4 else 1) (nameLen r) (r.take (nameLen r))
theorem nameFrom_cons (c : UInt8) (t : List UInt8) : nameFrom false (c :: t) = if letterB c.toNat || digitB c.toNat then nameFrom false t + 1 else 0 := by
  rw [nameFrom]
  rfl
theorem nameLen_letter {c : UInt8} {t : List UInt8} (h : letterB c.toNat = true) : nameLen (c :: t) = nameFrom false (c :: t) := by
  unfold nameLen
  rw [nameFrom, nameFrom_cons, h]
  rfl
theorem rword_C {s : ByteArray} {l : List UInt8} {b : Bool} (hs : s.data.toList = l) (h : wordB l = b) (W : World) : Calls Tryd.prog 17 #[.string s] W (fun e w' => e = .returned (.bool b) ∧ W = w') := by
  have h2 := rword_any s W
  rw [Lib.toList_data, hs, h] at h2
  exact h2
set_option maxRecDepth 100000 in
set_option maxHeartbeats 3200000 in
theorem rname_any {w0 W : World} {p a : Nat} {src : ByteArray} {l : List Tok} {c : List (Nat × Nat)} (h : RsE w0 W p src a l c 0 0) (hn : l.length ≤ 1000000) (ha : a < src.size) (hd : letterB src[a].toNat = true) (hs : src.size ≤ 65536) :
    Calls Tryd.prog 40 #[.pointer (some ⟨p, 0, none⟩)] W fun e W' => RItemP w0 W' p src a l c e (nameItem (src.data.toList.drop a)) := by
  obtain ⟨d, Hd⟩ : ∃ d, Hid (nameLen (src.data.toList.drop a) = d) := ⟨_, Lib.hid rfl⟩
  have HD0 := Lib.hid (show d = nameFrom false (src.data.toList.drop a) from by rw [← Hd.out, drop_at ha, nameLen_letter hd])
  have HD1 := Lib.hid (show 1 ≤ d from by rw [HD0.out, drop_at ha, nameFrom_cons, hd]; simp)
  have Hn := Lib.hid hn
  have H0 := Lib.hid h
  obtain ⟨c0, c1, _⟩ := h.cells
  clear h hn hd
  go_enter Tryd.func40, Tryd.ntmps40
  go_wp2_with fail
  clear c0 c1
  go_loopg [] (src.size - a) (fun g wr => ∃ q, a ≤ q ∧ q ≤ src.size ∧ g = src.size - q ∧ Hid (d = (q - a) + nameFrom false (src.data.toList.drop q)) ∧ Hid (RsE w0 wr p src q l c 0 0))
  case atStart => exact ⟨a, Nat.le_refl _, Nat.le_of_lt ha, rfl, Lib.hid (by rw [HD0.out]; omega), H0⟩
  case round =>
    obtain ⟨q, haq, hq, rfl, HE, HS⟩ := hrel
    obtain ⟨c0, c1, f1⟩ := HS.out.cells
    obtain ⟨T, hT⟩ : ∃ T, src.extract a q = T := ⟨_, rfl⟩
    have HTl := Lib.hid (show strB ((src.data.toList.drop a).take (q - a)) = T from by rw [← hT, extract_at])
    have HTs := Lib.hid (show T.size = q - a from by rw [← HTl.out, strB_size, List.length_take, List.length_drop, bytes_len]; omega)
    by_cases hlt : q < src.size
    · have hlI : (q : Int) < (src.size : Int) := by omega
      cases hlq : letterB src[q].toNat with
      | true =>
        have HLq := Lib.hid (fun W => rletter_C hlq W)
        have HDq := HLq
        have HLD := Lib.hid (show (letterB src[q].toNat || digitB src[q].toNat) = true from by rw [hlq]; rfl)
        clear hT HTl HTs
        obtain ⟨q1, Hq1⟩ : ∃ q1, Hid (q + 1 = q1) := ⟨_, Lib.hid rfl⟩
        have hw : IntKind.i64.wrap ((q : Int) + 1) = (q1 : Int) := by rw [IntKind.wrap_i64, ← Hq1.out]; omega
        have HE2 := Lib.hid (show d = (q1 - a) + nameFrom false (src.data.toList.drop q1) from by rw [HE.out, drop_at hlt, nameFrom_cons, if_pos HLD.out, Hq1.out]; have := Hq1.out; omega)
        go_wp2_with fail
        go_quiet (first | (go_at_call 28; exact (HLq.out _).mono (fun e w h => ⟨h.1, _, h.2.symm⟩)) | (go_at_call 29; exact (HDq.out _).mono (fun e w h => ⟨h.1, _, h.2.symm⟩)))
        go_wp2_with fail
        go_roundg (src.size - q1)
        case measure => have := Hq1.out; omega
        case rel => exact ⟨q1, by have := Hq1.out; omega, by have := Hq1.out; omega, rfl, HE2, Lib.hid ((HS.out.drewN _).setAt q1)⟩
      | false =>
        have HLq := Lib.hid (fun W => rletter_C hlq W)
        cases hdq : digitB src[q].toNat with
        | true =>
          have HDq := Lib.hid (fun W => rdigit_C hdq W)
          have HLD := Lib.hid (show (letterB src[q].toNat || digitB src[q].toNat) = true from by rw [hlq, hdq]; rfl)
          clear hT HTl HTs
          obtain ⟨q1, Hq1⟩ : ∃ q1, Hid (q + 1 = q1) := ⟨_, Lib.hid rfl⟩
          have hw : IntKind.i64.wrap ((q : Int) + 1) = (q1 : Int) := by rw [IntKind.wrap_i64, ← Hq1.out]; omega
          have HE2 := Lib.hid (show d = (q1 - a) + nameFrom false (src.data.toList.drop q1) from by rw [HE.out, drop_at hlt, nameFrom_cons, if_pos HLD.out, Hq1.out]; have := Hq1.out; omega)
          go_wp2_with fail
          go_quiet (first | (go_at_call 28; exact (HLq.out _).mono (fun e w h => ⟨h.1, _, h.2.symm⟩)) | (go_at_call 29; exact (HDq.out _).mono (fun e w h => ⟨h.1, _, h.2.symm⟩)))
          go_wp2_with fail
          go_roundg (src.size - q1)
          case measure => have := Hq1.out; omega
          case rel => exact ⟨q1, by have := Hq1.out; omega, by have := Hq1.out; omega, rfl, HE2, Lib.hid ((HS.out.drewN _).setAt q1)⟩
        | false =>
          have HDq := Lib.hid (fun W => rdigit_C hdq W)
          have hdn : d = q - a := by rw [HE.out, drop_at hlt, nameFrom_cons, hlq, hdq]; simp
          have Hdn := Lib.hid (show d = q - a from hdn)
          clear hdn
          have HN := Lib.hid (show nameItem (src.data.toList.drop a) = if decide (60 < d) then .bad 0 else .tok (if wordB ((src.data.toList.drop a).take d) then 4 else 1) d ((src.data.toList.drop a).take d) from by unfold nameItem; rw [Hd.out])
          go_wp2_with fail
          go_quiet (first | (go_at_call 28; exact (HLq.out _).mono (fun e w h => ⟨h.1, _, h.2.symm⟩)) | (go_at_call 29; exact (HDq.out _).mono (fun e w h => ⟨h.1, _, h.2.symm⟩)))
          go_wp2_with fail
          go_quiet (fail)
          by_cases h60 : (60 : Int) < (T.size : Int)
          · have HI := Lib.hid (show nameItem (src.data.toList.drop a) = .bad 0 from by rw [HN.out, decide_eq_true (show 60 < d from by have := HTs.out; have := Hdn.out; omega)]; rfl)
            go_wp2_with (go_at_call 57; refine hold ?_)
            refine Hold.mk ?_
            refine (wrong_any (HS.out.drewN _) (a : Int)).mono ?_
            rintro e W' ⟨rfl, hS⟩
            have HS2 := Lib.hid hS
            clear hS
            go_wp2_with fail
            go_end0
            exact ritem_bad HI.out rfl (by simp) ⟨_, HS2.out⟩
          · cases hwd : wordB ((src.data.toList.drop a).take d) with
            | true =>
              have HI := Lib.hid (show nameItem (src.data.toList.drop a) = .tok 4 d ((src.data.toList.drop a).take d) from by rw [HN.out, decide_eq_false (show ¬ 60 < d from by have := HTs.out; have := Hdn.out; omega), hwd]; rfl)
              have HWd := Lib.hid (fun W => rword_C (s := T) (b := true) (by rw [← HTl.out, strB_toList]) (by rw [← Hdn.out]; exact hwd) W)
              go_wp2_with (first | (go_at_call 17; refine (HWd.out _).mono ?_; rintro e W' ⟨rfl, rfl⟩) | (go_at_call 44; refine hold ?_))
              refine Hold.mk ?_
              refine (radd_any (HS.out.drewN _) Hn.out 4 a _ _ HTl.out.symm).mono ?_
              rintro e W' ⟨rfl, hS⟩
              have HS2 := Lib.hid hS
              clear hS
              go_wp2_with fail
              go_end0
              refine ritem_tok HI.out rfl ?_
              rw [show a + d = q from by have := Hdn.out; omega, Hdn.out]
              exact HS2.out
            | false =>
              have HI := Lib.hid (show nameItem (src.data.toList.drop a) = .tok 1 d ((src.data.toList.drop a).take d) from by rw [HN.out, decide_eq_false (show ¬ 60 < d from by have := HTs.out; have := Hdn.out; omega), hwd]; rfl)
              have HWd := Lib.hid (fun W => rword_C (s := T) (b := false) (by rw [← HTl.out, strB_toList]) (by rw [← Hdn.out]; exact hwd) W)
              go_wp2_with (first | (go_at_call 17; refine (HWd.out _).mono ?_; rintro e W' ⟨rfl, rfl⟩) | (go_at_call 44; refine hold ?_))
              refine Hold.mk ?_
              refine (radd_any (HS.out.drewN _) Hn.out 1 a _ _ HTl.out.symm).mono ?_
              rintro e W' ⟨rfl, hS⟩
              have HS2 := Lib.hid hS
              clear hS
              go_wp2_with fail
              go_end0
              refine ritem_tok HI.out rfl ?_
              rw [show a + d = q from by have := Hdn.out; omega, Hdn.out]
              exact HS2.out
    · have hdn : d = q - a := by rw [HE.out, drop_end hlt]; simp [nameFrom]
      have hend : decide ((q : Int) < (src.size : Int)) = false := decide_eq_false (by omega)
      have Hdn := Lib.hid (show d = q - a from hdn)
      clear hdn
      have HN := Lib.hid (show nameItem (src.data.toList.drop a) = if decide (60 < d) then .bad 0 else .tok (if wordB ((src.data.toList.drop a).take d) then 4 else 1) d ((src.data.toList.drop a).take d) from by unfold nameItem; rw [Hd.out])
      go_wp2_with fail
      go_quiet (fail)
      go_wp2_with fail
      go_quiet (fail)
      by_cases h60 : (60 : Int) < (T.size : Int)
      · have HI := Lib.hid (show nameItem (src.data.toList.drop a) = .bad 0 from by rw [HN.out, decide_eq_true (show 60 < d from by have := HTs.out; have := Hdn.out; omega)]; rfl)
        go_wp2_with (go_at_call 57; refine hold ?_)
        refine Hold.mk ?_
        refine (wrong_any (HS.out.drewN _) (a : Int)).mono ?_
        rintro e W' ⟨rfl, hS⟩
        have HS2 := Lib.hid hS
        clear hS
        go_wp2_with fail
        go_end0
        exact ritem_bad HI.out rfl (by simp) ⟨_, HS2.out⟩
      · cases hwd : wordB ((src.data.toList.drop a).take d) with
        | true =>
          have HI := Lib.hid (show nameItem (src.data.toList.drop a) = .tok 4 d ((src.data.toList.drop a).take d) from by rw [HN.out, decide_eq_false (show ¬ 60 < d from by have := HTs.out; have := Hdn.out; omega), hwd]; rfl)
          have HWd := Lib.hid (fun W => rword_C (s := T) (b := true) (by rw [← HTl.out, strB_toList]) (by rw [← Hdn.out]; exact hwd) W)
          go_wp2_with (first | (go_at_call 17; refine (HWd.out _).mono ?_; rintro e W' ⟨rfl, rfl⟩) | (go_at_call 44; refine hold ?_))
          refine Hold.mk ?_
          refine (radd_any (HS.out.drewN _) Hn.out 4 a _ _ HTl.out.symm).mono ?_
          rintro e W' ⟨rfl, hS⟩
          have HS2 := Lib.hid hS
          clear hS
          go_wp2_with fail
          go_end0
          refine ritem_tok HI.out rfl ?_
          rw [show a + d = q from by have := Hdn.out; omega, Hdn.out]
          exact HS2.out
        | false =>
          have HI := Lib.hid (show nameItem (src.data.toList.drop a) = .tok 1 d ((src.data.toList.drop a).take d) from by rw [HN.out, decide_eq_false (show ¬ 60 < d from by have := HTs.out; have := Hdn.out; omega), hwd]; rfl)
          have HWd := Lib.hid (fun W => rword_C (s := T) (b := false) (by rw [← HTl.out, strB_toList]) (by rw [← Hdn.out]; exact hwd) W)
          go_wp2_with (first | (go_at_call 17; refine (HWd.out _).mono ?_; rintro e W' ⟨rfl, rfl⟩) | (go_at_call 44; refine hold ?_))
          refine Hold.mk ?_
          refine (radd_any (HS.out.drewN _) Hn.out 1 a _ _ HTl.out.symm).mono ?_
          rintro e W' ⟨rfl, hS⟩
          have HS2 := Lib.hid hS
          clear hS
          go_wp2_with fail
          go_end0
          refine ritem_tok HI.out rfl ?_
          rw [show a + d = q from by have := Hdn.out; omega, Hdn.out]
          exact HS2.out
end Go.Proofs.YtdgjegkoncodaaaDoor
