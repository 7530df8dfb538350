/- The reference's sign. Conditions: a place in the text; the text fits. -/
import Derived.Test.YtdgjegkoncodaaaDoorRsSignP
namespace Go.Proofs.YtdgjegkoncodaaaDoor
open Go.RowKit

theorem sign_cells (W : World) (T : TypeId) (i : Nat) (s : List UInt8) (h : signsL[i]? = some s) : (W.alloc (.cells (signsL.map fun s => Value.string (strB s)).toArray T)).cell? ⟨W.heap.size, i, none⟩ = some (.string (strB s)) := by
  rw [World.cell?_alloc_new]
  simp [h]
theorem drop_get {A : Type} {L : List A} {i : Nat} {s : A} (h : L[i]? = some s) : L.drop i = s :: L.drop (i + 1) := by
  obtain ⟨hl, rfl⟩ := List.getElem?_eq_some_iff.1 h
  exact List.drop_eq_getElem_cons hl
/-- What stands at a text's head, where no other item is. -/
def signItem : List UInt8 → Item
  | [] => .bad 0
  | c :: t => if c == 59 then .tok 6 1 [59] else if signLen (c :: t) == 0 then .bad 0 else .tok 5 (signLen (c :: t)) ((c :: t).take (signLen (c :: t)))
theorem signs_small : ∀ s ∈ signsL, s.length ≤ 3 := by decide
set_option maxRecDepth 100000 in
set_option maxHeartbeats 3200000 in
theorem rsign_any {w0 W : World} {p a : Nat} {src : ByteArray} {l : List Tok} {c : List (Nat × Nat)} (h : RsE w0 W p src a l c 0 0) (hn : l.length ≤ 1000000) (ha : a < src.size) (hs : src.size ≤ 65536) :
    Calls Tryd.prog 43 #[.pointer (some ⟨p, 0, none⟩)] W fun e W' => RItemP w0 W' p src a l c e (signItem (src.data.toList.drop a)) := by
  have Hn := Lib.hid hn
  have hOld := Lib.hid h
  obtain ⟨z, hz⟩ : ∃ z, src[a].toNat = z := ⟨_, rfl⟩
  have HZ := Lib.hid hz
  have HR := Lib.hid (drop_at ha)
  go_enter Tryd.func43, Tryd.ntmps43
  go_upto_region 1 with fail
  obtain ⟨g, Hg⟩ : ∃ g, Hid (W.heap.size = g) := ⟨_, Lib.hid rfl⟩
  obtain ⟨W1, HW1⟩ : ∃ W1, Hid (W.alloc (.cells #[(.string ⟨#[46, 46, 46]⟩), (.string ⟨#[124, 124]⟩), (.string ⟨#[38, 38]⟩), (.string ⟨#[61, 61]⟩), (.string ⟨#[33, 61]⟩), (.string ⟨#[60, 61]⟩), (.string ⟨#[62, 61]⟩), (.string ⟨#[58, 61]⟩), (.string ⟨#[43, 61]⟩), (.string ⟨#[45, 61]⟩), (.string ⟨#[42, 61]⟩), (.string ⟨#[47, 61]⟩), (.string ⟨#[37, 61]⟩), (.string ⟨#[43, 43]⟩), (.string ⟨#[45, 45]⟩), (.string ⟨#[60, 45]⟩), (.string ⟨#[43]⟩), (.string ⟨#[45]⟩), (.string ⟨#[42]⟩), (.string ⟨#[47]⟩), (.string ⟨#[37]⟩), (.string ⟨#[38]⟩), (.string ⟨#[33]⟩), (.string ⟨#[61]⟩), (.string ⟨#[60]⟩), (.string ⟨#[62]⟩), (.string ⟨#[40]⟩), (.string ⟨#[41]⟩), (.string ⟨#[91]⟩), (.string ⟨#[93]⟩), (.string ⟨#[123]⟩), (.string ⟨#[125]⟩), (.string ⟨#[44]⟩), (.string ⟨#[46]⟩), (.string ⟨#[58]⟩), (.string ⟨#[124]⟩)] 9) = W1) := ⟨_, Lib.hid rfl⟩
  have HC := Lib.hid (show ∀ i s, signsL[i]? = some s → W1.cell? ⟨g, i, none⟩ = some (.string (strB s)) from by rw [← HW1.out, ← Hg.out]; exact sign_cells W _)
  have HS := Lib.hid (show RsE w0 W1 p src a l c 0 0 from by rw [← HW1.out]; exact h.go ((Below.refl _ _).alloc (Nat.le_refl _) _))
  rw [HW1.out]
  try rw [Hg.out]
  obtain ⟨c0, c1, f1⟩ := HS.out.cells
  clear h
  cases hz59 : ((z : Int) == 59) with
  | true =>
    have HI := Lib.hid (show signItem (src.data.toList.drop a) = .tok 6 1 [59] from by
      rw [HR.out]; exact if_pos (beq_z (n := 59) HZ.out hz59 (by decide)))
    obtain ⟨a1, Ha1⟩ : ∃ a1, Hid (a + 1 = a1) := ⟨_, Lib.hid rfl⟩
    have hw : IntKind.i64.wrap ((a : Int) + 1) = (a1 : Int) := by rw [IntKind.wrap_i64, ← Ha1.out]; omega
    clear hn
    go_wp2_with fail
    go_quiet (fail)
    go_wp2_with (go_at_call 44; refine (radd_any ((HS.out.drewN _).setAt a1) Hn.out 6 a [59] _ (by rfl)).mono ?_; rintro e wr ⟨rfl, hr⟩; have HB := Lib.hid hr; clear hr)
    go_wp2_with fail
    refine bodyPost_ret (results_none rfl _ _ _) rfl ?_
    exact ritem_tok HI.out rfl (by rw [Ha1.out]; exact HB.out)
  | false =>
    have HI := Lib.hid (show signItem (src.data.toList.drop a) = if signLen (src.data.toList.drop a) == 0 then .bad 0 else .tok 5 (signLen (src.data.toList.drop a)) ((src.data.toList.drop a).take (signLen (src.data.toList.drop a))) from by
      rw [HR.out]; exact if_neg (by rw [show (src[a] == 59) = false from beq_z (n := 59) HZ.out hz59 (by decide)]; exact Bool.false_ne_true))
    have HF := Lib.hid (sign_find (r := src.data.toList.drop a) (by rw [HR.out]; exact List.cons_ne_nil _ _))
    go_wp2_with fail
    go_quiet (fail)
    obtain ⟨W2, HW2⟩ : ∃ W2, Hid (W1.drewN nq = W2) := ⟨_, Lib.hid rfl⟩
    have HC2 := Lib.hid (show ∀ i s, signsL[i]? = some s → W2.cell? ⟨g, i, none⟩ = some (.string (strB s)) from by rw [← HW2.out]; exact HC.out)
    have HS2 := Lib.hid (show RsE w0 W2 p src a l c 0 0 from by rw [← HW2.out]; exact HS.out.drewN _)
    rw [HW2.out]
    clear c0 c1 f1 hz hn
    go_wp2_with fail
    go_loopg [4] 36 (fun gg v4 wr => ∃ i m : Nat, i ≤ 36 ∧ gg = 36 - i ∧ v4 = .int .i64 (i : Int) ∧ wr = W2.drewN m ∧ Hid ((signsL.drop i).find? (Lib.hasPrefix (src.data.toList.drop a)) = signsL.find? (Lib.hasPrefix (src.data.toList.drop a))))
    case atStart => exact ⟨0, 0, by omega, rfl, rfl, rfl, Lib.hid rfl⟩
    case round =>
      obtain ⟨i, m, hi, rfl, rfl, rfl, HE⟩ := hrel
      obtain ⟨W3, HW3⟩ : ∃ W3, Hid (W2.drewN m = W3) := ⟨_, Lib.hid rfl⟩
      rw [HW3.out]
      have HS3 := Lib.hid (show RsE w0 W3 p src a l c 0 0 from by rw [← HW3.out]; exact HS2.out.drewN _)
      by_cases hlt : i < 36
      · have hlI : (i : Int) < 36 := by omega
        obtain ⟨s, Hs⟩ : ∃ s, Hid (signsL[i]? = some s) := ⟨_, Lib.hid (List.getElem?_eq_getElem (show i < signsL.length from hlt))⟩
        obtain ⟨t, Ht⟩ : ∃ t, Hid (strB s = t) := ⟨_, Lib.hid rfl⟩
        have Hsz := Lib.hid (show t.size = s.length from by rw [← Ht.out, strB_size])
        have Hsm := Lib.hid (signs_small s (List.mem_of_getElem? Hs.out))
        have HC3 := Lib.hid (show W3.cell? ⟨g, i, none⟩ = some (.string t) from by rw [← HW3.out, ← Ht.out]; exact HC2.out i s Hs.out)
        have cs := HC3.out
        have hi0 : (0 : Int) ≤ (i : Int) := by omega
        cases hp : Lib.hasPrefix (src.data.toList.drop a) s with
        | true =>
          have HA := Lib.hid (at_any (t := t) (b := true) HS3.out (Nat.le_of_lt ha) (by omega) (by have := Hsz.out; have := Hsm.out; omega) (by rw [← Ht.out, strB_toList]; exact hp))
          have HX := Lib.hid (show signsL.find? (Lib.hasPrefix (src.data.toList.drop a)) = some s from by rw [← HE.out, drop_get Hs.out, List.find?_cons, hp])
          have HY := Lib.hid (show signItem (src.data.toList.drop a) = .tok 5 t.size s from by
            have h1 := HF.out
            rw [HX.out] at h1
            rw [HI.out]
            cases h0 : (signLen (src.data.toList.drop a) == 0) with
            | true => rw [h0, if_pos rfl] at h1; cases h1
            | false =>
              rw [h0, if_neg Bool.false_ne_true] at h1
              have h2 := Option.some.inj h1
              have h3 := congrArg List.length h2
              have h4 := signLen_le (src.data.toList.drop a)
              rw [List.length_take] at h3
              rw [if_neg Bool.false_ne_true, ← h2, Hsz.out]
              congr 1
              omega)
          obtain ⟨a1, Ha1⟩ : ∃ a1, Hid (a + t.size = a1) := ⟨_, Lib.hid rfl⟩
          have hw : IntKind.i64.wrap ((a : Int) + (t.size : Int)) = (a1 : Int) := by have := Hsz.out; have := Hsm.out; rw [IntKind.wrap_i64, ← Ha1.out]; omega
          clear hp
          go_upto_region 9 with (go_at_call 38; refine HA.out.mono ?_; rintro e w ⟨rfl, k, rfl⟩)
          obtain ⟨W4, HW4⟩ : ∃ W4, Hid (W3.drewN k = W4) := ⟨_, Lib.hid rfl⟩
          rw [HW4.out]
          have HS4 := Lib.hid (show RsE w0 W4 p src a l c 0 0 from by rw [← HW4.out]; exact HS3.out.drewN _)
          have cs4 := (show W4.cell? ⟨g, i, none⟩ = some (.string t) from by rw [← HW4.out]; exact HC3.out)
          clear cs
          obtain ⟨c0, c1, f1⟩ := HS4.out.cells
          go_region
          obtain ⟨W5, HW5⟩ : ∃ W5, Hid ((W4.setCell ⟨p, 1, none⟩ (.int .i64 (a1 : Int))).drew = W5) := ⟨_, Lib.hid rfl⟩
          have hgp := Lib.hid (show g ≠ p from by
            obtain ⟨_, _, h0⟩ := hOld.out
            have := h0.lt
            have := Hg.out
            omega)
          have HS5 := Lib.hid (show RsE w0 W5 p src a1 l c 0 0 from by rw [← HW5.out]; exact (HS4.out.setAt a1).drewN 1)
          have cs5 := (show W5.cell? ⟨g, i, none⟩ = some (.string t) from by rw [← HW5.out]; exact (World.cell?_setCell_far _ _ _ _ (fun e => hgp.out e.symm)).trans cs4)
          rw [HW5.out]
          clear c0 c1 f1 cs4
          go_wp2_with (go_at_call 44; refine (radd_any HS5.out Hn.out 5 a s _ Ht.out.symm).mono ?_; rintro e wr ⟨rfl, hr⟩; have HB := Lib.hid hr; clear hr)
          refine bodyPost_ret (results_none rfl _ _ _) rfl ?_
          exact ritem_tok HY.out rfl (by rw [Ha1.out]; exact HB.out)
        | false =>
          have HA := Lib.hid (at_any (t := t) (b := false) HS3.out (Nat.le_of_lt ha) (by omega) (by have := Hsz.out; have := Hsm.out; omega) (by rw [← Ht.out, strB_toList]; exact hp))
          have HX := Lib.hid (show (signsL.drop (i + 1)).find? (Lib.hasPrefix (src.data.toList.drop a)) = signsL.find? (Lib.hasPrefix (src.data.toList.drop a)) from by rw [← HE.out, drop_get Hs.out, List.find?_cons, hp])
          have hw : IntKind.i64.wrap ((i : Int) + 1) = ((i + 1 : Nat) : Int) := by rw [IntKind.wrap_i64]; omega
          clear hp
          go_wp2_with (go_at_call 38; refine HA.out.mono ?_; rintro e w ⟨rfl, k, rfl⟩)
          go_roundg (36 - (i + 1))
          case measure => omega
          case rel => exact ⟨i + 1, m + k, by omega, rfl, rfl, by rw [← HW3.out, World.drewN_drewN], HX⟩
      · have hlf : decide ((i : Int) < 36) = false := decide_eq_false (by omega)
        have HX := Lib.hid (show signItem (src.data.toList.drop a) = .bad 0 from by
          have h1 := HF.out
          rw [← HE.out, List.drop_eq_nil_of_le (show signsL.length ≤ i from by show 36 ≤ i; omega)] at h1
          rw [HI.out]
          cases h0 : (signLen (src.data.toList.drop a) == 0) with
          | true => rw [if_pos rfl]
          | false => rw [h0, if_neg Bool.false_ne_true] at h1; cases h1)
        go_wp2_with (go_at_call 57; refine (wrong_any HS3.out (a : Int)).mono ?_; rintro e wr ⟨rfl, hr⟩; have HB := Lib.hid hr; clear hr)
        go_wp2_with fail
        go_end0
        exact ritem_bad HX.out rfl (by simp) ⟨_, HB.out⟩
end Go.Proofs.YtdgjegkoncodaaaDoor
