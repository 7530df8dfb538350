/- scan's read: all of a source. Conditions: the text fits; the library's MaxLen holds an int. -/
import Derived.Test.YtdgjegkoncodaaaDoorScRem
import Derived.WalkMore
namespace Go.Proofs.YtdgjegkoncodaaaDoor
open Go.RowKit

/-- What the reading of all leaves. -/
def ReadP (w0 W : World) (p : Nat) (src : ByteArray) (e : Ending) : Told3 → Prop
  | .ok l c => e = .returned (.tuple #[]) ∧ ScE w0 W p src src.size l c
  | .bad q => e = pan (q : Int) ∧ Below p w0 W
theorem lineT_len (l : List Tok) (b : Nat) : (lineT l b).length ≤ l.length + 1 := by
  unfold lineT
  cases l.getLast? with
  | none => simp
  | some t =>
    simp only
    split <;> simp
theorem pre_two (c x y : UInt8) (t : List UInt8) : Lib.hasPrefix (c :: t) [x, y] = (c == x && t.head? == some y) := by
  unfold Lib.hasPrefix
  cases t with
  | nil => simp [List.isPrefixOf]
  | cons d t' =>
    simp only [List.isPrefixOf, List.head?_cons, Bool.and_true]
    rw [Bool.eq_iff_iff]
    simp
    exact ⟨fun h => ⟨h.1.symm, h.2.symm⟩, fun h => ⟨h.1.symm, h.2.symm⟩⟩
theorem rem_step {c : UInt8} {t : List UInt8} (h0 : (c == 10) = false) (hb : (c == 32 || c == 9 || c == 13) = false) (hc : (c == 47) = true) (ht : t.head? = some 47 ∨ t.head? = some 42) : step1 (c :: t) = remItem (c :: t) := by
  show stepC c t = _
  unfold stepC remItem
  rw [h0, hb, hc]
  have e : (c :: t).drop 2 = t.drop 1 := by cases t <;> rfl
  rcases ht with ht | ht
  · simp [ht]
  · simp [ht, e]
    cases closeAt t.tail <;> rfl
theorem pre_C {s x : ByteArray} {b : Bool} (h : Lib.hasPrefix s.data.toList x.data.toList = b) (W : World) : Calls Tryd.prog 50 #[.string s, .string x] W (fun e w' => e = .returned (.bool b) ∧ W = w') := by
  have h2 := Tryd.strings_HasPrefix s x W
  rw [h] at h2
  exact h2.mono fun e w h => ⟨h.1, h.2.symm⟩
theorem word_C {s : ByteArray} {l : List UInt8} {b : Bool} (hs : s.data.toList = l) (h : wordB l = b) (W : World) : Calls Tryd.prog 16 #[.string s] W (fun e w' => e = .returned (.bool b) ∧ W = w') := by
  have h2 := word_any s W
  rw [Lib.toList_data, hs, h] at h2
  exact h2
theorem name_C {s : ByteArray} {l : List UInt8} {n : Nat} (hs : s.data.toList = l) (h : nameLen l = n) (hl : s.size ≤ 65536) (W : World) : Calls Tryd.prog 27 #[.string s] W (fun e w' => e = .returned (.int .i64 (n : Int)) ∧ W = w') := by
  have h2 := name_any s W (by unfold maxLen; omega)
  rw [hs, h] at h2
  exact h2
theorem sign_C {s : ByteArray} {l : List UInt8} {n : Nat} (hs : s.data.toList = l) (h : signLen l = n) (h0 : 0 < s.size) (W : World) : Calls Tryd.prog 56 #[.string s] W (fun e w' => e = .returned (.int .i64 (n : Int)) ∧ W = w') := by
  have h2 := sign_any s h0 W
  rw [hs, h] at h2
  exact h2
theorem rd_len {src : ByteArray} {q : Nat} {r : List UInt8} (hr : src.data.toList.drop q = r) : r.length = src.size - q := by rw [← hr, List.length_drop, bytes_len]
section
variable {src : ByteArray} {q n : Nat} {l : List Tok} {c : List (Nat × Nat)} {r : List UInt8} (hr : src.data.toList.drop q = r) (hlt : q < src.size)
include hr hlt
theorem rd_ne : r ≠ [] := by rw [← hr, drop_at hlt]; simp
theorem rd_nl (h : step1 r = .nl) : scanR r q l c = scanR (src.data.toList.drop (q + 1)) (q + 1) (lineT l q) c := by rw [scanR_step r (rd_ne hr hlt), h, ← hr]; simp only; rw [List.drop_drop]
theorem rd_blank (h : step1 r = .blank) : scanR r q l c = scanR (src.data.toList.drop (q + 1)) (q + 1) l c := by rw [scanR_step r (rd_ne hr hlt), h, ← hr]; simp only; rw [List.drop_drop]
theorem rd_rem {b : Bool} (h : step1 r = .rem n b) : scanR r q l c = scanR (src.data.toList.drop (q + n)) (q + n) (if b then lineT l q else l) (c ++ [(q, q + n)]) := by rw [scanR_step r (rd_ne hr hlt), h, ← hr]; simp only; rw [List.drop_drop]
theorem rd_tok {k : Int} {x : List UInt8} (h : step1 r = .tok k n x) : scanR r q l c = scanR (src.data.toList.drop (q + n)) (q + n) (l ++ [⟨k, q, q + n, x⟩]) c := by rw [scanR_step r (rd_ne hr hlt), h, ← hr]; simp only; rw [List.drop_drop]
theorem rd_bad (h : step1 r = .bad n) : scanR r q l c = .bad (q + n) := by rw [scanR_step r (rd_ne hr hlt), h]
theorem rd_size : 1 ≤ (step1 r).size ∧ q + (step1 r).size ≤ src.size := by
  have h := step1_size r (rd_ne hr hlt)
  rw [rd_len hr] at h
  omega
end
set_option maxRecDepth 100000 in
set_option maxHeartbeats 6400000 in
theorem read_any {w0 W : World} {p : Nat} {src : ByteArray} {m : Int} (h : ScE w0 W p src 0 [] []) (hm : w0.cell? ⟨2, 0, none⟩ = some (.int .i64 m)) (hp : 2 < p) (hs : src.size ≤ 65536) :
    Calls Tryd.prog 36 #[.pointer (some ⟨p, 0, none⟩)] W fun e W' => ReadP w0 W' p src e (scanR src.data.toList 0 [] []) := by
  have H0 := Lib.hid h
  have Hm := Lib.hid (And.intro hm hp)
  clear h hm hp
  go_enter Tryd.func36, Tryd.ntmps36
  go_wp2_with fail
  go_step3
  go_wp2_with fail
  go_step3
  go_wp2_with fail
  go_loopg [] src.size (fun g wr => ∃ q l c, q ≤ src.size ∧ g = src.size - q ∧ Hid (scanR src.data.toList 0 [] [] = scanR (src.data.toList.drop q) q l c ∧ l.length ≤ q ∧ c.length ≤ q) ∧ Hid (ScE w0 wr p src q l c))
  case atStart => exact ⟨0, [], [], Nat.zero_le _, rfl, Lib.hid ⟨rfl, Nat.le_refl _, Nat.le_refl _⟩, H0⟩
  case round =>
    obtain ⟨q, l, c, hq, rfl, HE, HS⟩ := hrel
    obtain ⟨c0, c1, f1⟩ := HS.out.cells
    obtain ⟨T, hT⟩ : ∃ T, src.extract q src.size = T := ⟨_, rfl⟩
    obtain ⟨r, Hr⟩ : ∃ r, Hid (src.data.toList.drop q = r) := ⟨_, Lib.hid rfl⟩
    have HTl := Lib.hid (show T.data.toList = r from by rw [← hT, extract_at, strB_toList, ← Hr.out, List.take_of_length_le (by rw [List.length_drop, bytes_len]; omega)])
    have HTs := Lib.hid (show T.size = src.size - q from by rw [← bytes_len, HTl.out, ← Hr.out, List.length_drop, bytes_len])
    have HB := Lib.hid (fun W => bad_any (W := W) (p := p) (q : Int))
    rw [Hr.out] at HE
    by_cases hlt : q < src.size
    · have hT0 : 0 < T.size := by rw [HTs.out]; omega
      have hT0I : (0 : Int) < (T.size : Int) := by omega
      obtain ⟨y, t, Hyt⟩ : ∃ y t, Hid (r = y :: t) := ⟨src[q], _, Lib.hid (by rw [← Hr.out, drop_at hlt])⟩
      have hTe2 : (T.toList == []) = false := by rw [Lib.toList_data, HTl.out, Hyt.out]; rfl
      have hTe : (T == ⟨#[]⟩) = false := by rw [beq_toListBytes, Lib.toList_data (⟨#[]⟩ : ByteArray)]; exact hTe2
      obtain ⟨z, hz⟩ : ∃ z, T[0].toNat = z := ⟨_, rfl⟩
      have HZ := Lib.hid (show y.toNat = z from by rw [← hz, at0 (c := y) (r := t) (by rw [HTl.out, Hyt.out]) hT0])
      obtain ⟨n, Hn⟩ : ∃ n, Hid (nameLen r = n) := ⟨_, Lib.hid rfl⟩
      have HNm := Lib.hid (fun W => name_C HTl.out Hn.out (by rw [HTs.out]; omega) W)
      have HRS := Lib.hid (rd_size Hr.out hlt)
      go_wp2_with fail
      go_quiet (fail)
      obtain ⟨wA, HwA⟩ : ∃ wA, Hid (wr.drewN nq = wA) := ⟨_, Lib.hid rfl⟩
      have HA := Lib.hid (HS.out.drewN nq)
      rw [HwA.out] at HA ⊢
      clear c0 c1 f1
      obtain ⟨c0, c1, f1⟩ := HA.out.cells
      go_wp2_with fail
      go_quiet ((go_at_call 27; exact (HNm.out _).mono (fun e w h => ⟨h.1, _, h.2.symm⟩)))
      obtain ⟨wB, HwB⟩ : ∃ wB, Hid (wA.drewN nq = wB) := ⟨_, Lib.hid rfl⟩
      have HW := Lib.hid (HA.out.drewN nq)
      rw [HwB.out] at HW ⊢
      clear c0 c1 f1
      obtain ⟨c0, c1, f1⟩ := HW.out.cells
      go_upto_region 4 with fail
      clear hT HNm
      cases d10 : ((z : Int) == 10) with
      | true =>
        have HI := Lib.hid (show step1 r = .nl from by rw [Hyt.out]; show stepC y t = _; unfold stepC; rw [if_pos (show (y == 10) = true from beq_z (n := 10) HZ.out d10 (by decide))])
        obtain ⟨q1, Hq1⟩ : ∃ q1, Hid (q + 1 = q1) := ⟨_, Lib.hid rfl⟩
        have hw : IntKind.i64.wrap ((q : Int) + 1) = (q1 : Int) := by rw [IntKind.wrap_i64, ← Hq1.out]; omega
        go_wp2_with (go_at_call 49; refine hold ?_)
        refine Hold.mk ?_
        refine (line_any HW.out (by have := HE.out.2.1; omega) q).mono ?_
        rintro e W' ⟨rfl, hS⟩
        have HS2 := Lib.hid hS
        clear hS c0 c1 f1
        obtain ⟨c0, c1, f1⟩ := HS2.out.cells
        go_wp2_with fail
        have HS3 := Lib.hid (HS2.out.setAt q1)
        rw [← Hq1.out] at HS3 ⊢
        go_roundg (src.size - (q + 1))
        case measure => have h := HRS.out; rw [HI.out] at h; simp only [Item.size] at h; omega
        case rel => exact ⟨q + 1, lineT l q, c, by have h := HRS.out; rw [HI.out] at h; simp only [Item.size] at h; omega, rfl, Lib.hid ⟨by rw [HE.out.1]; exact rd_nl Hr.out hlt HI.out, by have h := HRS.out; rw [HI.out] at h; simp only [Item.size] at h; have h1 := HE.out.2.1; have := lineT_len l q; omega, by have h := HRS.out; rw [HI.out] at h; simp only [Item.size] at h; have h1 := HE.out.2.2; omega⟩, HS3⟩
      | false =>
        have H10 := Lib.hid (show (y == 10) = false from beq_z (n := 10) HZ.out d10 (by decide))
        cases d32 : ((z : Int) == 32) with
        | true =>
          have HI := Lib.hid (show step1 r = .blank from by rw [Hyt.out]; show stepC y t = _; unfold stepC; rw [H10.out, show (y == 32) = true from beq_z (n := 32) HZ.out d32 (by decide)]; simp)
          obtain ⟨q1, Hq1⟩ : ∃ q1, Hid (q + 1 = q1) := ⟨_, Lib.hid rfl⟩
          have hw : IntKind.i64.wrap ((q : Int) + 1) = (q1 : Int) := by rw [IntKind.wrap_i64, ← Hq1.out]; omega
          go_wp2_with fail
          have HS3 := Lib.hid (HW.out.setAt q1)
          rw [← Hq1.out] at HS3 ⊢
          go_roundg (src.size - (q + 1))
          case measure => have h := HRS.out; rw [HI.out] at h; simp only [Item.size] at h; omega
          case rel => exact ⟨q + 1, l, c, by have h := HRS.out; rw [HI.out] at h; simp only [Item.size] at h; omega, rfl, Lib.hid ⟨by rw [HE.out.1]; exact rd_blank Hr.out hlt HI.out, by have h := HRS.out; rw [HI.out] at h; simp only [Item.size] at h; have h1 := HE.out.2.1; omega, by have h := HRS.out; rw [HI.out] at h; simp only [Item.size] at h; have h1 := HE.out.2.2; omega⟩, HS3⟩
        | false =>
          cases d9 : ((z : Int) == 9) with
          | true =>
            have HI := Lib.hid (show step1 r = .blank from by rw [Hyt.out]; show stepC y t = _; unfold stepC; rw [H10.out, show (y == 9) = true from beq_z (n := 9) HZ.out d9 (by decide)]; simp)
            obtain ⟨q1, Hq1⟩ : ∃ q1, Hid (q + 1 = q1) := ⟨_, Lib.hid rfl⟩
            have hw : IntKind.i64.wrap ((q : Int) + 1) = (q1 : Int) := by rw [IntKind.wrap_i64, ← Hq1.out]; omega
            go_wp2_with fail
            have HS3 := Lib.hid (HW.out.setAt q1)
            rw [← Hq1.out] at HS3 ⊢
            go_roundg (src.size - (q + 1))
            case measure => have h := HRS.out; rw [HI.out] at h; simp only [Item.size] at h; omega
            case rel => exact ⟨q + 1, l, c, by have h := HRS.out; rw [HI.out] at h; simp only [Item.size] at h; omega, rfl, Lib.hid ⟨by rw [HE.out.1]; exact rd_blank Hr.out hlt HI.out, by have h := HRS.out; rw [HI.out] at h; simp only [Item.size] at h; have h1 := HE.out.2.1; omega, by have h := HRS.out; rw [HI.out] at h; simp only [Item.size] at h; have h1 := HE.out.2.2; omega⟩, HS3⟩
          | false =>
            cases d13 : ((z : Int) == 13) with
            | true =>
              have HI := Lib.hid (show step1 r = .blank from by rw [Hyt.out]; show stepC y t = _; unfold stepC; rw [H10.out, show (y == 13) = true from beq_z (n := 13) HZ.out d13 (by decide)]; simp)
              obtain ⟨q1, Hq1⟩ : ∃ q1, Hid (q + 1 = q1) := ⟨_, Lib.hid rfl⟩
              have hw : IntKind.i64.wrap ((q : Int) + 1) = (q1 : Int) := by rw [IntKind.wrap_i64, ← Hq1.out]; omega
              go_wp2_with fail
              have HS3 := Lib.hid (HW.out.setAt q1)
              rw [← Hq1.out] at HS3 ⊢
              go_roundg (src.size - (q + 1))
              case measure => have h := HRS.out; rw [HI.out] at h; simp only [Item.size] at h; omega
              case rel => exact ⟨q + 1, l, c, by have h := HRS.out; rw [HI.out] at h; simp only [Item.size] at h; omega, rfl, Lib.hid ⟨by rw [HE.out.1]; exact rd_blank Hr.out hlt HI.out, by have h := HRS.out; rw [HI.out] at h; simp only [Item.size] at h; have h1 := HE.out.2.1; omega, by have h := HRS.out; rw [HI.out] at h; simp only [Item.size] at h; have h1 := HE.out.2.2; omega⟩, HS3⟩
            | false =>
              have Hbl := Lib.hid (show (y == 32 || y == 9 || y == 13) = false from by rw [show (y == 32) = false from beq_z (n := 32) HZ.out d32 (by decide), show (y == 9) = false from beq_z (n := 9) HZ.out d9 (by decide), show (y == 13) = false from beq_z (n := 13) HZ.out d13 (by decide)]; rfl)
              cases e1 : (y == 47 && t.head? == some 47) with
              | true =>
                have HP1 := Lib.hid (pre_C (s := T) (x := ⟨#[47, 47]⟩) (b := true) (by rw [HTl.out, Hyt.out]; exact (pre_two y 47 47 t).trans e1))
                have He := Lib.hid (show (y == 47) = true ∧ t.head? = some 47 from by simp only [Bool.and_eq_true, beq_iff_eq] at e1; exact ⟨by simp [e1.1], e1.2⟩)
                have HL2 := Lib.hid (show q + 1 < src.size from by
                  have h := rd_len Hr.out
                  rw [Hyt.out] at h
                  have h2 := He.out.2
                  cases t with
                  | nil => cases h2
                  | cons a t' => simp at h; omega)
                clear e1
                have HREM := Lib.hid (show Calls Tryd.prog 51 #[.pointer (some ⟨p, 0, none⟩)] wB (fun e W' => ItemP w0 W' p src q l c e (remItem r)) from by have h := remark_any HW.out Hm.out.1 Hm.out.2 (by have := HE.out.2.1; omega) (by have := HE.out.2.2; omega) HL2.out hs; rw [Hr.out] at h; exact h)
                go_wp2_with (go_at_call 50; refine hold ?_)
                refine Hold.mk ?_
                refine (HP1.out _).mono ?_
                rintro e W' ⟨rfl, rfl⟩
                go_wp2_with (go_at_call 51; refine hold ?_)
                refine Hold.mk ?_
                refine (HREM.out).mono ?_
                rintro e W' hI
                have HIP := Lib.hid hI
                clear hI c0 c1 f1
                have HI0 := Lib.hid (show step1 r = remItem r from by rw [Hyt.out]; exact rem_step H10.out Hbl.out He.out.1 (.inl He.out.2))
                rw [← HI0.out] at HIP
                cases hit : step1 r with
                | nl => rw [hit] at HIP; exact absurd HIP.out (fun h => h)
                | blank => rw [hit] at HIP; exact absurd HIP.out (fun h => h)
                | rem n b =>
                  have HI := Lib.hid hit
                  rw [hit] at HIP
                  clear hit
                  obtain ⟨rfl, hS⟩ := HIP.out
                  have HS3 := Lib.hid hS
                  clear hS HIP
                  go_wp2_with fail
                  go_roundg (src.size - (q + n))
                  case measure => have h := HRS.out; rw [HI.out] at h; simp only [Item.size] at h; omega
                  case rel => exact ⟨q + n, if b then lineT l q else l, c ++ [(q, q + n)], by have h := HRS.out; rw [HI.out] at h; simp only [Item.size] at h; omega, rfl, Lib.hid ⟨by rw [HE.out.1]; exact rd_rem Hr.out hlt HI.out, by have h := HRS.out; rw [HI.out] at h; simp only [Item.size] at h; have h1 := HE.out.2.1; have := lineT_len l q; split <;> omega, by have h := HRS.out; rw [HI.out] at h; simp only [Item.size] at h; have h1 := HE.out.2.2; simp; omega⟩, HS3⟩
                | tok k n x =>
                  have HI := Lib.hid hit
                  rw [hit] at HIP
                  clear hit
                  obtain ⟨rfl, hS⟩ := HIP.out
                  have HS3 := Lib.hid hS
                  clear hS HIP
                  go_wp2_with fail
                  go_roundg (src.size - (q + n))
                  case measure => have h := HRS.out; rw [HI.out] at h; simp only [Item.size] at h; omega
                  case rel => exact ⟨q + n, l ++ [⟨k, q, q + n, x⟩], c, by have h := HRS.out; rw [HI.out] at h; simp only [Item.size] at h; omega, rfl, Lib.hid ⟨by rw [HE.out.1]; exact rd_tok Hr.out hlt HI.out, by have h := HRS.out; rw [HI.out] at h; simp only [Item.size] at h; have h1 := HE.out.2.1; simp; omega, by have h := HRS.out; rw [HI.out] at h; simp only [Item.size] at h; have h1 := HE.out.2.2; omega⟩, HS3⟩
                | bad n =>
                  have HI := Lib.hid hit
                  rw [hit] at HIP
                  clear hit
                  obtain ⟨rfl, hS⟩ := HIP.out
                  have HR := Lib.hid (show scanR src.data.toList 0 [] [] = .bad (q + n) from by rw [HE.out.1]; exact rd_bad Hr.out hlt HI.out)
                  have HS3 := Lib.hid hS
                  clear hS HIP
                  go_wp2_with fail
                  refine ⟨rfl, ?_⟩
                  rw [HR.out]
                  exact ⟨by first | rfl | assumption | exact Eq.symm (by assumption), HS3.out⟩
              | false =>
                have HP1 := Lib.hid (pre_C (s := T) (x := ⟨#[47, 47]⟩) (b := false) (by rw [HTl.out, Hyt.out]; exact (pre_two y 47 47 t).trans e1))
                have E1 := Lib.hid e1
                clear e1
                cases e2 : (y == 47 && t.head? == some 42) with
                | true =>
                  have HP2 := Lib.hid (pre_C (s := T) (x := ⟨#[47, 42]⟩) (b := true) (by rw [HTl.out, Hyt.out]; exact (pre_two y 47 42 t).trans e2))
                  have He := Lib.hid (show (y == 47) = true ∧ t.head? = some 42 from by simp only [Bool.and_eq_true, beq_iff_eq] at e2; exact ⟨by simp [e2.1], e2.2⟩)
                  have HL2 := Lib.hid (show q + 1 < src.size from by
                    have h := rd_len Hr.out
                    rw [Hyt.out] at h
                    have h2 := He.out.2
                    cases t with
                    | nil => cases h2
                    | cons a t' => simp at h; omega)
                  clear e2
                  have HREM := Lib.hid (show Calls Tryd.prog 51 #[.pointer (some ⟨p, 0, none⟩)] wB (fun e W' => ItemP w0 W' p src q l c e (remItem r)) from by have h := remark_any HW.out Hm.out.1 Hm.out.2 (by have := HE.out.2.1; omega) (by have := HE.out.2.2; omega) HL2.out hs; rw [Hr.out] at h; exact h)
                  go_wp2_with (go_at_call 50; refine hold ?_)
                  refine Hold.mk ?_
                  refine (HP1.out _).mono ?_
                  rintro e W' ⟨rfl, rfl⟩
                  go_wp2_with (go_at_call 50; refine hold ?_)
                  refine Hold.mk ?_
                  refine (HP2.out _).mono ?_
                  rintro e W' ⟨rfl, rfl⟩
                  go_wp2_with (go_at_call 51; refine hold ?_)
                  refine Hold.mk ?_
                  refine (HREM.out).mono ?_
                  rintro e W' hI
                  have HIP := Lib.hid hI
                  clear hI c0 c1 f1
                  have HI0 := Lib.hid (show step1 r = remItem r from by rw [Hyt.out]; exact rem_step H10.out Hbl.out He.out.1 (.inr He.out.2))
                  rw [← HI0.out] at HIP
                  cases hit : step1 r with
                  | nl => rw [hit] at HIP; exact absurd HIP.out (fun h => h)
                  | blank => rw [hit] at HIP; exact absurd HIP.out (fun h => h)
                  | rem n b =>
                    have HI := Lib.hid hit
                    rw [hit] at HIP
                    clear hit
                    obtain ⟨rfl, hS⟩ := HIP.out
                    have HS3 := Lib.hid hS
                    clear hS HIP
                    go_wp2_with fail
                    go_roundg (src.size - (q + n))
                    case measure => have h := HRS.out; rw [HI.out] at h; simp only [Item.size] at h; omega
                    case rel => exact ⟨q + n, if b then lineT l q else l, c ++ [(q, q + n)], by have h := HRS.out; rw [HI.out] at h; simp only [Item.size] at h; omega, rfl, Lib.hid ⟨by rw [HE.out.1]; exact rd_rem Hr.out hlt HI.out, by have h := HRS.out; rw [HI.out] at h; simp only [Item.size] at h; have h1 := HE.out.2.1; have := lineT_len l q; split <;> omega, by have h := HRS.out; rw [HI.out] at h; simp only [Item.size] at h; have h1 := HE.out.2.2; simp; omega⟩, HS3⟩
                  | tok k n x =>
                    have HI := Lib.hid hit
                    rw [hit] at HIP
                    clear hit
                    obtain ⟨rfl, hS⟩ := HIP.out
                    have HS3 := Lib.hid hS
                    clear hS HIP
                    go_wp2_with fail
                    go_roundg (src.size - (q + n))
                    case measure => have h := HRS.out; rw [HI.out] at h; simp only [Item.size] at h; omega
                    case rel => exact ⟨q + n, l ++ [⟨k, q, q + n, x⟩], c, by have h := HRS.out; rw [HI.out] at h; simp only [Item.size] at h; omega, rfl, Lib.hid ⟨by rw [HE.out.1]; exact rd_tok Hr.out hlt HI.out, by have h := HRS.out; rw [HI.out] at h; simp only [Item.size] at h; have h1 := HE.out.2.1; simp; omega, by have h := HRS.out; rw [HI.out] at h; simp only [Item.size] at h; have h1 := HE.out.2.2; omega⟩, HS3⟩
                  | bad n =>
                    have HI := Lib.hid hit
                    rw [hit] at HIP
                    clear hit
                    obtain ⟨rfl, hS⟩ := HIP.out
                    have HR := Lib.hid (show scanR src.data.toList 0 [] [] = .bad (q + n) from by rw [HE.out.1]; exact rd_bad Hr.out hlt HI.out)
                    have HS3 := Lib.hid hS
                    clear hS HIP
                    go_wp2_with fail
                    refine ⟨rfl, ?_⟩
                    rw [HR.out]
                    exact ⟨by first | rfl | assumption | exact Eq.symm (by assumption), HS3.out⟩
                | false =>
                  have HP2 := Lib.hid (pre_C (s := T) (x := ⟨#[47, 42]⟩) (b := false) (by rw [HTl.out, Hyt.out]; exact (pre_two y 47 42 t).trans e2))
                  have E2 := Lib.hid e2
                  clear e2
                  go_wp2_with (go_at_call 50; refine hold ?_)
                  refine Hold.mk ?_
                  refine (HP1.out _).mono ?_
                  rintro e W' ⟨rfl, rfl⟩
                  go_wp2_with (go_at_call 50; refine hold ?_)
                  refine Hold.mk ?_
                  refine (HP2.out _).mono ?_
                  rintro e W' ⟨rfl, rfl⟩
                  have HN0 := Lib.hid (show step1 r = if decide (60 < n) then .bad 0 else if decide (0 < n) then .tok (if wordB (r.take n) then 4 else 1) n (r.take n) else if digitB z then numItem r else if y == 34 then strItem t 1 [] else if y == 59 then .tok 6 1 [59] else if signLen r == 0 then .bad 0 else .tok 5 (signLen r) (r.take (signLen r)) from by
                    rw [← Hn.out, ← HZ.out, Hyt.out]
                    show stepC y t = _
                    unfold stepC
                    rw [H10.out, Hbl.out, E1.out, E2.out]
                    rfl)
                  by_cases h60 : (60 : Int) < (n : Int)
                  · have HI := Lib.hid (show step1 r = .bad 0 from by rw [HN0.out, decide_eq_true (show 60 < n from by omega)]; rfl)
                    have HR := Lib.hid (show scanR src.data.toList 0 [] [] = .bad (q + 0) from by rw [HE.out.1]; exact rd_bad Hr.out hlt HI.out)
                    go_wp2_with (go_at_call 52; refine (HB.out _).mono ?_; rintro e W' ⟨rfl, rfl⟩)
                    refine ⟨rfl, ?_⟩
                    rw [HR.out]
                    exact ⟨by first | assumption | exact Eq.symm (by assumption), HW.out.below⟩
                  · by_cases h0 : (0 : Int) < (n : Int)
                    · have Hx := Lib.hid (show step1 r = .tok (if wordB (r.take n) then 4 else 1) n (r.take n) from by rw [HN0.out, decide_eq_false (show ¬ 60 < n from by omega), decide_eq_true (show 0 < n from by omega)]; rfl)
                      have Hnr := Lib.hid (show q + n ≤ src.size from by have h := HRS.out; rw [Hx.out] at h; simp only [Item.size] at h; omega)
                      obtain ⟨q1, Hq1⟩ : ∃ q1, Hid (q + n = q1) := ⟨_, Lib.hid rfl⟩
                      have hw : IntKind.i64.wrap ((q : Int) + (n : Int)) = (q1 : Int) := by have := Hnr.out; rw [IntKind.wrap_i64, ← Hq1.out]; omega
                      obtain ⟨T2, hT2⟩ : ∃ T2, T.extract 0 n = T2 := ⟨_, rfl⟩
                      have hnT : (n : Int) ≤ (T.size : Int) := by have := Hnr.out; have := HTs.out; omega
                      have HT2 := Lib.hid (show T2 = strB (r.take n) from by rw [← hT2, extract_take, HTl.out])
                      cases hwd : wordB (r.take n) with
                      | true =>
                        have HI := Lib.hid (show step1 r = .tok 4 n (r.take n) from by rw [Hx.out, hwd]; rfl)
                        have HWd := Lib.hid (fun W => word_C (s := T2) (l := r.take n) (b := true) (by rw [HT2.out, strB_toList]) hwd W)
                        go_wp2_with (first | (go_at_call 16; refine (HWd.out _).mono ?_; rintro e W' ⟨rfl, rfl⟩) | (go_at_call 53; refine hold ?_))
                        refine Hold.mk ?_
                        refine (add_any (HW.out.setAt q1) (by have := HE.out.2.1; omega) 4 q (r.take n) _ HT2.out).mono ?_
                        rintro e W' ⟨rfl, hS⟩
                        have HS3 := Lib.hid hS
                        clear hS
                        rw [← Hq1.out] at HS3
                        go_wp2_with fail
                        go_roundg (src.size - (q + n))
                        case measure => have h := HRS.out; rw [HI.out] at h; simp only [Item.size] at h; omega
                        case rel => exact ⟨q + n, l ++ [⟨4, q, q + n, r.take n⟩], c, by have h := HRS.out; rw [HI.out] at h; simp only [Item.size] at h; omega, rfl, Lib.hid ⟨by rw [HE.out.1]; exact rd_tok Hr.out hlt HI.out, by have h := HRS.out; rw [HI.out] at h; simp only [Item.size] at h; have h1 := HE.out.2.1; simp; omega, by have h := HRS.out; rw [HI.out] at h; simp only [Item.size] at h; have h1 := HE.out.2.2; omega⟩, HS3⟩
                      | false =>
                        have HI := Lib.hid (show step1 r = .tok 1 n (r.take n) from by rw [Hx.out, hwd]; rfl)
                        have HWd := Lib.hid (fun W => word_C (s := T2) (l := r.take n) (b := false) (by rw [HT2.out, strB_toList]) hwd W)
                        go_wp2_with (first | (go_at_call 16; refine (HWd.out _).mono ?_; rintro e W' ⟨rfl, rfl⟩) | (go_at_call 53; refine hold ?_))
                        refine Hold.mk ?_
                        refine (add_any (HW.out.setAt q1) (by have := HE.out.2.1; omega) 1 q (r.take n) _ HT2.out).mono ?_
                        rintro e W' ⟨rfl, hS⟩
                        have HS3 := Lib.hid hS
                        clear hS
                        rw [← Hq1.out] at HS3
                        go_wp2_with fail
                        go_roundg (src.size - (q + n))
                        case measure => have h := HRS.out; rw [HI.out] at h; simp only [Item.size] at h; omega
                        case rel => exact ⟨q + n, l ++ [⟨1, q, q + n, r.take n⟩], c, by have h := HRS.out; rw [HI.out] at h; simp only [Item.size] at h; omega, rfl, Lib.hid ⟨by rw [HE.out.1]; exact rd_tok Hr.out hlt HI.out, by have h := HRS.out; rw [HI.out] at h; simp only [Item.size] at h; have h1 := HE.out.2.1; simp; omega, by have h := HRS.out; rw [HI.out] at h; simp only [Item.size] at h; have h1 := HE.out.2.2; omega⟩, HS3⟩
                    · have Hx := Lib.hid (show step1 r = if digitB z then numItem r else if y == 34 then strItem t 1 [] else if y == 59 then .tok 6 1 [59] else if signLen r == 0 then .bad 0 else .tok 5 (signLen r) (r.take (signLen r)) from by rw [HN0.out, decide_eq_false (show ¬ 60 < n from by omega), decide_eq_false (show ¬ 0 < n from by omega)]; rfl)
                      cases hdg : digitB z with
                      | true =>
                        have HDg := Lib.hid (fun W => show Calls Tryd.prog 46 #[.int .u8 (z : Int)] W (fun e w' => e = .returned (.bool true) ∧ W = w') from by have h := digit_any (z : Int) W; rw [hdg] at h; exact h)
                        have HNU := Lib.hid (show Calls Tryd.prog 54 #[.pointer (some ⟨p, 0, none⟩)] wB (fun e W' => ItemP w0 W' p src q l c e (numItem r)) from by
                          have h := number_any HW.out (by have := HE.out.2.1; omega) hlt (by have h1 := Hr.out; rw [drop_at hlt, Hyt.out] at h1; have h2 : src[q] = y := (List.cons.inj h1).1; rw [h2, HZ.out]; exact hdg) hs
                          rw [Hr.out] at h
                          exact h)
                        have Hst := Lib.hid (show step1 r = numItem r from by rw [Hx.out, hdg]; rfl)
                        clear hdg
                        go_wp2_with (first | (go_at_call 46; refine (HDg.out _).mono ?_; rintro e W' ⟨rfl, rfl⟩) | (go_at_call 54; refine hold ?_))
                        refine Hold.mk ?_
                        refine (HNU.out).mono ?_
                        rintro e W' hI
                        have HIP := Lib.hid hI
                        clear hI c0 c1 f1
                        have HI0 := Lib.hid (Hst.out)
                        rw [← HI0.out] at HIP
                        cases hit : step1 r with
                        | nl => rw [hit] at HIP; exact absurd HIP.out (fun h => h)
                        | blank => rw [hit] at HIP; exact absurd HIP.out (fun h => h)
                        | rem n2 b =>
                          have HI := Lib.hid hit
                          rw [hit] at HIP
                          clear hit
                          obtain ⟨rfl, hS⟩ := HIP.out
                          have HS3 := Lib.hid hS
                          clear hS HIP
                          go_wp2_with fail
                          go_roundg (src.size - (q + n2))
                          case measure => have h := HRS.out; rw [HI.out] at h; simp only [Item.size] at h; omega
                          case rel => exact ⟨q + n2, if b then lineT l q else l, c ++ [(q, q + n2)], by have h := HRS.out; rw [HI.out] at h; simp only [Item.size] at h; omega, rfl, Lib.hid ⟨by rw [HE.out.1]; exact rd_rem Hr.out hlt HI.out, by have h := HRS.out; rw [HI.out] at h; simp only [Item.size] at h; have h1 := HE.out.2.1; have := lineT_len l q; split <;> omega, by have h := HRS.out; rw [HI.out] at h; simp only [Item.size] at h; have h1 := HE.out.2.2; simp; omega⟩, HS3⟩
                        | tok k n2 x =>
                          have HI := Lib.hid hit
                          rw [hit] at HIP
                          clear hit
                          obtain ⟨rfl, hS⟩ := HIP.out
                          have HS3 := Lib.hid hS
                          clear hS HIP
                          go_wp2_with fail
                          go_roundg (src.size - (q + n2))
                          case measure => have h := HRS.out; rw [HI.out] at h; simp only [Item.size] at h; omega
                          case rel => exact ⟨q + n2, l ++ [⟨k, q, q + n2, x⟩], c, by have h := HRS.out; rw [HI.out] at h; simp only [Item.size] at h; omega, rfl, Lib.hid ⟨by rw [HE.out.1]; exact rd_tok Hr.out hlt HI.out, by have h := HRS.out; rw [HI.out] at h; simp only [Item.size] at h; have h1 := HE.out.2.1; simp; omega, by have h := HRS.out; rw [HI.out] at h; simp only [Item.size] at h; have h1 := HE.out.2.2; omega⟩, HS3⟩
                        | bad n2 =>
                          have HI := Lib.hid hit
                          rw [hit] at HIP
                          clear hit
                          obtain ⟨rfl, hS⟩ := HIP.out
                          have HR := Lib.hid (show scanR src.data.toList 0 [] [] = .bad (q + n2) from by rw [HE.out.1]; exact rd_bad Hr.out hlt HI.out)
                          have HS3 := Lib.hid hS
                          clear hS HIP
                          go_wp2_with fail
                          refine ⟨rfl, ?_⟩
                          rw [HR.out]
                          exact ⟨by first | rfl | assumption | exact Eq.symm (by assumption), HS3.out⟩
                      | false =>
                        have HDg := Lib.hid (fun W => show Calls Tryd.prog 46 #[.int .u8 (z : Int)] W (fun e w' => e = .returned (.bool false) ∧ W = w') from by have h := digit_any (z : Int) W; rw [hdg] at h; exact h)
                        have Hx2 := Lib.hid (show step1 r = if y == 34 then strItem t 1 [] else if y == 59 then .tok 6 1 [59] else if signLen r == 0 then .bad 0 else .tok 5 (signLen r) (r.take (signLen r)) from by rw [Hx.out, hdg]; rfl)
                        clear hdg
                        cases d34 : ((z : Int) == 34) with
                        | true =>
                          have Hst := Lib.hid (show step1 r = strItem t 1 [] from by rw [Hx2.out, if_pos (show (y == 34) = true from beq_z (n := 34) HZ.out d34 (by decide))])
                          have HTX := Lib.hid (show Calls Tryd.prog 55 #[.pointer (some ⟨p, 0, none⟩)] wB (fun e W' => ItemP w0 W' p src q l c e (strItem t 1 [])) from by
                            have h := text_any HW.out (by have := HE.out.2.1; omega) hlt hs
                            have h1 := Hr.out
                            rw [drop_at hlt, Hyt.out] at h1
                            rw [(List.cons.inj h1).2] at h
                            exact h)
                          go_wp2_with (first | (go_at_call 46; refine (HDg.out _).mono ?_; rintro e W' ⟨rfl, rfl⟩) | (go_at_call 55; refine hold ?_))
                          refine Hold.mk ?_
                          refine (HTX.out).mono ?_
                          rintro e W' hI
                          have HIP := Lib.hid hI
                          clear hI c0 c1 f1
                          have HI0 := Lib.hid (Hst.out)
                          rw [← HI0.out] at HIP
                          cases hit : step1 r with
                          | nl => rw [hit] at HIP; exact absurd HIP.out (fun h => h)
                          | blank => rw [hit] at HIP; exact absurd HIP.out (fun h => h)
                          | rem n2 b =>
                            have HI := Lib.hid hit
                            rw [hit] at HIP
                            clear hit
                            obtain ⟨rfl, hS⟩ := HIP.out
                            have HS3 := Lib.hid hS
                            clear hS HIP
                            go_wp2_with fail
                            go_roundg (src.size - (q + n2))
                            case measure => have h := HRS.out; rw [HI.out] at h; simp only [Item.size] at h; omega
                            case rel => exact ⟨q + n2, if b then lineT l q else l, c ++ [(q, q + n2)], by have h := HRS.out; rw [HI.out] at h; simp only [Item.size] at h; omega, rfl, Lib.hid ⟨by rw [HE.out.1]; exact rd_rem Hr.out hlt HI.out, by have h := HRS.out; rw [HI.out] at h; simp only [Item.size] at h; have h1 := HE.out.2.1; have := lineT_len l q; split <;> omega, by have h := HRS.out; rw [HI.out] at h; simp only [Item.size] at h; have h1 := HE.out.2.2; simp; omega⟩, HS3⟩
                          | tok k n2 x =>
                            have HI := Lib.hid hit
                            rw [hit] at HIP
                            clear hit
                            obtain ⟨rfl, hS⟩ := HIP.out
                            have HS3 := Lib.hid hS
                            clear hS HIP
                            go_wp2_with fail
                            go_roundg (src.size - (q + n2))
                            case measure => have h := HRS.out; rw [HI.out] at h; simp only [Item.size] at h; omega
                            case rel => exact ⟨q + n2, l ++ [⟨k, q, q + n2, x⟩], c, by have h := HRS.out; rw [HI.out] at h; simp only [Item.size] at h; omega, rfl, Lib.hid ⟨by rw [HE.out.1]; exact rd_tok Hr.out hlt HI.out, by have h := HRS.out; rw [HI.out] at h; simp only [Item.size] at h; have h1 := HE.out.2.1; simp; omega, by have h := HRS.out; rw [HI.out] at h; simp only [Item.size] at h; have h1 := HE.out.2.2; omega⟩, HS3⟩
                          | bad n2 =>
                            have HI := Lib.hid hit
                            rw [hit] at HIP
                            clear hit
                            obtain ⟨rfl, hS⟩ := HIP.out
                            have HR := Lib.hid (show scanR src.data.toList 0 [] [] = .bad (q + n2) from by rw [HE.out.1]; exact rd_bad Hr.out hlt HI.out)
                            have HS3 := Lib.hid hS
                            clear hS HIP
                            go_wp2_with fail
                            refine ⟨rfl, ?_⟩
                            rw [HR.out]
                            exact ⟨by first | rfl | assumption | exact Eq.symm (by assumption), HS3.out⟩
                        | false =>
                          have Hx3 := Lib.hid (show step1 r = if y == 59 then .tok 6 1 [59] else if signLen r == 0 then .bad 0 else .tok 5 (signLen r) (r.take (signLen r)) from by rw [Hx2.out, if_neg (by rw [show (y == 34) = false from beq_z (n := 34) HZ.out d34 (by decide)]; exact Bool.false_ne_true)])
                          cases d59 : ((z : Int) == 59) with
                          | true =>
                            have HI := Lib.hid (show step1 r = .tok 6 1 [59] from by rw [Hx3.out, if_pos (show (y == 59) = true from beq_z (n := 59) HZ.out d59 (by decide))])
                            obtain ⟨q1, Hq1⟩ : ∃ q1, Hid (q + 1 = q1) := ⟨_, Lib.hid rfl⟩
                            have hw : IntKind.i64.wrap ((q : Int) + 1) = (q1 : Int) := by rw [IntKind.wrap_i64, ← Hq1.out]; omega
                            go_wp2_with (first | (go_at_call 46; refine (HDg.out _).mono ?_; rintro e W' ⟨rfl, rfl⟩) | (go_at_call 53; refine hold ?_))
                            refine Hold.mk ?_
                            refine (add_any (HW.out.setAt q1) (by have := HE.out.2.1; omega) 6 q [59] _ rfl).mono ?_
                            rintro e W' ⟨rfl, hS⟩
                            have HS3 := Lib.hid hS
                            clear hS
                            rw [← Hq1.out] at HS3
                            go_wp2_with fail
                            go_roundg (src.size - (q + 1))
                            case measure => have h := HRS.out; rw [HI.out] at h; simp only [Item.size] at h; omega
                            case rel => exact ⟨q + 1, l ++ [⟨6, q, q + 1, [59]⟩], c, by have h := HRS.out; rw [HI.out] at h; simp only [Item.size] at h; omega, rfl, Lib.hid ⟨by rw [HE.out.1]; exact rd_tok Hr.out hlt HI.out, by have h := HRS.out; rw [HI.out] at h; simp only [Item.size] at h; have h1 := HE.out.2.1; simp; omega, by have h := HRS.out; rw [HI.out] at h; simp only [Item.size] at h; have h1 := HE.out.2.2; omega⟩, HS3⟩
                          | false =>
                            have Hx4 := Lib.hid (show step1 r = if signLen r == 0 then .bad 0 else .tok 5 (signLen r) (r.take (signLen r)) from by rw [Hx3.out, if_neg (by rw [show (y == 59) = false from beq_z (n := 59) HZ.out d59 (by decide)]; exact Bool.false_ne_true)])
                            obtain ⟨g, Hg⟩ : ∃ g, Hid (signLen r = g) := ⟨_, Lib.hid rfl⟩
                            have HSg := Lib.hid (fun W => sign_C HTl.out Hg.out hT0 W)
                            rw [Hg.out] at Hx4
                            cases hg0 : ((g : Int) == 0) with
                            | true =>
                              have HI := Lib.hid (show step1 r = .bad 0 from by rw [Hx4.out, if_pos (by simpa using hg0)])
                              have HR := Lib.hid (show scanR src.data.toList 0 [] [] = .bad (q + 0) from by rw [HE.out.1]; exact rd_bad Hr.out hlt HI.out)
                              go_wp2_with (first | (go_at_call 46; refine (HDg.out _).mono ?_; rintro e W' ⟨rfl, rfl⟩) | (go_at_call 56; refine (HSg.out _).mono ?_; rintro e W' ⟨rfl, rfl⟩) | (go_at_call 52; refine (HB.out _).mono ?_; rintro e W' ⟨rfl, rfl⟩))
                              refine ⟨rfl, ?_⟩
                              rw [HR.out]
                              exact ⟨by first | assumption | exact Eq.symm (by assumption), HW.out.below⟩
                            | false =>
                              have HI := Lib.hid (show step1 r = .tok 5 g (r.take g) from by rw [Hx4.out, if_neg (by simpa using hg0)])
                              have Hnr := Lib.hid (show q + g ≤ src.size from by have h := HRS.out; rw [HI.out] at h; simp only [Item.size] at h; omega)
                              obtain ⟨q1, Hq1⟩ : ∃ q1, Hid (q + g = q1) := ⟨_, Lib.hid rfl⟩
                              have hw : IntKind.i64.wrap ((q : Int) + (g : Int)) = (q1 : Int) := by have := Hnr.out; rw [IntKind.wrap_i64, ← Hq1.out]; omega
                              obtain ⟨T2, hT2⟩ : ∃ T2, T.extract 0 g = T2 := ⟨_, rfl⟩
                              have hnT : (g : Int) ≤ (T.size : Int) := by have := Hnr.out; have := HTs.out; omega
                              have HT2 := Lib.hid (show T2 = strB (r.take g) from by rw [← hT2, extract_take, HTl.out])
                              go_wp2_with (first | (go_at_call 46; refine (HDg.out _).mono ?_; rintro e W' ⟨rfl, rfl⟩) | (go_at_call 56; refine (HSg.out _).mono ?_; rintro e W' ⟨rfl, rfl⟩) | (go_at_call 53; refine hold ?_))
                              refine Hold.mk ?_
                              refine (add_any (HW.out.setAt q1) (by have := HE.out.2.1; omega) 5 q (r.take g) _ HT2.out).mono ?_
                              rintro e W' ⟨rfl, hS⟩
                              have HS3 := Lib.hid hS
                              clear hS
                              rw [← Hq1.out] at HS3
                              go_wp2_with fail
                              go_roundg (src.size - (q + g))
                              case measure => have h := HRS.out; rw [HI.out] at h; simp only [Item.size] at h; omega
                              case rel => exact ⟨q + g, l ++ [⟨5, q, q + g, r.take g⟩], c, by have h := HRS.out; rw [HI.out] at h; simp only [Item.size] at h; omega, rfl, Lib.hid ⟨by rw [HE.out.1]; exact rd_tok Hr.out hlt HI.out, by have h := HRS.out; rw [HI.out] at h; simp only [Item.size] at h; have h1 := HE.out.2.1; simp; omega, by have h := HRS.out; rw [HI.out] at h; simp only [Item.size] at h; have h1 := HE.out.2.2; omega⟩, HS3⟩
    · have e : q = src.size := by omega
      have hTe : T = ⟨#[]⟩ := by
        have h : T.size = 0 := by rw [HTs.out]; omega
        exact ByteArray.size_eq_zero_iff.1 h
      rw [hTe] at hT
      have HR := Lib.hid (show scanR src.data.toList 0 [] [] = .ok (lineT l src.size ++ [⟨7, src.size, src.size, []⟩]) c from by rw [HE.out.1, ← Hr.out, drop_end hlt, scanR_nil, e])
      have HS4 := Lib.hid (show ScE w0 wr p src src.size l c from by rw [← e]; exact HS.out)
      clear hTe e
      go_wp2_with fail
      go_quiet (fail)
      obtain ⟨wA, HwA⟩ : ∃ wA, Hid (wr.drewN nq = wA) := ⟨_, Lib.hid rfl⟩
      have HA := Lib.hid (HS4.out.drewN nq)
      rw [HwA.out] at HA ⊢
      clear c0 c1 f1
      obtain ⟨c0, c1, f1⟩ := HA.out.cells
      go_wp2_with (go_at_call 49; refine hold ?_)
      refine Hold.mk ?_
      refine (line_any HA.out (by have := HE.out.2.1; omega) src.size).mono ?_
      rintro e W' ⟨rfl, hS⟩
      have HS2 := Lib.hid hS
      clear hS c0 c1 f1
      obtain ⟨c0, c1, f1⟩ := HS2.out.cells
      go_wp2_with (go_at_call 53; refine hold ?_)
      refine Hold.mk ?_
      refine (add_any HS2.out (by have := HE.out.2.1; have := lineT_len l src.size; omega) 7 src.size [] _ rfl).mono ?_
      rintro e W' ⟨rfl, hS⟩
      have HS5 := Lib.hid hS
      clear hS
      go_wp2_with fail
      first
        | go_end0
        | (rw [Exit.noGoto_normal]; go_end0)
        | refine bodyPost_ret (results_none rfl _ _ _) rfl ?_
      rw [HR.out]
      exact ⟨rfl, HS5.out⟩
end Go.Proofs.YtdgjegkoncodaaaDoor
