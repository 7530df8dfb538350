/- The walks of Quote, the program's and the document's. Condition: the text fits. -/
import Derived.Test.YtahgbbnpbhfaeaaDoorJ8
namespace Go.Proofs.YtahgbbnpbhfaeaaDoor.Qt
open Go.RowKit

/-- The builder at block b holds these bytes. -/
def Bq (W : World) (B b : Nat) (l : List UInt8) : Prop := Lib.BuilderAtF 76 5 B b (.pointer (some ⟨b, 0, none⟩)) (Lib.byteCells l) W
theorem Bq.keep {W W' : World} {B b : Nat} {l : List UInt8} (h : Bq W B b l) (hk : ∀ (g : Nat) c t fz, W.heap[g]? = some (Obj.cells c t fz) → W'.heap[g]? = some (Obj.cells c t fz)) : Bq W' B b l := by
  obtain ⟨hB, v, hb, ⟨h1, h2⟩, hne⟩ := h
  refine ⟨hB, v, hk _ _ _ _ hb, ⟨h1, ?_⟩, hne⟩
  rcases h2 with h | ⟨g, cap, cur, fz, e, hg, hh, hr⟩
  · exact .inl h
  · exact .inr ⟨g, cap, cur, fz, e, hg, hk _ _ _ _ hh, hr⟩
theorem Bq.lt {W : World} {B b : Nat} {l : List UInt8} (h : Bq W B b l) : b < W.heap.size := by
  obtain ⟨hB, v, hb, _⟩ := h
  exact (Array.getElem?_eq_some_iff.1 hb).1
theorem bytes_app (a : List UInt8) (s : ByteArray) : Lib.byteCells a ++ Lib.strCells s = Lib.byteCells (a ++ s.data.toList) := by
  rw [Lib.strCells_eq]
  unfold Lib.byteCells
  rw [List.map_append]
theorem bytes_len' (l : List UInt8) : (Lib.byteCells l).length = l.length := by simp [Lib.byteCells]
/-- A builder that is new. -/
theorem bq_new (W : World) : Lib.IsBuilderF 76 5 W.heap.size W.heap.size [] (W.alloc (.cells #[.pointer none, .slice none 0 0] 76)) :=
  .inl ⟨Nat.le_refl _, _, heap_alloc_new W _, ⟨rfl, .inl ⟨rfl, rfl⟩⟩, by simp [Value.ownBlock]⟩
theorem write_any {W : World} {B b : Nat} {l : List UInt8} (s : ByteArray) (h : Bq W B b l) (hl : l.length + s.size ≤ 1000000) (hB : B ≤ W.heap.size) :
    Calls Tryd.prog 62 #[.pointer (some ⟨b, 0, none⟩), .string s] W fun e W' => e = .returned (.tuple #[.int .i64 s.size, .nilIface]) ∧ Bq W' B b (l ++ s.data.toList) ∧ Below B W W' ∧ ∀ (k : Nat) o, W.heap[k]? = some o → (∀ c t fz, o ≠ Obj.cells c t fz) → W'.heap[k]? = some o := by
  refine (Builder_WriteString_k B b (Lib.byteCells l) s W (.inr h) (by rw [bytes_len']; omega) hB).mono ?_
  rintro e W' ⟨he, h1, h2, h3⟩
  refine ⟨he, ?_, h2, fun k o hk ho => h3 k o hk ?_ (fun c fz => ho c _ fz)⟩
  · rw [bytes_app] at h1
    exact h1
  · intro e
    obtain ⟨_, v, hb, _⟩ := h
    have e2 : k = b := by simpa using e
    subst e2
    rw [hb] at hk
    exact ho _ _ _ (Option.some.inj hk).symm
theorem setIt_belowB {w W : World} {B b pos : Nat} {s : ByteArray} (hb : B ≤ b) (h : Below B w W) : Below B w (setIt W b s pos) := by
  refine ⟨h.os, h.tape, h.output, by unfold setIt; simp; exact h.size, fun k hk => ?_⟩
  have hne : b ≠ k := by omega
  have : (setIt W b s pos).heap[k]? = W.heap[k]? := by unfold setIt; simp [hne]
  rw [this]
  exact h.block k hk
set_option maxRecDepth 100000 in
set_option maxHeartbeats 3200000 in
theorem quote_any (s : ByteArray) (w : World) (hs : s.size ≤ 70000) :
    Calls Tryd.prog 32 #[.string s] w fun e w' => e = .returned (.string (strB (quoteL s.data.toList))) ∧ Below w.heap.size w w' := by
  obtain ⟨B, HB⟩ : ∃ x, Hid (w.heap.size = x) := ⟨_, Lib.hid rfl⟩
  obtain ⟨L, HL⟩ : ∃ x, Hid (s.data.toList = x) := ⟨_, Lib.hid rfl⟩
  have HLl := Lib.hid (show L.length = s.size from by rw [← HL.out, bytes_len])
  have HN := Lib.hid (bq_new w)
  have HB0 := Lib.hid ((Below.refl w.heap.size w).alloc (Nat.le_refl _) (.cells #[.pointer none, .slice none 0 0] 76))
  obtain ⟨W0, HW0⟩ : ∃ x, Hid (w.alloc (.cells #[.pointer none, .slice none 0 0] 76) = x) := ⟨_, Lib.hid rfl⟩
  rw [HW0.out, HB.out] at HN HB0
  rw [HL.out, HB.out]
  go_enter Tryd.func32, Tryd.ntmps32
  go_upto_region 2 with fail
  rw [HW0.out, HB.out]
  go_wp2_with (go_at_call 61; refine hold ?_)
  refine Hold.mk ?_
  refine (Builder_WriteByte_k B B [] 34 W0 HN.out (by simp) (by rw [← HB.out]; exact HB0.out.size)).mono ?_
  rintro e W1 ⟨rfl, h1, h2, _⟩
  have HQ1 := Lib.hid (show Bq W1 B B (34 :: qb (L.take 0)) from h1)
  have HB1 := Lib.hid (HB0.out.trans h2)
  clear h1 h2
  obtain ⟨WI, HWI⟩ : ∃ x, Hid (W1.iter s 0 = x) := ⟨_, Lib.hid rfl⟩
  obtain ⟨it, Hit⟩ : ∃ x, Hid (W1.heap.size = x) := ⟨_, Lib.hid rfl⟩
  have HI0 := Lib.hid (show WI.heap[it]? = some (.stringIter s 0) ∧ Below B w WI from by rw [← HWI.out, ← Hit.out]; exact ⟨World.iter_heap W1 s 0, HB1.out.alloc (by rw [← HB.out]; exact HB1.out.size) _⟩)
  have HQ0 := Lib.hid (show Bq WI B B (34 :: qb (L.take 0)) from by
    rw [← HWI.out]
    exact Bq.keep HQ1.out (fun g c t fz hg => (heap_alloc_ne (Array.getElem?_eq_some_iff.1 hg).1).trans hg))
  go_upto_region 5 with fail
  rw [HWI.out, Hit.out]
  go_loopg [4, 5, 6, 7] s.size (fun g v4 v5 v6 v7 wr => ∃ pos fr : Nat, fr ≤ pos ∧ pos ≤ s.size ∧ g = s.size - pos ∧ v4 = .int .i64 (fr : Int) ∧ Hid (Bq wr B B (34 :: qb (L.take fr))) ∧ Hid (∀ c ∈ (L.drop fr).take (pos - fr), plainB c) ∧ Hid (wr.heap[it]? = some (.stringIter s pos) ∧ Below B w wr))
  case atStart => exact ⟨0, 0, Nat.le_refl _, Nat.zero_le _, rfl, rfl, HQ0, Lib.hid (fun c hc => by simp at hc), HI0⟩
  case round =>
    obtain ⟨pos, fr, hfr, hpos, rfl, rfl, HQ, HP, HI⟩ := hrel
    by_cases hlt : pos < s.size
    · obtain ⟨W2, HW2⟩ : ∃ W2, Hid (setIt wr it s (pos + (Utf8.decode s pos).2) = W2) := ⟨_, Lib.hid rfl⟩
      have hn := fun ty => run_next_at (P := Tryd.prog) ty HI.out.1 hlt
      rw [HW2.out] at hn
      have HQ2 := Lib.hid (show Bq W2 B B (34 :: qb (L.take fr)) from by
        rw [← HW2.out]
        refine Bq.keep HQ.out (fun g c t fz hg => ?_)
        have hne : it ≠ g := fun e => by rw [← e, HI.out.1] at hg; cases hg
        have h9 : (setIt wr it s (pos + (Utf8.decode s pos).2)).heap[g]? = wr.heap[g]? := by unfold setIt; simp [hne]
        exact h9.trans hg)
      have HI2 := Lib.hid (show W2.heap[it]? = some (.stringIter s (pos + (Utf8.decode s pos).2)) ∧ Below B w W2 from by
        rw [← HW2.out]
        refine ⟨setIt_heap HI.out.1, ?_⟩
        have hle : B ≤ it := by rw [← Hit.out, ← HB.out]; exact HB1.out.size
        exact setIt_belowB hle HI.out.2)
      have hLp : pos < L.length := by rw [HLl.out]; exact hlt
      have hne : L.drop pos ≠ [] := fun e => by have h := congrArg List.length e; rw [List.length_drop, List.length_nil] at h; omega
      have hdp := dec_plain hne
      have hdk := Lib.decodeL_le _ hne
      have hdk1 := Lib.decode_width_pos s pos hlt
      rw [← HL.out, Lib.decodeL_drop] at hdp hdk
      obtain ⟨R, HR⟩ : ∃ R, Hid ((Utf8.decode s pos).1 = R) := ⟨_, Lib.hid rfl⟩
      obtain ⟨k, Hk⟩ : ∃ k, Hid ((Utf8.decode s pos).2 = k) := ⟨_, Lib.hid rfl⟩
      rw [HR.out] at hn hdp
      rw [Hk.out] at hdp hdk hdk1 HI2
      have Hlen := Lib.hid (show pos + k ≤ s.size from by rw [List.length_drop, bytes_len] at hdk; omega)
      have Hk1 := Lib.hid (show 1 ≤ k from hdk1)
      rw [HL.out] at hdp
      have HD := Lib.hid hdp
      clear hdp hdk hdk1 hne
      cases d0 : ((R : Int) == 92) with
      | true =>
        have hRe : R = 92 := by have := of_decide_eq_true d0; omega
        obtain rfl := hRe
        have hk1 : k = 1 := (HD.out.1 (by decide)).1
        subst hk1
        have HC := Lib.hid (show qc (L[pos]'hLp) = [92, 92] from by
          have h := (HD.out.1 (by decide)).2
          rw [List.getD, List.getElem?_drop, Nat.add_zero, List.getElem?_eq_getElem hLp, Option.getD_some] at h
          have e : L[pos]'hLp = 92 := UInt8.toNat_inj.1 (by rw [h]; rfl)
          rw [e]; decide)
        have HS := Lib.hid (qb_step hfr hLp HP.out)
        rw [HC.out] at HS
        obtain ⟨T, hT⟩ : ∃ T, s.extract fr pos = T := ⟨_, rfl⟩
        have HTl := Lib.hid (show T.data.toList = (L.drop fr).take (pos - fr) from by rw [← hT, extract_at, strB_toList, HL.out])
        have hTs : T.size ≤ 70000 := by rw [← hT, ByteArray.size_extract]; omega
        obtain ⟨p1, Hp1⟩ : ∃ x, Hid (pos + 1 = x) := ⟨_, Lib.hid rfl⟩
        rw [Hp1.out] at HI2 HS
        have hwp : IntKind.i64.wrap ((pos : Int) + 1) = (p1 : Int) := by rw [IntKind.wrap_i64, ← Hp1.out]; omega
        have hfpI : (fr : Int) ≤ (pos : Int) := by omega
        have hpsI : (pos : Int) ≤ (s.size : Int) := by omega
        have henc : Utf8.encode 92 = (⟨#[92]⟩ : ByteArray) := by kernel_rfl
        have henc2 : (⟨#[92]⟩ : ByteArray) ++ (⟨#[92]⟩ : ByteArray) = ⟨#[92, 92]⟩ := by kernel_rfl
        have HWr := Lib.hid (write_any (T ++ ⟨#[92, 92]⟩) HQ2.out (by have h := qb_len (L.take fr); rw [List.length_take] at h; rw [ByteArray.size_append, List.length_cons]; have h2 : (⟨#[92, 92]⟩ : ByteArray).size = 2 := rfl; omega) (by rw [← HB.out]; exact HI2.out.2.size))
        go_wp2_with (go_at_call 62; refine hold ?_)
        refine Hold.mk ?_
        refine HWr.out.mono ?_
        rintro e W3 ⟨rfl, h1, h2, h3⟩
        have HQ3 := Lib.hid (show Bq W3 B B (34 :: qb (L.take p1)) from by
          rw [HS.out, ← HTl.out]
          have e : (T ++ ⟨#[92, 92]⟩).data.toList = T.data.toList ++ [92, 92] := by simp
          rw [e] at h1
          exact h1)
        have HI3 := Lib.hid (show W3.heap[it]? = some (.stringIter s p1) ∧ Below B w W3 from ⟨h3 it _ HI2.out.1 (fun c t fz e => by cases e), HI2.out.2.trans h2⟩)
        clear h1 h2 h3
        go_wp2_with fail
        go_roundg (s.size - p1)
        case measure => have := Hp1.out; omega
        case rel => exact ⟨p1, p1, Nat.le_refl _, by have := Hp1.out; omega, rfl, rfl, HQ3, Lib.hid (fun c hc => by rw [Nat.sub_self] at hc; simp at hc), HI3⟩
      | false =>
        cases d1 : ((R : Int) == 34) with
        | true =>
          have hRe : R = 34 := by have := of_decide_eq_true d1; omega
          obtain rfl := hRe
          have hk1 : k = 1 := (HD.out.1 (by decide)).1
          subst hk1
          have HC := Lib.hid (show qc (L[pos]'hLp) = [92, 34] from by
            have h := (HD.out.1 (by decide)).2
            rw [List.getD, List.getElem?_drop, Nat.add_zero, List.getElem?_eq_getElem hLp, Option.getD_some] at h
            have e : L[pos]'hLp = 34 := UInt8.toNat_inj.1 (by rw [h]; rfl)
            rw [e]; decide)
          have HS := Lib.hid (qb_step hfr hLp HP.out)
          rw [HC.out] at HS
          obtain ⟨T, hT⟩ : ∃ T, s.extract fr pos = T := ⟨_, rfl⟩
          have HTl := Lib.hid (show T.data.toList = (L.drop fr).take (pos - fr) from by rw [← hT, extract_at, strB_toList, HL.out])
          have hTs : T.size ≤ 70000 := by rw [← hT, ByteArray.size_extract]; omega
          obtain ⟨p1, Hp1⟩ : ∃ x, Hid (pos + 1 = x) := ⟨_, Lib.hid rfl⟩
          rw [Hp1.out] at HI2 HS
          have hwp : IntKind.i64.wrap ((pos : Int) + 1) = (p1 : Int) := by rw [IntKind.wrap_i64, ← Hp1.out]; omega
          have hfpI : (fr : Int) ≤ (pos : Int) := by omega
          have hpsI : (pos : Int) ≤ (s.size : Int) := by omega
          have henc : Utf8.encode 34 = (⟨#[34]⟩ : ByteArray) := by kernel_rfl
          have henc2 : (⟨#[92]⟩ : ByteArray) ++ (⟨#[34]⟩ : ByteArray) = ⟨#[92, 34]⟩ := by kernel_rfl
          have HWr := Lib.hid (write_any (T ++ ⟨#[92, 34]⟩) HQ2.out (by have h := qb_len (L.take fr); rw [List.length_take] at h; rw [ByteArray.size_append, List.length_cons]; have h2 : (⟨#[92, 34]⟩ : ByteArray).size = 2 := rfl; omega) (by rw [← HB.out]; exact HI2.out.2.size))
          go_wp2_with (go_at_call 62; refine hold ?_)
          refine Hold.mk ?_
          refine HWr.out.mono ?_
          rintro e W3 ⟨rfl, h1, h2, h3⟩
          have HQ3 := Lib.hid (show Bq W3 B B (34 :: qb (L.take p1)) from by
            rw [HS.out, ← HTl.out]
            have e : (T ++ ⟨#[92, 34]⟩).data.toList = T.data.toList ++ [92, 34] := by simp
            rw [e] at h1
            exact h1)
          have HI3 := Lib.hid (show W3.heap[it]? = some (.stringIter s p1) ∧ Below B w W3 from ⟨h3 it _ HI2.out.1 (fun c t fz e => by cases e), HI2.out.2.trans h2⟩)
          clear h1 h2 h3
          go_wp2_with fail
          go_roundg (s.size - p1)
          case measure => have := Hp1.out; omega
          case rel => exact ⟨p1, p1, Nat.le_refl _, by have := Hp1.out; omega, rfl, rfl, HQ3, Lib.hid (fun c hc => by rw [Nat.sub_self] at hc; simp at hc), HI3⟩
        | false =>
          cases d2 : ((R : Int) == 10) with
          | true =>
            have hRe : R = 10 := by have := of_decide_eq_true d2; omega
            obtain rfl := hRe
            have hk1 : k = 1 := (HD.out.1 (by decide)).1
            subst hk1
            have HC := Lib.hid (show qc (L[pos]'hLp) = [92, 110] from by
              have h := (HD.out.1 (by decide)).2
              rw [List.getD, List.getElem?_drop, Nat.add_zero, List.getElem?_eq_getElem hLp, Option.getD_some] at h
              have e : L[pos]'hLp = 10 := UInt8.toNat_inj.1 (by rw [h]; rfl)
              rw [e]; decide)
            have HS := Lib.hid (qb_step hfr hLp HP.out)
            rw [HC.out] at HS
            obtain ⟨T, hT⟩ : ∃ T, s.extract fr pos = T := ⟨_, rfl⟩
            have HTl := Lib.hid (show T.data.toList = (L.drop fr).take (pos - fr) from by rw [← hT, extract_at, strB_toList, HL.out])
            have hTs : T.size ≤ 70000 := by rw [← hT, ByteArray.size_extract]; omega
            obtain ⟨p1, Hp1⟩ : ∃ x, Hid (pos + 1 = x) := ⟨_, Lib.hid rfl⟩
            rw [Hp1.out] at HI2 HS
            have hwp : IntKind.i64.wrap ((pos : Int) + 1) = (p1 : Int) := by rw [IntKind.wrap_i64, ← Hp1.out]; omega
            have hfpI : (fr : Int) ≤ (pos : Int) := by omega
            have hpsI : (pos : Int) ≤ (s.size : Int) := by omega
            have HWr := Lib.hid (write_any (T ++ ⟨#[92, 110]⟩) HQ2.out (by have h := qb_len (L.take fr); rw [List.length_take] at h; rw [ByteArray.size_append, List.length_cons]; have h2 : (⟨#[92, 110]⟩ : ByteArray).size = 2 := rfl; omega) (by rw [← HB.out]; exact HI2.out.2.size))
            go_wp2_with (go_at_call 62; refine hold ?_)
            refine Hold.mk ?_
            refine HWr.out.mono ?_
            rintro e W3 ⟨rfl, h1, h2, h3⟩
            have HQ3 := Lib.hid (show Bq W3 B B (34 :: qb (L.take p1)) from by
              rw [HS.out, ← HTl.out]
              have e : (T ++ ⟨#[92, 110]⟩).data.toList = T.data.toList ++ [92, 110] := by simp
              rw [e] at h1
              exact h1)
            have HI3 := Lib.hid (show W3.heap[it]? = some (.stringIter s p1) ∧ Below B w W3 from ⟨h3 it _ HI2.out.1 (fun c t fz e => by cases e), HI2.out.2.trans h2⟩)
            clear h1 h2 h3
            go_wp2_with fail
            go_roundg (s.size - p1)
            case measure => have := Hp1.out; omega
            case rel => exact ⟨p1, p1, Nat.le_refl _, by have := Hp1.out; omega, rfl, rfl, HQ3, Lib.hid (fun c hc => by rw [Nat.sub_self] at hc; simp at hc), HI3⟩
          | false =>
            cases d3 : ((R : Int) == 9) with
            | true =>
              have hRe : R = 9 := by have := of_decide_eq_true d3; omega
              obtain rfl := hRe
              have hk1 : k = 1 := (HD.out.1 (by decide)).1
              subst hk1
              have HC := Lib.hid (show qc (L[pos]'hLp) = [92, 116] from by
                have h := (HD.out.1 (by decide)).2
                rw [List.getD, List.getElem?_drop, Nat.add_zero, List.getElem?_eq_getElem hLp, Option.getD_some] at h
                have e : L[pos]'hLp = 9 := UInt8.toNat_inj.1 (by rw [h]; rfl)
                rw [e]; decide)
              have HS := Lib.hid (qb_step hfr hLp HP.out)
              rw [HC.out] at HS
              obtain ⟨T, hT⟩ : ∃ T, s.extract fr pos = T := ⟨_, rfl⟩
              have HTl := Lib.hid (show T.data.toList = (L.drop fr).take (pos - fr) from by rw [← hT, extract_at, strB_toList, HL.out])
              have hTs : T.size ≤ 70000 := by rw [← hT, ByteArray.size_extract]; omega
              obtain ⟨p1, Hp1⟩ : ∃ x, Hid (pos + 1 = x) := ⟨_, Lib.hid rfl⟩
              rw [Hp1.out] at HI2 HS
              have hwp : IntKind.i64.wrap ((pos : Int) + 1) = (p1 : Int) := by rw [IntKind.wrap_i64, ← Hp1.out]; omega
              have hfpI : (fr : Int) ≤ (pos : Int) := by omega
              have hpsI : (pos : Int) ≤ (s.size : Int) := by omega
              have HWr := Lib.hid (write_any (T ++ ⟨#[92, 116]⟩) HQ2.out (by have h := qb_len (L.take fr); rw [List.length_take] at h; rw [ByteArray.size_append, List.length_cons]; have h2 : (⟨#[92, 116]⟩ : ByteArray).size = 2 := rfl; omega) (by rw [← HB.out]; exact HI2.out.2.size))
              go_wp2_with (go_at_call 62; refine hold ?_)
              refine Hold.mk ?_
              refine HWr.out.mono ?_
              rintro e W3 ⟨rfl, h1, h2, h3⟩
              have HQ3 := Lib.hid (show Bq W3 B B (34 :: qb (L.take p1)) from by
                rw [HS.out, ← HTl.out]
                have e : (T ++ ⟨#[92, 116]⟩).data.toList = T.data.toList ++ [92, 116] := by simp
                rw [e] at h1
                exact h1)
              have HI3 := Lib.hid (show W3.heap[it]? = some (.stringIter s p1) ∧ Below B w W3 from ⟨h3 it _ HI2.out.1 (fun c t fz e => by cases e), HI2.out.2.trans h2⟩)
              clear h1 h2 h3
              go_wp2_with fail
              go_roundg (s.size - p1)
              case measure => have := Hp1.out; omega
              case rel => exact ⟨p1, p1, Nat.le_refl _, by have := Hp1.out; omega, rfl, rfl, HQ3, Lib.hid (fun c hc => by rw [Nat.sub_self] at hc; simp at hc), HI3⟩
            | false =>
              have HP2 := Lib.hid (show ∀ c ∈ (L.drop fr).take (pos + k - fr), plainB c from by
                have h2 := HD.out.2 (fun h => by subst h; simp at d0) (fun h => by subst h; simp at d1) (fun h => by subst h; simp at d2) (fun h => by subst h; simp at d3)
                intro c hc
                have e : (L.drop fr).take (pos + k - fr) = (L.drop fr).take (pos - fr) ++ (L.drop pos).take k := by
                  rw [show pos + k - fr = (pos - fr) + k by omega, List.take_add, List.drop_drop, show fr + (pos - fr) = pos by omega]
                rw [e] at hc
                rcases List.mem_append.1 hc with h | h
                · exact HP.out c h
                · exact h2 c h)
              go_wp2_with fail
              go_roundg (s.size - (pos + k))
              case measure => have := Hk1.out; have := Hlen.out; omega
              case rel => exact ⟨pos + k, fr, by omega, Hlen.out, rfl, rfl, HQ2, HP2, HI2⟩
    · have hnx := fun ty => run_next_stop (P := Tryd.prog) ty HI.out.1 hlt
      have hpe : pos = L.length := by rw [HLl.out]; omega
      obtain ⟨T, hT⟩ : ∃ T, s.extract fr s.size = T := ⟨_, rfl⟩
      have HTl := Lib.hid (show T.data.toList = (L.drop fr).take (pos - fr) from by rw [← hT, extract_at, strB_toList, HL.out, hpe, HLl.out])
      have HS := Lib.hid (qb_split hfr HP.out)
      rw [hpe, List.take_length, ← hpe, ← HTl.out] at HS
      have hTs : T.size ≤ 70000 := by rw [← hT, ByteArray.size_extract]; omega
      have hfpI : (fr : Int) ≤ (s.size : Int) := by omega
      have HWr := Lib.hid (write_any (T ++ ⟨#[34]⟩) HQ.out (by have h := qb_len (L.take fr); rw [List.length_take] at h; rw [ByteArray.size_append, List.length_cons]; have h2 : (⟨#[34]⟩ : ByteArray).size = 1 := rfl; omega) (by rw [← HB.out]; exact HI.out.2.size))
      clear hpe
      go_wp2_with (go_at_call 62; refine hold ?_)
      refine Hold.mk ?_
      refine HWr.out.mono ?_
      rintro e W3 ⟨rfl, h1, h2, _⟩
      have HQ3 := Lib.hid (show Bq W3 B B (quoteL L) from by
        have e : (T ++ ⟨#[34]⟩).data.toList = T.data.toList ++ [34] := by simp
        rw [e] at h1
        unfold quoteL
        rw [HS.out, List.append_assoc]
        exact h1)
      have HB3 := Lib.hid (HI.out.2.trans h2)
      clear h1 h2
      go_wp2_with (go_at_call 60; refine hold ?_)
      refine Hold.mk ?_
      refine (Builder_String_k B B (quoteL L) W3 (.inr HQ3.out) (by rw [← HB.out]; exact HB3.out.size)).mono ?_
      rintro e W4 ⟨rfl, _, h2, _⟩
      have HB4 := Lib.hid (HB3.out.trans h2)
      clear h2
      go_wp2_with fail
      go_ret
      exact ⟨rfl, HB4.out⟩
set_option maxRecDepth 100000 in
set_option maxHeartbeats 3200000 in
theorem rquote_any (s : ByteArray) (w : World) (hs : s.size ≤ 70000) :
    Calls Tryd.prog 34 #[.string s] w fun e w' => e = .returned (.string (strB (quoteL s.data.toList))) ∧ Below w.heap.size w w' := by
  obtain ⟨B, HB⟩ : ∃ x, Hid (w.heap.size = x) := ⟨_, Lib.hid rfl⟩
  obtain ⟨L, HL⟩ : ∃ x, Hid (s.data.toList = x) := ⟨_, Lib.hid rfl⟩
  have HLl := Lib.hid (show L.length = s.size from by rw [← HL.out, bytes_len])
  have HSs := Lib.hid hs
  obtain ⟨W0, HW0⟩ : ∃ x, Hid (w.alloc (.cells #[.int .u8 34] 5) = x) := ⟨_, Lib.hid rfl⟩
  have HB0 := Lib.hid (show Below B w W0 from by rw [← HW0.out, ← HB.out]; exact (Below.refl w.heap.size w).alloc (Nat.le_refl _) _)
  have HO0 := Lib.hid (show Out W0 B (.slice (some ⟨B, 0, none⟩) 1 1) (34 :: qb (L.take 0)) from by
    rw [← HW0.out, ← HB.out]
    exact ⟨rfl, .inr ⟨_, 1, _, rfl, Nat.le_refl _, heap_alloc_new w _, Nat.le_refl _, by unfold maxLen; omega, rfl, rfl⟩⟩)
  rw [HL.out, HB.out]
  clear hs
  go_enter Tryd.func34, Tryd.ntmps34
  go_upto_region 3 with fail
  rw [HW0.out, HB.out]
  go_loopg [3, 4] s.size (fun g v3 v4 wr => ∃ i : Nat, v4 = .int .i64 (i : Int) ∧ g + i = s.size ∧ Hid (Out wr B v3 (34 :: qb (L.take i))) ∧ Hid (Below B w wr))
  case atStart => exact ⟨0, rfl, rfl, HO0, HB0⟩
  case round =>
    obtain ⟨i, rfl, hg, HO, HW⟩ := hrel
    by_cases hi : i < s.size
    · have hiI : (i : Int) < (s.size : Int) := by omega
      have hiL : i < L.length := by rw [HLl.out]; exact hi
      obtain ⟨j, Hj⟩ : ∃ j, Hid (i + 1 = j) := ⟨_, Lib.hid rfl⟩
      have hw : IntKind.i64.wrap ((i : Int) + 1) = (j : Int) := by rw [IntKind.wrap_i64, ← Hj.out]; have := HSs.out; omega
      obtain ⟨z, hz⟩ : ∃ z, s[i].toNat = z := ⟨_, rfl⟩
      have HZ := Lib.hid (show (L[i]'hiL).toNat = z from by rw [← hz]; simp only [← HL.out]; simp; rfl)
      have HT := Lib.hid (show qb (L.take j) = qb (L.take i) ++ qc (L[i]'hiL) from by
        have h := qb_step (f := i) (p := i) (Nat.le_refl _) hiL (fun c hc => by rw [Nat.sub_self] at hc; simp at hc)
        rw [← Hj.out, h, Nat.sub_self, List.take_zero, List.nil_append])
      have HBw := Lib.hid (show B ≤ wr.heap.size from by rw [← HB.out]; exact HW.out.size)
      have Hol := Lib.hid (show (34 :: qb (L.take i)).length ≤ 1000000 from by have h := qb_len (L.take i); rw [List.length_take] at h; rw [List.length_cons]; have := HSs.out; omega)
      cases d0 : ((z : Int) == 92) with
      | true =>
        have hze : z = 92 := by have := of_decide_eq_true d0; omega
        obtain rfl := hze
        have HQ := Lib.hid (show qb (L.take j) = qb (L.take i) ++ [92, 92] from by
          rw [HT.out]
          congr 1
          rw [show L[i]'(by rw [HLl.out]; exact hi) = 92 from UInt8.toNat_inj.1 (by rw [HZ.out]; rfl)]; decide)
        go_wp2_with (at_builtin; refine hold ?_)
        refine Hold.mk ?_
        refine wpList_byte2 (v := u3) (u1 := 92) (u2 := 92) rfl _ _ rfl rfl rfl HBw.out HO.out rfl rfl Hol.out ?_
        intro g1 cap w' h1 h2
        have HO2 := Lib.hid (show Out w' B (.slice (some ⟨g1, 0, none⟩) ((34 :: qb (L.take i)).length + 2) cap) (34 :: qb (L.take j)) from by rw [HQ.out]; exact h2)
        have HW2 := Lib.hid (HW.out.trans h1)
        clear h1 h2
        go_wp2_with fail
        go_roundg (s.size - j)
        case measure => have := Hj.out; omega
        case rel => exact ⟨j, rfl, by have := Hj.out; omega, HO2, HW2⟩
      | false =>
        cases d1 : ((z : Int) == 34) with
        | true =>
          have hze : z = 34 := by have := of_decide_eq_true d1; omega
          obtain rfl := hze
          have HQ := Lib.hid (show qb (L.take j) = qb (L.take i) ++ [92, 34] from by
            rw [HT.out]
            congr 1
            rw [show L[i]'(by rw [HLl.out]; exact hi) = 34 from UInt8.toNat_inj.1 (by rw [HZ.out]; rfl)]; decide)
          go_wp2_with (at_builtin; refine hold ?_)
          refine Hold.mk ?_
          refine wpList_byte2 (v := u3) (u1 := 92) (u2 := 34) rfl _ _ rfl rfl rfl HBw.out HO.out rfl rfl Hol.out ?_
          intro g1 cap w' h1 h2
          have HO2 := Lib.hid (show Out w' B (.slice (some ⟨g1, 0, none⟩) ((34 :: qb (L.take i)).length + 2) cap) (34 :: qb (L.take j)) from by rw [HQ.out]; exact h2)
          have HW2 := Lib.hid (HW.out.trans h1)
          clear h1 h2
          go_wp2_with fail
          go_roundg (s.size - j)
          case measure => have := Hj.out; omega
          case rel => exact ⟨j, rfl, by have := Hj.out; omega, HO2, HW2⟩
        | false =>
          cases d2 : ((z : Int) == 10) with
          | true =>
            have hze : z = 10 := by have := of_decide_eq_true d2; omega
            obtain rfl := hze
            have HQ := Lib.hid (show qb (L.take j) = qb (L.take i) ++ [92, 110] from by
              rw [HT.out]
              congr 1
              rw [show L[i]'(by rw [HLl.out]; exact hi) = 10 from UInt8.toNat_inj.1 (by rw [HZ.out]; rfl)]; decide)
            go_wp2_with (at_builtin; refine hold ?_)
            refine Hold.mk ?_
            refine wpList_byte2 (v := u3) (u1 := 92) (u2 := 110) rfl _ _ rfl rfl rfl HBw.out HO.out rfl rfl Hol.out ?_
            intro g1 cap w' h1 h2
            have HO2 := Lib.hid (show Out w' B (.slice (some ⟨g1, 0, none⟩) ((34 :: qb (L.take i)).length + 2) cap) (34 :: qb (L.take j)) from by rw [HQ.out]; exact h2)
            have HW2 := Lib.hid (HW.out.trans h1)
            clear h1 h2
            go_wp2_with fail
            go_roundg (s.size - j)
            case measure => have := Hj.out; omega
            case rel => exact ⟨j, rfl, by have := Hj.out; omega, HO2, HW2⟩
          | false =>
            cases d3 : ((z : Int) == 9) with
            | true =>
              have hze : z = 9 := by have := of_decide_eq_true d3; omega
              obtain rfl := hze
              have HQ := Lib.hid (show qb (L.take j) = qb (L.take i) ++ [92, 116] from by
                rw [HT.out]
                congr 1
                rw [show L[i]'(by rw [HLl.out]; exact hi) = 9 from UInt8.toNat_inj.1 (by rw [HZ.out]; rfl)]; decide)
              go_wp2_with (at_builtin; refine hold ?_)
              refine Hold.mk ?_
              refine wpList_byte2 (v := u3) (u1 := 92) (u2 := 116) rfl _ _ rfl rfl rfl HBw.out HO.out rfl rfl Hol.out ?_
              intro g1 cap w' h1 h2
              have HO2 := Lib.hid (show Out w' B (.slice (some ⟨g1, 0, none⟩) ((34 :: qb (L.take i)).length + 2) cap) (34 :: qb (L.take j)) from by rw [HQ.out]; exact h2)
              have HW2 := Lib.hid (HW.out.trans h1)
              clear h1 h2
              go_wp2_with fail
              go_roundg (s.size - j)
              case measure => have := Hj.out; omega
              case rel => exact ⟨j, rfl, by have := Hj.out; omega, HO2, HW2⟩
            | false =>
              obtain ⟨x, Hx⟩ : ∃ x, Hid (L[i]'(by rw [HLl.out]; exact hi) = x) := ⟨_, Lib.hid rfl⟩
              have HZx := Lib.hid (show (z : Int) = (x.toNat : Int) from by rw [← HZ.out, Hx.out])
              have HPl := Lib.hid (show plainB x from by
                have h := HZ.out
                rw [Hx.out] at h
                refine ⟨fun e => ?_, fun e => ?_, fun e => ?_, fun e => ?_⟩ <;> (rw [e] at h; subst h)
                · exact absurd d0 (by decide)
                · exact absurd d1 (by decide)
                · exact absurd d2 (by decide)
                · exact absurd d3 (by decide))
              have HQ := Lib.hid (show qb (L.take j) = qb (L.take i) ++ [x] from by
                rw [HT.out]
                congr 1
                rw [Hx.out]; exact qc_plain HPl.out)
              go_wp2_with (at_builtin; refine hold ?_)
              refine Hold.mk ?_
              refine wpList_byte (v := u3) (u := x) rfl _ _ rfl rfl rfl HBw.out HO.out HZx.out Hol.out ?_
              intro g1 cap w' h1 h2
              have HO2 := Lib.hid (show Out w' B (.slice (some ⟨g1, 0, none⟩) ((34 :: qb (L.take i)).length + 1) cap) (34 :: qb (L.take j)) from by rw [HQ.out]; exact h2)
              have HW2 := Lib.hid (HW.out.trans h1)
              clear h1 h2
              go_wp2_with fail
              go_roundg (s.size - j)
              case measure => have := Hj.out; omega
              case rel => exact ⟨j, rfl, by have := Hj.out; omega, HO2, HW2⟩
    · have hiI : decide ((i : Int) < (s.size : Int)) = false := decide_eq_false (by omega)
      have hie : i = L.length := by rw [HLl.out]; omega
      rw [hie, List.take_length] at HO
      have Hol := Lib.hid (show (34 :: qb L).length ≤ 1000000 from by have h := qb_len L; rw [List.length_cons]; have := HSs.out; have := HLl.out; omega)
      clear hie
      go_wp2_with (at_builtin; refine hold ?_)
      refine Hold.mk ?_
      refine wpList_byte (v := u3) (u := 34) rfl _ _ rfl rfl rfl (by rw [← HB.out]; exact HW.out.size) HO.out rfl Hol.out ?_
      intro g1 cap w' h1 h2
      have HO2 := Lib.hid (show Out w' B (.slice (some ⟨g1, 0, none⟩) ((34 :: qb L).length + 1) cap) (quoteL L) from h2)
      have HW2 := Lib.hid (HW.out.trans h1)
      clear h1 h2
      go_wp2_with (refine wpList_strB rfl _ rfl rfl HO2.out ?_)
      go_wp2_with fail
      go_ret
      exact ⟨rfl, HW2.out⟩
end Go.Proofs.YtahgbbnpbhfaeaaDoor.Qt
