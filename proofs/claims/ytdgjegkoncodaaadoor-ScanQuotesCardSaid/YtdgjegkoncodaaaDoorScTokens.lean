/- The walks of ScanTokens and ScanRemarks. Conditions: what the library's variables hold. -/
import Derived.Test.YtdgjegkoncodaaaDoorScSame
import Derived.Test.YtdgjegkoncodaaaDoorRsSize3
namespace Go.Proofs.YtdgjegkoncodaaaDoor
open Go.RowKit

set_option maxRecDepth 100000 in
set_option maxHeartbeats 1600000 in
theorem scanTokens_any (s : ByteArray) {w : World} (hL : Lay w) : Calls Tryd.prog 3 #[.string s] w fun e w' => e = .returned (.bool true) ∧ Below w.heap.size w w' := by
  have HA := Lib.hid (fun (W : World) (h : Lay W) => aw_any h)
  have HLw := Lib.hid hL
  clear hL
  by_cases hb : (4000 : Int) < (s.size : Int)
  · go_enter Tryd.func3, Tryd.ntmps3
    go_wp2_with (go_at_call 12; refine hold ?_)
    refine Hold.mk ?_
    refine (HA.out _ HLw.out).mono ?_
    rintro e W5 ⟨rfl, hb⟩
    have HB5 := Lib.hid hb
    clear hb
    go_wp2_with fail
    go_ret
    exact ⟨rfl, HB5.out⟩
  · have hbf : decide ((4000 : Int) < (s.size : Int)) = false := decide_eq_false hb
    have HT := Lib.hid (fun (W : World) (h : Lay W) => tokens_lay s h)
    have HU := Lib.hid (fun (W : World) => rtokens_any (w := W) (rval_any s))
    obtain ⟨T, HTt⟩ : ∃ t, Hid (resT (scanAll s.data.toList) = t) := ⟨_, Lib.hid rfl⟩
    rw [HTt.out] at HT HU
    obtain ⟨k0, Hk0⟩ : ∃ x, Hid (T.1 = x) := ⟨_, Lib.hid rfl⟩
    obtain ⟨a0, Ha0⟩ : ∃ x, Hid (T.2.1 = x) := ⟨_, Lib.hid rfl⟩
    clear hb
    go_enter Tryd.func3, Tryd.ntmps3
    go_wp2_with (go_at_call 13; refine hold ?_)
    refine Hold.mk ?_
    refine (HT.out _ HLw.out).mono ?_
    rintro e W1 ⟨⟨tv, rfl, hr⟩, hb⟩
    rw [Hk0.out, Ha0.out]
    obtain ⟨W2, HW2⟩ : ∃ W2, Hid (W1.alloc (.cells #[.int .i64 k0, .string ⟨#[]⟩, .int .i64 a0] 25) = W2) := ⟨_, Lib.hid rfl⟩
    obtain ⟨b4, Hb4⟩ : ∃ b, Hid (W1.heap.size = b) := ⟨_, Lib.hid rfl⟩
    have HB12 := Lib.hid (show Below W1.heap.size W1 W2 from by rw [← HW2.out]; exact (Below.refl _ W1).alloc (Nat.le_refl _) _)
    have HB2 := Lib.hid (hb.trans (Below.mono HB12.out hb.size))
    have HV2 := Lib.hid ((TokV.of hr).go HB12.out)
    have G4 := Lib.hid (show W2.heap[b4]? = some (.cells #[.int .i64 k0, .string ⟨#[]⟩, .int .i64 a0] 25 (0, 0)) from by rw [← HW2.out, ← Hb4.out]; exact heap_alloc_new W1 _)
    clear hr hb
    go_upto_region 4 with fail
    rw [HW2.out, Hb4.out]
    go_wp2_with (go_at_call 14; refine hold ?_)
    refine Hold.mk ?_
    refine (HU.out _).mono ?_
    rintro e W3 ⟨⟨tu, rfl, hr⟩, hb⟩
    rw [Hk0.out, Ha0.out]
    obtain ⟨W4, HW4⟩ : ∃ W2, Hid (W3.alloc (.cells #[.int .i64 k0, .string ⟨#[]⟩, .int .i64 a0] 25) = W2) := ⟨_, Lib.hid rfl⟩
    obtain ⟨b6, Hb6⟩ : ∃ b, Hid (W3.heap.size = b) := ⟨_, Lib.hid rfl⟩
    have HB34 := Lib.hid (show Below W3.heap.size W3 W4 from by rw [← HW4.out]; exact (Below.refl _ W3).alloc (Nat.le_refl _) _)
    have HB24 := Lib.hid (hb.trans (Below.mono HB34.out hb.size))
    have HB4 := Lib.hid (HB2.out.trans (Below.mono HB24.out HB2.out.size))
    have HV4 := Lib.hid (HV2.out.go HB24.out)
    have HU4 := Lib.hid ((TokV.of hr).go HB34.out)
    have G6 := Lib.hid (show W4.heap[b6]? = some (.cells #[.int .i64 k0, .string ⟨#[]⟩, .int .i64 a0] 25 (0, 0)) from by rw [← HW4.out, ← Hb6.out]; exact heap_alloc_new W3 _)
    have K4 : W4.heap[b4]? = some (.cells #[.int .i64 k0, .string ⟨#[]⟩, .int .i64 a0] 25 (0, 0)) := (HB24.out.block b4 (Array.getElem?_eq_some_iff.1 G4.out).1).trans G4.out
    have h40 : W4.cell? ⟨b4, 0, none⟩ = some (.int .i64 k0) := by simp only [World.cell?, K4]; rfl
    have h41 : W4.cell? ⟨b4, 1, none⟩ = some (.string ⟨#[]⟩) := by simp only [World.cell?, K4]; rfl
    have h42 : W4.cell? ⟨b4, 2, none⟩ = some (.int .i64 a0) := by simp only [World.cell?, K4]; rfl
    have h60 : W4.cell? ⟨b6, 0, none⟩ = some (.int .i64 k0) := by simp only [World.cell?, G6.out]; rfl
    have h61 : W4.cell? ⟨b6, 1, none⟩ = some (.string ⟨#[]⟩) := by simp only [World.cell?, G6.out]; rfl
    have h62 : W4.cell? ⟨b6, 2, none⟩ = some (.int .i64 a0) := by simp only [World.cell?, G6.out]; rfl
    clear hr hb K4
    go_upto_region 5 with fail
    rw [HW4.out, Hb6.out]
    go_wp2_with (go_at_call 15; refine hold ?_)
    refine Hold.mk ?_
    refine (same_any HV4.out HU4.out).mono ?_
    rintro e W5 ⟨rfl, m, rfl⟩
    have HL5 := Lib.hid (show Lay (W4.drewN m) from HLw.out.go ⟨HB4.out.os, HB4.out.tape, HB4.out.output, HB4.out.size, HB4.out.block⟩)
    have HB5 := Lib.hid (show Below w.heap.size w (W4.drewN m) from ⟨HB4.out.os, HB4.out.tape, HB4.out.output, HB4.out.size, HB4.out.block⟩)
    go_wp2_with (go_at_call 12; refine hold ?_)
    refine Hold.mk ?_
    refine (HA.out _ HL5.out).mono ?_
    rintro e W6 ⟨rfl, hb⟩
    have HB6 := Lib.hid (HB5.out.trans (Below.mono hb HB5.out.size))
    clear hb
    go_wp2_with fail
    go_ret
    exact ⟨rfl, HB6.out⟩
set_option maxRecDepth 100000 in
set_option maxHeartbeats 1600000 in
theorem scanRemarks_any (s : ByteArray) {w : World} (hL : Lay w) : Calls Tryd.prog 8 #[.string s] w fun e w' => e = .returned (.bool true) ∧ Below w.heap.size w w' := by
  have HA := Lib.hid (fun (W : World) (h : Lay W) => aw_any h)
  have HLw := Lib.hid hL
  clear hL
  by_cases hb : (4000 : Int) < (s.size : Int)
  · go_enter Tryd.func8, Tryd.ntmps8
    go_wp2_with (go_at_call 12; refine hold ?_)
    refine Hold.mk ?_
    refine (HA.out _ HLw.out).mono ?_
    rintro e W5 ⟨rfl, hb⟩
    have HB5 := Lib.hid hb
    clear hb
    go_wp2_with fail
    go_ret
    exact ⟨rfl, HB5.out⟩
  · have hbf : decide ((4000 : Int) < (s.size : Int)) = false := decide_eq_false hb
    have HT := Lib.hid (fun (W : World) (h : Lay W) => comments_lay s h)
    have HU := Lib.hid (fun (W : World) => rcomments_any (w := W) (rval_any s))
    obtain ⟨T, HTt⟩ : ∃ t, Hid (resT (scanAll s.data.toList) = t) := ⟨_, Lib.hid rfl⟩
    rw [HTt.out] at HT HU
    obtain ⟨c, Hc⟩ : ∃ x, Hid (T.2.2.2 = x) := ⟨_, Lib.hid rfl⟩
    obtain ⟨n, Hn⟩ : ∃ x, Hid (c.length = x) := ⟨_, Lib.hid rfl⟩
    clear hb
    go_enter Tryd.func8, Tryd.ntmps8
    go_wp2_with (go_at_call 20; refine hold ?_)
    refine Hold.mk ?_
    refine (HT.out _ HLw.out).mono ?_
    rintro e W2 ⟨⟨tv, rfl, hr⟩, hb⟩
    have HB2 := Lib.hid hb
    have HV2 := Lib.hid (SpanV.of hr)
    clear hr hb
    go_wp2_with (go_at_call 21; refine hold ?_)
    refine Hold.mk ?_
    refine (HU.out _).mono ?_
    rintro e W4 ⟨⟨tu, rfl, hr⟩, hb⟩
    have HB4 := Lib.hid (HB2.out.trans (Below.mono hb HB2.out.size))
    have HV4 := Lib.hid (HV2.out.go hb)
    have HU4 := Lib.hid (SpanV.of hr)
    clear hr hb
    rw [Hc.out] at HV4 HU4
    obtain ⟨a1, cap1, rfl, hm, R1⟩ := HV4.out
    obtain ⟨a2, cap2, rfl, _, R2⟩ := HU4.out
    have HR1 := Lib.hid R1
    have HR2 := Lib.hid R2
    rw [Hn.out] at hm ⊢
    have hmI : (n : Int) ≤ 9223372036854775807 := by unfold maxLen at hm; omega
    clear R1 R2 hm
    go_wp2_with fail
    go_loopg [5] n (fun g v5 wr => ∃ (i m : Nat), v5 = .int .i64 (i : Int) ∧ g + i = n ∧ wr = W4.drewN m)
    case atStart => exact ⟨0, 0, rfl, rfl, rfl⟩
    case round =>
      obtain ⟨i, m, rfl, hg, rfl⟩ := hrel
      by_cases hin : i < n
      · have hinI : (i : Int) < (n : Int) := by omega
        obtain ⟨g1, rfl, _, c10, c11⟩ := HR1.out i (by rw [Hn.out]; exact hin)
        obtain ⟨g2, rfl, _, c20, c21⟩ := HR2.out i (by rw [Hn.out]; exact hin)
        obtain ⟨f, Hf⟩ : ∃ k, Hid ((c[i]'(by rw [Hn.out]; exact hin)).1 = k) := ⟨_, Lib.hid rfl⟩
        obtain ⟨o, Ho⟩ : ∃ k, Hid ((c[i]'(by rw [Hn.out]; exact hin)).2 = k) := ⟨_, Lib.hid rfl⟩
        rw [Hf.out] at c10 c20
        rw [Ho.out] at c11 c21
        go_wp2_with fail
        go_quiet (fail)
        go_wp2_with fail
        go_roundg (n - (i + 1))
        case measure => omega
        case rel => exact ⟨i + 1, m + nq, by go_num, by omega, rfl⟩
      · have hinf : decide ((i : Int) < (n : Int)) = false := decide_eq_false (by omega)
        have HL5 := Lib.hid (show Lay (W4.drewN m) from HLw.out.go ⟨HB4.out.os, HB4.out.tape, HB4.out.output, HB4.out.size, HB4.out.block⟩)
        have HB5 := Lib.hid (show Below w.heap.size w (W4.drewN m) from ⟨HB4.out.os, HB4.out.tape, HB4.out.output, HB4.out.size, HB4.out.block⟩)
        go_wp2_with (go_at_call 12; refine hold ?_)
        refine Hold.mk ?_
        refine (HA.out _ HL5.out).mono ?_
        rintro e W6 ⟨rfl, hb⟩
        have HB6 := Lib.hid (HB5.out.trans (Below.mono hb HB5.out.size))
        clear hb
        go_wp2_with fail
        go_ret
        exact ⟨rfl, HB6.out⟩
end Go.Proofs.YtdgjegkoncodaaaDoor
