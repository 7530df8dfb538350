/- The walk of ScanJoins. Conditions: what the library's variables hold. -/
import Derived.Test.YtdgjegkoncodaaaDoorScTokens
import Derived.Test.YtdgjegkoncodaaaDoorScGlue
namespace Go.Proofs.YtdgjegkoncodaaaDoor
open Go.RowKit

theorem join_text (a b : ByteArray) : (a ++ ⟨#[10, 10]⟩ ++ b).data.toList = a.data.toList ++ [10, 10] ++ b.data.toList := by simp
theorem set4 {W : World} {b : Nat} {t : TypeId} {u0 u1 u2 u3 : Value} (h : W.heap[b]? = some (.cells #[u0, u1, u2, u3] t (0, 0))) (x0 x1 x2 x3 : Value) : ((((W.setCell ⟨b, 0, none⟩ x0).setCell ⟨b, 1, none⟩ x1).setCell ⟨b, 2, none⟩ x2).setCell ⟨b, 3, none⟩ x3).heap[b]? = some (.cells #[x0, x1, x2, x3] t (0, 0)) := (set_same (set_same (set_same (set_same h _) _) _) _).trans rfl
set_option maxRecDepth 100000 in
set_option maxHeartbeats 3200000 in
theorem scanJoins_bad (s r : ByteArray) (hs : ¬ (4000 : Int) < IntKind.i64.wrap ((s.size : Int) + (r.size : Int))) (h12 : (resT (scanAll s.data.toList)).1 ≠ 0 ∨ ((resT (scanAll s.data.toList)).1 = 0 ∧ (resT (scanAll r.data.toList)).1 ≠ 0)) {w : World} (hL : Lay w) : Calls Tryd.prog 7 #[.string s, .string r] w fun e w' => e = .returned (.bool true) ∧ Below w.heap.size w w' := by
  have HA := Lib.hid (fun (W : World) (h : Lay W) => aw_any h)
  have HLw := Lib.hid hL
  clear hL
  obtain ⟨tw, Htw⟩ : ∃ x : Int, Hid (IntKind.i64.wrap ((s.size : Int) + (r.size : Int)) = x) := ⟨_, Lib.hid rfl⟩
  have hsz0 : IntKind.i64.wrap ((s.size : Int) + (r.size : Int)) = tw := Htw.out
  have hsz : decide ((4000 : Int) < tw) = false := decide_eq_false (by rw [← Htw.out]; exact hs)
  clear hs
  obtain ⟨B, HB⟩ : ∃ b, Hid (w.heap.size = b) := ⟨_, Lib.hid rfl⟩
  rw [HB.out]
  have HR0 := Lib.hid (show Below B w w from Below.refl _ _)
  have HT1 := Lib.hid (fun (W : World) (h : Lay W) => tokens_lay (s) h)
  obtain ⟨T1, HT1t⟩ : ∃ x, Hid (resT (scanAll (s.data.toList)) = x) := ⟨_, Lib.hid rfl⟩
  rw [HT1t.out] at HT1
  obtain ⟨k1, Hk1⟩ : ∃ x, Hid (T1.1 = x) := ⟨_, Lib.hid rfl⟩
  obtain ⟨a1, Ha1⟩ : ∃ x, Hid (T1.2.1 = x) := ⟨_, Lib.hid rfl⟩
  have HT2 := Lib.hid (fun (W : World) (h : Lay W) => tokens_lay (r) h)
  obtain ⟨T2, HT2t⟩ : ∃ x, Hid (resT (scanAll (r.data.toList)) = x) := ⟨_, Lib.hid rfl⟩
  rw [HT2t.out] at HT2
  obtain ⟨k2, Hk2⟩ : ∃ x, Hid (T2.1 = x) := ⟨_, Lib.hid rfl⟩
  obtain ⟨a2, Ha2⟩ : ∃ x, Hid (T2.2.1 = x) := ⟨_, Lib.hid rfl⟩
  have HT3 := Lib.hid (fun (W : World) (h : Lay W) => tokens_lay (s ++ ⟨#[10, 10]⟩ ++ r) h)
  rw [join_text] at HT3
  obtain ⟨T3, HT3t⟩ : ∃ x, Hid (resT (scanAll (s.data.toList ++ [10, 10] ++ r.data.toList)) = x) := ⟨_, Lib.hid rfl⟩
  rw [HT3t.out] at HT3
  obtain ⟨k3, Hk3⟩ : ∃ x, Hid (T3.1 = x) := ⟨_, Lib.hid rfl⟩
  obtain ⟨a3, Ha3⟩ : ∃ x, Hid (T3.2.1 = x) := ⟨_, Lib.hid rfl⟩
  rw [HT1t.out, HT2t.out, Hk1.out, Hk2.out] at h12
  have HH := Lib.hid h12
  clear h12
  go_enter Tryd.func7, Tryd.ntmps7
  go_wp2_with (go_at_call 13; refine hold ?_)
  refine Hold.mk ?_
  refine (HT1.out _ (HLw.out.go (by rw [HB.out]; exact HR0.out))).mono ?_
  rintro e W1a ⟨⟨tv1, rfl, hr⟩, hb⟩
  rw [Hk1.out, Ha1.out]
  obtain ⟨W1, HW1⟩ : ∃ x, Hid (W1a.alloc (.cells #[.int .i64 k1, .string ⟨#[]⟩, .int .i64 a1] 25) = x) := ⟨_, Lib.hid rfl⟩
  obtain ⟨b1, Hb1⟩ : ∃ b, Hid (W1a.heap.size = b) := ⟨_, Lib.hid rfl⟩
  have HBa1 := Lib.hid (show Below W1a.heap.size W1a W1 from by rw [← HW1.out]; exact (Below.refl _ _).alloc (Nat.le_refl _) _)
  have HBs1 := Lib.hid (hb.trans (Below.mono HBa1.out hb.size))
  have HB1 := Lib.hid (show Below B w W1 from HR0.out.trans (Below.mono HBs1.out (by rw [← HB.out]; exact HR0.out.size)))
  have HV1 := Lib.hid ((TokV.of hr).go HBa1.out)
  have G1 := Lib.hid (show W1.heap[b1]? = some (.cells #[.int .i64 k1, .string ⟨#[]⟩, .int .i64 a1] 25 (0, 0)) from by rw [← HW1.out, ← Hb1.out]; exact heap_alloc_new W1a _)
  clear hr hb
  go_upto_region 4 with fail
  rw [HW1.out, Hb1.out]
  go_wp2_with (go_at_call 13; refine hold ?_)
  refine Hold.mk ?_
  refine (HT2.out _ (HLw.out.go (by rw [HB.out]; exact HB1.out))).mono ?_
  rintro e W2a ⟨⟨tv2, rfl, hr⟩, hb⟩
  rw [Hk2.out, Ha2.out]
  obtain ⟨W2, HW2⟩ : ∃ x, Hid (W2a.alloc (.cells #[.int .i64 k2, .string ⟨#[]⟩, .int .i64 a2] 25) = x) := ⟨_, Lib.hid rfl⟩
  obtain ⟨b2, Hb2⟩ : ∃ b, Hid (W2a.heap.size = b) := ⟨_, Lib.hid rfl⟩
  have HBa2 := Lib.hid (show Below W2a.heap.size W2a W2 from by rw [← HW2.out]; exact (Below.refl _ _).alloc (Nat.le_refl _) _)
  have HBs2 := Lib.hid (hb.trans (Below.mono HBa2.out hb.size))
  have HB2 := Lib.hid (show Below B w W2 from HB1.out.trans (Below.mono HBs2.out (by rw [← HB.out]; exact HB1.out.size)))
  have HV2 := Lib.hid ((TokV.of hr).go HBa2.out)
  have G2 := Lib.hid (show W2.heap[b2]? = some (.cells #[.int .i64 k2, .string ⟨#[]⟩, .int .i64 a2] 25 (0, 0)) from by rw [← HW2.out, ← Hb2.out]; exact heap_alloc_new W2a _)
  have G1 := Lib.hid (show W2.heap[b1]? = some (.cells #[.int .i64 k1, .string ⟨#[]⟩, .int .i64 a1] 25 (0, 0)) from (HBs2.out.block b1 (Array.getElem?_eq_some_iff.1 G1.out).1).trans G1.out)
  have HV1 := Lib.hid (HV1.out.go HBs2.out)
  clear hr hb
  go_upto_region 5 with fail
  rw [HW2.out, Hb2.out]
  have h10 : W2.cell? ⟨b1, 0, none⟩ = some (.int .i64 k1) := by simp only [World.cell?, G1.out]; rfl
  have h20 : W2.cell? ⟨b2, 0, none⟩ = some (.int .i64 k2) := by simp only [World.cell?, G2.out]; rfl
  obtain ⟨ad1, cp1, rfl, _, _⟩ := HV1.out
  obtain ⟨ad2, cp2, rfl, _, _⟩ := HV2.out
  rcases HH.out with h | ⟨h, h2⟩
  · have e1 : (k1 != (0 : Int)) = true := by simpa using h
    clear h
    go_wp2_with (go_at_call 12; refine hold ?_)
    refine Hold.mk ?_
    refine (HA.out _ (HLw.out.go (by rw [HB.out]; exact HB2.out))).mono ?_
    rintro e W9 ⟨rfl, hb⟩
    have HB9 := Lib.hid (show Below B w W9 from HB2.out.trans (Below.mono hb (by rw [← HB.out]; exact HB2.out.size)))
    clear hb
    go_wp2_with fail
    go_ret
    exact ⟨rfl, HB9.out⟩
  · subst h
    have e1 : (k2 != (0 : Int)) = true := by simpa using h2
    clear h2
    go_wp2_with (go_at_call 12; refine hold ?_)
    refine Hold.mk ?_
    refine (HA.out _ (HLw.out.go (by rw [HB.out]; exact HB2.out))).mono ?_
    rintro e W9 ⟨rfl, hb⟩
    have HB9 := Lib.hid (show Below B w W9 from HB2.out.trans (Below.mono hb (by rw [← HB.out]; exact HB2.out.size)))
    clear hb
    go_wp2_with fail
    go_ret
    exact ⟨rfl, HB9.out⟩
set_option maxRecDepth 100000 in
set_option maxHeartbeats 3200000 in
theorem scanJoins_ok (s r : ByteArray) (hs : s.size + r.size ≤ 4000) (h1 : (resT (scanAll s.data.toList)).1 = 0) (h2 : (resT (scanAll r.data.toList)).1 = 0) {w : World} (hL : Lay w) : Calls Tryd.prog 7 #[.string s, .string r] w fun e w' => e = .returned (.bool true) ∧ Below w.heap.size w w' := by
  have HA := Lib.hid (fun (W : World) (h : Lay W) => aw_any h)
  have HLw := Lib.hid hL
  clear hL
  obtain ⟨tot, Htot⟩ : ∃ x : Int, Hid ((s.size : Int) + (r.size : Int) = x) := ⟨_, Lib.hid rfl⟩
  have hsz0 : IntKind.i64.wrap ((s.size : Int) + (r.size : Int)) = tot := by rw [IntKind.wrap_i64, ← Htot.out]; omega
  have hsz : decide ((4000 : Int) < tot) = false := decide_eq_false (by rw [← Htot.out]; omega)
  have HSZ := Lib.hid hs
  have hs1 : s.size ≤ 4000 := by omega
  have hs2 : r.size ≤ 4000 := by omega
  clear hs
  obtain ⟨B, HB⟩ : ∃ b, Hid (w.heap.size = b) := ⟨_, Lib.hid rfl⟩
  rw [HB.out]
  have HR0 := Lib.hid (show Below B w w from Below.refl _ _)
  have HT1 := Lib.hid (fun (W : World) (h : Lay W) => tokens_lay (s) h)
  obtain ⟨T1, HT1t⟩ : ∃ x, Hid (resT (scanAll (s.data.toList)) = x) := ⟨_, Lib.hid rfl⟩
  rw [HT1t.out] at HT1
  obtain ⟨k1, Hk1⟩ : ∃ x, Hid (T1.1 = x) := ⟨_, Lib.hid rfl⟩
  obtain ⟨a1, Ha1⟩ : ∃ x, Hid (T1.2.1 = x) := ⟨_, Lib.hid rfl⟩
  have HT2 := Lib.hid (fun (W : World) (h : Lay W) => tokens_lay (r) h)
  obtain ⟨T2, HT2t⟩ : ∃ x, Hid (resT (scanAll (r.data.toList)) = x) := ⟨_, Lib.hid rfl⟩
  rw [HT2t.out] at HT2
  obtain ⟨k2, Hk2⟩ : ∃ x, Hid (T2.1 = x) := ⟨_, Lib.hid rfl⟩
  obtain ⟨a2, Ha2⟩ : ∃ x, Hid (T2.2.1 = x) := ⟨_, Lib.hid rfl⟩
  have HT3 := Lib.hid (fun (W : World) (h : Lay W) => tokens_lay (s ++ ⟨#[10, 10]⟩ ++ r) h)
  rw [join_text] at HT3
  obtain ⟨T3, HT3t⟩ : ∃ x, Hid (resT (scanAll (s.data.toList ++ [10, 10] ++ r.data.toList)) = x) := ⟨_, Lib.hid rfl⟩
  rw [HT3t.out] at HT3
  obtain ⟨k3, Hk3⟩ : ∃ x, Hid (T3.1 = x) := ⟨_, Lib.hid rfl⟩
  obtain ⟨a3, Ha3⟩ : ∃ x, Hid (T3.2.1 = x) := ⟨_, Lib.hid rfl⟩
  have hj := join_law h1 h2 (by rw [bytes_len, bytes_len]; exact HSZ.out)
  rw [HT1t.out, HT2t.out, HT3t.out] at hj
  rw [HT1t.out, Hk1.out] at h1
  rw [HT2t.out, Hk2.out] at h2
  rw [Hk3.out] at hj
  obtain ⟨h3, hZ, l1, l2, m1, m2⟩ := hj
  have HK1 := Lib.hid h1
  have HK2 := Lib.hid h2
  have HK3 := Lib.hid h3
  clear h1 h2 h3
  obtain ⟨dd, Hdd⟩ : ∃ x, Hid (s.data.toList.length + 2 = x) := ⟨_, Lib.hid rfl⟩
  rw [Hdd.out] at hZ
  obtain ⟨X, HX⟩ : ∃ x, Hid (T1.2.2.1 = x) := ⟨_, Lib.hid rfl⟩
  obtain ⟨Y, HY⟩ : ∃ x, Hid (T2.2.2.1 = x) := ⟨_, Lib.hid rfl⟩
  obtain ⟨Z, HZz⟩ : ∃ x, Hid (T3.2.2.1 = x) := ⟨_, Lib.hid rfl⟩
  rw [HX.out, HY.out, HZz.out] at hZ
  rw [HX.out] at l1 m1
  rw [HY.out] at l2 m2
  obtain ⟨n1, Hn1⟩ : ∃ x, Hid (X.length = x) := ⟨_, Lib.hid rfl⟩
  obtain ⟨n2, Hn2⟩ : ∃ x, Hid (Y.length = x) := ⟨_, Lib.hid rfl⟩
  obtain ⟨n3, Hn3⟩ : ∃ x, Hid (Z.length = x) := ⟨_, Lib.hid rfl⟩
  rw [Hn1.out] at l1 m1
  rw [Hn2.out] at l2 m2
  have hn3 : n3 = (n1 - 1) + n2 := by rw [← Hn3.out, hZ, List.length_append, List.length_dropLast, List.length_map, Hn1.out, Hn2.out]
  have HZ := Lib.hid hZ
  have HN := Lib.hid (And.intro l1 (And.intro m1 (And.intro l2 (And.intro m2 hn3))))
  have q1 : ((n1 : Int) == 0) = false := by simp; omega
  have q2 : ((n2 : Int) == 0) = false := by simp; omega
  obtain ⟨sm, Hsm⟩ : ∃ x : Int, Hid ((n1 : Int) + (n2 : Int) = x) := ⟨_, Lib.hid rfl⟩
  have q3 : IntKind.i64.wrap ((n1 : Int) + (n2 : Int)) = sm := by rw [IntKind.wrap_i64, ← Hsm.out]; omega
  have q4 : IntKind.i64.wrap (sm - 1) = (n3 : Int) := by rw [IntKind.wrap_i64, ← Hsm.out]; omega
  obtain ⟨n0, Hn0⟩ : ∃ x : Nat, Hid (n1 - 1 = x) := ⟨_, Lib.hid rfl⟩
  have q5 : IntKind.i64.wrap ((n1 : Int) - 1) = (n0 : Int) := by rw [IntKind.wrap_i64, ← Hn0.out]; omega
  clear hZ l1 m1 l2 m2 hn3
  go_enter Tryd.func7, Tryd.ntmps7
  go_wp2_with (go_at_call 13; refine hold ?_)
  refine Hold.mk ?_
  refine (HT1.out _ (HLw.out.go (by rw [HB.out]; exact HR0.out))).mono ?_
  rintro e W1a ⟨⟨tv1, rfl, hr⟩, hb⟩
  rw [Hk1.out, Ha1.out]
  obtain ⟨W1, HW1⟩ : ∃ x, Hid (W1a.alloc (.cells #[.int .i64 k1, .string ⟨#[]⟩, .int .i64 a1] 25) = x) := ⟨_, Lib.hid rfl⟩
  obtain ⟨b1, Hb1⟩ : ∃ b, Hid (W1a.heap.size = b) := ⟨_, Lib.hid rfl⟩
  have HBa1 := Lib.hid (show Below W1a.heap.size W1a W1 from by rw [← HW1.out]; exact (Below.refl _ _).alloc (Nat.le_refl _) _)
  have HBs1 := Lib.hid (hb.trans (Below.mono HBa1.out hb.size))
  have HB1 := Lib.hid (show Below B w W1 from HR0.out.trans (Below.mono HBs1.out (by rw [← HB.out]; exact HR0.out.size)))
  have HV1 := Lib.hid ((TokV.of hr).go HBa1.out)
  have G1 := Lib.hid (show W1.heap[b1]? = some (.cells #[.int .i64 k1, .string ⟨#[]⟩, .int .i64 a1] 25 (0, 0)) from by rw [← HW1.out, ← Hb1.out]; exact heap_alloc_new W1a _)
  clear hr hb
  go_upto_region 4 with fail
  rw [HW1.out, Hb1.out]
  go_wp2_with (go_at_call 13; refine hold ?_)
  refine Hold.mk ?_
  refine (HT2.out _ (HLw.out.go (by rw [HB.out]; exact HB1.out))).mono ?_
  rintro e W2a ⟨⟨tv2, rfl, hr⟩, hb⟩
  rw [Hk2.out, Ha2.out]
  obtain ⟨W2, HW2⟩ : ∃ x, Hid (W2a.alloc (.cells #[.int .i64 k2, .string ⟨#[]⟩, .int .i64 a2] 25) = x) := ⟨_, Lib.hid rfl⟩
  obtain ⟨b2, Hb2⟩ : ∃ b, Hid (W2a.heap.size = b) := ⟨_, Lib.hid rfl⟩
  have HBa2 := Lib.hid (show Below W2a.heap.size W2a W2 from by rw [← HW2.out]; exact (Below.refl _ _).alloc (Nat.le_refl _) _)
  have HBs2 := Lib.hid (hb.trans (Below.mono HBa2.out hb.size))
  have HB2 := Lib.hid (show Below B w W2 from HB1.out.trans (Below.mono HBs2.out (by rw [← HB.out]; exact HB1.out.size)))
  have HV2 := Lib.hid ((TokV.of hr).go HBa2.out)
  have G2 := Lib.hid (show W2.heap[b2]? = some (.cells #[.int .i64 k2, .string ⟨#[]⟩, .int .i64 a2] 25 (0, 0)) from by rw [← HW2.out, ← Hb2.out]; exact heap_alloc_new W2a _)
  have G1 := Lib.hid (show W2.heap[b1]? = some (.cells #[.int .i64 k1, .string ⟨#[]⟩, .int .i64 a1] 25 (0, 0)) from (HBs2.out.block b1 (Array.getElem?_eq_some_iff.1 G1.out).1).trans G1.out)
  have HV1 := Lib.hid (HV1.out.go HBs2.out)
  clear hr hb
  go_upto_region 5 with fail
  rw [HW2.out, Hb2.out]
  have h10 : W2.cell? ⟨b1, 0, none⟩ = some (.int .i64 k1) := by simp only [World.cell?, G1.out]; rfl
  have h20 : W2.cell? ⟨b2, 0, none⟩ = some (.int .i64 k2) := by simp only [World.cell?, G2.out]; rfl
  obtain rfl := HK1.out
  obtain rfl := HK2.out
  go_wp2_with (go_at_call 13; refine hold ?_)
  refine Hold.mk ?_
  refine (HT3.out _ (HLw.out.go (by rw [HB.out]; exact HB2.out))).mono ?_
  rintro e W3a ⟨⟨tv3, rfl, hr⟩, hb⟩
  rw [Hk3.out, Ha3.out]
  obtain ⟨W3, HW3⟩ : ∃ x, Hid (W3a.alloc (.cells #[.int .i64 k3, .string ⟨#[]⟩, .int .i64 a3] 25) = x) := ⟨_, Lib.hid rfl⟩
  obtain ⟨b3, Hb3⟩ : ∃ b, Hid (W3a.heap.size = b) := ⟨_, Lib.hid rfl⟩
  have HBa3 := Lib.hid (show Below W3a.heap.size W3a W3 from by rw [← HW3.out]; exact (Below.refl _ _).alloc (Nat.le_refl _) _)
  have HBs3 := Lib.hid (hb.trans (Below.mono HBa3.out hb.size))
  have HB3 := Lib.hid (show Below B w W3 from HB2.out.trans (Below.mono HBs3.out (by rw [← HB.out]; exact HB2.out.size)))
  have HV3 := Lib.hid ((TokV.of hr).go HBa3.out)
  have G3 := Lib.hid (show W3.heap[b3]? = some (.cells #[.int .i64 k3, .string ⟨#[]⟩, .int .i64 a3] 25 (0, 0)) from by rw [← HW3.out, ← Hb3.out]; exact heap_alloc_new W3a _)
  have HV1 := Lib.hid (HV1.out.go HBs3.out)
  have HV2 := Lib.hid (HV2.out.go HBs3.out)
  clear hr hb
  go_upto_region 8 with fail
  rw [HW3.out, Hb3.out]
  obtain rfl := HK3.out
  have h30 : W3.cell? ⟨b3, 0, none⟩ = some (.int .i64 0) := by simp only [World.cell?, G3.out]; rfl
  rw [HX.out] at HV1
  rw [HY.out] at HV2
  rw [HZz.out] at HV3
  obtain ⟨ad1, cp1, rfl, _, R1⟩ := HV1.out
  obtain ⟨ad2, cp2, rfl, _, R2⟩ := HV2.out
  obtain ⟨ad3, cp3, rfl, _, R3⟩ := HV3.out
  rw [Hn1.out, Hn2.out, Hn3.out]
  have HR1 := Lib.hid R1
  have HR2 := Lib.hid R2
  have HR3 := Lib.hid R3
  clear R1 R2 R3 h10 h20
  go_wp2_with fail
  go_loopg [11, 12] n3 (fun g v11 v12 wr => ∃ i : Nat, v11 = .int .i64 (i : Int) ∧ g + i = n3 ∧ Hid (Below W3.heap.size W3 wr))
  case atStart => exact ⟨0, rfl, rfl, Lib.hid (Below.refl _ _)⟩
  case round =>
    obtain ⟨i, rfl, hg, HW⟩ := hrel
    by_cases hi : i < n3
    · have hiI : (i : Int) < (n3 : Int) := by omega
      have hw : IntKind.i64.wrap ((i : Int) + 1) = ((i + 1 : Nat) : Int) := by rw [IntKind.wrap_i64]; have := HN.out; omega
      obtain ⟨j, Hj⟩ : ∃ j, Hid (i + 1 = j) := ⟨_, Lib.hid rfl⟩
      rw [Hj.out] at hw
      go_upto_region 14 with fail
      obtain ⟨WA, HWA⟩ : ∃ x, Hid (wr.alloc (.cells #[.int .i64 0, .int .i64 0, .int .i64 0, .string ⟨#[]⟩] 35) = x) := ⟨_, Lib.hid rfl⟩
      obtain ⟨bw, Hbw⟩ : ∃ b, Hid (wr.heap.size = b) := ⟨_, Lib.hid rfl⟩
      rw [HWA.out, Hbw.out]
      have HBA := Lib.hid (show Below W3.heap.size W3 WA from by rw [← HWA.out]; exact HW.out.alloc HW.out.size _)
      have Hle := Lib.hid (show W3.heap.size ≤ bw from by rw [← Hbw.out]; exact HW.out.size)
      have KA : WA.heap[bw]? = some (.cells #[.int .i64 0, .int .i64 0, .int .i64 0, .string ⟨#[]⟩] 35 (0, 0)) := by rw [← HWA.out, ← Hbw.out]; exact heap_alloc_new wr _
      have HKA := Lib.hid KA
      have w0 : WA.cell? ⟨bw, 0, none⟩ = some (.int .i64 0) := by simp only [World.cell?, KA]; rfl
      have w1 : WA.cell? ⟨bw, 1, none⟩ = some (.int .i64 0) := by simp only [World.cell?, KA]; rfl
      have w2 : WA.cell? ⟨bw, 2, none⟩ = some (.int .i64 0) := by simp only [World.cell?, KA]; rfl
      have w3 : WA.cell? ⟨bw, 3, none⟩ = some (.string ⟨#[]⟩) := by simp only [World.cell?, KA]; rfl
      have v0 : WA.frozen? ⟨bw, 0, none⟩ = false := by simp only [World.frozen?, KA]; simp
      have v1 : WA.frozen? ⟨bw, 1, none⟩ = false := by simp only [World.frozen?, KA]; simp
      have v2 : WA.frozen? ⟨bw, 2, none⟩ = false := by simp only [World.frozen?, KA]; simp
      have v3 : WA.frozen? ⟨bw, 3, none⟩ = false := by simp only [World.frozen?, KA]; simp
      obtain ⟨g3, rfl, lt3, c30, c31, c32, c33⟩ := HR3.out i (by rw [Hn3.out]; exact hi)
      clear KA
      by_cases hlt : i < n0
      · have hltI : (i : Int) < (n0 : Int) := by omega
        have hi1 : i < X.length := by rw [Hn1.out]; have := Hn0.out; omega
        have hiI1 : (i : Int) < (n1 : Int) := by have := Hn0.out; omega
        obtain ⟨g1, rfl, lt1, c10, c11, c12, c13⟩ := HR1.out i hi1
        have HQ := Lib.hid (show (Z[i]'(by rw [Hn3.out]; exact hi)).kind = X[i].kind ∧ (Z[i]'(by rw [Hn3.out]; exact hi)).text = X[i].text from by
          have h := join_left (X := X) (Y := Y) (d := dd) (i := i) (by rw [Hn1.out, Hn0.out]; exact hlt) (by rw [← HZ.out, Hn3.out]; exact hi)
          have e : Z[i]'(by rw [Hn3.out]; exact hi) = X[i] := by simp only [HZ.out]; exact h
          rw [e]
          exact ⟨rfl, rfl⟩)
        rw [HQ.out.1] at c30
        rw [HQ.out.2] at c33
        obtain ⟨kk, Hkk⟩ : ∃ x, Hid (X[i].kind = x) := ⟨_, Lib.hid rfl⟩
        obtain ⟨ff, Hff⟩ : ∃ x, Hid (X[i].frm = x) := ⟨_, Lib.hid rfl⟩
        obtain ⟨tt, Htt⟩ : ∃ x, Hid (X[i].to = x) := ⟨_, Lib.hid rfl⟩
        obtain ⟨xx, Hxx⟩ : ∃ x, Hid (strB X[i].text = x) := ⟨_, Lib.hid rfl⟩
        rw [Hkk.out] at c10 c30
        rw [Hff.out] at c11
        rw [Htt.out] at c12
        rw [Hxx.out] at c13 c33
        have c10 := (HBA.out.cell lt1).trans c10
        have c11 := (HBA.out.cell lt1).trans c11
        have c12 := (HBA.out.cell lt1).trans c12
        have c13 := (HBA.out.cell lt1).trans c13
        have H30 := Lib.hid c30
        have H33 := Lib.hid c33
        have L3 := Lib.hid lt3
        clear c30 c31 c32 c33 lt3 lt1
        go_upto_region 17 with fail
        obtain ⟨WB, HWB⟩ : ∃ x, Hid ((((WA.setCell ⟨bw, 0, none⟩ (.int .i64 kk)).setCell ⟨bw, 1, none⟩ (.int .i64 (ff : Int))).setCell ⟨bw, 2, none⟩ (.int .i64 (tt : Int))).setCell ⟨bw, 3, none⟩ (.string xx) = x) := ⟨_, Lib.hid rfl⟩
        rw [HWB.out]
        have HBB := Lib.hid (show Below W3.heap.size W3 WB from by rw [← HWB.out]; exact (((HBA.out.setCell (p := ⟨bw, 0, none⟩) Hle.out _).setCell (p := ⟨bw, 1, none⟩) Hle.out _).setCell (p := ⟨bw, 2, none⟩) Hle.out _).setCell (p := ⟨bw, 3, none⟩) Hle.out _)
        have KB : WB.heap[bw]? = some (.cells #[.int .i64 kk, .int .i64 (ff : Int), .int .i64 (tt : Int), .string xx] 35 (0, 0)) := by rw [← HWB.out]; exact set4 HKA.out _ _ _ _
        have y0 : WB.cell? ⟨bw, 0, none⟩ = some (.int .i64 kk) := by simp only [World.cell?, KB]; rfl
        have y3 : WB.cell? ⟨bw, 3, none⟩ = some (.string xx) := by simp only [World.cell?, KB]; rfl
        have z0 := (HBB.out.cell L3.out).trans H30.out
        have z3 := (HBB.out.cell L3.out).trans H33.out
        clear KB w0 w1 w2 w3 v0 v1 v2 v3 c10 c11 c12 c13
        go_wp2_with fail
        go_quiet (fail)
        go_wp2_with fail
        go_roundg (n3 - j)
        case measure => have := Hj.out; omega
        case rel => exact ⟨j, rfl, by have := Hj.out; omega, Lib.hid (below_drewN HBB.out _)⟩
      · have hltI : decide ((i : Int) < (n0 : Int)) = false := decide_eq_false (by omega)
        obtain ⟨q, Hq⟩ : ∃ q, Hid (i - n0 = q) := ⟨_, Lib.hid rfl⟩
        have hq2 : q < Y.length := by rw [Hn2.out]; have h1 := Hq.out; have h2 := Hn0.out; have h3 := HN.out; omega
        have hqI : (q : Int) < (n2 : Int) := by rw [← Hn2.out]; omega
        obtain ⟨jj, Hjj⟩ : ∃ x : Int, Hid ((i : Int) - (n1 : Int) = x) := ⟨_, Lib.hid rfl⟩
        have x1 : IntKind.i64.wrap ((i : Int) - (n1 : Int)) = jj := by rw [IntKind.wrap_i64, ← Hjj.out]; have := HN.out; omega
        have x2 : IntKind.i64.wrap (jj + 1) = (q : Int) := by rw [IntKind.wrap_i64, ← Hjj.out, ← Hq.out]; have h1 := HN.out; have h2 := Hn0.out; omega
        obtain ⟨g2, rfl, lt2, c20, c21, c22, c23⟩ := HR2.out q hq2
        have HQ := Lib.hid (show (Z[i]'(by rw [Hn3.out]; exact hi)).kind = Y[q].kind ∧ (Z[i]'(by rw [Hn3.out]; exact hi)).text = Y[q].text from by
          have h := join_right (X := X) (Y := Y) (d := dd) (i := i) (by rw [Hn1.out, Hn0.out]; exact hlt) (by rw [← HZ.out, Hn3.out]; exact hi) (by rw [Hn1.out, Hn0.out, Hq.out]; exact hq2)
          have h9 : ∀ m, m = q → ∀ (h2 : m < Y.length), mvT dd (Y[m]'h2) = mvT dd Y[q] := by rintro m rfl _; rfl
          rw [h9 _ (by rw [Hn1.out, Hn0.out, Hq.out])] at h
          have e : Z[i]'(by rw [Hn3.out]; exact hi) = mvT dd Y[q] := by simp only [HZ.out]; exact h
          rw [e]
          exact ⟨rfl, rfl⟩)
        rw [HQ.out.1] at c30
        rw [HQ.out.2] at c33
        obtain ⟨kk, Hkk⟩ : ∃ x, Hid (Y[q].kind = x) := ⟨_, Lib.hid rfl⟩
        obtain ⟨ff, Hff⟩ : ∃ x, Hid (Y[q].frm = x) := ⟨_, Lib.hid rfl⟩
        obtain ⟨tt, Htt⟩ : ∃ x, Hid (Y[q].to = x) := ⟨_, Lib.hid rfl⟩
        obtain ⟨xx, Hxx⟩ : ∃ x, Hid (strB Y[q].text = x) := ⟨_, Lib.hid rfl⟩
        rw [Hkk.out] at c20 c30
        rw [Hff.out] at c21
        rw [Htt.out] at c22
        rw [Hxx.out] at c23 c33
        have c20 := (HBA.out.cell lt2).trans c20
        have c21 := (HBA.out.cell lt2).trans c21
        have c22 := (HBA.out.cell lt2).trans c22
        have c23 := (HBA.out.cell lt2).trans c23
        have H30 := Lib.hid c30
        have H33 := Lib.hid c33
        have L3 := Lib.hid lt3
        clear c30 c31 c32 c33 lt3 lt2
        go_upto_region 17 with fail
        obtain ⟨WB, HWB⟩ : ∃ x, Hid ((((WA.setCell ⟨bw, 0, none⟩ (.int .i64 kk)).setCell ⟨bw, 1, none⟩ (.int .i64 (ff : Int))).setCell ⟨bw, 2, none⟩ (.int .i64 (tt : Int))).setCell ⟨bw, 3, none⟩ (.string xx) = x) := ⟨_, Lib.hid rfl⟩
        rw [HWB.out]
        have HBB := Lib.hid (show Below W3.heap.size W3 WB from by rw [← HWB.out]; exact (((HBA.out.setCell (p := ⟨bw, 0, none⟩) Hle.out _).setCell (p := ⟨bw, 1, none⟩) Hle.out _).setCell (p := ⟨bw, 2, none⟩) Hle.out _).setCell (p := ⟨bw, 3, none⟩) Hle.out _)
        have KB : WB.heap[bw]? = some (.cells #[.int .i64 kk, .int .i64 (ff : Int), .int .i64 (tt : Int), .string xx] 35 (0, 0)) := by rw [← HWB.out]; exact set4 HKA.out _ _ _ _
        have y0 : WB.cell? ⟨bw, 0, none⟩ = some (.int .i64 kk) := by simp only [World.cell?, KB]; rfl
        have y3 : WB.cell? ⟨bw, 3, none⟩ = some (.string xx) := by simp only [World.cell?, KB]; rfl
        have z0 := (HBB.out.cell L3.out).trans H30.out
        have z3 := (HBB.out.cell L3.out).trans H33.out
        clear KB w0 w1 w2 w3 v0 v1 v2 v3 c20 c21 c22 c23
        go_wp2_with fail
        go_quiet (fail)
        go_wp2_with fail
        go_roundg (n3 - j)
        case measure => have := Hj.out; omega
        case rel => exact ⟨j, rfl, by have := Hj.out; omega, Lib.hid (below_drewN HBB.out _)⟩
    · have hiI : decide ((i : Int) < (n3 : Int)) = false := decide_eq_false (by omega)
      have HB5 := Lib.hid (show Below B w wr from HB3.out.trans (Below.mono HW.out (by rw [← HB.out]; exact HB3.out.size)))
      go_wp2_with (go_at_call 12; refine hold ?_)
      refine Hold.mk ?_
      refine (HA.out _ (HLw.out.go (by rw [HB.out]; exact HB5.out))).mono ?_
      rintro e W9 ⟨rfl, hb⟩
      have HB9 := Lib.hid (show Below B w W9 from HB5.out.trans (Below.mono hb (by rw [← HB.out]; exact HB5.out.size)))
      clear hb
      go_wp2_with fail
      go_ret
      exact ⟨rfl, HB9.out⟩
set_option maxRecDepth 100000 in
theorem scanJoins_big (s r : ByteArray) (hb : (4000 : Int) < IntKind.i64.wrap ((s.size : Int) + (r.size : Int))) {w : World} (hL : Lay w) : Calls Tryd.prog 7 #[.string s, .string r] w fun e w' => e = .returned (.bool true) ∧ Below w.heap.size w w' := by
  have HA := Lib.hid (fun (W : World) (h : Lay W) => aw_any h)
  have HLw := Lib.hid hL
  clear hL
  obtain ⟨B, HB⟩ : ∃ b, Hid (w.heap.size = b) := ⟨_, Lib.hid rfl⟩
  rw [HB.out]
  have HR0 := Lib.hid (show Below B w w from Below.refl _ _)
  obtain ⟨tot, Htot⟩ : ∃ x : Int, Hid ((s.size : Int) + (r.size : Int) = x) := ⟨_, Lib.hid rfl⟩
  obtain ⟨tw, Htw⟩ : ∃ x : Int, Hid (IntKind.i64.wrap ((s.size : Int) + (r.size : Int)) = x) := ⟨_, Lib.hid rfl⟩
  have hsz0 : IntKind.i64.wrap ((s.size : Int) + (r.size : Int)) = tw := Htw.out
  have hsz : (4000 : Int) < tw := by rw [← Htw.out]; exact hb
  clear hb
  go_enter Tryd.func7, Tryd.ntmps7
  go_wp2_with (go_at_call 12; refine hold ?_)
  refine Hold.mk ?_
  refine (HA.out _ (HLw.out.go (by rw [HB.out]; exact HR0.out))).mono ?_
  rintro e W9 ⟨rfl, hb⟩
  have HB9 := Lib.hid (show Below B w W9 from HR0.out.trans (Below.mono hb (by rw [← HB.out]; exact HR0.out.size)))
  clear hb
  go_wp2_with fail
  go_ret
  exact ⟨rfl, HB9.out⟩
theorem scanJoins_any (s r : ByteArray) {w : World} (hL : Lay w) : Calls Tryd.prog 7 #[.string s, .string r] w fun e w' => e = .returned (.bool true) ∧ Below w.heap.size w w' := by
  by_cases hb : (4000 : Int) < IntKind.i64.wrap ((s.size : Int) + (r.size : Int))
  · exact scanJoins_big s r hb hL
  · by_cases k1 : (resT (scanAll s.data.toList)).1 = 0
    · by_cases k2 : (resT (scanAll r.data.toList)).1 = 0
      · have hs : s.size + r.size ≤ 4000 := by
          obtain ⟨_, _, _, _, _, l1⟩ := ok_of k1
          obtain ⟨_, _, _, _, _, l2⟩ := ok_of k2
          rw [bytes_len] at l1 l2
          rw [IntKind.wrap_i64] at hb
          omega
        exact scanJoins_ok s r hs k1 k2 hL
      · exact scanJoins_bad s r hb (.inr ⟨k1, k2⟩) hL
    · exact scanJoins_bad s r hb (.inl k1) hL
end Go.Proofs.YtdgjegkoncodaaaDoor
