/- The walk of ScanQuotes. Conditions: what the library's variables hold. -/
import Derived.Test.YtdgjegkoncodaaaDoorScTokens
import Derived.Test.YtdgjegkoncodaaaDoorScQuote
namespace Go.Proofs.YtdgjegkoncodaaaDoor
open Go.RowKit

set_option maxRecDepth 100000 in
set_option maxHeartbeats 3200000 in
theorem scanQuotes_big (s : ByteArray) (hs : (4000 : Int) < (s.size : Int)) {w : World} (hL : Lay w) : Calls Tryd.prog 11 #[.string s] w fun e w' => e = .returned (.bool true) ∧ Below w.heap.size w w' := by
  have HA := Lib.hid (fun (W : World) (h : Lay W) => aw_any h)
  have HLw := Lib.hid hL
  clear hL
  obtain ⟨B, HB⟩ : ∃ b, Hid (w.heap.size = b) := ⟨_, Lib.hid rfl⟩
  rw [HB.out]
  have HR0 := Lib.hid (show Below B w w from Below.refl _ _)
  go_enter Tryd.func11, Tryd.ntmps11
  go_wp2_with (go_at_call 12; refine hold ?_)
  refine Hold.mk ?_
  refine (HA.out _ (HLw.out.go (by rw [HB.out]; exact HR0.out))).mono ?_
  rintro e W9 ⟨rfl, hb⟩
  have HB9 := Lib.hid (show Below B w W9 from HR0.out.trans (Below.mono hb (by rw [← HB.out]; exact HR0.out.size)))
  clear hb
  go_wp2_with fail
  go_ret
  exact ⟨rfl, HB9.out⟩
set_option maxRecDepth 100000 in
set_option maxHeartbeats 3200000 in
theorem scanQuotes_bad (s : ByteArray) (hs : s.size ≤ 4000) (hv : validS s.data.toList = false) {w : World} (hL : Lay w) : Calls Tryd.prog 11 #[.string s] w fun e w' => e = .returned (.bool true) ∧ Below w.heap.size w w' := by
  have HA := Lib.hid (fun (W : World) (h : Lay W) => aw_any h)
  have HLw := Lib.hid hL
  clear hL
  obtain ⟨B, HB⟩ : ∃ b, Hid (w.heap.size = b) := ⟨_, Lib.hid rfl⟩
  rw [HB.out]
  have HR0 := Lib.hid (show Below B w w from Below.refl _ _)
  have hsz : decide ((4000 : Int) < (s.size : Int)) = false := decide_eq_false (by omega)
  have HVa := Lib.hid (rval_any s w)
  rw [hv] at HVa
  go_enter Tryd.func11, Tryd.ntmps11
  go_wp2_with (go_at_call 22; refine hold ?_)
  refine Hold.mk ?_
  refine HVa.out.mono ?_
  rintro e W0 ⟨rfl, m0, rfl⟩
  have HR1 := Lib.hid (show Below B w (w.drewN m0) from below_drewN HR0.out m0)
  go_wp2_with (go_at_call 12; refine hold ?_)
  refine Hold.mk ?_
  refine (HA.out _ (HLw.out.go (by rw [HB.out]; exact HR1.out))).mono ?_
  rintro e W9 ⟨rfl, hb⟩
  have HB9 := Lib.hid (show Below B w W9 from HR1.out.trans (Below.mono hb (by rw [← HB.out]; exact HR1.out.size)))
  clear hb
  go_wp2_with fail
  go_ret
  exact ⟨rfl, HB9.out⟩
set_option maxRecDepth 100000 in
set_option maxHeartbeats 3200000 in
theorem scanQuotes_ok (s : ByteArray) (hs : s.size ≤ 4000) (hv : validS s.data.toList = true) {w : World} (hL : Lay w) : Calls Tryd.prog 11 #[.string s] w fun e w' => e = .returned (.bool true) ∧ Below w.heap.size w w' := by
  have HA := Lib.hid (fun (W : World) (h : Lay W) => aw_any h)
  have HLw := Lib.hid hL
  clear hL
  obtain ⟨B, HB⟩ : ∃ b, Hid (w.heap.size = b) := ⟨_, Lib.hid rfl⟩
  rw [HB.out]
  have HR0 := Lib.hid (show Below B w w from Below.refl _ _)
  have hsz : decide ((4000 : Int) < (s.size : Int)) = false := decide_eq_false (by omega)
  have HVa := Lib.hid (rval_any s w)
  rw [hv] at HVa
  have hlaw := quote_law hv (by rw [bytes_len]; exact hs)
  obtain ⟨q, Hq⟩ : ∃ x, Hid (strB (quoteL s.data.toList) = x) := ⟨_, Lib.hid rfl⟩
  have HqL := Lib.hid (show q.data.toList = quoteL s.data.toList from by rw [← Hq.out, strB_toList])
  have Hqs := Lib.hid (show (quoteL s.data.toList).length = q.size from by rw [← HqL.out, bytes_len])
  have HQ := Lib.hid (fun (W : World) => quote_any s W (by omega))
  have HRQ := Lib.hid (fun (W : World) => rquote_any s W (by omega))
  rw [Hq.out] at HQ HRQ
  have HT1 := Lib.hid (fun (W : World) (h : Lay W) => tokens_lay q h)
  rw [HqL.out, hlaw, Hqs.out] at HT1
  clear hlaw hs hv
  go_enter Tryd.func11, Tryd.ntmps11
  go_wp2_with (go_at_call 22; refine hold ?_)
  refine Hold.mk ?_
  refine HVa.out.mono ?_
  rintro e W0 ⟨rfl, m0, rfl⟩
  have HR1 := Lib.hid (show Below B w (w.drewN m0) from below_drewN HR0.out m0)
  go_wp2_with (go_at_call 23; refine hold ?_)
  refine Hold.mk ?_
  refine (HQ.out _).mono ?_
  rintro e W1 ⟨rfl, hb⟩
  have HB1 := Lib.hid (show Below B w W1 from HR1.out.trans (Below.mono hb (by rw [← HB.out]; exact HR1.out.size)))
  clear hb
  go_wp2_with (go_at_call 13; refine hold ?_)
  refine Hold.mk ?_
  refine (HT1.out _ (HLw.out.go (by rw [HB.out]; exact HB1.out))).mono ?_
  rintro e W2a ⟨⟨tv, rfl, hr⟩, hb⟩
  obtain ⟨g, cap, rfl, _, _, hcl⟩ := tok_row hr (by simp)
  have c0 := cell_alloc (o := .cells #[.int .i64 0, .string ⟨#[]⟩, .int .i64 0] 25) (hcl 0 _ rfl)
  have c1 := cell_alloc (o := .cells #[.int .i64 0, .string ⟨#[]⟩, .int .i64 0] 25) (hcl 1 _ rfl)
  have c2 := cell_alloc (o := .cells #[.int .i64 0, .string ⟨#[]⟩, .int .i64 0] 25) (hcl 2 _ rfl)
  have c3 := cell_alloc (o := .cells #[.int .i64 0, .string ⟨#[]⟩, .int .i64 0] 25) (hcl 3 _ rfl)
  rw [show strB (Tok.text ⟨3, 0, q.size, s.data.toList⟩) = s from strB_data s] at c3
  obtain ⟨W2, HW2⟩ : ∃ x, Hid (W2a.alloc (.cells #[.int .i64 0, .string ⟨#[]⟩, .int .i64 0] 25) = x) := ⟨_, Lib.hid rfl⟩
  obtain ⟨b2, Hb2⟩ : ∃ x, Hid (W2a.heap.size = x) := ⟨_, Lib.hid rfl⟩
  rw [HW2.out] at c0 c1 c2 c3
  have G2 : W2.heap[b2]? = some (.cells #[.int .i64 0, .string ⟨#[]⟩, .int .i64 0] 25 (0, 0)) := by rw [← HW2.out, ← Hb2.out]; exact heap_alloc_new W2a _
  have h20 : W2.cell? ⟨b2, 0, none⟩ = some (.int .i64 0) := by simp only [World.cell?, G2]; rfl
  have HB2 := Lib.hid (show Below B w W2 from by rw [← HW2.out]; exact (HB1.out.trans (Below.mono hb (by rw [← HB.out]; exact HB1.out.size))).alloc (by rw [← HB.out]; exact (HB1.out.trans (Below.mono hb (by rw [← HB.out]; exact HB1.out.size))).size) _)
  clear hr hb hcl G2
  go_upto_region 5 with fail
  rw [HW2.out, Hb2.out]
  go_wp2_with (go_at_call 24; refine hold ?_)
  refine Hold.mk ?_
  refine (HRQ.out _).mono ?_
  rintro e W3 ⟨rfl, hb⟩
  have HB3 := Lib.hid (show Below B w W3 from HB2.out.trans (Below.mono hb (by rw [← HB.out]; exact HB2.out.size)))
  clear hb
  go_wp2_with (go_at_call 12; refine hold ?_)
  refine Hold.mk ?_
  refine (HA.out _ (HLw.out.go (by rw [HB.out]; exact HB3.out))).mono ?_
  rintro e W9 ⟨rfl, hb⟩
  have HB9 := Lib.hid (show Below B w W9 from HB3.out.trans (Below.mono hb (by rw [← HB.out]; exact HB3.out.size)))
  clear hb
  go_wp2_with fail
  go_ret
  exact ⟨rfl, HB9.out⟩
theorem scanQuotes_any (s : ByteArray) {w : World} (hL : Lay w) : Calls Tryd.prog 11 #[.string s] w fun e w' => e = .returned (.bool true) ∧ Below w.heap.size w w' := by
  by_cases hs : (4000 : Int) < (s.size : Int)
  · exact scanQuotes_big s hs hL
  · cases hv : validS s.data.toList with
    | true => exact scanQuotes_ok s (by omega) hv hL
    | false => exact scanQuotes_bad s (by omega) hv hL
end Go.Proofs.YtdgjegkoncodaaaDoor
