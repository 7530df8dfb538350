/- The walk of ScanSemis. Conditions: what the library's variables hold. -/
import Derived.Test.YtdgjegkoncodaaaDoorScAwake
namespace Go.Proofs.YtdgjegkoncodaaaDoor
open Go.RowKit

def semiL : List ByteArray := [⟨#[97]⟩, ⟨#[49]⟩, ⟨#[34, 115, 34]⟩, ⟨#[98, 114, 101, 97, 107]⟩, ⟨#[99, 111, 110, 116, 105, 110, 117, 101]⟩, ⟨#[114, 101, 116, 117, 114, 110]⟩, ⟨#[43, 43]⟩, ⟨#[45, 45]⟩, ⟨#[41]⟩, ⟨#[93]⟩, ⟨#[125]⟩, ⟨#[43]⟩, ⟨#[40]⟩, ⟨#[91]⟩, ⟨#[123]⟩, ⟨#[44]⟩, ⟨#[46]⟩, ⟨#[105, 102]⟩, ⟨#[102, 117, 110, 99]⟩, ⟨#[61]⟩, ⟨#[58, 61]⟩, ⟨#[60, 45]⟩, ⟨#[124, 124]⟩, ⟨#[103, 111]⟩, ⟨#[100, 101, 102, 97, 117, 108, 116]⟩, ⟨#[58]⟩, ⟨#[46, 46, 46]⟩]
def semiS (k : Nat) : ByteArray := semiL.getD k ⟨#[]⟩
def semiC : Array Value := #[.string ⟨#[97]⟩, .string ⟨#[49]⟩, .string ⟨#[34, 115, 34]⟩, .string ⟨#[98, 114, 101, 97, 107]⟩, .string ⟨#[99, 111, 110, 116, 105, 110, 117, 101]⟩, .string ⟨#[114, 101, 116, 117, 114, 110]⟩, .string ⟨#[43, 43]⟩, .string ⟨#[45, 45]⟩, .string ⟨#[41]⟩, .string ⟨#[93]⟩, .string ⟨#[125]⟩, .string ⟨#[43]⟩, .string ⟨#[40]⟩, .string ⟨#[91]⟩, .string ⟨#[123]⟩, .string ⟨#[44]⟩, .string ⟨#[46]⟩, .string ⟨#[105, 102]⟩, .string ⟨#[102, 117, 110, 99]⟩, .string ⟨#[61]⟩, .string ⟨#[58, 61]⟩, .string ⟨#[60, 45]⟩, .string ⟨#[124, 124]⟩, .string ⟨#[103, 111]⟩, .string ⟨#[100, 101, 102, 97, 117, 108, 116]⟩, .string ⟨#[58]⟩, .string ⟨#[46, 46, 46]⟩]
theorem semi_cell : ∀ k, k < 27 → semiC[k]? = some (.string (semiS k))
  | 0, _ => rfl
  | 1, _ => rfl
  | 2, _ => rfl
  | 3, _ => rfl
  | 4, _ => rfl
  | 5, _ => rfl
  | 6, _ => rfl
  | 7, _ => rfl
  | 8, _ => rfl
  | 9, _ => rfl
  | 10, _ => rfl
  | 11, _ => rfl
  | 12, _ => rfl
  | 13, _ => rfl
  | 14, _ => rfl
  | 15, _ => rfl
  | 16, _ => rfl
  | 17, _ => rfl
  | 18, _ => rfl
  | 19, _ => rfl
  | 20, _ => rfl
  | 21, _ => rfl
  | 22, _ => rfl
  | 23, _ => rfl
  | 24, _ => rfl
  | 25, _ => rfl
  | 26, _ => rfl
  | k + 27, h => by omega
theorem semi_facts : ∀ k, k < 27 → (resT (scanAll (semiS k ++ ⟨#[10, 120]⟩).data.toList)).1 = 0 ∧ (resT (scanAll (semiS k ++ ⟨#[10, 120]⟩).data.toList)).2.2.1.length = (if k < 11 then 5 else 4) ∧ (resT (scanAll (semiS k ++ ⟨#[32, 47, 47, 32, 114]⟩).data.toList)).1 = 0 ∧ (resT (scanAll (semiS k ++ ⟨#[32, 47, 47, 32, 114]⟩).data.toList)).2.2.1.length = (if k < 11 then 3 else 2) := by
  decide +kernel
theorem semi_size : ∀ k, k < 27 → (semiS k).size ≤ 10 := by decide +kernel
theorem tok_form {w : World} {b : Nat} {tv : Value} {l : List Tok} {n : Nat} (h : w.ownsRow b 35 4 tv l.length (tokCells l)) (hn : l.length = n) : ∃ a cap, tv = .slice a n cap := by
  rcases h.2 with ⟨rfl, e⟩ | ⟨g, cap, cur, rfl, _⟩
  · exact ⟨none, 0, by rw [← hn, e]⟩
  · exact ⟨_, cap, by rw [hn]⟩

set_option maxRecDepth 100000 in
set_option maxHeartbeats 1600000 in
theorem scanSemis_lo (k : Nat) (hk : k < 27) (h11 : (k : Int) < 11) {w : World} (hL : Lay w) : Calls Tryd.prog 6 #[.int .i64 (k : Int)] w fun e w' => e = .returned (.bool true) ∧ Below w.heap.size w w' := by
  obtain ⟨s, Hs⟩ : ∃ s, Hid (semiS k = s) := ⟨_, Lib.hid rfl⟩
  obtain ⟨f1, f2, f3, f4⟩ := semi_facts k hk
  have hsz : s.size ≤ 10 := by rw [← Hs.out]; exact semi_size k hk
  rw [Hs.out] at f1 f2 f3 f4
  rw [if_pos (by omega)] at f2 f4
  obtain ⟨T1, HT1⟩ : ∃ t, Hid (resT (scanAll (s ++ ⟨#[10, 120]⟩).data.toList) = t) := ⟨_, Lib.hid rfl⟩
  obtain ⟨T2, HT2⟩ : ∃ t, Hid (resT (scanAll (s ++ ⟨#[32, 47, 47, 32, 114]⟩).data.toList) = t) := ⟨_, Lib.hid rfl⟩
  rw [HT1.out] at f1 f2
  rw [HT2.out] at f3 f4
  have HF := Lib.hid (And.intro f1 (And.intro f2 (And.intro f3 f4)))
  clear f1 f2 f3 f4
  have hkI : (k : Int) < 27 := by omega
  have HA := Lib.hid (fun (W : World) (h : Lay W) => aw_any h)
  obtain ⟨g, Hg⟩ : ∃ b, Hid (w.heap.size = b) := ⟨_, Lib.hid rfl⟩
  obtain ⟨W0, HW0⟩ : ∃ W0, Hid (w.alloc (.cells semiC 9) = W0) := ⟨_, Lib.hid rfl⟩
  have HB0 := Lib.hid (show Below w.heap.size w W0 from by rw [← HW0.out]; exact (Below.refl _ w).alloc (Nat.le_refl _) _)
  have HLw := Lib.hid hL
  have hc : W0.cell? ⟨g, k, none⟩ = some (.string s) := by
    rw [← HW0.out, ← Hg.out, cell_of_row _ _ _ _ _ _ (heap_alloc_new w _), semi_cell k hk, Hs.out]
  have HC := Lib.hid hc
  clear hL
  go_enter Tryd.func6, Tryd.ntmps6
  go_upto_region 2 with fail
  rw [show (w.alloc (.cells #[.string ⟨#[97]⟩, .string ⟨#[49]⟩, .string ⟨#[34, 115, 34]⟩, .string ⟨#[98, 114, 101, 97, 107]⟩, .string ⟨#[99, 111, 110, 116, 105, 110, 117, 101]⟩, .string ⟨#[114, 101, 116, 117, 114, 110]⟩, .string ⟨#[43, 43]⟩, .string ⟨#[45, 45]⟩, .string ⟨#[41]⟩, .string ⟨#[93]⟩, .string ⟨#[125]⟩, .string ⟨#[43]⟩, .string ⟨#[40]⟩, .string ⟨#[91]⟩, .string ⟨#[123]⟩, .string ⟨#[44]⟩, .string ⟨#[46]⟩, .string ⟨#[105, 102]⟩, .string ⟨#[102, 117, 110, 99]⟩, .string ⟨#[61]⟩, .string ⟨#[58, 61]⟩, .string ⟨#[60, 45]⟩, .string ⟨#[124, 124]⟩, .string ⟨#[103, 111]⟩, .string ⟨#[100, 101, 102, 97, 117, 108, 116]⟩, .string ⟨#[58]⟩, .string ⟨#[46, 46, 46]⟩] 9)) = W0 from HW0.out, Hg.out]
  go_wp2_with (go_at_call 13; refine hold ?_)
  refine Hold.mk ?_
  have HT := Lib.hid (tokens_lay (s ++ ⟨#[10, 120]⟩) (HLw.out.go HB0.out))
  rw [HT1.out] at HT
  refine HT.out.mono ?_
  rintro e W1 ⟨⟨tv, rfl, hr⟩, hb⟩
  obtain ⟨A1, c1, rfl⟩ := tok_form hr HF.out.2.1
  obtain ⟨x1, Hx1⟩ : ∃ x, Hid (T1.2.1 = x) := ⟨_, Lib.hid rfl⟩
  rw [HF.out.1, Hx1.out]
  have HB1 := Lib.hid (show Below w.heap.size w W1 from HB0.out.trans (Below.mono hb HB0.out.size))
  have hc1 : ∀ o, (W1.alloc o).cell? ⟨g, k, none⟩ = some (.string s) := fun o => cell_alloc (by rw [hb.cell (World.block_lt_of_cell? _ _ HC.out)]; exact HC.out)
  clear hr hb hc
  obtain ⟨W2, HW2⟩ : ∃ W2, Hid (W1.alloc (.cells #[.int .i64 0, .string ⟨#[]⟩, .int .i64 x1] 25) = W2) := ⟨_, Lib.hid rfl⟩
  obtain ⟨b5, Hb5⟩ : ∃ b, Hid (W1.heap.size = b) := ⟨_, Lib.hid rfl⟩
  have HB2 := Lib.hid (show Below w.heap.size w W2 from by rw [← HW2.out]; exact HB1.out.alloc HB1.out.size _)
  have hc2 : W2.cell? ⟨g, k, none⟩ = some (.string s) := by rw [← HW2.out]; exact hc1 _
  have G5 := Lib.hid (show W2.heap[b5]? = some (.cells #[.int .i64 0, .string ⟨#[]⟩, .int .i64 x1] 25 (0, 0)) from by rw [← HW2.out, ← Hb5.out]; exact heap_alloc_new W1 _)
  clear hc1
  go_upto_region 5 with fail
  rw [HW2.out, Hb5.out]
  go_wp2_with (go_at_call 13; refine hold ?_)
  refine Hold.mk ?_
  have HU := Lib.hid (tokens_lay (s ++ ⟨#[32, 47, 47, 32, 114]⟩) (HLw.out.go HB2.out))
  rw [HT2.out] at HU
  refine HU.out.mono ?_
  rintro e W3 ⟨⟨tv, rfl, hr⟩, hb⟩
  obtain ⟨A2, c2, rfl⟩ := tok_form hr HF.out.2.2.2
  obtain ⟨x2, Hx2⟩ : ∃ x, Hid (T2.2.1 = x) := ⟨_, Lib.hid rfl⟩
  rw [HF.out.2.2.1, Hx2.out]
  have HB3 := Lib.hid (show Below w.heap.size w W3 from HB2.out.trans (Below.mono hb HB2.out.size))
  have h5 := (hb.block b5 (Array.getElem?_eq_some_iff.1 G5.out).1).trans G5.out
  have hc5 := old_cell h5 0 _ rfl
  have HB4 := Lib.hid (fun o => HB3.out.alloc HB3.out.size o)
  clear hr hb hc2 h5
  go_wp2_with (go_at_call 12; refine hold ?_)
  refine Hold.mk ?_
  refine (HA.out _ (HLw.out.go (HB4.out _))).mono ?_
  rintro e W5 ⟨rfl, hb⟩
  have HB5 := Lib.hid ((HB4.out (.cells #[.int .i64 0, .string ⟨#[]⟩, .int .i64 x2] 25)).trans (Below.mono hb (HB4.out _).size))
  clear hb
  go_wp2_with fail
  go_ret
  exact ⟨rfl, HB5.out⟩
set_option maxRecDepth 100000 in
set_option maxHeartbeats 1600000 in
theorem scanSemis_hi (k : Nat) (hk : k < 27) (h11 : ¬ (k : Int) < 11) {w : World} (hL : Lay w) : Calls Tryd.prog 6 #[.int .i64 (k : Int)] w fun e w' => e = .returned (.bool true) ∧ Below w.heap.size w w' := by
  obtain ⟨s, Hs⟩ : ∃ s, Hid (semiS k = s) := ⟨_, Lib.hid rfl⟩
  obtain ⟨f1, f2, f3, f4⟩ := semi_facts k hk
  have hsz : s.size ≤ 10 := by rw [← Hs.out]; exact semi_size k hk
  rw [Hs.out] at f1 f2 f3 f4
  rw [if_neg (by omega)] at f2 f4
  obtain ⟨T1, HT1⟩ : ∃ t, Hid (resT (scanAll (s ++ ⟨#[10, 120]⟩).data.toList) = t) := ⟨_, Lib.hid rfl⟩
  obtain ⟨T2, HT2⟩ : ∃ t, Hid (resT (scanAll (s ++ ⟨#[32, 47, 47, 32, 114]⟩).data.toList) = t) := ⟨_, Lib.hid rfl⟩
  rw [HT1.out] at f1 f2
  rw [HT2.out] at f3 f4
  have HF := Lib.hid (And.intro f1 (And.intro f2 (And.intro f3 f4)))
  clear f1 f2 f3 f4
  have hkI : (k : Int) < 27 := by omega
  have HA := Lib.hid (fun (W : World) (h : Lay W) => aw_any h)
  obtain ⟨g, Hg⟩ : ∃ b, Hid (w.heap.size = b) := ⟨_, Lib.hid rfl⟩
  obtain ⟨W0, HW0⟩ : ∃ W0, Hid (w.alloc (.cells semiC 9) = W0) := ⟨_, Lib.hid rfl⟩
  have HB0 := Lib.hid (show Below w.heap.size w W0 from by rw [← HW0.out]; exact (Below.refl _ w).alloc (Nat.le_refl _) _)
  have HLw := Lib.hid hL
  have hc : W0.cell? ⟨g, k, none⟩ = some (.string s) := by
    rw [← HW0.out, ← Hg.out, cell_of_row _ _ _ _ _ _ (heap_alloc_new w _), semi_cell k hk, Hs.out]
  have HC := Lib.hid hc
  clear hL
  go_enter Tryd.func6, Tryd.ntmps6
  go_upto_region 2 with fail
  rw [show (w.alloc (.cells #[.string ⟨#[97]⟩, .string ⟨#[49]⟩, .string ⟨#[34, 115, 34]⟩, .string ⟨#[98, 114, 101, 97, 107]⟩, .string ⟨#[99, 111, 110, 116, 105, 110, 117, 101]⟩, .string ⟨#[114, 101, 116, 117, 114, 110]⟩, .string ⟨#[43, 43]⟩, .string ⟨#[45, 45]⟩, .string ⟨#[41]⟩, .string ⟨#[93]⟩, .string ⟨#[125]⟩, .string ⟨#[43]⟩, .string ⟨#[40]⟩, .string ⟨#[91]⟩, .string ⟨#[123]⟩, .string ⟨#[44]⟩, .string ⟨#[46]⟩, .string ⟨#[105, 102]⟩, .string ⟨#[102, 117, 110, 99]⟩, .string ⟨#[61]⟩, .string ⟨#[58, 61]⟩, .string ⟨#[60, 45]⟩, .string ⟨#[124, 124]⟩, .string ⟨#[103, 111]⟩, .string ⟨#[100, 101, 102, 97, 117, 108, 116]⟩, .string ⟨#[58]⟩, .string ⟨#[46, 46, 46]⟩] 9)) = W0 from HW0.out, Hg.out]
  go_wp2_with (go_at_call 13; refine hold ?_)
  refine Hold.mk ?_
  have HT := Lib.hid (tokens_lay (s ++ ⟨#[10, 120]⟩) (HLw.out.go HB0.out))
  rw [HT1.out] at HT
  refine HT.out.mono ?_
  rintro e W1 ⟨⟨tv, rfl, hr⟩, hb⟩
  obtain ⟨A1, c1, rfl⟩ := tok_form hr HF.out.2.1
  obtain ⟨x1, Hx1⟩ : ∃ x, Hid (T1.2.1 = x) := ⟨_, Lib.hid rfl⟩
  rw [HF.out.1, Hx1.out]
  have HB1 := Lib.hid (show Below w.heap.size w W1 from HB0.out.trans (Below.mono hb HB0.out.size))
  have hc1 : ∀ o, (W1.alloc o).cell? ⟨g, k, none⟩ = some (.string s) := fun o => cell_alloc (by rw [hb.cell (World.block_lt_of_cell? _ _ HC.out)]; exact HC.out)
  clear hr hb hc
  obtain ⟨W2, HW2⟩ : ∃ W2, Hid (W1.alloc (.cells #[.int .i64 0, .string ⟨#[]⟩, .int .i64 x1] 25) = W2) := ⟨_, Lib.hid rfl⟩
  obtain ⟨b5, Hb5⟩ : ∃ b, Hid (W1.heap.size = b) := ⟨_, Lib.hid rfl⟩
  have HB2 := Lib.hid (show Below w.heap.size w W2 from by rw [← HW2.out]; exact HB1.out.alloc HB1.out.size _)
  have hc2 : W2.cell? ⟨g, k, none⟩ = some (.string s) := by rw [← HW2.out]; exact hc1 _
  have G5 := Lib.hid (show W2.heap[b5]? = some (.cells #[.int .i64 0, .string ⟨#[]⟩, .int .i64 x1] 25 (0, 0)) from by rw [← HW2.out, ← Hb5.out]; exact heap_alloc_new W1 _)
  clear hc1
  go_upto_region 5 with fail
  rw [HW2.out, Hb5.out]
  go_wp2_with (go_at_call 13; refine hold ?_)
  refine Hold.mk ?_
  have HU := Lib.hid (tokens_lay (s ++ ⟨#[32, 47, 47, 32, 114]⟩) (HLw.out.go HB2.out))
  rw [HT2.out] at HU
  refine HU.out.mono ?_
  rintro e W3 ⟨⟨tv, rfl, hr⟩, hb⟩
  obtain ⟨A2, c2, rfl⟩ := tok_form hr HF.out.2.2.2
  obtain ⟨x2, Hx2⟩ : ∃ x, Hid (T2.2.1 = x) := ⟨_, Lib.hid rfl⟩
  rw [HF.out.2.2.1, Hx2.out]
  have HB3 := Lib.hid (show Below w.heap.size w W3 from HB2.out.trans (Below.mono hb HB2.out.size))
  have h5 := (hb.block b5 (Array.getElem?_eq_some_iff.1 G5.out).1).trans G5.out
  have hc5 := old_cell h5 0 _ rfl
  have HB4 := Lib.hid (fun o => HB3.out.alloc HB3.out.size o)
  clear hr hb hc2 h5
  go_wp2_with (go_at_call 12; refine hold ?_)
  refine Hold.mk ?_
  refine (HA.out _ (HLw.out.go (HB4.out _))).mono ?_
  rintro e W5 ⟨rfl, hb⟩
  have HB5 := Lib.hid ((HB4.out (.cells #[.int .i64 0, .string ⟨#[]⟩, .int .i64 x2] 25)).trans (Below.mono hb (HB4.out _).size))
  clear hb
  go_wp2_with fail
  go_ret
  exact ⟨rfl, HB5.out⟩
set_option maxRecDepth 100000 in
theorem scanSemis_any (k : Int) {w : World} (hL : Lay w) : Calls Tryd.prog 6 #[.int .i64 k] w fun e w' => e = .returned (.bool true) ∧ Below w.heap.size w w' := by
  by_cases h : 0 ≤ k ∧ k < 27
  · obtain ⟨n, rfl⟩ := Int.eq_ofNat_of_zero_le h.1
    by_cases h11 : (n : Int) < 11
    · exact scanSemis_lo n (by omega) h11 hL
    · exact scanSemis_hi n (by omega) h11 hL
  · have HA := Lib.hid (fun (W : World) (h : Lay W) => aw_any h)
    have HLw := Lib.hid hL
    have HB0 := Lib.hid (fun (o : Obj) => (Below.refl w.heap.size w).alloc (Nat.le_refl _) o)
    have Hk := Lib.hid (show k < 0 ∨ ¬ k < 0 ∧ 27 ≤ k from by omega)
    clear hL h
    rcases Hk.out with h | ⟨h1, h⟩
    all_goals
      go_enter Tryd.func6, Tryd.ntmps6
      go_wp2_with (go_at_call 12; refine hold ?_)
      refine Hold.mk ?_
      refine (HA.out _ (HLw.out.go (HB0.out _))).mono ?_
      rintro e W5 ⟨rfl, hb⟩
      have HB5 := Lib.hid ((HB0.out (.cells #[.string ⟨#[97]⟩, .string ⟨#[49]⟩, .string ⟨#[34, 115, 34]⟩, .string ⟨#[98, 114, 101, 97, 107]⟩, .string ⟨#[99, 111, 110, 116, 105, 110, 117, 101]⟩, .string ⟨#[114, 101, 116, 117, 114, 110]⟩, .string ⟨#[43, 43]⟩, .string ⟨#[45, 45]⟩, .string ⟨#[41]⟩, .string ⟨#[93]⟩, .string ⟨#[125]⟩, .string ⟨#[43]⟩, .string ⟨#[40]⟩, .string ⟨#[91]⟩, .string ⟨#[123]⟩, .string ⟨#[44]⟩, .string ⟨#[46]⟩, .string ⟨#[105, 102]⟩, .string ⟨#[102, 117, 110, 99]⟩, .string ⟨#[61]⟩, .string ⟨#[58, 61]⟩, .string ⟨#[60, 45]⟩, .string ⟨#[124, 124]⟩, .string ⟨#[103, 111]⟩, .string ⟨#[100, 101, 102, 97, 117, 108, 116]⟩, .string ⟨#[58]⟩, .string ⟨#[46, 46, 46]⟩] 9)).trans (Below.mono hb (HB0.out _).size))
      clear hb
      go_wp2_with fail
      go_ret
      exact ⟨rfl, HB5.out⟩
end Go.Proofs.YtdgjegkoncodaaaDoor
