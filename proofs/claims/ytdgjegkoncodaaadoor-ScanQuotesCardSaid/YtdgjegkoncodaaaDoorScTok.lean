/- scan's Tokens and Comments. Conditions: the tables of unicode/utf8 stand in blocks 0 and 1; the library's MaxLen holds an int. -/
import Derived.Test.YtdgjegkoncodaaaDoorScScanned
namespace Go.Proofs.YtdgjegkoncodaaaDoor
open Go.RowKit

/-- What Tokens tells; what Comments tells. -/
def TokP (w w' : World) (e : Ending) (t : Int × Int × List Tok × List (Nat × Nat)) : Prop := ∃ (tv : Value), e = .returned (.tuple #[tv, .agg #[.int .i64 t.1, .string ⟨#[]⟩, .int .i64 t.2.1]]) ∧ w'.ownsRow w.heap.size 35 4 tv t.2.2.1.length (tokCells t.2.2.1)
def ComP (w w' : World) (e : Ending) (t : Int × Int × List Tok × List (Nat × Nat)) : Prop := ∃ (rv : Value), e = .returned rv ∧ w'.ownsRow w.heap.size 40 2 rv t.2.2.2.length (spanCells t.2.2.2)
theorem results_tok {tmps : Array Value} {W : World} {b : Nat} {v u0 u1 u2 : Value} (hv : tmps.getD 2 undef = v) (hp : tmps.getD 3 undef = .pointer (some ⟨b, 0, none⟩)) (h : W.heap[b]? = some (.cells #[u0, u1, u2] 25 (0, 0))) :
    (results Tryd.f13 tmps).run Tryd.prog W = .ok (.tuple #[v, .agg #[u0, u1, u2]]) W := by
  have hl := run_loadVar_row (P := Tryd.prog) W b _ 25 #[u0, u1, u2] (0, 0) _ h Tryd.underlying25 rfl (by kernel_rfl)
  have hv' : tmps[2]?.getD undef = v := by simpa using hv
  have hp' : tmps[3]?.getD undef = .pointer (some ⟨b, 0, none⟩) := by simpa using hp
  simp only [results, show Tryd.f13.results = #[.tmp 2, .cell 3 25] from rfl]
  simp [Result.andThen, hv', hp', asAddr, hl]
theorem set3 {W : World} {b : Nat} {u0 u1 u2 : Value} (h : W.heap[b]? = some (.cells #[u0, u1, u2] 25 (0, 0))) (x0 x1 x2 : Value) : (((W.setCell ⟨b, 0, none⟩ x0).setCell ⟨b, 1, none⟩ x1).setCell ⟨b, 2, none⟩ x2).heap[b]? = some (.cells #[x0, x1, x2] 25 (0, 0)) := (set_same (set_same (set_same h _) _) _).trans rfl
set_option maxRecDepth 100000 in
theorem tokens_any (src : ByteArray) (w : World) {m : Int} (hT : Lib.Utf8Tabs 0 1 w) (hm : w.cell? ⟨2, 0, none⟩ = some (.int .i64 m)) :
    Calls Tryd.prog 13 #[.string src] w fun e w' => TokP w w' e (resT (scanAll src.data.toList)) ∧ Below w.heap.size w w' := by
  obtain ⟨b3, Hb3⟩ : ∃ b, Hid (w.heap.size = b) := ⟨_, Lib.hid rfl⟩
  obtain ⟨W1, HW1⟩ : ∃ W1, Hid (w.alloc (.cells #[.int .i64 0, .string ⟨#[]⟩, .int .i64 0] 25) = W1) := ⟨_, Lib.hid rfl⟩
  have hB1 : Below w.heap.size w W1 := by rw [← HW1.out]; exact (Below.refl _ w).alloc (Nat.le_refl _) _
  have HB1 := Lib.hid hB1
  have HS := Lib.hid (scanned_any src W1 (m := m) (utf8_below hT hB1) (by rw [hB1.cell (World.block_lt_of_cell? _ _ hm)]; exact hm))
  have G3 : W1.heap[b3]? = some (.cells #[.int .i64 0, .string ⟨#[]⟩, .int .i64 0] 25 (0, 0)) := by rw [← HW1.out, ← Hb3.out]; exact heap_alloc_new w _
  have Hs1 := Lib.hid (show W1.heap.size = b3 + 1 from by rw [← HW1.out, ← Hb3.out]; simp)
  obtain ⟨t, Ht⟩ : ∃ t, Hid (resT (scanAll src.data.toList) = t) := ⟨_, Lib.hid rfl⟩
  rw [Ht.out] at HS ⊢
  clear hT hm hB1
  go_enter Tryd.func13, Tryd.ntmps13
  go_upto_region 1 with fail
  rw [HW1.out, Hb3.out]
  go_wp2_with (go_at_call 25; refine hold ?_)
  refine Hold.mk ?_
  refine HS.out.mono ?_
  rintro e W2 ⟨⟨b, x, i, tv, rv, rfl, hbs, hs, ht, hr⟩, hb⟩
  obtain ⟨W3, HW3⟩ : ∃ W3, Hid (W2.alloc (.cells #[.int .i64 t.1, .string ⟨#[]⟩, .int .i64 t.2.1] 25) = W3) := ⟨_, Lib.hid rfl⟩
  obtain ⟨b5, Hb5⟩ : ∃ b, Hid (W2.heap.size = b) := ⟨_, Lib.hid rfl⟩
  have Hlb := Lib.hid (Array.getElem?_eq_some_iff.1 hs).1
  have l3 : b3 < W2.heap.size := Nat.lt_of_lt_of_le (by rw [Hs1.out]; omega) hb.size
  have hG3 : W2.heap[b3]? = some (.cells #[.int .i64 0, .string ⟨#[]⟩, .int .i64 0] 25 (0, 0)) := (hb.block b3 (by rw [Hs1.out]; omega)).trans G3
  have hbel := (Below.refl W2.heap.size W2).alloc (Nat.le_refl _) (.cells #[.int .i64 t.1, .string ⟨#[]⟩, .int .i64 t.2.1] 25)
  have K3 : W3.heap[b3]? = some (.cells #[.int .i64 0, .string ⟨#[]⟩, .int .i64 0] 25 (0, 0)) := by rw [← HW3.out]; exact (heap_alloc_ne l3).trans hG3
  have K5 : W3.heap[b5]? = some (.cells #[.int .i64 t.1, .string ⟨#[]⟩, .int .i64 t.2.1] 25 (0, 0)) := by rw [← HW3.out, ← Hb5.out]; exact heap_alloc_new W2 _
  have KS : W3.heap[b]? = some (.cells #[x, i, tv, rv] 48 (0, 0)) := by rw [← HW3.out]; exact (heap_alloc_ne Hlb.out).trans hs
  have HB3 := Lib.hid (show Below w.heap.size w W3 from by rw [← HW3.out]; exact (HB1.out.trans (Below.mono hb HB1.out.size)).trans (Below.mono hbel (Nat.le_trans HB1.out.size hb.size)))
  have HT := Lib.hid (show W3.ownsRow W1.heap.size 35 4 tv t.2.2.1.length (tokCells t.2.2.1) from by rw [← HW3.out]; exact row_keep ht (fun g _ hg => heap_alloc_ne (row_lt ht hg).1))
  have HK := Lib.hid (And.intro K3 (And.intro K5 KS))
  have hc : W3.cell? ⟨b, 2, none⟩ = some tv := by simp only [World.cell?, KS]; rfl
  have h50 : W3.cell? ⟨b5, 0, none⟩ = some (.int .i64 t.1) := by simp only [World.cell?, K5]; rfl
  have h51 : W3.cell? ⟨b5, 1, none⟩ = some (.string ⟨#[]⟩) := by simp only [World.cell?, K5]; rfl
  have h52 : W3.cell? ⟨b5, 2, none⟩ = some (.int .i64 t.2.1) := by simp only [World.cell?, K5]; rfl
  have h30 : W3.cell? ⟨b3, 0, none⟩ = some (.int .i64 0) := by simp only [World.cell?, K3]; rfl
  have h31 : W3.cell? ⟨b3, 1, none⟩ = some (.string ⟨#[]⟩) := by simp only [World.cell?, K3]; rfl
  have h32 : W3.cell? ⟨b3, 2, none⟩ = some (.int .i64 0) := by simp only [World.cell?, K3]; rfl
  have f30 : W3.frozen? ⟨b3, 0, none⟩ = false := by simp only [World.frozen?, K3]; simp
  have f31 : W3.frozen? ⟨b3, 1, none⟩ = false := by simp only [World.frozen?, K3]; simp
  have f32 : W3.frozen? ⟨b3, 2, none⟩ = false := by simp only [World.frozen?, K3]; simp
  obtain ⟨t0, Ht0⟩ : ∃ a, Hid (t.1 = a) := ⟨_, Lib.hid rfl⟩
  obtain ⟨t1, Ht1⟩ : ∃ a, Hid (t.2.1 = a) := ⟨_, Lib.hid rfl⟩
  rw [Ht0.out] at h50 HW3
  rw [Ht1.out] at h52 HW3
  rw [Ht0.out, Ht1.out]
  clear hs ht hr hb hbs G3 l3 hG3 hbel K3 K5 KS
  go_upto_region 2 with fail
  rw [HW3.out, Hb5.out]
  have HS2 : (fun w' : World => w'.cell? ⟨b, 2, none⟩ = some tv ∧ w'.cell? ⟨b5, 0, none⟩ = some (.int .i64 t0) ∧ w'.cell? ⟨b5, 1, none⟩ = some (.string ⟨#[]⟩) ∧ w'.cell? ⟨b5, 2, none⟩ = some (.int .i64 t1)) W3.drew := ⟨hc, h50, h51, h52⟩
  refine wp_region_pi (fun w' : World => w'.cell? ⟨b, 2, none⟩ = some tv ∧ w'.cell? ⟨b5, 0, none⟩ = some (.int .i64 t0) ∧ w'.cell? ⟨b5, 1, none⟩ = some (.string ⟨#[]⟩) ∧ w'.cell? ⟨b5, 2, none⟩ = some (.int .i64 t1)) [(0, 1), (1, 1), (2, 1), (3, 0), (4, 0), (5, 1), (6, 3)] [(6, [3]), (6, [4])] (by kernel_rfl) (by kernel_rfl) (fun _ _ _ _ _ h => h) (HS2) ?_
  refine pq_pu (some 11) rfl rfl (by rfl) (fun ws => by go_simp; try with_reducible rfl) ?_; go_frame   -- 0 Op.move (Operand.tmp 4)
  refine pq_pu (some 12) rfl rfl (by rfl) (fun ws => by go_simp; try with_reducible rfl) ?_; go_frame   -- 1 Op.nilCheck (Operand.tmp 11)
  refine pq_pu (some 13) rfl rfl (by rfl) (fun ws => by go_simp; try with_reducible rfl) ?_; go_frame   -- 2 Op.fieldAddr 48 (Operand.tmp 12) 2
  refine pq_ld (some 14) rfl rfl (by rfl) (fun ws HS => by go_split_ands; go_simp; try with_reducible rfl) ?_; go_frame   -- 3 Op.load 23 (Operand.tmp 13)
  refine pq_ld (some 15) rfl rfl (by rfl) (fun ws HS => by go_split_ands; go_simp; try with_reducible rfl) ?_; go_frame   -- 4 Op.load 25 (Operand.tmp 5)
  refine pq_pu (some 2) rfl rfl (by rfl) (fun ws => by go_simp; try with_reducible rfl) ?_; go_frame   -- 5 Op.assign (Operand.tmp 14)
  refine pi_tail (by rfl) ?_; simp only [opsAt, List.getElem?_toArray, List.getElem?_cons_zero, List.getElem?_cons_succ]   -- [(6, 'Op.store 25 (Operand.tmp 3) (Operand.tmp 15)')]
  go_wp2
  refine bodyPost_ret (results_tok (v := tv) rfl rfl (set3 (W := W3) HK.out.1 (.int .i64 t0) (.string ⟨#[]⟩) (.int .i64 t1))) rfl ?_
  refine ⟨⟨tv, by rw [Ht0.out, Ht1.out], ?_⟩, ?_⟩
  · have h3 := HT.out
    exact row_base (row_keep h3 (fun g hg _ => by
      have hgb : g ≠ b3 := by have := Hs1.out; omega
      show (((W3.setCell _ _).setCell _ _).setCell _ _).heap[g]? = _
      rw [heap_set_ne (show g ≠ b3 from hgb), heap_set_ne (show g ≠ b3 from hgb), heap_set_ne (show g ≠ b3 from hgb)])) (fun k hk => by have h1 := (row_lt h3 hk).2.1; have h2 := HB1.out.size; omega)
  · have hle : w.heap.size ≤ b3 := by rw [Hb3.out]; exact Nat.le_refl _
    exact (((HB3.out.setCell (p := ⟨b3, 0, none⟩) hle _).setCell (p := ⟨b3, 1, none⟩) hle _).setCell (p := ⟨b3, 2, none⟩) hle _).drew
set_option maxRecDepth 100000 in
theorem comments_any (src : ByteArray) (w : World) {m : Int} (hT : Lib.Utf8Tabs 0 1 w) (hm : w.cell? ⟨2, 0, none⟩ = some (.int .i64 m)) :
    Calls Tryd.prog 20 #[.string src] w fun e w' => ComP w w' e (resT (scanAll src.data.toList)) ∧ Below w.heap.size w w' := by
  have HS := Lib.hid (scanned_any src w (m := m) hT hm)
  obtain ⟨t, Ht⟩ : ∃ t, Hid (resT (scanAll src.data.toList) = t) := ⟨_, Lib.hid rfl⟩
  rw [Ht.out] at HS ⊢
  clear hT hm
  go_enter Tryd.func20, Tryd.ntmps20
  go_wp2_with (go_at_call 25; refine hold ?_)
  refine Hold.mk ?_
  refine HS.out.mono ?_
  rintro e W2 ⟨⟨b, x, i, tv, rv, rfl, hbs, hs, ht, hr⟩, hb⟩
  obtain ⟨t0, Ht0⟩ : ∃ a, Hid (t.1 = a) := ⟨_, Lib.hid rfl⟩
  obtain ⟨t1, Ht1⟩ : ∃ a, Hid (t.2.1 = a) := ⟨_, Lib.hid rfl⟩
  rw [Ht0.out, Ht1.out]
  have Hlb := Lib.hid (Array.getElem?_eq_some_iff.1 hs).1
  have hc := old_cell hs 3 rv rfl
  have HR := Lib.hid hr
  have HB := Lib.hid hb
  clear hs ht hr hb hbs
  go_wp2_with fail
  go_ret
  exact ⟨⟨rv, rfl, row_keep HR.out (fun g _ hg => heap_alloc_ne (row_lt HR.out hg).1)⟩, HB.out.trans (Below.mono ((Below.refl W2.heap.size W2).alloc (Nat.le_refl _) _) HB.out.size)⟩
end Go.Proofs.YtdgjegkoncodaaaDoor
