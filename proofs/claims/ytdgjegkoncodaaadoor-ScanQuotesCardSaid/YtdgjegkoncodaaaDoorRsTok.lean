/- The reference's Comments. Condition: Valid's contract. -/
import Derived.Test.YtdgjegkoncodaaaDoorRsScan
import Derived.Test.YtdgjegkoncodaaaDoorScTok
namespace Go.Proofs.YtdgjegkoncodaaaDoor
open Go.RowKit

theorem rscan_res {w W : World} {src : ByteArray} {e : Ending} {t : Option Told3} (h : RScanP w W src e t) : ∃ p src' a' wx, e = .returned (.pointer (some ⟨p, 0, none⟩)) ∧ w.heap.size ≤ p ∧ Below w.heap.size w wx ∧ RsE wx W p src' a' (resT t).2.2.1 (resT t).2.2.2 (resT t).1 (resT t).2.1 := by
  match t, h with
  | none, ⟨p, h1, h2, wx, h3, h4⟩ => exact ⟨p, _, _, wx, h1, h2, h3, h4⟩
  | some (.ok l c), ⟨p, h1, h2, wx, h3, h4⟩ => exact ⟨p, _, _, wx, h1, h2, h3, h4⟩
  | some (.bad q), ⟨p, h1, h2, wx, h3, h4⟩ => exact ⟨p, _, _, wx, h1, h2, h3, h4⟩
theorem row_down {w : World} {b b' : Nat} {e : TypeId} {s : Nat} {v : Value} {n : Nat} {xs : List Value} (h : w.ownsRow b e s v n xs) (hb : b' ≤ b) : w.ownsRow b' e s v n xs := by
  refine ⟨h.1, ?_⟩
  rcases h.2 with h1 | ⟨g, cap, cur, h1, h2, h3⟩
  · exact .inl h1
  · exact .inr ⟨g, cap, cur, h1, Nat.le_trans hb h2, h3⟩
set_option maxRecDepth 100000 in
set_option maxHeartbeats 1600000 in
theorem rcomments_any {w : World} {src : ByteArray} (hV : ∀ W, Calls Tryd.prog 22 #[.string src] W (fun e W' => e = .returned (.bool (validS src.data.toList)) ∧ ∃ m, W' = W.drewN m)) :
    Calls Tryd.prog 21 #[.string src] w fun e w' => ComP w w' e (resT (scanAll src.data.toList)) ∧ Below w.heap.size w w' := by
  have HS := Lib.hid (rscan_any (w := w) hV)
  clear hV
  go_enter Tryd.func21, Tryd.ntmps21
  go_wp2_with (go_at_call 26; refine hold ?_)
  refine Hold.mk ?_
  refine HS.out.mono ?_
  intro e W2 hR
  obtain ⟨p, src', a', wx, rfl, hp, hb, tv, rv, h⟩ := rscan_res hR
  have HR := Lib.hid h
  have HB := Lib.hid (hb.trans (Below.mono h.below hp))
  have Hp := Lib.hid hp
  obtain ⟨_, _, _, c3, _⟩ := h.cells
  clear h hR hb hp
  go_wp2_with fail
  go_ret
  exact ⟨⟨rv, rfl, row_down HR.out.rems (Nat.le_succ_of_le Hp.out)⟩, HB.out⟩
theorem results_rtok {tmps : Array Value} {W : World} {b : Nat} {v u0 u1 u2 : Value} (hv : tmps.getD 2 undef = v) (hp : tmps.getD 3 undef = .pointer (some ⟨b, 0, none⟩)) (h : W.heap[b]? = some (.cells #[u0, u1, u2] 25 (0, 0))) :
    (results Tryd.f14 tmps).run Tryd.prog W = .ok (.tuple #[v, .agg #[u0, u1, u2]]) W := by
  have hl := run_loadVar_row (P := Tryd.prog) W b _ 25 #[u0, u1, u2] (0, 0) _ h Tryd.underlying25 rfl (by kernel_rfl)
  have hv' : tmps[2]?.getD undef = v := by simpa using hv
  have hp' : tmps[3]?.getD undef = .pointer (some ⟨b, 0, none⟩) := by simpa using hp
  simp only [results, show Tryd.f14.results = #[.tmp 2, .cell 3 25] from rfl]
  simp [Result.andThen, hv', hp', asAddr, hl]
set_option maxRecDepth 100000 in
set_option maxHeartbeats 1600000 in
theorem rtokens_any {w : World} {src : ByteArray} (hV : ∀ W, Calls Tryd.prog 22 #[.string src] W (fun e W' => e = .returned (.bool (validS src.data.toList)) ∧ ∃ m, W' = W.drewN m)) :
    Calls Tryd.prog 14 #[.string src] w fun e w' => TokP w w' e (resT (scanAll src.data.toList)) ∧ Below w.heap.size w w' := by
  obtain ⟨b3, Hb3⟩ : ∃ b, Hid (w.heap.size = b) := ⟨_, Lib.hid rfl⟩
  obtain ⟨W1, HW1⟩ : ∃ W1, Hid (w.alloc (.cells #[.int .i64 0, .string ⟨#[]⟩, .int .i64 0] 25) = W1) := ⟨_, Lib.hid rfl⟩
  have HB1 := Lib.hid (show Below w.heap.size w W1 from by rw [← HW1.out]; exact (Below.refl _ w).alloc (Nat.le_refl _) _)
  have HS := Lib.hid (rscan_any (w := W1) hV)
  have HG := Lib.hid (show W1.heap[b3]? = some (.cells #[.int .i64 0, .string ⟨#[]⟩, .int .i64 0] 25 (0, 0)) from by rw [← HW1.out, ← Hb3.out]; exact heap_alloc_new w _)
  have Hs1 := Lib.hid (show W1.heap.size = b3 + 1 from by rw [← HW1.out, ← Hb3.out]; simp)
  clear hV
  obtain ⟨t, Ht⟩ : ∃ t, Hid (resT (scanAll src.data.toList) = t) := ⟨_, Lib.hid rfl⟩
  rw [Ht.out]
  go_enter Tryd.func14, Tryd.ntmps14
  go_upto_region 1 with fail
  rw [HW1.out, Hb3.out]
  go_wp2_with (go_at_call 26; refine hold ?_)
  refine Hold.mk ?_
  refine HS.out.mono ?_
  intro e W3 hR
  obtain ⟨p, src', a', wx, rfl, hp, hb, tv, rv, h⟩ := rscan_res hR
  rw [Ht.out] at h
  have HR := Lib.hid h
  have hB := hb.trans (Below.mono h.below hp)
  have HB3 := Lib.hid (HB1.out.trans (Below.mono hB HB1.out.size))
  have Hp := Lib.hid hp
  have K3 : W3.heap[b3]? = some (.cells #[.int .i64 0, .string ⟨#[]⟩, .int .i64 0] 25 (0, 0)) := (hB.block b3 (by rw [Hs1.out]; omega)).trans HG.out
  have HK := Lib.hid K3
  have h30 : W3.cell? ⟨b3, 0, none⟩ = some (.int .i64 0) := by simp only [World.cell?, K3]; rfl
  have h31 : W3.cell? ⟨b3, 1, none⟩ = some (.string ⟨#[]⟩) := by simp only [World.cell?, K3]; rfl
  have h32 : W3.cell? ⟨b3, 2, none⟩ = some (.int .i64 0) := by simp only [World.cell?, K3]; rfl
  have f30 : W3.frozen? ⟨b3, 0, none⟩ = false := by simp only [World.frozen?, K3]; simp
  have f31 : W3.frozen? ⟨b3, 1, none⟩ = false := by simp only [World.frozen?, K3]; simp
  have f32 : W3.frozen? ⟨b3, 2, none⟩ = false := by simp only [World.frozen?, K3]; simp
  obtain ⟨_, _, hc, _, h50, h51, h52⟩ := h.cells
  obtain ⟨t0, Ht0⟩ : ∃ a, Hid (t.1 = a) := ⟨_, Lib.hid rfl⟩
  obtain ⟨t1, Ht1⟩ : ∃ a, Hid (t.2.1 = a) := ⟨_, Lib.hid rfl⟩
  rw [Ht0.out] at h50
  rw [Ht1.out] at h52
  clear h hR hb hp hB K3
  go_upto_region 2 with fail
  have HS2 : (fun w' : World => w'.cell? ⟨p, 2, none⟩ = some tv ∧ w'.cell? ⟨p, 4, none⟩ = some (.int .i64 t0) ∧ w'.cell? ⟨p, 5, none⟩ = some (.string ⟨#[]⟩) ∧ w'.cell? ⟨p, 6, none⟩ = some (.int .i64 t1)) W3.drew := ⟨hc, h50, h51, h52⟩
  refine wp_region_pi (fun w' : World => w'.cell? ⟨p, 2, none⟩ = some tv ∧ w'.cell? ⟨p, 4, none⟩ = some (.int .i64 t0) ∧ w'.cell? ⟨p, 5, none⟩ = some (.string ⟨#[]⟩) ∧ w'.cell? ⟨p, 6, none⟩ = some (.int .i64 t1)) [(0, 1), (1, 1), (2, 1), (3, 0), (4, 1), (5, 1), (6, 1), (7, 0), (8, 1), (9, 3)] [(9, [3]), (9, [7])] (by kernel_rfl) (by kernel_rfl) (fun _ _ _ _ _ h => h) (HS2) ?_
  refine pq_pu (some 7) rfl rfl (by rfl) (fun ws => by go_simp; try with_reducible rfl) ?_; go_frame   -- 0 Op.move (Operand.tmp 4)
  refine pq_pu (some 8) rfl rfl (by rfl) (fun ws => by go_simp; try with_reducible rfl) ?_; go_frame   -- 1 Op.nilCheck (Operand.tmp 7)
  refine pq_pu (some 9) rfl rfl (by rfl) (fun ws => by go_simp; try with_reducible rfl) ?_; go_frame   -- 2 Op.fieldAddr 52 (Operand.tmp 8) 2
  refine pq_ld (some 10) rfl rfl (by rfl) (fun ws HS => by go_split_ands; go_simp; try with_reducible rfl) ?_; go_frame   -- 3 Op.load 23 (Operand.tmp 9)
  refine pq_pu (some 11) rfl rfl (by rfl) (fun ws => by go_simp; try with_reducible rfl) ?_; go_frame   -- 4 Op.move (Operand.tmp 4)
  refine pq_pu (some 12) rfl rfl (by rfl) (fun ws => by go_simp; try with_reducible rfl) ?_; go_frame   -- 5 Op.nilCheck (Operand.tmp 11)
  refine pq_pu (some 13) rfl rfl (by rfl) (fun ws => by go_simp; try with_reducible rfl) ?_; go_frame   -- 6 Op.fieldAddr 52 (Operand.tmp 12) 4
  refine pq_ld (some 14) rfl rfl (by rfl) (fun ws HS => by go_split_ands; go_simp; try with_reducible rfl) ?_; go_frame   -- 7 Op.load 25 (Operand.tmp 13)
  refine pq_pu (some 2) rfl rfl (by rfl) (fun ws => by go_simp; try with_reducible rfl) ?_; go_frame   -- 8 Op.assign (Operand.tmp 10)
  refine pi_tail (by rfl) ?_; simp only [opsAt, List.getElem?_toArray, List.getElem?_cons_zero, List.getElem?_cons_succ]   -- [(9, 'Op.store 25 (Operand.tmp 3) (Operand.tmp 14)')]
  go_wp2
  refine bodyPost_ret (results_rtok (v := tv) rfl rfl (set3 (W := W3) HK.out (.int .i64 t0) (.string ⟨#[]⟩) (.int .i64 t1))) rfl ?_
  refine ⟨⟨tv, by rw [Ht0.out, Ht1.out], ?_⟩, ?_⟩
  · have h3 := HR.out.toks
    have hp := Hp.out
    have hs := Hs1.out
    have hw := Hb3.out
    exact row_base (row_keep h3 (fun g hg _ => by
      have hgb : g ≠ b3 := by omega
      show (((W3.setCell _ _).setCell _ _).setCell _ _).heap[g]? = _
      rw [heap_set_ne (show g ≠ b3 from hgb), heap_set_ne (show g ≠ b3 from hgb), heap_set_ne (show g ≠ b3 from hgb)])) (fun k hk => by have h1 := (row_lt h3 hk).2.1; omega)
  · have hle : w.heap.size ≤ b3 := by rw [Hb3.out]; exact Nat.le_refl _
    exact (((HB3.out.setCell (p := ⟨b3, 0, none⟩) hle _).setCell (p := ⟨b3, 1, none⟩) hle _).setCell (p := ⟨b3, 2, none⟩) hle _).drew
end Go.Proofs.YtdgjegkoncodaaaDoor
