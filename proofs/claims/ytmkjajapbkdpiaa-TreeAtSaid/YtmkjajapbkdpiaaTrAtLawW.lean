/- The law TreeAt: the walk. No condition. -/
import Derived.Test.YtmkjajapbkdpiaaTrAtW
import Derived.Test.YtmkjajapbkdpiaaTrRows
namespace Go.Proofs.Ytmkjajapbkdpiaa
open Go.RowKit

set_option maxRecDepth 100000 in
set_option maxHeartbeats 3200000 in
theorem treeAt_any (n0 : Nd) (fa ta : Int) (v0 : Value) (w : World) (hn : NodeV w n0 v0) :
    Calls Try.prog 6 #[v0, .int .i64 fa, .int .i64 ta] w fun e w' => e = .returned (.bool true) ∧ Below w.heap.size w w' := by
  obtain ⟨a, cap, e1, -, -, -⟩ := id hn
  obtain ⟨k, f, t, s, c⟩ := n0
  simp only at e1
  obtain ⟨len, H1⟩ : ∃ l, Hid (c.len = l) := ⟨_, Lib.hid rfl⟩
  rw [H1.out] at e1
  subst e1
  obtain ⟨w1, Hw1⟩ : ∃ w1, Hid (w1 = w.alloc (.cells #[.int .i64 k, .int .i64 f, .int .i64 t, .string s, .slice a len cap] 24)) := ⟨_, Lib.hid rfl⟩
  obtain ⟨bn, Hbn⟩ : ∃ b, Hid (b = w.heap.size) := ⟨_, Lib.hid rfl⟩
  have HB := Lib.hid (show Below w.heap.size w w1 from by
    rw [Hw1.out]
    exact (Below.refl _ w).alloc (Nat.le_refl _) _)
  have q1 : w1.heap[bn]? = some (.cells #[.int .i64 k, .int .i64 f, .int .i64 t, .string s, .slice a len cap] 24 (0, 0)) := by
    rw [Hw1.out, Hbn.out]
    exact heap_alloc_new w _
  have HC : Hid (∀ wx, Below w1.heap.size w1 wx → (fun w' => w'.cell? ⟨bn, 0, none⟩ = some (.int .i64 k) ∧ w'.cell? ⟨bn, 1, none⟩ = some (.int .i64 f) ∧ w'.cell? ⟨bn, 2, none⟩ = some (.int .i64 t) ∧ w'.cell? ⟨bn, 3, none⟩ = some (.string s) ∧ w'.cell? ⟨bn, 4, none⟩ = some (.slice a len cap)) wx) := Lib.hid fun wx hx => by
    have e1 := (hx.block bn (Array.getElem?_eq_some_iff.1 q1).1).trans q1
    refine ⟨?_, ?_, ?_, ?_, ?_⟩ <;> (simp only [World.cell?, e1]; rfl)
  have HN := Lib.hid (show ∀ wx, Below w1.heap.size w1 wx → NodeV wx (⟨k, f, t, s, c⟩ : Nd) (.agg #[.int .i64 k, .int .i64 f, .int .i64 t, .string s, .slice a len cap]) from fun wx hx => (hn.below HB.out).below hx)
  have HI := Lib.hid (fun wx hx => in_any (⟨k, f, t, s, c⟩ : Nd) (.agg #[.int .i64 k, .int .i64 f, .int .i64 t, .string s, .slice a len cap]) wx (HN.out wx hx))
  obtain ⟨ta1, Hta⟩ : ∃ t, Hid (decide (szF c 1 300 ≤ 300) = t) := ⟨_, Lib.hid rfl⟩
  simp only [Hta.out] at HI
  have hA := Lib.hid (Below.refl w1.heap.size w1).drew
  clear hn q1
  go_enter Try.func6, Try.ntmps6
  go_upto_region 1 with fail
  rw [← Hw1.out]
  try rw [← Hbn.out]
  have HS := HC.out w1.drew hA.out
  cases ta1 with
  | false =>
    refine wp_region_pi (fun w' => w'.cell? ⟨bn, 0, none⟩ = some (.int .i64 k) ∧ w'.cell? ⟨bn, 1, none⟩ = some (.int .i64 f) ∧ w'.cell? ⟨bn, 2, none⟩ = some (.int .i64 t) ∧ w'.cell? ⟨bn, 3, none⟩ = some (.string s) ∧ w'.cell? ⟨bn, 4, none⟩ = some (.slice a len cap)) [(0, 0), (1, 2), (2, 1), (3, 1), (4, 0), (5, 1), (6, 1), (8, 0), (9, 1), (10, 1), (7, 2), (11, 3), (12, 3), (13, 3), (14, 3), (15, 3), (16, 3), (17, 3)] [(11, [3, 1, 0]), (11, [7, 4]), (11, [8]), (12, [3, 1, 0]), (12, [7, 4]), (12, [11, 8]), (13, [3, 1, 0]), (13, [12, 7, 4]), (13, [12, 11, 8]), (14, [13, 3, 1, 0]), (14, [13, 12, 7, 4]), (14, [13, 12, 11, 8]), (15, [3, 1, 0]), (15, [13, 12, 7, 4]), (15, [13, 12, 11, 8]), (16, [3, 1, 0]), (16, [15, 13, 12, 7, 4]), (16, [15, 13, 12, 11, 8]), (17, [0]), (17, [4]), (17, [8])] (by kernel_rfl) (by kernel_rfl) (fun _ _ _ _ _ h => h) (HS) ?_
    refine pd_ld (some 7) rfl rfl (by rfl) (fun ws HS => by go_split_ands; go_simp; try with_reducible rfl) ?_; go_frame   -- 0 Op.load 24 (Operand.tmp 3)
    refine pi_ke rfl (fun J hJ => ?_)   -- 1 Op.call { callee := Callee.value (Operand.func 8), args := #[Operand.tmp 7], argTypes := #[24] }
    go_wp2_with (go_at_call 8; refine (HI.out w1.drew hA.out).mono ?_; rintro e w2 ⟨rfl, hb⟩; have hB := Lib.hid (hA.out.trans (Below.mono hb hA.out.size)); clear hb)
    refine hJ _ _ (HC.out w2 hB.out) ?_
    refine pd_pu (some 9) rfl rfl (by rfl) (fun ws => by go_simp; try with_reducible rfl) ?_; go_frame   -- 2 Op.unOp UnOp.not 4 (Operand.tmp 8)
    refine pd_pu (some 10) rfl rfl (by rfl) (fun ws => by go_simp; try with_reducible rfl) ?_; go_frame   -- 3 Op.move (Operand.tmp 9)
    refine pd_ld_skip (some 11) rfl rfl (by rfl) ?_; go_frame   -- 4 Op.load 24 (Operand.tmp 3)
    refine pd_pu_skip (some 12) rfl rfl (by rfl) ?_; go_frame   -- 5 Op.move (Operand.tmp 1)
    refine pd_pu_skip (some 13) rfl rfl (by rfl) ?_; go_frame   -- 6 Op.move (Operand.tmp 2)
    refine pd_ld_skip (some 15) rfl rfl (by rfl) ?_; go_frame   -- 8 Op.load 24 (Operand.tmp 3)
    refine pd_pu_skip (some 16) rfl rfl (by rfl) ?_; go_frame   -- 9 Op.move (Operand.tmp 1)
    refine pd_pu_skip (some 17) rfl rfl (by rfl) ?_; go_frame   -- 10 Op.move (Operand.tmp 2)
    refine pi_ke rfl (fun J hJ => ?_)   -- 7 Op.call { callee := Callee.value (Operand.func 29), args := #[Operand.tmp 11, Operand.tmp 12, Operand.tmp 13], argTypes := #[24, 3, 3] }
    go_wp2_with fail
    refine hJ _ _ (HC.out w2 hB.out) ?_
    refine pi_tail (by rfl) ?_; simp only [opsAt, List.getElem?_toArray, List.getElem?_cons_zero, List.getElem?_cons_succ]   -- [(11, 'Op.call { callee := Callee.value (Operand.func 30), args := #[Operand.tmp 15, Operand.tmp 16, Operand.tmp 17], argTypes := #[24, 3, 3] }'), (12, 'Op.call { callee := Callee.value (Operand.func 19), args := #[Operand.tmp 14, Operand.tmp 18], argTypes := #[22, 22] }'), (13, 'Op.move (Operand.tmp 19)'), (14, 'Op.call { callee := Callee.value (Operand.func 9), args := #[], argTypes := #[] }'), (15, 'Op.pick (Operand.tmp 20) (Operand.tmp 21) (Operand.const (Value.bool false))'), (16, 'Op.pick (Operand.tmp 10) (Operand.const (Value.bool true)) (Operand.tmp 22)'), (17, 'Op.assign (Operand.tmp 23)')]
    go_wp2_with fail
    go_ret
    exact ⟨rfl, HB.out.trans (Below.mono hB.out HB.out.size)⟩
  | true =>
    have hsm : szF c 1 300 ≤ 300 := of_decide_eq_true Hta.out
    have hct := szF_cnt c 1 300 hsm
    have Hcnt := Lib.hid (show c.cnt ≤ 299 from by omega)
    clear hsm hct
    obtain ⟨F, HF⟩ : ∃ F, Hid (foOf (atN fa ta (⟨k, f, t, s, c⟩ : Nd)) = F) := ⟨_, Lib.hid rfl⟩
    obtain ⟨m, Hm⟩ : ∃ m, Hid ((atN fa ta (⟨k, f, t, s, c⟩ : Nd)).length = m) := ⟨_, Lib.hid rfl⟩
    have HFn := Lib.hid (show F.len = m ∧ m ≤ 300 from by
      have h1 := atN_len fa ta (⟨k, f, t, s, c⟩ : Nd)
      have h2 := Hcnt.out
      have h3 := Hm.out
      have h1 : _ ≤ c.cnt + 1 := h1
      exact ⟨by rw [← HF.out, foOf_len, Hm.out], by omega⟩)
    have K1 : Hid (∀ wx, Below w1.heap.size w1 wx → Calls Try.prog 29 #[.agg #[.int .i64 k, .int .i64 f, .int .i64 t, .string s, .slice a len cap], .int .i64 fa, .int .i64 ta] wx fun e w' => ∃ a1 k1, e = .returned (.slice a1 m k1) ∧ KidsAt w' a1 0 F ∧ Below wx.heap.size wx w') := Lib.hid fun wx hx => by
      refine (tat_any fa ta (⟨k, f, t, s, c⟩ : Nd) _ wx (HN.out wx hx) (by have := Hcnt.out; show c.cnt ≤ _; omega)).mono ?_
      rintro e w' ⟨a1, nn, k1, rfl, h1, h2⟩
      have h3 := h1.1
      rw [foOf_len, Hm.out] at h3
      subst h3
      have h4 := h1.kids
      rw [HF.out] at h4
      exact ⟨a1, k1, rfl, h4, h2⟩
    have K2 : Hid (∀ wx, Below w1.heap.size w1 wx → Calls Try.prog 30 #[.agg #[.int .i64 k, .int .i64 f, .int .i64 t, .string s, .slice a len cap], .int .i64 fa, .int .i64 ta] wx fun e w' => ∃ a1 k1, e = .returned (.slice a1 m k1) ∧ KidsAt w' a1 0 F ∧ Below wx.heap.size wx w') := Lib.hid fun wx hx => by
      have hnv := HN.out wx hx
      obtain ⟨a2, cap2, e2, q1, q2, q3⟩ := hnv
      have hnd : NdV (· < wx.heap.size) wx (⟨k, f, t, s, c⟩ : Nd) (.agg #[.int .i64 k, .int .i64 f, .int .i64 t, .string s, .slice a len cap]) := ⟨a2, cap2, e2, q1, q2, q3.p⟩
      refine (rat_any fa ta (c.cnt + 1) (⟨k, f, t, s, c⟩ : Nd) _ wx.heap.size wx (Nat.lt_succ_self _) (by have := Hcnt.out; show c.cnt ≤ _; omega) hnd (Nat.le_refl _) (by rw [Hm.out]; have := HFn.out.2; omega)).mono ?_
      rintro e w' ⟨a1, nn, k1, rfl, Lc, h1, h2, h3, h4⟩
      subst h1
      have h5 := (row_kids (Q := fun _ => True) (fun _ _ => trivial) (fun _ _ => trivial) h2.row h2.low).at
      have h6 : Lc.length = m := by rw [← Hm.out, ← h3]; simp
      rw [h3, HF.out] at h5
      rw [h6]
      exact ⟨a1, k1, rfl, h5, h4⟩
    have K5 : Hid (∀ (wx : World) a1 a2 c1 c2, KidsAt wx a1 0 F → KidsAt wx a2 0 F → Calls Try.prog 19 #[.slice a1 m c1, .slice a2 m c2] wx fun e w' => e = .returned (.bool true) ∧ Below wx.heap.size wx w') := Lib.hid fun wx a1 a2 c1 c2 h3 h4 => rows_same F a1 a2 m c1 c2 wx HFn.out.1 (by have := HFn.out.2; omega) h3 h4
    refine wp_region_pi (fun w' => w'.cell? ⟨bn, 0, none⟩ = some (.int .i64 k) ∧ w'.cell? ⟨bn, 1, none⟩ = some (.int .i64 f) ∧ w'.cell? ⟨bn, 2, none⟩ = some (.int .i64 t) ∧ w'.cell? ⟨bn, 3, none⟩ = some (.string s) ∧ w'.cell? ⟨bn, 4, none⟩ = some (.slice a len cap)) [(0, 0), (1, 2), (2, 1), (3, 1), (4, 0), (5, 1), (6, 1), (8, 0), (9, 1), (10, 1), (7, 2), (11, 3), (12, 3), (13, 3), (14, 3), (15, 3), (16, 3), (17, 3)] [(11, [3, 1, 0]), (11, [7, 4]), (11, [8]), (12, [3, 1, 0]), (12, [7, 4]), (12, [11, 8]), (13, [3, 1, 0]), (13, [12, 7, 4]), (13, [12, 11, 8]), (14, [13, 3, 1, 0]), (14, [13, 12, 7, 4]), (14, [13, 12, 11, 8]), (15, [3, 1, 0]), (15, [13, 12, 7, 4]), (15, [13, 12, 11, 8]), (16, [3, 1, 0]), (16, [15, 13, 12, 7, 4]), (16, [15, 13, 12, 11, 8]), (17, [0]), (17, [4]), (17, [8])] (by kernel_rfl) (by kernel_rfl) (fun _ _ _ _ _ h => h) (HS) ?_
    refine pd_ld (some 7) rfl rfl (by rfl) (fun ws HS => by go_split_ands; go_simp; try with_reducible rfl) ?_; go_frame   -- 0 Op.load 24 (Operand.tmp 3)
    refine pi_ke rfl (fun J hJ => ?_)   -- 1 Op.call { callee := Callee.value (Operand.func 8), args := #[Operand.tmp 7], argTypes := #[24] }
    go_wp2_with (go_at_call 8; refine (HI.out w1.drew hA.out).mono ?_; rintro e w2 ⟨rfl, hb⟩; have hB := Lib.hid (hA.out.trans (Below.mono hb hA.out.size)); clear hb)
    refine hJ _ _ (HC.out w2 hB.out) ?_
    refine pd_pu (some 9) rfl rfl (by rfl) (fun ws => by go_simp; try with_reducible rfl) ?_; go_frame   -- 2 Op.unOp UnOp.not 4 (Operand.tmp 8)
    refine pd_pu (some 10) rfl rfl (by rfl) (fun ws => by go_simp; try with_reducible rfl) ?_; go_frame   -- 3 Op.move (Operand.tmp 9)
    refine pd_ld (some 11) rfl rfl (by rfl) (fun ws HS => by go_split_ands; go_simp; try with_reducible rfl) ?_; go_frame   -- 4 Op.load 24 (Operand.tmp 3)
    refine pd_pu (some 12) rfl rfl (by rfl) (fun ws => by go_simp; try with_reducible rfl) ?_; go_frame   -- 5 Op.move (Operand.tmp 1)
    refine pd_pu (some 13) rfl rfl (by rfl) (fun ws => by go_simp; try with_reducible rfl) ?_; go_frame   -- 6 Op.move (Operand.tmp 2)
    refine pd_ld (some 15) rfl rfl (by rfl) (fun ws HS => by go_split_ands; go_simp; try with_reducible rfl) ?_; go_frame   -- 8 Op.load 24 (Operand.tmp 3)
    refine pd_pu (some 16) rfl rfl (by rfl) (fun ws => by go_simp; try with_reducible rfl) ?_; go_frame   -- 9 Op.move (Operand.tmp 1)
    refine pd_pu (some 17) rfl rfl (by rfl) (fun ws => by go_simp; try with_reducible rfl) ?_; go_frame   -- 10 Op.move (Operand.tmp 2)
    refine pi_ke rfl (fun J hJ => ?_)   -- 7 Op.call { callee := Callee.value (Operand.func 29), args := #[Operand.tmp 11, Operand.tmp 12, Operand.tmp 13], argTypes := #[24, 3, 3] }
    go_wp2_with (go_at_call 29; refine (K1.out w2 hB.out).mono ?_; rintro e w3 ⟨a1, k1, rfl, hk1, hb⟩; have hC := Lib.hid (hB.out.trans (Below.mono hb hB.out.size)); have HKa := Lib.hid hk1; clear hb hk1)
    refine hJ _ _ (HC.out w3 hC.out) ?_
    refine pi_tail (by rfl) ?_; simp only [opsAt, List.getElem?_toArray, List.getElem?_cons_zero, List.getElem?_cons_succ]   -- [(11, 'Op.call { callee := Callee.value (Operand.func 30), args := #[Operand.tmp 15, Operand.tmp 16, Operand.tmp 17], argTypes := #[24, 3, 3] }'), (12, 'Op.call { callee := Callee.value (Operand.func 19), args := #[Operand.tmp 14, Operand.tmp 18], argTypes := #[22, 22] }'), (13, 'Op.move (Operand.tmp 19)'), (14, 'Op.call { callee := Callee.value (Operand.func 9), args := #[], argTypes := #[] }'), (15, 'Op.pick (Operand.tmp 20) (Operand.tmp 21) (Operand.const (Value.bool false))'), (16, 'Op.pick (Operand.tmp 10) (Operand.const (Value.bool true)) (Operand.tmp 22)'), (17, 'Op.assign (Operand.tmp 23)')]
    go_wp2_with first
      | (go_at_call 30; refine (K2.out w3 hC.out).mono ?_; rintro e w4 ⟨a2, k2, rfl, hk1, hb⟩; have hD := Lib.hid (hC.out.trans (Below.mono hb hC.out.size)); have HKb := Lib.hid (And.intro (HKa.out.below hb rfl) hk1); clear hb hk1)
      | (go_at_call 19; refine (K5.out w4 a1 a2 k1 k2 HKb.out.1 HKb.out.2).mono ?_; rintro e w5 ⟨rfl, hb⟩; have hE := Lib.hid (hD.out.trans (Below.mono hb hD.out.size)); clear hb)
      | (go_at_call 9; refine (awake_any w5).mono ?_; rintro e w6 ⟨rfl, hb⟩; have hF := Lib.hid (hE.out.trans (Below.mono hb hE.out.size)); clear hb)
    go_ret
    exact ⟨rfl, HB.out.trans (Below.mono hF.out HB.out.size)⟩
end Go.Proofs.Ytmkjajapbkdpiaa
