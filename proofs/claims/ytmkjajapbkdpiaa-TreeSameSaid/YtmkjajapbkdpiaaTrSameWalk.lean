/- The law TreeSame: the walk. No condition. -/
import Derived.Test.YtmkjajapbkdpiaaTrAwake
namespace Go.Proofs.Ytmkjajapbkdpiaa
open Go.RowKit

theorem sameF_refl : ∀ F : Fo, sameF F F = true
  | .nil => rfl
  | .cons k f t s c r => by simp [sameF, sameF_refl c, sameF_refl r]
theorem sameN_refl (n : Nd) : sameN n n = true := by simp [sameN, sameF_refl]

set_option maxRecDepth 100000 in
set_option maxHeartbeats 3200000 in
theorem treeSame_any (n1 n2 : Nd) (v1 v2 : Value) (w : World) (hn1 : NodeV w n1 v1) (hn2 : NodeV w n2 v2) :
    Calls Try.prog 4 #[v1, v2] w fun e w' => e = .returned (.bool true) ∧ Below w.heap.size w w' := by
  obtain ⟨a1, p1, e1, _, _, _⟩ := id hn1
  obtain ⟨a2, p2, e2, _, _, _⟩ := id hn2
  obtain ⟨k1, f1, t1, s1, c1⟩ := n1
  obtain ⟨k2, f2, t2, s2, c2⟩ := n2
  simp only at e1 e2
  obtain ⟨l1, H1⟩ : ∃ l, Hid (c1.len = l) := ⟨_, Lib.hid rfl⟩
  obtain ⟨l2, H2⟩ : ∃ l, Hid (c2.len = l) := ⟨_, Lib.hid rfl⟩
  rw [H1.out] at e1
  rw [H2.out] at e2
  subst e1
  subst e2
  obtain ⟨w1, Hw1⟩ : ∃ w1, Hid (w1 = (w.alloc (.cells #[.int .i64 k1, .int .i64 f1, .int .i64 t1, .string s1, .slice a1 l1 p1] 24)).alloc (.cells #[.int .i64 k2, .int .i64 f2, .int .i64 t2, .string s2, .slice a2 l2 p2] 24)) := ⟨_, Lib.hid rfl⟩
  obtain ⟨bs, Hbs⟩ : ∃ b, Hid (b = w.heap.size) := ⟨_, Lib.hid rfl⟩
  obtain ⟨bt, Hbt⟩ : ∃ b, Hid (b = w.heap.size + 1) := ⟨_, Lib.hid rfl⟩
  have HB := Lib.hid (show Below w.heap.size w w1 from by
    rw [Hw1.out]
    exact ((Below.refl _ w).alloc (Nat.le_refl _) _).alloc (by simp) _)
  have q1 : w1.heap[bs]? = some (.cells #[.int .i64 k1, .int .i64 f1, .int .i64 t1, .string s1, .slice a1 l1 p1] 24 (0, 0)) := by
    rw [Hw1.out, Hbs.out]
    exact (Below.heap_alloc _ _ _ (by simp)).trans (heap_alloc_new w _)
  have q2 : w1.heap[bt]? = some (.cells #[.int .i64 k2, .int .i64 f2, .int .i64 t2, .string s2, .slice a2 l2 p2] 24 (0, 0)) := by
    have := heap_alloc_new (w.alloc (.cells #[.int .i64 k1, .int .i64 f1, .int .i64 t1, .string s1, .slice a1 l1 p1] 24)) (.cells #[.int .i64 k2, .int .i64 f2, .int .i64 t2, .string s2, .slice a2 l2 p2] 24)
    rw [World.size_alloc] at this
    rw [Hw1.out, Hbt.out]
    exact this
  have HN := Lib.hid (show ∀ wx, Below w1.heap.size w1 wx → NodeV wx ⟨k1, f1, t1, s1, c1⟩ (.agg #[.int .i64 k1, .int .i64 f1, .int .i64 t1, .string s1, .slice a1 l1 p1]) ∧ NodeV wx ⟨k2, f2, t2, s2, c2⟩ (.agg #[.int .i64 k2, .int .i64 f2, .int .i64 t2, .string s2, .slice a2 l2 p2]) from fun wx hx => ⟨(hn1.below HB.out).below hx, (hn2.below HB.out).below hx⟩)
  have HC : Hid (∀ wx, Below w1.heap.size w1 wx → (fun w' => w'.cell? ⟨bs, 0, none⟩ = some (.int .i64 k1) ∧ w'.cell? ⟨bs, 1, none⟩ = some (.int .i64 f1) ∧ w'.cell? ⟨bs, 2, none⟩ = some (.int .i64 t1) ∧ w'.cell? ⟨bs, 3, none⟩ = some (.string s1) ∧ w'.cell? ⟨bs, 4, none⟩ = some (.slice a1 l1 p1) ∧ w'.cell? ⟨bt, 0, none⟩ = some (.int .i64 k2) ∧ w'.cell? ⟨bt, 1, none⟩ = some (.int .i64 f2) ∧ w'.cell? ⟨bt, 2, none⟩ = some (.int .i64 t2) ∧ w'.cell? ⟨bt, 3, none⟩ = some (.string s2) ∧ w'.cell? ⟨bt, 4, none⟩ = some (.slice a2 l2 p2)) wx) := Lib.hid fun wx hx => by
    have e1 := (hx.block bs (Array.getElem?_eq_some_iff.1 q1).1).trans q1
    have e2 := (hx.block bt (Array.getElem?_eq_some_iff.1 q2).1).trans q2
    refine ⟨?_, ?_, ?_, ?_, ?_, ?_, ?_, ?_, ?_, ?_⟩ <;> first | (simp only [World.cell?, e1]; rfl) | (simp only [World.cell?, e2]; rfl)
  clear hn1 hn2 q1 q2
  have HIa := Lib.hid (fun wx hx => in_any ⟨k1, f1, t1, s1, c1⟩ (.agg #[.int .i64 k1, .int .i64 f1, .int .i64 t1, .string s1, .slice a1 l1 p1]) wx (HN.out wx hx).1)
  have HIb := Lib.hid (fun wx hx => in_any ⟨k2, f2, t2, s2, c2⟩ (.agg #[.int .i64 k2, .int .i64 f2, .int .i64 t2, .string s2, .slice a2 l2 p2]) wx (HN.out wx hx).2)
  obtain ⟨ta, Hta⟩ : ∃ t, Hid (decide (szF c1 1 300 ≤ 300) = t) := ⟨_, Lib.hid rfl⟩
  obtain ⟨tb, Htb⟩ : ∃ t, Hid (decide (szF c2 1 300 ≤ 300) = t) := ⟨_, Lib.hid rfl⟩
  simp only [Hta.out] at HIa
  simp only [Htb.out] at HIb
  have hA := Lib.hid (Below.refl w1.heap.size w1)
  go_enter Try.func4, Try.ntmps4
  go_wp2_with (go_at_call 8; refine hold ?_)
  rw [← Hw1.out]
  try rw [← Hbt.out]
  try rw [← Hbs.out]
  refine Hold.mk ?_
  refine (HIa.out w1 hA.out).mono ?_
  rintro e w2 ⟨rfl, hb2⟩
  have hB := Lib.hid (hA.out.trans (Below.mono hb2 hA.out.size))
  obtain ⟨c0, c1', c2', c3, c4, d0, d1, d2, d3, d4⟩ := HC.out w2 hB.out
  clear hb2
  cases ta with
  | false =>
    go_wp2_with (go_at_call 9; refine (awake_any w2).mono ?_; rintro e w3 ⟨rfl, hb3⟩; have hG := Lib.hid hb3; clear hb3)
    go_ret
    exact ⟨rfl, HB.out.trans (Below.mono (hB.out.trans (Below.mono hG.out hB.out.size)) HB.out.size)⟩
  | true =>
    cases tb with
    | false =>
      go_wp2_with first
        | (go_at_call 8; refine (HIb.out w2 hB.out).mono ?_; rintro e w3 ⟨rfl, hb3⟩; have hC := Lib.hid (hB.out.trans (Below.mono hb3 hB.out.size)); clear hb3)
        | (go_at_call 9; refine (awake_any w3).mono ?_; rintro e w4 ⟨rfl, hb4⟩; have hG := Lib.hid hb4; clear hb4)
      go_ret
      exact ⟨rfl, HB.out.trans (Below.mono (hC.out.trans (Below.mono hG.out hC.out.size)) HB.out.size)⟩
    | true =>
      go_wp2_with (go_at_call 8; refine (HIb.out w2 hB.out).mono ?_; rintro e w3 ⟨rfl, hb3⟩; have hC := Lib.hid (hB.out.trans (Below.mono hb3 hB.out.size)); clear hb3; refine hold ?_)
      clear c0 c1' c2' c3 c4 d0 d1 d2 d3 d4
      refine Hold.mk ?_
      go_upto_region 3 with fail
      have hD := Lib.hid (hC.out.trans (Below.refl _ w3).drew)
      have HS := HC.out w3.drew hD.out
      obtain ⟨t, Ht⟩ : ∃ t, Hid (sameN ⟨k1, f1, t1, s1, c1⟩ ⟨k2, f2, t2, s2, c2⟩ = t) := ⟨_, Lib.hid rfl⟩
      have K1 : Hid (∀ wx, Below w1.heap.size w1 wx → Calls Try.prog 17 #[.agg #[.int .i64 k1, .int .i64 f1, .int .i64 t1, .string s1, .slice a1 l1 p1], .agg #[.int .i64 k2, .int .i64 f2, .int .i64 t2, .string s2, .slice a2 l2 p2]] wx fun e w' => e = .returned (.bool t) ∧ Below wx.heap.size wx w') := Lib.hid fun wx hx => by
        have := same_any _ ⟨k1, f1, t1, s1, c1⟩ ⟨k2, f2, t2, s2, c2⟩ _ _ wx (Nat.lt_succ_self _) (HN.out wx hx).1 (HN.out wx hx).2
        rw [Ht.out] at this
        exact this
      have K2 : Hid (∀ wx, Below w1.heap.size w1 wx → Calls Try.prog 18 #[.agg #[.int .i64 k1, .int .i64 f1, .int .i64 t1, .string s1, .slice a1 l1 p1], .agg #[.int .i64 k2, .int .i64 f2, .int .i64 t2, .string s2, .slice a2 l2 p2]] wx fun e w' => e = .returned (.bool t) ∧ Below wx.heap.size wx w') := Lib.hid fun wx hx => by
        have := rsame_any _ ⟨k1, f1, t1, s1, c1⟩ ⟨k2, f2, t2, s2, c2⟩ _ _ wx (Nat.lt_succ_self _) (HN.out wx hx).1 (HN.out wx hx).2
        rw [Ht.out] at this
        exact this
      have K3 : Hid (∀ wx, Below w1.heap.size w1 wx → Calls Try.prog 17 #[.agg #[.int .i64 k1, .int .i64 f1, .int .i64 t1, .string s1, .slice a1 l1 p1], .agg #[.int .i64 k1, .int .i64 f1, .int .i64 t1, .string s1, .slice a1 l1 p1]] wx fun e w' => e = .returned (.bool true) ∧ Below wx.heap.size wx w') := Lib.hid fun wx hx => by
        have := same_any _ ⟨k1, f1, t1, s1, c1⟩ ⟨k1, f1, t1, s1, c1⟩ _ _ wx (Nat.lt_succ_self _) (HN.out wx hx).1 (HN.out wx hx).1
        rw [sameN_refl] at this
        exact this
      refine wp_region_pi (fun w' => w'.cell? ⟨bs, 0, none⟩ = some (.int .i64 k1) ∧ w'.cell? ⟨bs, 1, none⟩ = some (.int .i64 f1) ∧ w'.cell? ⟨bs, 2, none⟩ = some (.int .i64 t1) ∧ w'.cell? ⟨bs, 3, none⟩ = some (.string s1) ∧ w'.cell? ⟨bs, 4, none⟩ = some (.slice a1 l1 p1) ∧ w'.cell? ⟨bt, 0, none⟩ = some (.int .i64 k2) ∧ w'.cell? ⟨bt, 1, none⟩ = some (.int .i64 f2) ∧ w'.cell? ⟨bt, 2, none⟩ = some (.int .i64 t2) ∧ w'.cell? ⟨bt, 3, none⟩ = some (.string s2) ∧ w'.cell? ⟨bt, 4, none⟩ = some (.slice a2 l2 p2)) [(0, 0), (1, 0), (3, 0), (4, 0), (2, 2), (5, 2), (6, 1), (7, 1), (8, 0), (9, 0), (10, 3), (11, 3), (12, 3), (13, 3), (14, 3), (15, 3)] [(10, [7, 6, 2, 0]), (10, [7, 6, 2, 1]), (10, [7, 5, 3]), (10, [7, 5, 4]), (10, [8]), (10, [9]), (11, [7, 6, 2, 0]), (11, [7, 6, 2, 1]), (11, [7, 5, 3]), (11, [7, 5, 4]), (11, [10, 8]), (11, [10, 9]), (12, [11, 7, 6, 2, 0]), (12, [11, 7, 6, 2, 1]), (12, [11, 7, 5, 3]), (12, [11, 7, 5, 4]), (12, [10, 8]), (12, [10, 9]), (13, [12, 11, 7, 6, 2, 0]), (13, [12, 11, 7, 6, 2, 1]), (13, [12, 11, 7, 5, 3]), (13, [12, 11, 7, 5, 4]), (13, [12, 10, 8]), (13, [12, 10, 9]), (14, [12, 11, 7, 6, 2, 0]), (14, [12, 11, 7, 6, 2, 1]), (14, [12, 11, 7, 5, 3]), (14, [12, 11, 7, 5, 4]), (14, [12, 10, 8]), (14, [12, 10, 9]), (15, [0]), (15, [1]), (15, [3]), (15, [4]), (15, [8]), (15, [9])] (by kernel_rfl) (by kernel_rfl) (fun _ _ _ _ _ h => h) (HS) ?_
      refine pd_ld (some 14) rfl rfl (by rfl) (fun ws HS => by go_split_ands; go_simp; try with_reducible rfl) ?_; go_frame   -- 0 Op.load 24 (Operand.tmp 2)
      refine pd_ld (some 15) rfl rfl (by rfl) (fun ws HS => by go_split_ands; go_simp; try with_reducible rfl) ?_; go_frame   -- 1 Op.load 24 (Operand.tmp 3)
      refine pd_ld (some 17) rfl rfl (by rfl) (fun ws HS => by go_split_ands; go_simp; try with_reducible rfl) ?_; go_frame   -- 3 Op.load 24 (Operand.tmp 2)
      refine pd_ld (some 18) rfl rfl (by rfl) (fun ws HS => by go_split_ands; go_simp; try with_reducible rfl) ?_; go_frame   -- 4 Op.load 24 (Operand.tmp 3)
      refine pi_ke rfl (fun J hJ => ?_)   -- 2 Op.call { callee := Callee.value (Operand.func 17), args := #[Operand.tmp 14, Operand.tmp 15], argTypes := #[24, 24] }
      go_wp2_with (go_at_call 17; refine (K1.out w3.drew hD.out).mono ?_; rintro e w4 ⟨rfl, hb4⟩; have hE := Lib.hid (hD.out.trans (Below.mono hb4 hD.out.size)); clear hb4)
      refine hJ _ _ (HC.out w4 hE.out) ?_
      refine pi_ke rfl (fun J hJ => ?_)   -- 5 Op.call { callee := Callee.value (Operand.func 18), args := #[Operand.tmp 17, Operand.tmp 18], argTypes := #[24, 24] }
      go_wp2_with (go_at_call 18; refine (K2.out w4 hE.out).mono ?_; rintro e w5 ⟨rfl, hb5⟩; have hF := Lib.hid (hE.out.trans (Below.mono hb5 hE.out.size)); clear hb5)
      refine hJ _ _ (HC.out w5 hF.out) ?_
      have htt : (t == t) = true := by simp
      refine pd_pu (some 20) rfl rfl (by rfl) (fun ws => by go_simp; try with_reducible rfl) ?_; go_frame   -- 6 Op.binOp BinOp.eql 4 (Operand.tmp 16) (Operand.tmp 19) 4
      try simp only [beq_self_eq_true]
      refine pd_pu (some 21) rfl rfl (by rfl) (fun ws => by go_simp; try with_reducible rfl) ?_; go_frame   -- 7 Op.move (Operand.tmp 20)
      refine pd_ld (some 22) rfl rfl (by rfl) (fun ws HS => by go_split_ands; go_simp; try with_reducible rfl) ?_; go_frame   -- 8 Op.load 24 (Operand.tmp 2)
      refine pd_ld (some 23) rfl rfl (by rfl) (fun ws HS => by go_split_ands; go_simp; try with_reducible rfl) ?_; go_frame   -- 9 Op.load 24 (Operand.tmp 2)
      refine pi_tail (by rfl) ?_; simp only [opsAt, List.getElem?_toArray, List.getElem?_cons_zero, List.getElem?_cons_succ]   -- [(10, 'Op.call { callee := Callee.value (Operand.func 17), args := #[Operand.tmp 22, Operand.tmp 23], argTypes := #[24, 24] }'), (11, 'Op.pick (Operand.tmp 21) (Operand.tmp 24) (Operand.const (Value.bool false))'), (12, 'Op.move (Operand.tmp 25)'), (13, 'Op.call { callee := Callee.value (Operand.func 9), args := #[], argTypes := #[] }'), (14, 'Op.pick (Operand.tmp 26) (Operand.tmp 27) (Operand.const (Value.bool false))'), (15, 'Op.assign (Operand.tmp 28)')]
      go_wp2_with first
        | (go_at_call 17; refine (K3.out w5 hF.out).mono ?_; rintro e w6 ⟨rfl, hb6⟩; have hG := Lib.hid (hF.out.trans (Below.mono hb6 hF.out.size)); clear hb6)
        | (go_at_call 9; refine (awake_any w6).mono ?_; rintro e w7 ⟨rfl, hb7⟩; have hI := Lib.hid (hG.out.trans (Below.mono hb7 hG.out.size)); clear hb7)
      go_ret
      exact ⟨rfl, HB.out.trans (Below.mono hI.out HB.out.size)⟩
end Go.Proofs.Ytmkjajapbkdpiaa
