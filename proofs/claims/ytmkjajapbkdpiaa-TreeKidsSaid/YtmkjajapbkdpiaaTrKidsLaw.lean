/- The law TreeKids: the walk. No condition. -/
import Derived.Test.YtmkjajapbkdpiaaTrOpenI
import Derived.Test.YtmkjajapbkdpiaaTrRows
namespace Go.Proofs.Ytmkjajapbkdpiaa
open Go.RowKit

theorem wpList_app_ints {ops : Array Oper} {rest : List Oper} {o : Oper} {a : Act} {w : World} {Q : Exit → Act → World → Prop} (hgd : o.guard = none) (s x : Operand)
    (ho : o.op = .call { callee := .builtin .append, args := #[s, x], argTypes := #[27, 27] }) (ax : Option Addr) (n c : Nat) (z : List Int)
    (hs : a.eval s = .slice none 0 0) (hx : a.eval x = .slice ax n c) (hz : IntsAt w ax n z) (hn : n ≤ 1000000)
    (h : ∀ ak ck w', IntsAt w' ak n z → Below w.heap.size w w' → wpList Try.prog ops Q rest (a.put o.dst (.slice ak n ck)) w') : wpList Try.prog ops Q (o :: rest) a w := by
  obtain ⟨i0, hi, hz0, hz1, hz2⟩ := info_parts Try.info3
  cases n with
  | zero => exact wpList_app00 hgd s x 27 ho 3 i0 Try.underlying27 hi ax c hs hx (h none 0 w ⟨hz.1, fun i hi => absurd hi (by omega)⟩ (Below.refl _ _))
  | succ n =>
    obtain ⟨ad, rfl, _⟩ := hz.2 0 (by omega)
    refine wpList_app w hgd s x 27 ho w.heap.size 3 i0 _ 1 8 Try.underlying27 hi hz0 hz1 hz2 rfl (.slice none 0 0) 0 [] hs (World.ownsRow_nil _ _ _ _) ad (n + 1) c (z.map fun x => .int .i64 x) hx (by simp [hz.1]) (fun j u hu => ?_) (fun u hu => ?_) (by omega) (by unfold maxLen; omega) (by omega) (Nat.le_refl _) (fun g gc w' hown hat => ?_)
    · rw [List.getElem?_map] at hu
      obtain ⟨y, hy, rfl⟩ := Option.map_eq_some_iff.1 hu
      have hj : j < n + 1 := by rw [← hz.1]; exact (List.getElem?_eq_some_iff.1 hy).1
      obtain ⟨x', e, hc⟩ := hz.2 j hj
      cases e
      rw [hc]
      simp [List.getD, hy]
    · obtain ⟨y, _, rfl⟩ := List.mem_map.1 hu
      rfl
    · have hg := hat.grown
      rw [Nat.zero_add] at hown ⊢
      refine h _ _ w' ⟨hz.1, fun i hi => ⟨_, rfl, ?_⟩⟩ ⟨hg.os, hg.tape, hg.output, hg.size, fun k hk => hg.block k hk (fun e => ?_)⟩
      · obtain ⟨g', e, hc⟩ := row_cell hown (j := i) (u := .int .i64 (z.getD i 0)) (by
          rw [List.nil_append, List.getElem?_map, List.getElem?_eq_getElem (show i < z.length by rw [hz.1]; exact hi)]
          simp [List.getD, show i < z.length by rw [hz.1]; exact hi])
        cases e
        rw [add0]
        exact hc
      · simp [Value.ownBlock] at e

set_option maxRecDepth 100000 in
set_option maxHeartbeats 3200000 in
theorem treeKids_any (n0 : Nd) (ax : Option Addr) (n cx : Nat) (z : List Int) (v0 : Value) (w : World) (hn : NodeV w n0 v0) (hz : IntsAt w ax n z) :
    Calls Try.prog 5 #[v0, .slice ax n cx] w fun e w' => e = .returned (.bool true) ∧ Below w.heap.size w w' := by
  obtain ⟨L, hL, hLm, -⟩ := LstN.of 0 hn (Nat.le_refl _)
  have hll : L.length = n0.c.cnt + 1 := by rw [← flatN_len 0 n0, ← hLm]; simp
  obtain ⟨a, cap, e1, -, -, -⟩ := id hn
  obtain ⟨k, f, t, s, c⟩ := n0
  simp only at e1 hll
  obtain ⟨len, H1⟩ : ∃ l, Hid (c.len = l) := ⟨_, Lib.hid rfl⟩
  rw [H1.out] at e1
  subst e1
  obtain ⟨w1, Hw1⟩ : ∃ w1, Hid (w1 = w.alloc (.cells #[.int .i64 k, .int .i64 f, .int .i64 t, .string s, .slice a len cap] 24)) := ⟨_, Lib.hid rfl⟩
  obtain ⟨bn, Hbn⟩ : ∃ b, Hid (b = w.heap.size) := ⟨_, Lib.hid rfl⟩
  have HB := Lib.hid (show Below w.heap.size w w1 from by
    rw [Hw1.out]
    exact (Below.refl _ w).alloc (Nat.le_refl _) _)
  have q1 : w1.heap[bn]? = some (.cells #[.int .i64 k, .int .i64 f, .int .i64 t, .string s, .slice a len cap] 24 (0, 0)) := by
    rw [Hw1.out, Hbn.out]
    exact heap_alloc_new w _
  have HC : Hid (∀ wx, Below w1.heap.size w1 wx → (fun w' => w'.cell? ⟨bn, 0, none⟩ = some (.int .i64 k) ∧ w'.cell? ⟨bn, 1, none⟩ = some (.int .i64 f) ∧ w'.cell? ⟨bn, 2, none⟩ = some (.int .i64 t) ∧ w'.cell? ⟨bn, 3, none⟩ = some (.string s) ∧ w'.cell? ⟨bn, 4, none⟩ = some (.slice a len cap)) wx) := Lib.hid fun wx hx => by
    have e1 := (hx.block bn (Array.getElem?_eq_some_iff.1 q1).1).trans q1
    refine ⟨?_, ?_, ?_, ?_, ?_⟩ <;> (simp only [World.cell?, e1]; rfl)
  have HN := Lib.hid (show ∀ wx, Below w1.heap.size w1 wx → NodeV wx (⟨k, f, t, s, c⟩ : Nd) (.agg #[.int .i64 k, .int .i64 f, .int .i64 t, .string s, .slice a len cap]) ∧ LstN wx wx.heap.size 0 (⟨k, f, t, s, c⟩ : Nd) (.agg #[.int .i64 k, .int .i64 f, .int .i64 t, .string s, .slice a len cap]) L ∧ IntsAt wx ax n z from fun wx hx =>
    ⟨(hn.below HB.out).below hx, (hL.up HB.out).up hx, (hz.below HB.out).below hx⟩)
  have HI := Lib.hid (fun wx hx => in_any (⟨k, f, t, s, c⟩ : Nd) (.agg #[.int .i64 k, .int .i64 f, .int .i64 t, .string s, .slice a len cap]) wx (HN.out wx hx).1)
  obtain ⟨ta, Hta⟩ : ∃ t, Hid (decide (szF c 1 300 ≤ 300) = t) := ⟨_, Lib.hid rfl⟩
  simp only [Hta.out] at HI
  have hA := Lib.hid (Below.refl w1.heap.size w1)
  have Hll := Lib.hid hll
  clear hn hL hLm q1 hll hz
  go_enter Try.func5, Try.ntmps5
  go_wp2_with (go_at_call 8; refine hold ?_)
  rw [← Hw1.out]
  try rw [← Hbn.out]
  refine Hold.mk ?_
  refine (HI.out w1 hA.out).mono ?_
  rintro e w2 ⟨rfl, hb2⟩
  have hB := Lib.hid (hA.out.trans (Below.mono hb2 hA.out.size))
  clear hb2
  cases ta with
  | false =>
    go_wp2_with (go_at_call 9; refine (awake_any w2).mono ?_; rintro e w3 ⟨rfl, hb3⟩; have hG := Lib.hid hb3; clear hb3)
    go_ret
    exact ⟨rfl, HB.out.trans (Below.mono (hB.out.trans (Below.mono hG.out hB.out.size)) HB.out.size)⟩
  | true =>
  by_cases hn50 : 50 < n
  · go_wp2_with (go_at_call 9; refine (awake_any w2).mono ?_; rintro e w3 ⟨rfl, hb3⟩; have hG := Lib.hid hb3; clear hb3)
    go_ret
    exact ⟨rfl, HB.out.trans (Below.mono (hB.out.trans (Below.mono hG.out hB.out.size)) HB.out.size)⟩
  · have hn51 : n ≤ 50 := by omega
    clear hn50
    have hsm : szF c 1 300 ≤ 300 := of_decide_eq_true Hta.out
    have hct := szF_cnt c 1 300 hsm
    have Hcnt := Lib.hid (show c.cnt ≤ 299 from by omega)
    clear hsm hct
    go_upto_region 5 with (refine wpList_app_ints rfl _ _ rfl ax n cx z rfl rfl (HN.out w2 hB.out).2.2 (by omega) ?_; intro ak ck w3 hk hb3; have HK3 := Lib.hid (And.intro hk hb3); clear hk hb3)
    have hC := Lib.hid (hB.out.trans (Below.mono HK3.out.2 hB.out.size))
    have hIk : Hid (∀ wx, Below w3.heap.size w3 wx → IntsAt wx ak n z) := Lib.hid fun wx hx => HK3.out.1.below hx
    have hX : Hid (∀ wx, Below w3.heap.size w3 wx → Below w1.heap.size w1 wx) := Lib.hid fun wx hx => hC.out.trans (Below.mono hx hC.out.size)
    obtain ⟨FK, HFK⟩ : ∃ F, Hid (foOf (kidsOf z c len) = F) := ⟨_, Lib.hid rfl⟩
    obtain ⟨nk, Hnk⟩ : ∃ m, Hid ((kidsOf z c len).length = m) := ⟨_, Lib.hid rfl⟩
    obtain ⟨FI, HFI⟩ : ∃ F, Hid (foOf (nodesI L) = F) := ⟨_, Lib.hid rfl⟩
    obtain ⟨ni, Hni⟩ : ∃ m, Hid ((nodesI L).length = m) := ⟨_, Lib.hid rfl⟩
    have HFn := Lib.hid (show FK.len = nk ∧ nk ≤ 1000000 ∧ FI.len = ni ∧ ni ≤ 1000000 from by
      refine ⟨by rw [← HFK.out, foOf_len, Hnk.out], ?_, by rw [← HFI.out, foOf_len, Hni.out], ?_⟩
      · have h1 := kidsOf_len z c len
        have h2 := Fo.len_cnt c
        have := Hnk.out
        have := Hcnt.out
        have := H1.out
        omega
      · have h1 := Hni.out
        unfold nodesI at h1
        have h2 := List.length_filter_le isId L
        have := Hll.out
        have := Hcnt.out
        simp only [List.length_map] at h1
        omega)
    have K1 : Hid (∀ wx, Below w3.heap.size w3 wx → Calls Try.prog 20 #[.agg #[.int .i64 k, .int .i64 f, .int .i64 t, .string s, .slice a len cap], .slice ak n ck] wx fun e w' => ∃ a1 k1, e = .returned (.slice a1 nk k1) ∧ KidsAt w' a1 0 FK ∧ Below wx.heap.size wx w') := Lib.hid fun wx hx => by
      refine (tkids_any (⟨k, f, t, s, c⟩ : Nd) _ ak n ck z wx (HN.out wx (hX.out wx hx)).1 (hIk.out wx hx) (by omega) (by have := Hcnt.out; show c.cnt ≤ _; omega)).mono ?_
      rintro e w' ⟨a1, nn, k1, rfl, Lc, h1, h2, h3, h4⟩
      subst h1
      have h5 := (row_kids (Q := fun _ => True) (fun _ _ => trivial) (fun _ _ => trivial) h2.row (fun x hx => (h2.own x hx).ndV)).at
      have h3 : Lc.map (·.1) = kidsOf z c len := by rw [← H1.out]; exact h3
      have h6 : Lc.length = nk := by rw [← Hnk.out, ← h3]; simp
      rw [h3, HFK.out] at h5
      rw [h6]
      exact ⟨a1, k1, rfl, h5, h4⟩
    have K2 : Hid (∀ wx, Below w3.heap.size w3 wx → Calls Try.prog 21 #[.agg #[.int .i64 k, .int .i64 f, .int .i64 t, .string s, .slice a len cap], .slice ax n cx] wx fun e w' => ∃ a1 k1, e = .returned (.slice a1 nk k1) ∧ KidsAt w' a1 0 FK ∧ Below wx.heap.size wx w') := Lib.hid fun wx hx => by
      refine (rkids_any (⟨k, f, t, s, c⟩ : Nd) _ ax n cx z wx (HN.out wx (hX.out wx hx)).1 (HN.out wx (hX.out wx hx)).2.2 (by omega) (by have := Hcnt.out; show c.cnt ≤ _; omega)).mono ?_
      rintro e w' ⟨a1, nn, k1, rfl, h1, h2, h3⟩
      simp only at h1 h2
      rw [H1.out] at h1 h2
      rw [Hnk.out] at h1
      rw [HFK.out] at h2
      rw [h1]
      exact ⟨a1, k1, rfl, h2, h3⟩
    have K3 : Hid (∀ wx, Below w3.heap.size w3 wx → Calls Try.prog 22 #[.agg #[.int .i64 k, .int .i64 f, .int .i64 t, .string s, .slice a len cap]] wx fun e w' => ∃ a1 k1, e = .returned (.slice a1 ni k1) ∧ KidsAt w' a1 0 FI ∧ Below wx.heap.size wx w') := Lib.hid fun wx hx => by
      have hLx := (HN.out wx (hX.out wx hx)).2.1
      refine (idents_gen (⟨k, f, t, s, c⟩ : Nd) _ wx L hLx hLx.nodes.2 (fun y hy => by have h1 : y.2.1.c.cnt ≤ c.cnt := hLx.ndP.2 y hy; have := Hcnt.out; omega) (by have := Hcnt.out; show c.cnt ≤ _; omega) (by have := Hll.out; have := Hcnt.out; omega)).mono ?_
      rintro e w' ⟨⟨a1, nn, k1, Lc, rfl, h1, h2, h3⟩, h4⟩
      subst h1
      have h5 := (row_kids (Q := fun _ => True) (fun _ _ => trivial) (fun _ _ => trivial) h2.row (fun x hx => (h2.own x hx).ndV)).at
      have h6 : Lc.length = ni := by rw [← Hni.out, ← h3]; simp
      rw [h3, HFI.out] at h5
      rw [h6]
      exact ⟨a1, k1, rfl, h5, h4⟩
    have K4 : Hid (∀ wx, Below w3.heap.size w3 wx → Calls Try.prog 23 #[.agg #[.int .i64 k, .int .i64 f, .int .i64 t, .string s, .slice a len cap]] wx fun e w' => ∃ a1 k1, e = .returned (.slice a1 ni k1) ∧ KidsAt w' a1 0 FI ∧ Below wx.heap.size wx w') := Lib.hid fun wx hx => by
      refine (ridents_any (⟨k, f, t, s, c⟩ : Nd) _ L wx (HN.out wx (hX.out wx hx)).2.1 (by have := Hcnt.out; show c.cnt ≤ _; omega) (by have := Hll.out; have := Hcnt.out; omega)).mono ?_
      rintro e w' ⟨a1, nn, k1, rfl, h1, h2, h3⟩
      rw [Hni.out] at h1
      rw [HFI.out] at h2
      rw [h1]
      exact ⟨a1, k1, rfl, h2, h3⟩
    have K5 : Hid (∀ (F : Fo) (m : Nat) (wx : World) a1 a2 c1 c2, F.len = m → m ≤ 1000000 → KidsAt wx a1 0 F → KidsAt wx a2 0 F → Calls Try.prog 19 #[.slice a1 m c1, .slice a2 m c2] wx fun e w' => e = .returned (.bool true) ∧ Below wx.heap.size wx w') := Lib.hid fun F m wx a1 a2 c1 c2 h1 h2 h3 h4 => rows_same F a1 a2 m c1 c2 wx h1 (by omega) h3 h4
    have hD := Lib.hid (Below.refl w3.heap.size w3).drew
    have HCx : Hid (∀ wx, Below w3.heap.size w3 wx → (fun w' => w'.cell? ⟨bn, 0, none⟩ = some (.int .i64 k) ∧ w'.cell? ⟨bn, 1, none⟩ = some (.int .i64 f) ∧ w'.cell? ⟨bn, 2, none⟩ = some (.int .i64 t) ∧ w'.cell? ⟨bn, 3, none⟩ = some (.string s) ∧ w'.cell? ⟨bn, 4, none⟩ = some (.slice a len cap)) wx) := Lib.hid fun wx hx => HC.out wx (hX.out wx hx)
    have HS := HCx.out w3.drew hD.out
    obtain ⟨eb, Heb⟩ : ∃ b, Hid (exprK k = b) := ⟨_, Lib.hid rfl⟩
    obtain ⟨sb, Hsb⟩ : ∃ b, Hid (stmtK k = b) := ⟨_, Lib.hid rfl⟩
    refine wp_region_pi (fun w' => w'.cell? ⟨bn, 0, none⟩ = some (.int .i64 k) ∧ w'.cell? ⟨bn, 1, none⟩ = some (.int .i64 f) ∧ w'.cell? ⟨bn, 2, none⟩ = some (.int .i64 t) ∧ w'.cell? ⟨bn, 3, none⟩ = some (.string s) ∧ w'.cell? ⟨bn, 4, none⟩ = some (.slice a len cap)) [(0, 0), (1, 1), (3, 0), (4, 1), (2, 2), (5, 2), (6, 2), (7, 1), (8, 0), (10, 0), (9, 2), (11, 3), (12, 3), (13, 3), (14, 3)] [(11, [7, 6, 2, 0]), (11, [7, 6, 5, 3]), (11, [9, 8]), (11, [10]), (12, [7, 6, 2, 0]), (12, [7, 6, 5, 3]), (12, [9, 8]), (12, [11, 10]), (13, [7, 6, 2, 0]), (13, [7, 6, 5, 3]), (13, [12, 9, 8]), (13, [12, 11, 10]), (14, [0]), (14, [3]), (14, [8]), (14, [10])] (by kernel_rfl) (by kernel_rfl) (fun _ _ _ _ _ h => h) (HS) ?_
    refine pd_ld (some 19) rfl rfl (by rfl) (fun ws HS => by go_split_ands; go_simp; try with_reducible rfl) ?_; go_frame   -- 0 Op.load 24 (Operand.tmp 2)
    refine pd_pu (some 20) rfl rfl (by rfl) (fun ws => by go_simp; try with_reducible rfl) ?_; go_frame   -- 1 Op.move (Operand.tmp 5)
    refine pd_ld (some 22) rfl rfl (by rfl) (fun ws HS => by go_split_ands; go_simp; try with_reducible rfl) ?_; go_frame   -- 3 Op.load 24 (Operand.tmp 2)
    refine pd_pu (some 23) rfl rfl (by rfl) (fun ws => by go_simp; try with_reducible rfl) ?_; go_frame   -- 4 Op.move (Operand.tmp 1)
    refine pi_ke rfl (fun J hJ => ?_)   -- 2 Op.call { callee := Callee.value (Operand.func 20), args := #[Operand.tmp 19, Operand.tmp 20], argTypes := #[24, 27] }
    go_wp2_with (go_at_call 20; refine (K1.out w3.drew hD.out).mono ?_; rintro e w4 ⟨a1, k1, rfl, hk1, hb⟩; have hE := Lib.hid (hD.out.trans (Below.mono hb hD.out.size)); have HKa := Lib.hid hk1; clear hb hk1)
    refine hJ _ _ (HCx.out w4 hE.out) ?_
    refine pi_ke rfl (fun J hJ => ?_)   -- 5 Op.call { callee := Callee.value (Operand.func 21), args := #[Operand.tmp 22, Operand.tmp 23], argTypes := #[24, 27] }
    go_wp2_with (go_at_call 21; refine (K2.out w4 hE.out).mono ?_; rintro e w5 ⟨a2, k2, rfl, hk1, hb⟩; have hF := Lib.hid (hE.out.trans (Below.mono hb hE.out.size)); have HKb := Lib.hid (And.intro (HKa.out.below hb rfl) hk1); clear hb hk1)
    refine hJ _ _ (HCx.out w5 hF.out) ?_
    refine pi_ke rfl (fun J hJ => ?_)   -- 6 Op.call { callee := Callee.value (Operand.func 19), args := #[Operand.tmp 21, Operand.tmp 24], argTypes := #[22, 22] }
    go_wp2_with (go_at_call 19; refine (K5.out FK nk w5 a1 a2 k1 k2 HFn.out.1 HFn.out.2.1 HKb.out.1 HKb.out.2).mono ?_; rintro e w6 ⟨rfl, hb⟩; have hG := Lib.hid (hF.out.trans (Below.mono hb hF.out.size)); clear hb)
    refine hJ _ _ (HCx.out w6 hG.out) ?_
    refine pd_pu (some 26) rfl rfl (by rfl) (fun ws => by go_simp; try with_reducible rfl) ?_; go_frame   -- 7 Op.move (Operand.tmp 25)
    refine pd_ld (some 27) rfl rfl (by rfl) (fun ws HS => by go_split_ands; go_simp; try with_reducible rfl) ?_; go_frame   -- 8 Op.load 24 (Operand.tmp 2)
    refine pd_ld (some 29) rfl rfl (by rfl) (fun ws HS => by go_split_ands; go_simp; try with_reducible rfl) ?_; go_frame   -- 10 Op.load 24 (Operand.tmp 2)
    refine pi_ke rfl (fun J hJ => ?_)   -- 9 Op.call { callee := Callee.value (Operand.func 22), args := #[Operand.tmp 27], argTypes := #[24] }
    go_wp2_with (go_at_call 22; refine (K3.out w6 hG.out).mono ?_; rintro e w7 ⟨a3, k3, rfl, hk1, hb⟩; have hH := Lib.hid (hG.out.trans (Below.mono hb hG.out.size)); have HKc := Lib.hid hk1; clear hb hk1)
    refine hJ _ _ (HCx.out w7 hH.out) ?_
    refine pi_tail (by rfl) ?_; simp only [opsAt, List.getElem?_toArray, List.getElem?_cons_zero, List.getElem?_cons_succ]   -- [(11, 'Op.call { callee := Callee.value (Operand.func 23), args := #[Operand.tmp 29], argTypes := #[24] }'), (12, 'Op.call { callee := Callee.value (Operand.func 19), args := #[Operand.tmp 28, Operand.tmp 30], argTypes := #[22, 22] }'), (13, 'Op.pick (Operand.tmp 26) (Operand.tmp 31) (Operand.const (Value.bool false))'), (14, 'Op.assign (Operand.tmp 32)')]
    go_upto_region 6 with first
      | (go_at_call 23; refine (K4.out w7 hH.out).mono ?_; rintro e w8 ⟨a4, k4, rfl, hk1, hb⟩; have hI := Lib.hid (hH.out.trans (Below.mono hb hH.out.size)); have HKd := Lib.hid (And.intro (HKc.out.below hb rfl) hk1); clear hb hk1)
      | (go_at_call 19; refine (K5.out FI ni w8 a3 a4 k3 k4 HFn.out.2.2.1 HFn.out.2.2.2 HKd.out.1 HKd.out.2).mono ?_; rintro e w9 ⟨rfl, hb⟩; have hJ9 := Lib.hid (hI.out.trans (Below.mono hb hI.out.size)); clear hb)
    have hK := Lib.hid (hJ9.out.trans (Below.mono (Below.refl _ w9).drew hJ9.out.size))
    have HS := HCx.out w9.drew hK.out
    have HI2 := Lib.hid (ints_same ak ax n ck cx z w9.drew (hIk.out _ hK.out) (HN.out _ (hX.out _ hK.out)).2.2 (by omega))
    have K6 := Lib.hid fun wx => texpr_any k f t s a len cap wx
    have K7 := Lib.hid fun wx => rexpr_any k f t s a len cap wx
    have K8 := Lib.hid fun wx => tstmt_any k f t s a len cap wx
    have K9 := Lib.hid fun wx => rstmt_any k f t s a len cap wx
    rw [Heb.out] at K6 K7
    rw [Hsb.out] at K8 K9
    refine wp_region_pi (fun w' => w'.cell? ⟨bn, 0, none⟩ = some (.int .i64 k) ∧ w'.cell? ⟨bn, 1, none⟩ = some (.int .i64 f) ∧ w'.cell? ⟨bn, 2, none⟩ = some (.int .i64 t) ∧ w'.cell? ⟨bn, 3, none⟩ = some (.string s) ∧ w'.cell? ⟨bn, 4, none⟩ = some (.slice a len cap)) [(0, 1), (1, 1), (2, 1), (3, 1), (4, 2), (5, 1), (6, 1), (7, 0), (9, 0), (8, 2), (10, 2), (11, 1), (12, 1), (13, 1), (14, 0), (16, 0), (15, 2), (17, 3), (18, 3), (19, 3), (20, 3), (21, 3), (22, 3), (23, 3)] [(17, [13, 10, 8, 7]), (17, [13, 10, 9]), (17, [15, 14]), (17, [16]), (18, [13, 10, 8, 7]), (18, [13, 10, 9]), (18, [15, 14]), (18, [17, 16]), (19, [13, 10, 8, 7]), (19, [13, 10, 9]), (19, [18, 15, 14]), (19, [18, 17, 16]), (20, [19, 13, 10, 8, 7]), (20, [19, 13, 10, 9]), (20, [17, 15, 14]), (20, [17, 16]), (21, [20, 19, 13, 10, 8, 7]), (21, [20, 19, 13, 10, 9]), (21, [20, 17, 15, 14]), (21, [20, 17, 16]), (22, [20, 19, 13, 10, 8, 7]), (22, [20, 19, 13, 10, 9]), (22, [20, 17, 15, 14]), (22, [20, 17, 16]), (23, [7]), (23, [9]), (23, [14]), (23, [16])] (by kernel_rfl) (by kernel_rfl) (fun _ _ _ _ _ h => h) (HS) ?_
    refine pd_pu (some 33) rfl rfl (by rfl) (fun ws => by go_simp; try with_reducible rfl) ?_; go_frame   -- 0 Op.move (Operand.tmp 6)
    refine pd_pu (some 34) rfl rfl (by rfl) (fun ws => by go_simp; try with_reducible rfl) ?_; go_frame   -- 1 Op.move (Operand.tmp 33)
    refine pd_pu (some 35) rfl rfl (by rfl) (fun ws => by go_simp; try with_reducible rfl) ?_; go_frame   -- 2 Op.move (Operand.tmp 5)
    refine pd_pu (some 36) rfl rfl (by rfl) (fun ws => by go_simp; try with_reducible rfl) ?_; go_frame   -- 3 Op.move (Operand.tmp 1)
    refine pi_ke rfl (fun J hJ => ?_)   -- 4 Op.call { callee := Callee.value (Operand.func 24), args := #[Operand.tmp 35, Operand.tmp 36], argTypes := #[27, 27] }
    go_wp2_with (go_at_call 24; refine HI2.out.mono ?_; rintro e w10 ⟨rfl, hb⟩; have hL := Lib.hid (hK.out.trans (Below.mono hb hK.out.size)); clear hb)
    refine hJ _ _ (HCx.out w10 hL.out) ?_
    refine pd_pu (some 38) rfl rfl (by rfl) (fun ws => by go_simp; try with_reducible rfl) ?_; go_frame   -- 5 Op.pick (Operand.tmp 34) (Operand.tmp 37) (Operand.const (Value.bool false))
    refine pd_pu (some 39) rfl rfl (by rfl) (fun ws => by go_simp; try with_reducible rfl) ?_; go_frame   -- 6 Op.move (Operand.tmp 38)
    refine pd_ld (some 40) rfl rfl (by rfl) (fun ws HS => by go_split_ands; go_simp; try with_reducible rfl) ?_; go_frame   -- 7 Op.load 24 (Operand.tmp 2)
    refine pd_ld (some 42) rfl rfl (by rfl) (fun ws HS => by go_split_ands; go_simp; try with_reducible rfl) ?_; go_frame   -- 9 Op.load 24 (Operand.tmp 2)
    refine pi_ke rfl (fun J hJ => ?_)   -- 8 Op.call { callee := Callee.value (Operand.func 25), args := #[Operand.tmp 40], argTypes := #[24] }
    go_wp2_with (go_at_call 25; refine (K6.out w10).mono ?_; rintro e w11 ⟨rfl, hb⟩; have hM := Lib.hid (hL.out.trans (Below.mono hb hL.out.size)); clear hb)
    refine hJ _ _ (HCx.out w11 hM.out) ?_
    refine pi_ke rfl (fun J hJ => ?_)   -- 10 Op.call { callee := Callee.value (Operand.func 26), args := #[Operand.tmp 42], argTypes := #[24] }
    go_wp2_with (go_at_call 26; refine (K7.out w11).mono ?_; rintro e w12 ⟨rfl, hb⟩; have hO := Lib.hid (hM.out.trans (Below.mono hb hM.out.size)); clear hb)
    refine hJ _ _ (HCx.out w12 hO.out) ?_
    refine pd_pu (some 44) rfl rfl (by rfl) (fun ws => by go_simp; try with_reducible rfl) ?_; go_frame   -- 11 Op.binOp BinOp.eql 4 (Operand.tmp 41) (Operand.tmp 43) 4
    try simp only [beq_self_eq_true]
    refine pd_pu (some 45) rfl rfl (by rfl) (fun ws => by go_simp; try with_reducible rfl) ?_; go_frame   -- 12 Op.pick (Operand.tmp 39) (Operand.tmp 44) (Operand.const (Value.bool false))
    refine pd_pu (some 46) rfl rfl (by rfl) (fun ws => by go_simp; try with_reducible rfl) ?_; go_frame   -- 13 Op.move (Operand.tmp 45)
    refine pd_ld (some 47) rfl rfl (by rfl) (fun ws HS => by go_split_ands; go_simp; try with_reducible rfl) ?_; go_frame   -- 14 Op.load 24 (Operand.tmp 2)
    refine pd_ld (some 49) rfl rfl (by rfl) (fun ws HS => by go_split_ands; go_simp; try with_reducible rfl) ?_; go_frame   -- 16 Op.load 24 (Operand.tmp 2)
    refine pi_ke rfl (fun J hJ => ?_)   -- 15 Op.call { callee := Callee.value (Operand.func 27), args := #[Operand.tmp 47], argTypes := #[24] }
    go_wp2_with (go_at_call 27; refine (K8.out w12).mono ?_; rintro e w13 ⟨rfl, hb⟩; have hP := Lib.hid (hO.out.trans (Below.mono hb hO.out.size)); clear hb)
    refine hJ _ _ (HCx.out w13 hP.out) ?_
    refine pi_tail (by rfl) ?_; simp only [opsAt, List.getElem?_toArray, List.getElem?_cons_zero, List.getElem?_cons_succ]   -- [(17, 'Op.call { callee := Callee.value (Operand.func 28), args := #[Operand.tmp 49], argTypes := #[24] }'), (18, 'Op.binOp BinOp.eql 4 (Operand.tmp 48) (Operand.tmp 50) 4'), (19, 'Op.pick (Operand.tmp 46) (Operand.tmp 51) (Operand.const (Value.bool false))'), (20, 'Op.move (Operand.tmp 52)'), (21, 'Op.call { callee := Callee.value (Operand.func 9), args := #[], argTypes := #[] }'), (22, 'Op.pick (Operand.tmp 53) (Operand.tmp 54) (Operand.const (Value.bool false))'), (23, 'Op.assign (Operand.tmp 55)')]
    have hbb : (sb == sb) = true := by simp
    go_wp2_with first
      | (go_at_call 28; refine (K9.out w13).mono ?_; rintro e w14 ⟨rfl, hb⟩; have hR := Lib.hid (hP.out.trans (Below.mono hb hP.out.size)); clear hb)
      | (go_at_call 9; refine (awake_any w14).mono ?_; rintro e w15 ⟨rfl, hb⟩; have hS := Lib.hid (hR.out.trans (Below.mono hb hR.out.size)); clear hb)
    go_ret
    exact ⟨rfl, HB.out.trans (Below.mono (hX.out _ hS.out) HB.out.size)⟩
end Go.Proofs.Ytmkjajapbkdpiaa
