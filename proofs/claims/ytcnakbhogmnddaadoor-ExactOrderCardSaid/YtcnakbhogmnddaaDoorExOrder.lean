/- The law ExactOrder: the walk. No condition. -/
import Derived.Test.YtcnakbhogmnddaaDoorExOps
import Derived.Test.YtcnakbhogmnddaaDoorRegQ
namespace Go.Proofs.YtcnakbhogmnddaaDoor
open Go.RowKit

theorem addV_of {x y : Int} (h : addK x y = 0) : addV x y = x + y := by
  unfold addK at h
  unfold addV
  cases hb : bad1 x y (x + y) with
  | false => rfl
  | true => rw [hb] at h; cases h
theorem addK_two (x y : Int) : addK x y = 0 ∨ addK x y = 2 := by
  unfold addK
  cases bad1 x y (x + y)
  · exact .inl rfl
  · exact .inr rfl
theorem cmpI_add (x y z : Int) : cmpI (x + z) (y + z) = cmpI x y := by
  unfold cmpI
  by_cases h1 : x < y
  · rw [if_pos h1, if_pos (by omega)]
  · by_cases h2 : x = y
    · rw [if_neg h1, if_pos h2, if_neg (by omega), if_pos (by omega)]
    · rw [if_neg h1, if_neg h2, if_neg (by omega), if_neg (by omega)]
theorem cmpI_le (x y : Int) : cmpI x y ≤ 0 ↔ x ≤ y := by
  unfold cmpI
  by_cases h1 : x < y
  · rw [if_pos h1]; constructor <;> intro _ <;> omega
  · by_cases h2 : x = y
    · rw [if_neg h1, if_pos h2]; constructor <;> intro _ <;> omega
    · rw [if_neg h1, if_neg h2]; constructor <;> intro _ <;> omega
theorem cmpI_trans {x y z : Int} (h1 : cmpI x y ≤ 0) (h2 : cmpI y z ≤ 0) : cmpI x z ≤ 0 := by
  rw [cmpI_le] at *
  omega

set_option maxRecDepth 100000 in
set_option maxHeartbeats 6400000 in
theorem exactOrder_any (g1 : Bool) (a1 : Option Addr) (n1 cap1 : Nat) (z1 : List Nat) (g2 : Bool) (a2 : Option Addr) (n2 cap2 : Nat) (z2 : List Nat) (g3 : Bool) (a3 : Option Addr) (n3 cap3 : Nat) (z3 : List Nat) (w : World) (h1 : WordsAt w a1 n1 z1 ∧ n1 ≤ cap1) (h2 : WordsAt w a2 n2 z2 ∧ n2 ≤ cap2) (h3 : WordsAt w a3 n3 z3 ∧ n3 ≤ cap3) :
    Calls Tryd.prog 9 #[.agg #[.bool g1, .slice a1 n1 cap1], .agg #[.bool g2, .slice a2 n2 cap2], .agg #[.bool g3, .slice a3 n3 cap3]] w fun e w' => e = .returned (.bool true) ∧ Below w.heap.size w w' := by
  have H1 := Lib.hid h1
  obtain ⟨x1, Hx1⟩ : ∃ x, Hid (valI g1 z1 = x) := ⟨_, Lib.hid rfl⟩
  have H2 := Lib.hid h2
  obtain ⟨x2, Hx2⟩ : ∃ x, Hid (valI g2 z2 = x) := ⟨_, Lib.hid rfl⟩
  have H3 := Lib.hid h3
  obtain ⟨x3, Hx3⟩ : ∃ x, Hid (valI g3 z3 = x) := ⟨_, Lib.hid rfl⟩
  have ST0 := Lib.hid (St.start w)
  clear h1 h2 h3
  go_enter Tryd.func9, Tryd.ntmps9
  go_wp2_with (go_at_call 35; refine hold ?_)
  obtain ⟨W1, HW1⟩ : ∃ W', Hid (W' = w.alloc (.cells #[.bool g1, .slice a1 n1 cap1] 25)) := ⟨_, Lib.hid rfl⟩
  obtain ⟨p1, Hp1⟩ : ∃ b, Hid (b = w.heap.size) := ⟨_, Lib.hid rfl⟩
  have ST2 := Lib.hid (ST0.out.box Hp1.out HW1.out)
  obtain ⟨W3, HW3⟩ : ∃ W', Hid (W' = W1.alloc (.cells #[.bool g2, .slice a2 n2 cap2] 25)) := ⟨_, Lib.hid rfl⟩
  obtain ⟨p2, Hp2⟩ : ∃ b, Hid (b = W1.heap.size) := ⟨_, Lib.hid rfl⟩
  have ST4 := Lib.hid (ST2.out.box Hp2.out HW3.out)
  obtain ⟨W5, HW5⟩ : ∃ W', Hid (W' = W3.alloc (.cells #[.bool g3, .slice a3 n3 cap3] 25)) := ⟨_, Lib.hid rfl⟩
  obtain ⟨p3, Hp3⟩ : ∃ b, Hid (b = W3.heap.size) := ⟨_, Lib.hid rfl⟩
  have ST6 := Lib.hid (ST4.out.box Hp3.out HW5.out)
  have hz2 : w.heap.size + 2 = p3 := by rw [Hp3.out, HW3.out, World.size_alloc, HW1.out, World.size_alloc]
  have hz1 : w.heap.size + 1 = p2 := by rw [Hp2.out, HW1.out, World.size_alloc]
  rw [← HW1.out, ← HW3.out, ← HW5.out]
  try rw [hz2]
  try rw [hz1]
  try rw [← Hp1.out]
  clear hz1 hz2
  refine Hold.mk ?_
  obtain ⟨t1, Ht1⟩ : ∃ t, Hid (decide (n1 ≤ 40) = t) := ⟨_, Lib.hid rfl⟩
  have K1 := Lib.hid (in_any g1 a1 n1 cap1 W5)
  rw [Ht1.out] at K1
  refine K1.out.mono ?_
  rintro e W7 ⟨rfl, hb⟩
  have ST8 := Lib.hid (ST6.out.go hb)
  clear hb
  cases t1 with
  | false =>
    go_wp2_with (go_at_call 36; refine hold ?_)
    refine Hold.mk ?_
    refine (awake_any W7).mono ?_
    rintro e W9 ⟨rfl, hb⟩
    have ST9 := Lib.hid (ST8.out.go hb)
    clear hb
    go_wp2_with fail
    go_ret
    exact ⟨rfl, ST9.out.below⟩
  | true =>
    obtain ⟨qp20, qp21⟩ := ST8.out.cells (b := p2) (n := g2) (s := .slice a2 n2 cap2) (by simp)
    go_wp2_with (go_at_call 35; refine hold ?_)
    refine Hold.mk ?_
    obtain ⟨t2, Ht2⟩ : ∃ t, Hid (decide (n2 ≤ 40) = t) := ⟨_, Lib.hid rfl⟩
    have K2 := Lib.hid (in_any g2 a2 n2 cap2 W7)
    rw [Ht2.out] at K2
    refine K2.out.mono ?_
    rintro e W10 ⟨rfl, hb⟩
    clear qp20 qp21
    have ST11 := Lib.hid (ST8.out.go hb)
    clear hb
    cases t2 with
    | false =>
      go_wp2_with (go_at_call 36; refine hold ?_)
      refine Hold.mk ?_
      refine (awake_any W10).mono ?_
      rintro e W12 ⟨rfl, hb⟩
      have ST12 := Lib.hid (ST11.out.go hb)
      clear hb
      go_wp2_with fail
      go_ret
      exact ⟨rfl, ST12.out.below⟩
    | true =>
      obtain ⟨qp30, qp31⟩ := ST11.out.cells (b := p3) (n := g3) (s := .slice a3 n3 cap3) (by simp)
      go_wp2_with (go_at_call 35; refine hold ?_)
      refine Hold.mk ?_
      obtain ⟨t3, Ht3⟩ : ∃ t, Hid (decide (n3 ≤ 40) = t) := ⟨_, Lib.hid rfl⟩
      have K3 := Lib.hid (in_any g3 a3 n3 cap3 W10)
      rw [Ht3.out] at K3
      refine K3.out.mono ?_
      rintro e W13 ⟨rfl, hb⟩
      clear qp30 qp31
      have ST14 := Lib.hid (ST11.out.go hb)
      clear hb
      cases t3 with
      | false =>
        go_wp2_with (go_at_call 36; refine hold ?_)
        refine Hold.mk ?_
        refine (awake_any W13).mono ?_
        rintro e W15 ⟨rfl, hb⟩
        have ST15 := Lib.hid (ST14.out.go hb)
        clear hb
        go_wp2_with fail
        go_ret
        exact ⟨rfl, ST15.out.below⟩
      | true =>
        have hn1 : n1 ≤ 40 := of_decide_eq_true Ht1.out
        have ST16 := Lib.hid (ST14.out.num (IntV.below (⟨a1, n1, cap1, rfl, H1.out.1, H1.out.2, by omega⟩ : IntV w (.agg #[.bool g1, .slice a1 n1 cap1]) g1 z1) ST14.out.below))
        clear hn1
        have hn2 : n2 ≤ 40 := of_decide_eq_true Ht2.out
        have ST17 := Lib.hid (ST16.out.num (IntV.below (⟨a2, n2, cap2, rfl, H2.out.1, H2.out.2, by omega⟩ : IntV w (.agg #[.bool g2, .slice a2 n2 cap2]) g2 z2) ST16.out.below))
        clear hn2
        have hn3 : n3 ≤ 40 := of_decide_eq_true Ht3.out
        have ST18 := Lib.hid (ST17.out.num (IntV.below (⟨a3, n3, cap3, rfl, H3.out.1, H3.out.2, by omega⟩ : IntV w (.agg #[.bool g3, .slice a3 n3 cap3]) g3 z3) ST17.out.below))
        clear hn3
        obtain ⟨t, Ht⟩ : ∃ t, Hid (cmpI x1 x2 = t) := ⟨_, Lib.hid rfl⟩
        have hlt : -1 ≤ t ∧ t ≤ 1 := by rw [← Ht.out]; exact cmpI_lim _ _
        obtain ⟨ht0, ht1⟩ := hlt
        obtain ⟨u, Hu⟩ : ∃ t, Hid (cmpI x2 x3 = t) := ⟨_, Lib.hid rfl⟩
        have hlu : -1 ≤ u ∧ u ≤ 1 := by rw [← Hu.out]; exact cmpI_lim _ _
        obtain ⟨hu0, hu1⟩ := hlu
        obtain ⟨v, Hv⟩ : ∃ t, Hid (cmpI x1 x3 = t) := ⟨_, Lib.hid rfl⟩
        have hlv : -1 ≤ v ∧ v ≤ 1 := by rw [← Hv.out]; exact cmpI_lim _ _
        obtain ⟨hv0, hv1⟩ := hlv
        have HT := Lib.hid (show t ≤ 0 → u ≤ 0 → v ≤ 0 from by rw [← Ht.out, ← Hu.out, ← Hv.out]; exact cmpI_trans)
        obtain ⟨qp20, qp21⟩ := ST18.out.cells (b := p2) (n := g2) (s := .slice a2 n2 cap2) (by simp)
        obtain ⟨qp10, qp11⟩ := ST18.out.cells (b := p1) (n := g1) (s := .slice a1 n1 cap1) (by simp)
        go_wp2_with (go_at_call 52; refine hold ?_)
        refine Hold.mk ?_
        have C19 := Lib.hid (cmp_k (ST18.out.get (v := (.agg #[.bool g1, .slice a1 n1 cap1])) (g := g1) (z := z1) (by simp)) (ST18.out.get (v := (.agg #[.bool g2, .slice a2 n2 cap2])) (g := g2) (z := z2) (by simp)) Hx1.out Hx2.out)
        rw [Ht.out] at C19
        refine C19.out.mono ?_
        rintro e W19 ⟨rfl, hb⟩
        clear qp20 qp21 qp10 qp11
        have ST20 := Lib.hid (ST18.out.go hb)
        clear hb
        cases Int.lt_or_le 0 t with
        | inl q1 =>
          clear HT
          obtain ⟨qp30, qp31⟩ := ST20.out.cells (b := p3) (n := g3) (s := .slice a3 n3 cap3) (by simp)
          obtain ⟨qp10, qp11⟩ := ST20.out.cells (b := p1) (n := g1) (s := .slice a1 n1 cap1) (by simp)
          go_wp2_with (go_at_call 53; refine hold ?_)
          refine Hold.mk ?_
          refine (add_k (ST20.out.get (v := (.agg #[.bool g1, .slice a1 n1 cap1])) (g := g1) (z := z1) (by simp)) (ST20.out.get (v := (.agg #[.bool g3, .slice a3 n3 cap3])) (g := g3) (z := z3) (by simp)) Hx1.out Hx3.out).mono ?_
          rintro e W21 ⟨⟨n5, a5, c5, d5, k5, rfl, hk, hv⟩, hb⟩
          clear qp30 qp31 qp10 qp11
          have ST22 := Lib.hid (ST20.out.next hb hv)
          have Hk5 := Lib.hid hk
          clear hk hv hb
          go_upto_region 6 with fail
          obtain ⟨W23, HW23⟩ : ∃ W', Hid (W' = W21.alloc (.cells #[.bool n5, .slice a5 c5 d5] 25)) := ⟨_, Lib.hid rfl⟩
          obtain ⟨b5, Hb5⟩ : ∃ b, Hid (b = W21.heap.size) := ⟨_, Lib.hid rfl⟩
          have ST24 := Lib.hid (ST22.out.box Hb5.out HW23.out)
          rw [← HW23.out]
          try rw [← Hb5.out]
          obtain ⟨qp30, qp31⟩ := ST24.out.cells (b := p3) (n := g3) (s := .slice a3 n3 cap3) (by simp)
          obtain ⟨qp20, qp21⟩ := ST24.out.cells (b := p2) (n := g2) (s := .slice a2 n2 cap2) (by simp)
          go_wp2_with (go_at_call 53; refine hold ?_)
          refine Hold.mk ?_
          refine (add_k (ST24.out.get (v := (.agg #[.bool g2, .slice a2 n2 cap2])) (g := g2) (z := z2) (by simp)) (ST24.out.get (v := (.agg #[.bool g3, .slice a3 n3 cap3])) (g := g3) (z := z3) (by simp)) Hx2.out Hx3.out).mono ?_
          rintro e W25 ⟨⟨n7, a7, c7, d7, k7, rfl, hk, hv⟩, hb⟩
          clear qp30 qp31 qp20 qp21
          have ST26 := Lib.hid (ST24.out.next hb hv)
          have Hk7 := Lib.hid hk
          clear hk hv hb
          go_upto_region 7 with fail
          obtain ⟨W27, HW27⟩ : ∃ W', Hid (W' = W25.alloc (.cells #[.bool n7, .slice a7 c7 d7] 25)) := ⟨_, Lib.hid rfl⟩
          obtain ⟨b7, Hb7⟩ : ∃ b, Hid (b = W25.heap.size) := ⟨_, Lib.hid rfl⟩
          have ST28 := Lib.hid (ST26.out.box Hb7.out HW27.out)
          rw [← HW27.out]
          try rw [← Hb7.out]
          have h5 := addK_two x1 x3
          rw [← Hk5.out] at h5
          have h7 := addK_two x2 x3
          rw [← Hk7.out] at h7
          rcases h5 with rfl | rfl
          · rcases h7 with rfl | rfl
            · have HE := Lib.hid (show cmpI (addV x1 x3) (addV x2 x3) = t from by rw [addV_of Hk5.out.symm, addV_of Hk7.out.symm, cmpI_add]; exact Ht.out)
              have HC7 : Hid (∀ wx, Below W27.heap.size W27 wx → (fun w' : World => w'.cell? ⟨b7, 0, none⟩ = some (.bool n7) ∧ w'.cell? ⟨b7, 1, none⟩ = some (.slice a7 c7 d7) ∧ w'.cell? ⟨b5, 0, none⟩ = some (.bool n5) ∧ w'.cell? ⟨b5, 1, none⟩ = some (.slice a5 c5 d5) ∧ w'.cell? ⟨p3, 0, none⟩ = some (.bool g3) ∧ w'.cell? ⟨p3, 1, none⟩ = some (.slice a3 n3 cap3) ∧ w'.cell? ⟨p2, 0, none⟩ = some (.bool g2) ∧ w'.cell? ⟨p2, 1, none⟩ = some (.slice a2 n2 cap2) ∧ w'.cell? ⟨p1, 0, none⟩ = some (.bool g1) ∧ w'.cell? ⟨p1, 1, none⟩ = some (.slice a1 n1 cap1)) wx) := Lib.hid fun wx hx => by
                have h := ST28.out.go hx
                exact ⟨(h.cells (b := b7) (n := n7) (s := .slice a7 c7 d7) (by simp)).1, (h.cells (b := b7) (n := n7) (s := .slice a7 c7 d7) (by simp)).2, (h.cells (b := b5) (n := n5) (s := .slice a5 c5 d5) (by simp)).1, (h.cells (b := b5) (n := n5) (s := .slice a5 c5 d5) (by simp)).2, (h.cells (b := p3) (n := g3) (s := .slice a3 n3 cap3) (by simp)).1, (h.cells (b := p3) (n := g3) (s := .slice a3 n3 cap3) (by simp)).2, (h.cells (b := p2) (n := g2) (s := .slice a2 n2 cap2) (by simp)).1, (h.cells (b := p2) (n := g2) (s := .slice a2 n2 cap2) (by simp)).2, (h.cells (b := p1) (n := g1) (s := .slice a1 n1 cap1) (by simp)).1, (h.cells (b := p1) (n := g1) (s := .slice a1 n1 cap1) (by simp)).2⟩
              have hD7 := Lib.hid (Below.refl W27.heap.size W27).drew
              have ST29 := Lib.hid (ST28.out.go hD7.out)
              have HS := HC7.out W27.drew hD7.out
              refine wp_region_pi (fun w' : World => w'.cell? ⟨b7, 0, none⟩ = some (.bool n7) ∧ w'.cell? ⟨b7, 1, none⟩ = some (.slice a7 c7 d7) ∧ w'.cell? ⟨b5, 0, none⟩ = some (.bool n5) ∧ w'.cell? ⟨b5, 1, none⟩ = some (.slice a5 c5 d5) ∧ w'.cell? ⟨p3, 0, none⟩ = some (.bool g3) ∧ w'.cell? ⟨p3, 1, none⟩ = some (.slice a3 n3 cap3) ∧ w'.cell? ⟨p2, 0, none⟩ = some (.bool g2) ∧ w'.cell? ⟨p2, 1, none⟩ = some (.slice a2 n2 cap2) ∧ w'.cell? ⟨p1, 0, none⟩ = some (.bool g1) ∧ w'.cell? ⟨p1, 1, none⟩ = some (.slice a1 n1 cap1)) [(0, 1), (1, 1), (2, 1), (3, 1), (4, 1), (5, 1), (6, 1), (7, 0), (8, 0), (10, 0), (11, 0), (9, 2), (12, 3), (13, 3), (14, 3), (15, 3), (16, 3), (17, 3), (18, 3)] [(12, [9, 7]), (12, [9, 8]), (12, [10]), (12, [11]), (13, [9, 7]), (13, [9, 8]), (13, [12, 10]), (13, [12, 11]), (14, [13, 9, 7]), (14, [13, 9, 8]), (14, [13, 12, 10]), (14, [13, 12, 11]), (15, [12, 9, 7]), (15, [12, 9, 8]), (15, [12, 10]), (15, [12, 11]), (16, [15, 12, 9, 7]), (16, [15, 12, 9, 8]), (16, [15, 12, 10]), (16, [15, 12, 11]), (17, [15, 12, 9, 7]), (17, [15, 12, 9, 8]), (17, [15, 12, 10]), (17, [15, 12, 11]), (18, [7]), (18, [8]), (18, [10]), (18, [11])] (by kernel_rfl) (by kernel_rfl) (fun _ _ _ _ _ h => h) (HS) ?_
              refine pq_pu (some 53) rfl rfl (by rfl) (fun ws => by go_simp; try with_reducible rfl) ?_; go_frame   -- 0 Op.move (Operand.tmp 8)
              refine pq_pu (some 54) rfl rfl (by rfl) (fun ws => by go_simp; try with_reducible rfl) ?_; go_frame   -- 1 Op.binOp BinOp.neq 29 (Operand.tmp 53) (Operand.const (Value.int IntKind.i64 0)) 29
              refine pq_pu (some 55) rfl rfl (by rfl) (fun ws => by go_simp; try with_reducible rfl) ?_; go_frame   -- 2 Op.move (Operand.tmp 54)
              refine pq_pu (some 56) rfl rfl (by rfl) (fun ws => by go_simp; try with_reducible rfl) ?_; go_frame   -- 3 Op.move (Operand.tmp 10)
              refine pq_pu (some 57) rfl rfl (by rfl) (fun ws => by go_simp; try with_reducible rfl) ?_; go_frame   -- 4 Op.binOp BinOp.neq 29 (Operand.tmp 56) (Operand.const (Value.int IntKind.i64 0)) 29
              refine pq_pu (some 58) rfl rfl (by rfl) (fun ws => by go_simp; try with_reducible rfl) ?_; go_frame   -- 5 Op.pick (Operand.tmp 55) (Operand.const (Value.bool true)) (Operand.tmp 57)
              refine pq_pu (some 59) rfl rfl (by rfl) (fun ws => by go_simp; try with_reducible rfl) ?_; go_frame   -- 6 Op.move (Operand.tmp 58)
              refine pq_ld (some 60) rfl rfl (by rfl) (fun ws HS => by go_split_ands; go_simp; try with_reducible rfl) ?_; go_frame   -- 7 Op.load 25 (Operand.tmp 7)
              refine pq_ld (some 61) rfl rfl (by rfl) (fun ws HS => by go_split_ands; go_simp; try with_reducible rfl) ?_; go_frame   -- 8 Op.load 25 (Operand.tmp 9)
              refine pq_ld (some 63) rfl rfl (by rfl) (fun ws HS => by go_split_ands; go_simp; try with_reducible rfl) ?_; go_frame   -- 10 Op.load 25 (Operand.tmp 3)
              refine pq_ld (some 64) rfl rfl (by rfl) (fun ws HS => by go_split_ands; go_simp; try with_reducible rfl) ?_; go_frame   -- 11 Op.load 25 (Operand.tmp 4)
              refine pk_ke rfl (fun J hJ => ?_)   -- pi_ke 9 Op.call { callee := Callee.value (Operand.func 52), args := #[Operand.tmp 60, Operand.tmp 61], argTypes := #[25, 25] }
              have C0 := Lib.hid (cmp_k (ST29.out.getC (v := (.agg #[.bool n5, .slice a5 c5 d5])) (i := addV (x1) (x3)) (by simp)) (ST29.out.getC (v := (.agg #[.bool n7, .slice a7 c7 d7])) (i := addV (x2) (x3)) (by simp)) (valI_can _) (valI_can _))
              rw [HE.out] at C0
              have C30 := Lib.hid (C0.out)
              go_wp2_with (go_at_call 52; refine C30.out.mono ?_; rintro e W30 ⟨rfl, hb⟩; have ST30 := Lib.hid (ST29.out.go hb); have hD30 := Lib.hid (hD7.out.trans (Below.mono hb hD7.out.size)); clear hb)
              refine hJ _ _ (HC7.out W30 hD30.out) ?_
              refine pi_tail (by rfl) ?_; simp only [opsAt, List.getElem?_toArray, List.getElem?_cons_zero, List.getElem?_cons_succ]   -- [(12, 'Op.call { callee := Callee.value (Operand.func 52), args := #[Operand.tmp 63, Operand.tmp 64], argTypes := #[25, 25] }'), (13, 'Op.binOp BinOp.eql 3 (Operand.tmp 62) (Operand.tmp 65) 3'), (14, 'Op.pick (Operand.tmp 59) (Operand.const (Value.bool true)) (Operand.tmp 66)'), (15, 'Op.move (Operand.tmp 67)'), (16, 'Op.call { callee := Callee.value (Operand.func 36), args := #[], argTypes := #[] }'), (17, 'Op.pick (Operand.tmp 68) (Operand.tmp 69) (Operand.const (Value.bool false))'), (18, 'Op.assign (Operand.tmp 70)')]
              have C1 := Lib.hid (cmp_k (ST30.out.get (v := (.agg #[.bool g1, .slice a1 n1 cap1])) (g := g1) (z := z1) (by simp)) (ST30.out.get (v := (.agg #[.bool g2, .slice a2 n2 cap2])) (g := g2) (z := z2) (by simp)) Hx1.out Hx2.out)
              rw [Ht.out] at C1
              go_wp2_with first
                | (go_at_call 52; refine C1.out.mono ?_; rintro e Wx ⟨rfl, hb⟩; have STx := Lib.hid (ST30.out.go hb); clear hb)
                | (go_at_call 36; refine (awake_any Wx).mono ?_; rintro e Wy ⟨rfl, hb⟩; have STy := Lib.hid (STx.out.go hb); clear hb)
              go_ret
              exact ⟨by simp, STy.out.below⟩
            · have h9 := True.intro
              clear h9
              have HC7 : Hid (∀ wx, Below W27.heap.size W27 wx → (fun w' : World => w'.cell? ⟨b7, 0, none⟩ = some (.bool n7) ∧ w'.cell? ⟨b7, 1, none⟩ = some (.slice a7 c7 d7) ∧ w'.cell? ⟨b5, 0, none⟩ = some (.bool n5) ∧ w'.cell? ⟨b5, 1, none⟩ = some (.slice a5 c5 d5) ∧ w'.cell? ⟨p3, 0, none⟩ = some (.bool g3) ∧ w'.cell? ⟨p3, 1, none⟩ = some (.slice a3 n3 cap3) ∧ w'.cell? ⟨p2, 0, none⟩ = some (.bool g2) ∧ w'.cell? ⟨p2, 1, none⟩ = some (.slice a2 n2 cap2) ∧ w'.cell? ⟨p1, 0, none⟩ = some (.bool g1) ∧ w'.cell? ⟨p1, 1, none⟩ = some (.slice a1 n1 cap1)) wx) := Lib.hid fun wx hx => by
                have h := ST28.out.go hx
                exact ⟨(h.cells (b := b7) (n := n7) (s := .slice a7 c7 d7) (by simp)).1, (h.cells (b := b7) (n := n7) (s := .slice a7 c7 d7) (by simp)).2, (h.cells (b := b5) (n := n5) (s := .slice a5 c5 d5) (by simp)).1, (h.cells (b := b5) (n := n5) (s := .slice a5 c5 d5) (by simp)).2, (h.cells (b := p3) (n := g3) (s := .slice a3 n3 cap3) (by simp)).1, (h.cells (b := p3) (n := g3) (s := .slice a3 n3 cap3) (by simp)).2, (h.cells (b := p2) (n := g2) (s := .slice a2 n2 cap2) (by simp)).1, (h.cells (b := p2) (n := g2) (s := .slice a2 n2 cap2) (by simp)).2, (h.cells (b := p1) (n := g1) (s := .slice a1 n1 cap1) (by simp)).1, (h.cells (b := p1) (n := g1) (s := .slice a1 n1 cap1) (by simp)).2⟩
              have hD7 := Lib.hid (Below.refl W27.heap.size W27).drew
              have ST31 := Lib.hid (ST28.out.go hD7.out)
              have HS := HC7.out W27.drew hD7.out
              refine wp_region_pi (fun w' : World => w'.cell? ⟨b7, 0, none⟩ = some (.bool n7) ∧ w'.cell? ⟨b7, 1, none⟩ = some (.slice a7 c7 d7) ∧ w'.cell? ⟨b5, 0, none⟩ = some (.bool n5) ∧ w'.cell? ⟨b5, 1, none⟩ = some (.slice a5 c5 d5) ∧ w'.cell? ⟨p3, 0, none⟩ = some (.bool g3) ∧ w'.cell? ⟨p3, 1, none⟩ = some (.slice a3 n3 cap3) ∧ w'.cell? ⟨p2, 0, none⟩ = some (.bool g2) ∧ w'.cell? ⟨p2, 1, none⟩ = some (.slice a2 n2 cap2) ∧ w'.cell? ⟨p1, 0, none⟩ = some (.bool g1) ∧ w'.cell? ⟨p1, 1, none⟩ = some (.slice a1 n1 cap1)) [(0, 1), (1, 1), (2, 1), (3, 1), (4, 1), (5, 1), (6, 1), (7, 0), (8, 0), (10, 0), (11, 0), (9, 2), (12, 3), (13, 3), (14, 3), (15, 3), (16, 3), (17, 3), (18, 3)] [(12, [9, 7]), (12, [9, 8]), (12, [10]), (12, [11]), (13, [9, 7]), (13, [9, 8]), (13, [12, 10]), (13, [12, 11]), (14, [13, 9, 7]), (14, [13, 9, 8]), (14, [13, 12, 10]), (14, [13, 12, 11]), (15, [12, 9, 7]), (15, [12, 9, 8]), (15, [12, 10]), (15, [12, 11]), (16, [15, 12, 9, 7]), (16, [15, 12, 9, 8]), (16, [15, 12, 10]), (16, [15, 12, 11]), (17, [15, 12, 9, 7]), (17, [15, 12, 9, 8]), (17, [15, 12, 10]), (17, [15, 12, 11]), (18, [7]), (18, [8]), (18, [10]), (18, [11])] (by kernel_rfl) (by kernel_rfl) (fun _ _ _ _ _ h => h) (HS) ?_
              refine pq_pu (some 53) rfl rfl (by rfl) (fun ws => by go_simp; try with_reducible rfl) ?_; go_frame   -- 0 Op.move (Operand.tmp 8)
              refine pq_pu (some 54) rfl rfl (by rfl) (fun ws => by go_simp; try with_reducible rfl) ?_; go_frame   -- 1 Op.binOp BinOp.neq 29 (Operand.tmp 53) (Operand.const (Value.int IntKind.i64 0)) 29
              refine pq_pu (some 55) rfl rfl (by rfl) (fun ws => by go_simp; try with_reducible rfl) ?_; go_frame   -- 2 Op.move (Operand.tmp 54)
              refine pq_pu (some 56) rfl rfl (by rfl) (fun ws => by go_simp; try with_reducible rfl) ?_; go_frame   -- 3 Op.move (Operand.tmp 10)
              refine pq_pu (some 57) rfl rfl (by rfl) (fun ws => by go_simp; try with_reducible rfl) ?_; go_frame   -- 4 Op.binOp BinOp.neq 29 (Operand.tmp 56) (Operand.const (Value.int IntKind.i64 0)) 29
              refine pq_pu (some 58) rfl rfl (by rfl) (fun ws => by go_simp; try with_reducible rfl) ?_; go_frame   -- 5 Op.pick (Operand.tmp 55) (Operand.const (Value.bool true)) (Operand.tmp 57)
              refine pq_pu (some 59) rfl rfl (by rfl) (fun ws => by go_simp; try with_reducible rfl) ?_; go_frame   -- 6 Op.move (Operand.tmp 58)
              refine pq_ld_skip (some 60) rfl rfl (by rfl) ?_; go_frame   -- 7 Op.load 25 (Operand.tmp 7)
              refine pq_ld_skip (some 61) rfl rfl (by rfl) ?_; go_frame   -- 8 Op.load 25 (Operand.tmp 9)
              refine pq_ld_skip (some 63) rfl rfl (by rfl) ?_; go_frame   -- 10 Op.load 25 (Operand.tmp 3)
              refine pq_ld_skip (some 64) rfl rfl (by rfl) ?_; go_frame   -- 11 Op.load 25 (Operand.tmp 4)
              refine pk_ke rfl (fun J hJ => ?_)   -- pi_ke 9 Op.call { callee := Callee.value (Operand.func 52), args := #[Operand.tmp 60, Operand.tmp 61], argTypes := #[25, 25] }
              go_wp2_with fail
              refine hJ _ _ (HC7.out W27.drew hD7.out) ?_
              refine pi_tail (by rfl) ?_; simp only [opsAt, List.getElem?_toArray, List.getElem?_cons_zero, List.getElem?_cons_succ]   -- [(12, 'Op.call { callee := Callee.value (Operand.func 52), args := #[Operand.tmp 63, Operand.tmp 64], argTypes := #[25, 25] }'), (13, 'Op.binOp BinOp.eql 3 (Operand.tmp 62) (Operand.tmp 65) 3'), (14, 'Op.pick (Operand.tmp 59) (Operand.const (Value.bool true)) (Operand.tmp 66)'), (15, 'Op.move (Operand.tmp 67)'), (16, 'Op.call { callee := Callee.value (Operand.func 36), args := #[], argTypes := #[] }'), (17, 'Op.pick (Operand.tmp 68) (Operand.tmp 69) (Operand.const (Value.bool false))'), (18, 'Op.assign (Operand.tmp 70)')]
              go_wp2_with (go_at_call 36; refine (awake_any W27.drew).mono ?_; rintro e Wy ⟨rfl, hb⟩; have STy := Lib.hid (ST31.out.go hb); clear hb)
              go_ret
              exact ⟨by simp, STy.out.below⟩
          · have h9 := h7
            clear h9 h7
            have HC7 : Hid (∀ wx, Below W27.heap.size W27 wx → (fun w' : World => w'.cell? ⟨b7, 0, none⟩ = some (.bool n7) ∧ w'.cell? ⟨b7, 1, none⟩ = some (.slice a7 c7 d7) ∧ w'.cell? ⟨b5, 0, none⟩ = some (.bool n5) ∧ w'.cell? ⟨b5, 1, none⟩ = some (.slice a5 c5 d5) ∧ w'.cell? ⟨p3, 0, none⟩ = some (.bool g3) ∧ w'.cell? ⟨p3, 1, none⟩ = some (.slice a3 n3 cap3) ∧ w'.cell? ⟨p2, 0, none⟩ = some (.bool g2) ∧ w'.cell? ⟨p2, 1, none⟩ = some (.slice a2 n2 cap2) ∧ w'.cell? ⟨p1, 0, none⟩ = some (.bool g1) ∧ w'.cell? ⟨p1, 1, none⟩ = some (.slice a1 n1 cap1)) wx) := Lib.hid fun wx hx => by
              have h := ST28.out.go hx
              exact ⟨(h.cells (b := b7) (n := n7) (s := .slice a7 c7 d7) (by simp)).1, (h.cells (b := b7) (n := n7) (s := .slice a7 c7 d7) (by simp)).2, (h.cells (b := b5) (n := n5) (s := .slice a5 c5 d5) (by simp)).1, (h.cells (b := b5) (n := n5) (s := .slice a5 c5 d5) (by simp)).2, (h.cells (b := p3) (n := g3) (s := .slice a3 n3 cap3) (by simp)).1, (h.cells (b := p3) (n := g3) (s := .slice a3 n3 cap3) (by simp)).2, (h.cells (b := p2) (n := g2) (s := .slice a2 n2 cap2) (by simp)).1, (h.cells (b := p2) (n := g2) (s := .slice a2 n2 cap2) (by simp)).2, (h.cells (b := p1) (n := g1) (s := .slice a1 n1 cap1) (by simp)).1, (h.cells (b := p1) (n := g1) (s := .slice a1 n1 cap1) (by simp)).2⟩
            have hD7 := Lib.hid (Below.refl W27.heap.size W27).drew
            have ST32 := Lib.hid (ST28.out.go hD7.out)
            have HS := HC7.out W27.drew hD7.out
            refine wp_region_pi (fun w' : World => w'.cell? ⟨b7, 0, none⟩ = some (.bool n7) ∧ w'.cell? ⟨b7, 1, none⟩ = some (.slice a7 c7 d7) ∧ w'.cell? ⟨b5, 0, none⟩ = some (.bool n5) ∧ w'.cell? ⟨b5, 1, none⟩ = some (.slice a5 c5 d5) ∧ w'.cell? ⟨p3, 0, none⟩ = some (.bool g3) ∧ w'.cell? ⟨p3, 1, none⟩ = some (.slice a3 n3 cap3) ∧ w'.cell? ⟨p2, 0, none⟩ = some (.bool g2) ∧ w'.cell? ⟨p2, 1, none⟩ = some (.slice a2 n2 cap2) ∧ w'.cell? ⟨p1, 0, none⟩ = some (.bool g1) ∧ w'.cell? ⟨p1, 1, none⟩ = some (.slice a1 n1 cap1)) [(0, 1), (1, 1), (2, 1), (3, 1), (4, 1), (5, 1), (6, 1), (7, 0), (8, 0), (10, 0), (11, 0), (9, 2), (12, 3), (13, 3), (14, 3), (15, 3), (16, 3), (17, 3), (18, 3)] [(12, [9, 7]), (12, [9, 8]), (12, [10]), (12, [11]), (13, [9, 7]), (13, [9, 8]), (13, [12, 10]), (13, [12, 11]), (14, [13, 9, 7]), (14, [13, 9, 8]), (14, [13, 12, 10]), (14, [13, 12, 11]), (15, [12, 9, 7]), (15, [12, 9, 8]), (15, [12, 10]), (15, [12, 11]), (16, [15, 12, 9, 7]), (16, [15, 12, 9, 8]), (16, [15, 12, 10]), (16, [15, 12, 11]), (17, [15, 12, 9, 7]), (17, [15, 12, 9, 8]), (17, [15, 12, 10]), (17, [15, 12, 11]), (18, [7]), (18, [8]), (18, [10]), (18, [11])] (by kernel_rfl) (by kernel_rfl) (fun _ _ _ _ _ h => h) (HS) ?_
            refine pq_pu (some 53) rfl rfl (by rfl) (fun ws => by go_simp; try with_reducible rfl) ?_; go_frame   -- 0 Op.move (Operand.tmp 8)
            refine pq_pu (some 54) rfl rfl (by rfl) (fun ws => by go_simp; try with_reducible rfl) ?_; go_frame   -- 1 Op.binOp BinOp.neq 29 (Operand.tmp 53) (Operand.const (Value.int IntKind.i64 0)) 29
            refine pq_pu (some 55) rfl rfl (by rfl) (fun ws => by go_simp; try with_reducible rfl) ?_; go_frame   -- 2 Op.move (Operand.tmp 54)
            refine pq_pu_skip (some 56) rfl rfl (by rfl) ?_; go_frame   -- 3 Op.move (Operand.tmp 10)
            refine pq_pu_skip (some 57) rfl rfl (by rfl) ?_; go_frame   -- 4 Op.binOp BinOp.neq 29 (Operand.tmp 56) (Operand.const (Value.int IntKind.i64 0)) 29
            refine pq_pu (some 58) rfl rfl (by rfl) (fun ws => by go_simp; try with_reducible rfl) ?_; go_frame   -- 5 Op.pick (Operand.tmp 55) (Operand.const (Value.bool true)) (Operand.tmp 57)
            refine pq_pu (some 59) rfl rfl (by rfl) (fun ws => by go_simp; try with_reducible rfl) ?_; go_frame   -- 6 Op.move (Operand.tmp 58)
            refine pq_ld_skip (some 60) rfl rfl (by rfl) ?_; go_frame   -- 7 Op.load 25 (Operand.tmp 7)
            refine pq_ld_skip (some 61) rfl rfl (by rfl) ?_; go_frame   -- 8 Op.load 25 (Operand.tmp 9)
            refine pq_ld_skip (some 63) rfl rfl (by rfl) ?_; go_frame   -- 10 Op.load 25 (Operand.tmp 3)
            refine pq_ld_skip (some 64) rfl rfl (by rfl) ?_; go_frame   -- 11 Op.load 25 (Operand.tmp 4)
            refine pk_ke rfl (fun J hJ => ?_)   -- pi_ke 9 Op.call { callee := Callee.value (Operand.func 52), args := #[Operand.tmp 60, Operand.tmp 61], argTypes := #[25, 25] }
            go_wp2_with fail
            refine hJ _ _ (HC7.out W27.drew hD7.out) ?_
            refine pi_tail (by rfl) ?_; simp only [opsAt, List.getElem?_toArray, List.getElem?_cons_zero, List.getElem?_cons_succ]   -- [(12, 'Op.call { callee := Callee.value (Operand.func 52), args := #[Operand.tmp 63, Operand.tmp 64], argTypes := #[25, 25] }'), (13, 'Op.binOp BinOp.eql 3 (Operand.tmp 62) (Operand.tmp 65) 3'), (14, 'Op.pick (Operand.tmp 59) (Operand.const (Value.bool true)) (Operand.tmp 66)'), (15, 'Op.move (Operand.tmp 67)'), (16, 'Op.call { callee := Callee.value (Operand.func 36), args := #[], argTypes := #[] }'), (17, 'Op.pick (Operand.tmp 68) (Operand.tmp 69) (Operand.const (Value.bool false))'), (18, 'Op.assign (Operand.tmp 70)')]
            go_wp2_with (go_at_call 36; refine (awake_any W27.drew).mono ?_; rintro e Wy ⟨rfl, hb⟩; have STy := Lib.hid (ST32.out.go hb); clear hb)
            go_ret
            exact ⟨by simp, STy.out.below⟩
        | inr q1 =>
          obtain ⟨qp30, qp31⟩ := ST20.out.cells (b := p3) (n := g3) (s := .slice a3 n3 cap3) (by simp)
          obtain ⟨qp20, qp21⟩ := ST20.out.cells (b := p2) (n := g2) (s := .slice a2 n2 cap2) (by simp)
          go_wp2_with (go_at_call 52; refine hold ?_)
          refine Hold.mk ?_
          have C33 := Lib.hid (cmp_k (ST20.out.get (v := (.agg #[.bool g2, .slice a2 n2 cap2])) (g := g2) (z := z2) (by simp)) (ST20.out.get (v := (.agg #[.bool g3, .slice a3 n3 cap3])) (g := g3) (z := z3) (by simp)) Hx2.out Hx3.out)
          rw [Hu.out] at C33
          refine C33.out.mono ?_
          rintro e W33 ⟨rfl, hb⟩
          clear qp30 qp31 qp20 qp21
          have ST34 := Lib.hid (ST20.out.go hb)
          clear hb
          cases Int.lt_or_le 0 u with
          | inl q2 =>
            clear HT
            obtain ⟨qp30, qp31⟩ := ST34.out.cells (b := p3) (n := g3) (s := .slice a3 n3 cap3) (by simp)
            obtain ⟨qp10, qp11⟩ := ST34.out.cells (b := p1) (n := g1) (s := .slice a1 n1 cap1) (by simp)
            go_wp2_with (go_at_call 53; refine hold ?_)
            refine Hold.mk ?_
            refine (add_k (ST34.out.get (v := (.agg #[.bool g1, .slice a1 n1 cap1])) (g := g1) (z := z1) (by simp)) (ST34.out.get (v := (.agg #[.bool g3, .slice a3 n3 cap3])) (g := g3) (z := z3) (by simp)) Hx1.out Hx3.out).mono ?_
            rintro e W35 ⟨⟨n5, a5, c5, d5, k5, rfl, hk, hv⟩, hb⟩
            clear qp30 qp31 qp10 qp11
            have ST36 := Lib.hid (ST34.out.next hb hv)
            have Hk5 := Lib.hid hk
            clear hk hv hb
            go_upto_region 6 with fail
            obtain ⟨W37, HW37⟩ : ∃ W', Hid (W' = W35.alloc (.cells #[.bool n5, .slice a5 c5 d5] 25)) := ⟨_, Lib.hid rfl⟩
            obtain ⟨b5, Hb5⟩ : ∃ b, Hid (b = W35.heap.size) := ⟨_, Lib.hid rfl⟩
            have ST38 := Lib.hid (ST36.out.box Hb5.out HW37.out)
            rw [← HW37.out]
            try rw [← Hb5.out]
            obtain ⟨qp30, qp31⟩ := ST38.out.cells (b := p3) (n := g3) (s := .slice a3 n3 cap3) (by simp)
            obtain ⟨qp20, qp21⟩ := ST38.out.cells (b := p2) (n := g2) (s := .slice a2 n2 cap2) (by simp)
            go_wp2_with (go_at_call 53; refine hold ?_)
            refine Hold.mk ?_
            refine (add_k (ST38.out.get (v := (.agg #[.bool g2, .slice a2 n2 cap2])) (g := g2) (z := z2) (by simp)) (ST38.out.get (v := (.agg #[.bool g3, .slice a3 n3 cap3])) (g := g3) (z := z3) (by simp)) Hx2.out Hx3.out).mono ?_
            rintro e W39 ⟨⟨n7, a7, c7, d7, k7, rfl, hk, hv⟩, hb⟩
            clear qp30 qp31 qp20 qp21
            have ST40 := Lib.hid (ST38.out.next hb hv)
            have Hk7 := Lib.hid hk
            clear hk hv hb
            go_upto_region 7 with fail
            obtain ⟨W41, HW41⟩ : ∃ W', Hid (W' = W39.alloc (.cells #[.bool n7, .slice a7 c7 d7] 25)) := ⟨_, Lib.hid rfl⟩
            obtain ⟨b7, Hb7⟩ : ∃ b, Hid (b = W39.heap.size) := ⟨_, Lib.hid rfl⟩
            have ST42 := Lib.hid (ST40.out.box Hb7.out HW41.out)
            rw [← HW41.out]
            try rw [← Hb7.out]
            have h5 := addK_two x1 x3
            rw [← Hk5.out] at h5
            have h7 := addK_two x2 x3
            rw [← Hk7.out] at h7
            rcases h5 with rfl | rfl
            · rcases h7 with rfl | rfl
              · have HE := Lib.hid (show cmpI (addV x1 x3) (addV x2 x3) = t from by rw [addV_of Hk5.out.symm, addV_of Hk7.out.symm, cmpI_add]; exact Ht.out)
                have HC7 : Hid (∀ wx, Below W41.heap.size W41 wx → (fun w' : World => w'.cell? ⟨b7, 0, none⟩ = some (.bool n7) ∧ w'.cell? ⟨b7, 1, none⟩ = some (.slice a7 c7 d7) ∧ w'.cell? ⟨b5, 0, none⟩ = some (.bool n5) ∧ w'.cell? ⟨b5, 1, none⟩ = some (.slice a5 c5 d5) ∧ w'.cell? ⟨p3, 0, none⟩ = some (.bool g3) ∧ w'.cell? ⟨p3, 1, none⟩ = some (.slice a3 n3 cap3) ∧ w'.cell? ⟨p2, 0, none⟩ = some (.bool g2) ∧ w'.cell? ⟨p2, 1, none⟩ = some (.slice a2 n2 cap2) ∧ w'.cell? ⟨p1, 0, none⟩ = some (.bool g1) ∧ w'.cell? ⟨p1, 1, none⟩ = some (.slice a1 n1 cap1)) wx) := Lib.hid fun wx hx => by
                  have h := ST42.out.go hx
                  exact ⟨(h.cells (b := b7) (n := n7) (s := .slice a7 c7 d7) (by simp)).1, (h.cells (b := b7) (n := n7) (s := .slice a7 c7 d7) (by simp)).2, (h.cells (b := b5) (n := n5) (s := .slice a5 c5 d5) (by simp)).1, (h.cells (b := b5) (n := n5) (s := .slice a5 c5 d5) (by simp)).2, (h.cells (b := p3) (n := g3) (s := .slice a3 n3 cap3) (by simp)).1, (h.cells (b := p3) (n := g3) (s := .slice a3 n3 cap3) (by simp)).2, (h.cells (b := p2) (n := g2) (s := .slice a2 n2 cap2) (by simp)).1, (h.cells (b := p2) (n := g2) (s := .slice a2 n2 cap2) (by simp)).2, (h.cells (b := p1) (n := g1) (s := .slice a1 n1 cap1) (by simp)).1, (h.cells (b := p1) (n := g1) (s := .slice a1 n1 cap1) (by simp)).2⟩
                have hD7 := Lib.hid (Below.refl W41.heap.size W41).drew
                have ST43 := Lib.hid (ST42.out.go hD7.out)
                have HS := HC7.out W41.drew hD7.out
                refine wp_region_pi (fun w' : World => w'.cell? ⟨b7, 0, none⟩ = some (.bool n7) ∧ w'.cell? ⟨b7, 1, none⟩ = some (.slice a7 c7 d7) ∧ w'.cell? ⟨b5, 0, none⟩ = some (.bool n5) ∧ w'.cell? ⟨b5, 1, none⟩ = some (.slice a5 c5 d5) ∧ w'.cell? ⟨p3, 0, none⟩ = some (.bool g3) ∧ w'.cell? ⟨p3, 1, none⟩ = some (.slice a3 n3 cap3) ∧ w'.cell? ⟨p2, 0, none⟩ = some (.bool g2) ∧ w'.cell? ⟨p2, 1, none⟩ = some (.slice a2 n2 cap2) ∧ w'.cell? ⟨p1, 0, none⟩ = some (.bool g1) ∧ w'.cell? ⟨p1, 1, none⟩ = some (.slice a1 n1 cap1)) [(0, 1), (1, 1), (2, 1), (3, 1), (4, 1), (5, 1), (6, 1), (7, 0), (8, 0), (10, 0), (11, 0), (9, 2), (12, 3), (13, 3), (14, 3), (15, 3), (16, 3), (17, 3), (18, 3)] [(12, [9, 7]), (12, [9, 8]), (12, [10]), (12, [11]), (13, [9, 7]), (13, [9, 8]), (13, [12, 10]), (13, [12, 11]), (14, [13, 9, 7]), (14, [13, 9, 8]), (14, [13, 12, 10]), (14, [13, 12, 11]), (15, [12, 9, 7]), (15, [12, 9, 8]), (15, [12, 10]), (15, [12, 11]), (16, [15, 12, 9, 7]), (16, [15, 12, 9, 8]), (16, [15, 12, 10]), (16, [15, 12, 11]), (17, [15, 12, 9, 7]), (17, [15, 12, 9, 8]), (17, [15, 12, 10]), (17, [15, 12, 11]), (18, [7]), (18, [8]), (18, [10]), (18, [11])] (by kernel_rfl) (by kernel_rfl) (fun _ _ _ _ _ h => h) (HS) ?_
                refine pq_pu (some 53) rfl rfl (by rfl) (fun ws => by go_simp; try with_reducible rfl) ?_; go_frame   -- 0 Op.move (Operand.tmp 8)
                refine pq_pu (some 54) rfl rfl (by rfl) (fun ws => by go_simp; try with_reducible rfl) ?_; go_frame   -- 1 Op.binOp BinOp.neq 29 (Operand.tmp 53) (Operand.const (Value.int IntKind.i64 0)) 29
                refine pq_pu (some 55) rfl rfl (by rfl) (fun ws => by go_simp; try with_reducible rfl) ?_; go_frame   -- 2 Op.move (Operand.tmp 54)
                refine pq_pu (some 56) rfl rfl (by rfl) (fun ws => by go_simp; try with_reducible rfl) ?_; go_frame   -- 3 Op.move (Operand.tmp 10)
                refine pq_pu (some 57) rfl rfl (by rfl) (fun ws => by go_simp; try with_reducible rfl) ?_; go_frame   -- 4 Op.binOp BinOp.neq 29 (Operand.tmp 56) (Operand.const (Value.int IntKind.i64 0)) 29
                refine pq_pu (some 58) rfl rfl (by rfl) (fun ws => by go_simp; try with_reducible rfl) ?_; go_frame   -- 5 Op.pick (Operand.tmp 55) (Operand.const (Value.bool true)) (Operand.tmp 57)
                refine pq_pu (some 59) rfl rfl (by rfl) (fun ws => by go_simp; try with_reducible rfl) ?_; go_frame   -- 6 Op.move (Operand.tmp 58)
                refine pq_ld (some 60) rfl rfl (by rfl) (fun ws HS => by go_split_ands; go_simp; try with_reducible rfl) ?_; go_frame   -- 7 Op.load 25 (Operand.tmp 7)
                refine pq_ld (some 61) rfl rfl (by rfl) (fun ws HS => by go_split_ands; go_simp; try with_reducible rfl) ?_; go_frame   -- 8 Op.load 25 (Operand.tmp 9)
                refine pq_ld (some 63) rfl rfl (by rfl) (fun ws HS => by go_split_ands; go_simp; try with_reducible rfl) ?_; go_frame   -- 10 Op.load 25 (Operand.tmp 3)
                refine pq_ld (some 64) rfl rfl (by rfl) (fun ws HS => by go_split_ands; go_simp; try with_reducible rfl) ?_; go_frame   -- 11 Op.load 25 (Operand.tmp 4)
                refine pk_ke rfl (fun J hJ => ?_)   -- pi_ke 9 Op.call { callee := Callee.value (Operand.func 52), args := #[Operand.tmp 60, Operand.tmp 61], argTypes := #[25, 25] }
                have C0 := Lib.hid (cmp_k (ST43.out.getC (v := (.agg #[.bool n5, .slice a5 c5 d5])) (i := addV (x1) (x3)) (by simp)) (ST43.out.getC (v := (.agg #[.bool n7, .slice a7 c7 d7])) (i := addV (x2) (x3)) (by simp)) (valI_can _) (valI_can _))
                rw [HE.out] at C0
                have C44 := Lib.hid (C0.out)
                go_wp2_with (go_at_call 52; refine C44.out.mono ?_; rintro e W44 ⟨rfl, hb⟩; have ST44 := Lib.hid (ST43.out.go hb); have hD44 := Lib.hid (hD7.out.trans (Below.mono hb hD7.out.size)); clear hb)
                refine hJ _ _ (HC7.out W44 hD44.out) ?_
                refine pi_tail (by rfl) ?_; simp only [opsAt, List.getElem?_toArray, List.getElem?_cons_zero, List.getElem?_cons_succ]   -- [(12, 'Op.call { callee := Callee.value (Operand.func 52), args := #[Operand.tmp 63, Operand.tmp 64], argTypes := #[25, 25] }'), (13, 'Op.binOp BinOp.eql 3 (Operand.tmp 62) (Operand.tmp 65) 3'), (14, 'Op.pick (Operand.tmp 59) (Operand.const (Value.bool true)) (Operand.tmp 66)'), (15, 'Op.move (Operand.tmp 67)'), (16, 'Op.call { callee := Callee.value (Operand.func 36), args := #[], argTypes := #[] }'), (17, 'Op.pick (Operand.tmp 68) (Operand.tmp 69) (Operand.const (Value.bool false))'), (18, 'Op.assign (Operand.tmp 70)')]
                have C1 := Lib.hid (cmp_k (ST44.out.get (v := (.agg #[.bool g1, .slice a1 n1 cap1])) (g := g1) (z := z1) (by simp)) (ST44.out.get (v := (.agg #[.bool g2, .slice a2 n2 cap2])) (g := g2) (z := z2) (by simp)) Hx1.out Hx2.out)
                rw [Ht.out] at C1
                go_wp2_with first
                  | (go_at_call 52; refine C1.out.mono ?_; rintro e Wx ⟨rfl, hb⟩; have STx := Lib.hid (ST44.out.go hb); clear hb)
                  | (go_at_call 36; refine (awake_any Wx).mono ?_; rintro e Wy ⟨rfl, hb⟩; have STy := Lib.hid (STx.out.go hb); clear hb)
                go_ret
                exact ⟨by simp, STy.out.below⟩
              · have h9 := True.intro
                clear h9
                have HC7 : Hid (∀ wx, Below W41.heap.size W41 wx → (fun w' : World => w'.cell? ⟨b7, 0, none⟩ = some (.bool n7) ∧ w'.cell? ⟨b7, 1, none⟩ = some (.slice a7 c7 d7) ∧ w'.cell? ⟨b5, 0, none⟩ = some (.bool n5) ∧ w'.cell? ⟨b5, 1, none⟩ = some (.slice a5 c5 d5) ∧ w'.cell? ⟨p3, 0, none⟩ = some (.bool g3) ∧ w'.cell? ⟨p3, 1, none⟩ = some (.slice a3 n3 cap3) ∧ w'.cell? ⟨p2, 0, none⟩ = some (.bool g2) ∧ w'.cell? ⟨p2, 1, none⟩ = some (.slice a2 n2 cap2) ∧ w'.cell? ⟨p1, 0, none⟩ = some (.bool g1) ∧ w'.cell? ⟨p1, 1, none⟩ = some (.slice a1 n1 cap1)) wx) := Lib.hid fun wx hx => by
                  have h := ST42.out.go hx
                  exact ⟨(h.cells (b := b7) (n := n7) (s := .slice a7 c7 d7) (by simp)).1, (h.cells (b := b7) (n := n7) (s := .slice a7 c7 d7) (by simp)).2, (h.cells (b := b5) (n := n5) (s := .slice a5 c5 d5) (by simp)).1, (h.cells (b := b5) (n := n5) (s := .slice a5 c5 d5) (by simp)).2, (h.cells (b := p3) (n := g3) (s := .slice a3 n3 cap3) (by simp)).1, (h.cells (b := p3) (n := g3) (s := .slice a3 n3 cap3) (by simp)).2, (h.cells (b := p2) (n := g2) (s := .slice a2 n2 cap2) (by simp)).1, (h.cells (b := p2) (n := g2) (s := .slice a2 n2 cap2) (by simp)).2, (h.cells (b := p1) (n := g1) (s := .slice a1 n1 cap1) (by simp)).1, (h.cells (b := p1) (n := g1) (s := .slice a1 n1 cap1) (by simp)).2⟩
                have hD7 := Lib.hid (Below.refl W41.heap.size W41).drew
                have ST45 := Lib.hid (ST42.out.go hD7.out)
                have HS := HC7.out W41.drew hD7.out
                refine wp_region_pi (fun w' : World => w'.cell? ⟨b7, 0, none⟩ = some (.bool n7) ∧ w'.cell? ⟨b7, 1, none⟩ = some (.slice a7 c7 d7) ∧ w'.cell? ⟨b5, 0, none⟩ = some (.bool n5) ∧ w'.cell? ⟨b5, 1, none⟩ = some (.slice a5 c5 d5) ∧ w'.cell? ⟨p3, 0, none⟩ = some (.bool g3) ∧ w'.cell? ⟨p3, 1, none⟩ = some (.slice a3 n3 cap3) ∧ w'.cell? ⟨p2, 0, none⟩ = some (.bool g2) ∧ w'.cell? ⟨p2, 1, none⟩ = some (.slice a2 n2 cap2) ∧ w'.cell? ⟨p1, 0, none⟩ = some (.bool g1) ∧ w'.cell? ⟨p1, 1, none⟩ = some (.slice a1 n1 cap1)) [(0, 1), (1, 1), (2, 1), (3, 1), (4, 1), (5, 1), (6, 1), (7, 0), (8, 0), (10, 0), (11, 0), (9, 2), (12, 3), (13, 3), (14, 3), (15, 3), (16, 3), (17, 3), (18, 3)] [(12, [9, 7]), (12, [9, 8]), (12, [10]), (12, [11]), (13, [9, 7]), (13, [9, 8]), (13, [12, 10]), (13, [12, 11]), (14, [13, 9, 7]), (14, [13, 9, 8]), (14, [13, 12, 10]), (14, [13, 12, 11]), (15, [12, 9, 7]), (15, [12, 9, 8]), (15, [12, 10]), (15, [12, 11]), (16, [15, 12, 9, 7]), (16, [15, 12, 9, 8]), (16, [15, 12, 10]), (16, [15, 12, 11]), (17, [15, 12, 9, 7]), (17, [15, 12, 9, 8]), (17, [15, 12, 10]), (17, [15, 12, 11]), (18, [7]), (18, [8]), (18, [10]), (18, [11])] (by kernel_rfl) (by kernel_rfl) (fun _ _ _ _ _ h => h) (HS) ?_
                refine pq_pu (some 53) rfl rfl (by rfl) (fun ws => by go_simp; try with_reducible rfl) ?_; go_frame   -- 0 Op.move (Operand.tmp 8)
                refine pq_pu (some 54) rfl rfl (by rfl) (fun ws => by go_simp; try with_reducible rfl) ?_; go_frame   -- 1 Op.binOp BinOp.neq 29 (Operand.tmp 53) (Operand.const (Value.int IntKind.i64 0)) 29
                refine pq_pu (some 55) rfl rfl (by rfl) (fun ws => by go_simp; try with_reducible rfl) ?_; go_frame   -- 2 Op.move (Operand.tmp 54)
                refine pq_pu (some 56) rfl rfl (by rfl) (fun ws => by go_simp; try with_reducible rfl) ?_; go_frame   -- 3 Op.move (Operand.tmp 10)
                refine pq_pu (some 57) rfl rfl (by rfl) (fun ws => by go_simp; try with_reducible rfl) ?_; go_frame   -- 4 Op.binOp BinOp.neq 29 (Operand.tmp 56) (Operand.const (Value.int IntKind.i64 0)) 29
                refine pq_pu (some 58) rfl rfl (by rfl) (fun ws => by go_simp; try with_reducible rfl) ?_; go_frame   -- 5 Op.pick (Operand.tmp 55) (Operand.const (Value.bool true)) (Operand.tmp 57)
                refine pq_pu (some 59) rfl rfl (by rfl) (fun ws => by go_simp; try with_reducible rfl) ?_; go_frame   -- 6 Op.move (Operand.tmp 58)
                refine pq_ld_skip (some 60) rfl rfl (by rfl) ?_; go_frame   -- 7 Op.load 25 (Operand.tmp 7)
                refine pq_ld_skip (some 61) rfl rfl (by rfl) ?_; go_frame   -- 8 Op.load 25 (Operand.tmp 9)
                refine pq_ld_skip (some 63) rfl rfl (by rfl) ?_; go_frame   -- 10 Op.load 25 (Operand.tmp 3)
                refine pq_ld_skip (some 64) rfl rfl (by rfl) ?_; go_frame   -- 11 Op.load 25 (Operand.tmp 4)
                refine pk_ke rfl (fun J hJ => ?_)   -- pi_ke 9 Op.call { callee := Callee.value (Operand.func 52), args := #[Operand.tmp 60, Operand.tmp 61], argTypes := #[25, 25] }
                go_wp2_with fail
                refine hJ _ _ (HC7.out W41.drew hD7.out) ?_
                refine pi_tail (by rfl) ?_; simp only [opsAt, List.getElem?_toArray, List.getElem?_cons_zero, List.getElem?_cons_succ]   -- [(12, 'Op.call { callee := Callee.value (Operand.func 52), args := #[Operand.tmp 63, Operand.tmp 64], argTypes := #[25, 25] }'), (13, 'Op.binOp BinOp.eql 3 (Operand.tmp 62) (Operand.tmp 65) 3'), (14, 'Op.pick (Operand.tmp 59) (Operand.const (Value.bool true)) (Operand.tmp 66)'), (15, 'Op.move (Operand.tmp 67)'), (16, 'Op.call { callee := Callee.value (Operand.func 36), args := #[], argTypes := #[] }'), (17, 'Op.pick (Operand.tmp 68) (Operand.tmp 69) (Operand.const (Value.bool false))'), (18, 'Op.assign (Operand.tmp 70)')]
                go_wp2_with (go_at_call 36; refine (awake_any W41.drew).mono ?_; rintro e Wy ⟨rfl, hb⟩; have STy := Lib.hid (ST45.out.go hb); clear hb)
                go_ret
                exact ⟨by simp, STy.out.below⟩
            · have h9 := h7
              clear h9 h7
              have HC7 : Hid (∀ wx, Below W41.heap.size W41 wx → (fun w' : World => w'.cell? ⟨b7, 0, none⟩ = some (.bool n7) ∧ w'.cell? ⟨b7, 1, none⟩ = some (.slice a7 c7 d7) ∧ w'.cell? ⟨b5, 0, none⟩ = some (.bool n5) ∧ w'.cell? ⟨b5, 1, none⟩ = some (.slice a5 c5 d5) ∧ w'.cell? ⟨p3, 0, none⟩ = some (.bool g3) ∧ w'.cell? ⟨p3, 1, none⟩ = some (.slice a3 n3 cap3) ∧ w'.cell? ⟨p2, 0, none⟩ = some (.bool g2) ∧ w'.cell? ⟨p2, 1, none⟩ = some (.slice a2 n2 cap2) ∧ w'.cell? ⟨p1, 0, none⟩ = some (.bool g1) ∧ w'.cell? ⟨p1, 1, none⟩ = some (.slice a1 n1 cap1)) wx) := Lib.hid fun wx hx => by
                have h := ST42.out.go hx
                exact ⟨(h.cells (b := b7) (n := n7) (s := .slice a7 c7 d7) (by simp)).1, (h.cells (b := b7) (n := n7) (s := .slice a7 c7 d7) (by simp)).2, (h.cells (b := b5) (n := n5) (s := .slice a5 c5 d5) (by simp)).1, (h.cells (b := b5) (n := n5) (s := .slice a5 c5 d5) (by simp)).2, (h.cells (b := p3) (n := g3) (s := .slice a3 n3 cap3) (by simp)).1, (h.cells (b := p3) (n := g3) (s := .slice a3 n3 cap3) (by simp)).2, (h.cells (b := p2) (n := g2) (s := .slice a2 n2 cap2) (by simp)).1, (h.cells (b := p2) (n := g2) (s := .slice a2 n2 cap2) (by simp)).2, (h.cells (b := p1) (n := g1) (s := .slice a1 n1 cap1) (by simp)).1, (h.cells (b := p1) (n := g1) (s := .slice a1 n1 cap1) (by simp)).2⟩
              have hD7 := Lib.hid (Below.refl W41.heap.size W41).drew
              have ST46 := Lib.hid (ST42.out.go hD7.out)
              have HS := HC7.out W41.drew hD7.out
              refine wp_region_pi (fun w' : World => w'.cell? ⟨b7, 0, none⟩ = some (.bool n7) ∧ w'.cell? ⟨b7, 1, none⟩ = some (.slice a7 c7 d7) ∧ w'.cell? ⟨b5, 0, none⟩ = some (.bool n5) ∧ w'.cell? ⟨b5, 1, none⟩ = some (.slice a5 c5 d5) ∧ w'.cell? ⟨p3, 0, none⟩ = some (.bool g3) ∧ w'.cell? ⟨p3, 1, none⟩ = some (.slice a3 n3 cap3) ∧ w'.cell? ⟨p2, 0, none⟩ = some (.bool g2) ∧ w'.cell? ⟨p2, 1, none⟩ = some (.slice a2 n2 cap2) ∧ w'.cell? ⟨p1, 0, none⟩ = some (.bool g1) ∧ w'.cell? ⟨p1, 1, none⟩ = some (.slice a1 n1 cap1)) [(0, 1), (1, 1), (2, 1), (3, 1), (4, 1), (5, 1), (6, 1), (7, 0), (8, 0), (10, 0), (11, 0), (9, 2), (12, 3), (13, 3), (14, 3), (15, 3), (16, 3), (17, 3), (18, 3)] [(12, [9, 7]), (12, [9, 8]), (12, [10]), (12, [11]), (13, [9, 7]), (13, [9, 8]), (13, [12, 10]), (13, [12, 11]), (14, [13, 9, 7]), (14, [13, 9, 8]), (14, [13, 12, 10]), (14, [13, 12, 11]), (15, [12, 9, 7]), (15, [12, 9, 8]), (15, [12, 10]), (15, [12, 11]), (16, [15, 12, 9, 7]), (16, [15, 12, 9, 8]), (16, [15, 12, 10]), (16, [15, 12, 11]), (17, [15, 12, 9, 7]), (17, [15, 12, 9, 8]), (17, [15, 12, 10]), (17, [15, 12, 11]), (18, [7]), (18, [8]), (18, [10]), (18, [11])] (by kernel_rfl) (by kernel_rfl) (fun _ _ _ _ _ h => h) (HS) ?_
              refine pq_pu (some 53) rfl rfl (by rfl) (fun ws => by go_simp; try with_reducible rfl) ?_; go_frame   -- 0 Op.move (Operand.tmp 8)
              refine pq_pu (some 54) rfl rfl (by rfl) (fun ws => by go_simp; try with_reducible rfl) ?_; go_frame   -- 1 Op.binOp BinOp.neq 29 (Operand.tmp 53) (Operand.const (Value.int IntKind.i64 0)) 29
              refine pq_pu (some 55) rfl rfl (by rfl) (fun ws => by go_simp; try with_reducible rfl) ?_; go_frame   -- 2 Op.move (Operand.tmp 54)
              refine pq_pu_skip (some 56) rfl rfl (by rfl) ?_; go_frame   -- 3 Op.move (Operand.tmp 10)
              refine pq_pu_skip (some 57) rfl rfl (by rfl) ?_; go_frame   -- 4 Op.binOp BinOp.neq 29 (Operand.tmp 56) (Operand.const (Value.int IntKind.i64 0)) 29
              refine pq_pu (some 58) rfl rfl (by rfl) (fun ws => by go_simp; try with_reducible rfl) ?_; go_frame   -- 5 Op.pick (Operand.tmp 55) (Operand.const (Value.bool true)) (Operand.tmp 57)
              refine pq_pu (some 59) rfl rfl (by rfl) (fun ws => by go_simp; try with_reducible rfl) ?_; go_frame   -- 6 Op.move (Operand.tmp 58)
              refine pq_ld_skip (some 60) rfl rfl (by rfl) ?_; go_frame   -- 7 Op.load 25 (Operand.tmp 7)
              refine pq_ld_skip (some 61) rfl rfl (by rfl) ?_; go_frame   -- 8 Op.load 25 (Operand.tmp 9)
              refine pq_ld_skip (some 63) rfl rfl (by rfl) ?_; go_frame   -- 10 Op.load 25 (Operand.tmp 3)
              refine pq_ld_skip (some 64) rfl rfl (by rfl) ?_; go_frame   -- 11 Op.load 25 (Operand.tmp 4)
              refine pk_ke rfl (fun J hJ => ?_)   -- pi_ke 9 Op.call { callee := Callee.value (Operand.func 52), args := #[Operand.tmp 60, Operand.tmp 61], argTypes := #[25, 25] }
              go_wp2_with fail
              refine hJ _ _ (HC7.out W41.drew hD7.out) ?_
              refine pi_tail (by rfl) ?_; simp only [opsAt, List.getElem?_toArray, List.getElem?_cons_zero, List.getElem?_cons_succ]   -- [(12, 'Op.call { callee := Callee.value (Operand.func 52), args := #[Operand.tmp 63, Operand.tmp 64], argTypes := #[25, 25] }'), (13, 'Op.binOp BinOp.eql 3 (Operand.tmp 62) (Operand.tmp 65) 3'), (14, 'Op.pick (Operand.tmp 59) (Operand.const (Value.bool true)) (Operand.tmp 66)'), (15, 'Op.move (Operand.tmp 67)'), (16, 'Op.call { callee := Callee.value (Operand.func 36), args := #[], argTypes := #[] }'), (17, 'Op.pick (Operand.tmp 68) (Operand.tmp 69) (Operand.const (Value.bool false))'), (18, 'Op.assign (Operand.tmp 70)')]
              go_wp2_with (go_at_call 36; refine (awake_any W41.drew).mono ?_; rintro e Wy ⟨rfl, hb⟩; have STy := Lib.hid (ST46.out.go hb); clear hb)
              go_ret
              exact ⟨by simp, STy.out.below⟩
          | inr q2 =>
            have q3 := HT.out q1 q2
            clear HT
            obtain ⟨qp30, qp31⟩ := ST34.out.cells (b := p3) (n := g3) (s := .slice a3 n3 cap3) (by simp)
            obtain ⟨qp10, qp11⟩ := ST34.out.cells (b := p1) (n := g1) (s := .slice a1 n1 cap1) (by simp)
            go_wp2_with (go_at_call 52; refine hold ?_)
            refine Hold.mk ?_
            have C47 := Lib.hid (cmp_k (ST34.out.get (v := (.agg #[.bool g1, .slice a1 n1 cap1])) (g := g1) (z := z1) (by simp)) (ST34.out.get (v := (.agg #[.bool g3, .slice a3 n3 cap3])) (g := g3) (z := z3) (by simp)) Hx1.out Hx3.out)
            rw [Hv.out] at C47
            refine C47.out.mono ?_
            rintro e W47 ⟨rfl, hb⟩
            clear qp30 qp31 qp10 qp11
            have ST48 := Lib.hid (ST34.out.go hb)
            clear hb
            obtain ⟨qp30, qp31⟩ := ST48.out.cells (b := p3) (n := g3) (s := .slice a3 n3 cap3) (by simp)
            obtain ⟨qp10, qp11⟩ := ST48.out.cells (b := p1) (n := g1) (s := .slice a1 n1 cap1) (by simp)
            go_wp2_with (go_at_call 53; refine hold ?_)
            refine Hold.mk ?_
            refine (add_k (ST48.out.get (v := (.agg #[.bool g1, .slice a1 n1 cap1])) (g := g1) (z := z1) (by simp)) (ST48.out.get (v := (.agg #[.bool g3, .slice a3 n3 cap3])) (g := g3) (z := z3) (by simp)) Hx1.out Hx3.out).mono ?_
            rintro e W49 ⟨⟨n5, a5, c5, d5, k5, rfl, hk, hv⟩, hb⟩
            clear qp30 qp31 qp10 qp11
            have ST50 := Lib.hid (ST48.out.next hb hv)
            have Hk5 := Lib.hid hk
            clear hk hv hb
            go_upto_region 6 with fail
            obtain ⟨W51, HW51⟩ : ∃ W', Hid (W' = W49.alloc (.cells #[.bool n5, .slice a5 c5 d5] 25)) := ⟨_, Lib.hid rfl⟩
            obtain ⟨b5, Hb5⟩ : ∃ b, Hid (b = W49.heap.size) := ⟨_, Lib.hid rfl⟩
            have ST52 := Lib.hid (ST50.out.box Hb5.out HW51.out)
            rw [← HW51.out]
            try rw [← Hb5.out]
            obtain ⟨qp30, qp31⟩ := ST52.out.cells (b := p3) (n := g3) (s := .slice a3 n3 cap3) (by simp)
            obtain ⟨qp20, qp21⟩ := ST52.out.cells (b := p2) (n := g2) (s := .slice a2 n2 cap2) (by simp)
            go_wp2_with (go_at_call 53; refine hold ?_)
            refine Hold.mk ?_
            refine (add_k (ST52.out.get (v := (.agg #[.bool g2, .slice a2 n2 cap2])) (g := g2) (z := z2) (by simp)) (ST52.out.get (v := (.agg #[.bool g3, .slice a3 n3 cap3])) (g := g3) (z := z3) (by simp)) Hx2.out Hx3.out).mono ?_
            rintro e W53 ⟨⟨n7, a7, c7, d7, k7, rfl, hk, hv⟩, hb⟩
            clear qp30 qp31 qp20 qp21
            have ST54 := Lib.hid (ST52.out.next hb hv)
            have Hk7 := Lib.hid hk
            clear hk hv hb
            go_upto_region 7 with fail
            obtain ⟨W55, HW55⟩ : ∃ W', Hid (W' = W53.alloc (.cells #[.bool n7, .slice a7 c7 d7] 25)) := ⟨_, Lib.hid rfl⟩
            obtain ⟨b7, Hb7⟩ : ∃ b, Hid (b = W53.heap.size) := ⟨_, Lib.hid rfl⟩
            have ST56 := Lib.hid (ST54.out.box Hb7.out HW55.out)
            rw [← HW55.out]
            try rw [← Hb7.out]
            have h5 := addK_two x1 x3
            rw [← Hk5.out] at h5
            have h7 := addK_two x2 x3
            rw [← Hk7.out] at h7
            rcases h5 with rfl | rfl
            · rcases h7 with rfl | rfl
              · have HE := Lib.hid (show cmpI (addV x1 x3) (addV x2 x3) = t from by rw [addV_of Hk5.out.symm, addV_of Hk7.out.symm, cmpI_add]; exact Ht.out)
                have HC7 : Hid (∀ wx, Below W55.heap.size W55 wx → (fun w' : World => w'.cell? ⟨b7, 0, none⟩ = some (.bool n7) ∧ w'.cell? ⟨b7, 1, none⟩ = some (.slice a7 c7 d7) ∧ w'.cell? ⟨b5, 0, none⟩ = some (.bool n5) ∧ w'.cell? ⟨b5, 1, none⟩ = some (.slice a5 c5 d5) ∧ w'.cell? ⟨p3, 0, none⟩ = some (.bool g3) ∧ w'.cell? ⟨p3, 1, none⟩ = some (.slice a3 n3 cap3) ∧ w'.cell? ⟨p2, 0, none⟩ = some (.bool g2) ∧ w'.cell? ⟨p2, 1, none⟩ = some (.slice a2 n2 cap2) ∧ w'.cell? ⟨p1, 0, none⟩ = some (.bool g1) ∧ w'.cell? ⟨p1, 1, none⟩ = some (.slice a1 n1 cap1)) wx) := Lib.hid fun wx hx => by
                  have h := ST56.out.go hx
                  exact ⟨(h.cells (b := b7) (n := n7) (s := .slice a7 c7 d7) (by simp)).1, (h.cells (b := b7) (n := n7) (s := .slice a7 c7 d7) (by simp)).2, (h.cells (b := b5) (n := n5) (s := .slice a5 c5 d5) (by simp)).1, (h.cells (b := b5) (n := n5) (s := .slice a5 c5 d5) (by simp)).2, (h.cells (b := p3) (n := g3) (s := .slice a3 n3 cap3) (by simp)).1, (h.cells (b := p3) (n := g3) (s := .slice a3 n3 cap3) (by simp)).2, (h.cells (b := p2) (n := g2) (s := .slice a2 n2 cap2) (by simp)).1, (h.cells (b := p2) (n := g2) (s := .slice a2 n2 cap2) (by simp)).2, (h.cells (b := p1) (n := g1) (s := .slice a1 n1 cap1) (by simp)).1, (h.cells (b := p1) (n := g1) (s := .slice a1 n1 cap1) (by simp)).2⟩
                have hD7 := Lib.hid (Below.refl W55.heap.size W55).drew
                have ST57 := Lib.hid (ST56.out.go hD7.out)
                have HS := HC7.out W55.drew hD7.out
                refine wp_region_pi (fun w' : World => w'.cell? ⟨b7, 0, none⟩ = some (.bool n7) ∧ w'.cell? ⟨b7, 1, none⟩ = some (.slice a7 c7 d7) ∧ w'.cell? ⟨b5, 0, none⟩ = some (.bool n5) ∧ w'.cell? ⟨b5, 1, none⟩ = some (.slice a5 c5 d5) ∧ w'.cell? ⟨p3, 0, none⟩ = some (.bool g3) ∧ w'.cell? ⟨p3, 1, none⟩ = some (.slice a3 n3 cap3) ∧ w'.cell? ⟨p2, 0, none⟩ = some (.bool g2) ∧ w'.cell? ⟨p2, 1, none⟩ = some (.slice a2 n2 cap2) ∧ w'.cell? ⟨p1, 0, none⟩ = some (.bool g1) ∧ w'.cell? ⟨p1, 1, none⟩ = some (.slice a1 n1 cap1)) [(0, 1), (1, 1), (2, 1), (3, 1), (4, 1), (5, 1), (6, 1), (7, 0), (8, 0), (10, 0), (11, 0), (9, 2), (12, 3), (13, 3), (14, 3), (15, 3), (16, 3), (17, 3), (18, 3)] [(12, [9, 7]), (12, [9, 8]), (12, [10]), (12, [11]), (13, [9, 7]), (13, [9, 8]), (13, [12, 10]), (13, [12, 11]), (14, [13, 9, 7]), (14, [13, 9, 8]), (14, [13, 12, 10]), (14, [13, 12, 11]), (15, [12, 9, 7]), (15, [12, 9, 8]), (15, [12, 10]), (15, [12, 11]), (16, [15, 12, 9, 7]), (16, [15, 12, 9, 8]), (16, [15, 12, 10]), (16, [15, 12, 11]), (17, [15, 12, 9, 7]), (17, [15, 12, 9, 8]), (17, [15, 12, 10]), (17, [15, 12, 11]), (18, [7]), (18, [8]), (18, [10]), (18, [11])] (by kernel_rfl) (by kernel_rfl) (fun _ _ _ _ _ h => h) (HS) ?_
                refine pq_pu (some 53) rfl rfl (by rfl) (fun ws => by go_simp; try with_reducible rfl) ?_; go_frame   -- 0 Op.move (Operand.tmp 8)
                refine pq_pu (some 54) rfl rfl (by rfl) (fun ws => by go_simp; try with_reducible rfl) ?_; go_frame   -- 1 Op.binOp BinOp.neq 29 (Operand.tmp 53) (Operand.const (Value.int IntKind.i64 0)) 29
                refine pq_pu (some 55) rfl rfl (by rfl) (fun ws => by go_simp; try with_reducible rfl) ?_; go_frame   -- 2 Op.move (Operand.tmp 54)
                refine pq_pu (some 56) rfl rfl (by rfl) (fun ws => by go_simp; try with_reducible rfl) ?_; go_frame   -- 3 Op.move (Operand.tmp 10)
                refine pq_pu (some 57) rfl rfl (by rfl) (fun ws => by go_simp; try with_reducible rfl) ?_; go_frame   -- 4 Op.binOp BinOp.neq 29 (Operand.tmp 56) (Operand.const (Value.int IntKind.i64 0)) 29
                refine pq_pu (some 58) rfl rfl (by rfl) (fun ws => by go_simp; try with_reducible rfl) ?_; go_frame   -- 5 Op.pick (Operand.tmp 55) (Operand.const (Value.bool true)) (Operand.tmp 57)
                refine pq_pu (some 59) rfl rfl (by rfl) (fun ws => by go_simp; try with_reducible rfl) ?_; go_frame   -- 6 Op.move (Operand.tmp 58)
                refine pq_ld (some 60) rfl rfl (by rfl) (fun ws HS => by go_split_ands; go_simp; try with_reducible rfl) ?_; go_frame   -- 7 Op.load 25 (Operand.tmp 7)
                refine pq_ld (some 61) rfl rfl (by rfl) (fun ws HS => by go_split_ands; go_simp; try with_reducible rfl) ?_; go_frame   -- 8 Op.load 25 (Operand.tmp 9)
                refine pq_ld (some 63) rfl rfl (by rfl) (fun ws HS => by go_split_ands; go_simp; try with_reducible rfl) ?_; go_frame   -- 10 Op.load 25 (Operand.tmp 3)
                refine pq_ld (some 64) rfl rfl (by rfl) (fun ws HS => by go_split_ands; go_simp; try with_reducible rfl) ?_; go_frame   -- 11 Op.load 25 (Operand.tmp 4)
                refine pk_ke rfl (fun J hJ => ?_)   -- pi_ke 9 Op.call { callee := Callee.value (Operand.func 52), args := #[Operand.tmp 60, Operand.tmp 61], argTypes := #[25, 25] }
                have C0 := Lib.hid (cmp_k (ST57.out.getC (v := (.agg #[.bool n5, .slice a5 c5 d5])) (i := addV (x1) (x3)) (by simp)) (ST57.out.getC (v := (.agg #[.bool n7, .slice a7 c7 d7])) (i := addV (x2) (x3)) (by simp)) (valI_can _) (valI_can _))
                rw [HE.out] at C0
                have C58 := Lib.hid (C0.out)
                go_wp2_with (go_at_call 52; refine C58.out.mono ?_; rintro e W58 ⟨rfl, hb⟩; have ST58 := Lib.hid (ST57.out.go hb); have hD58 := Lib.hid (hD7.out.trans (Below.mono hb hD7.out.size)); clear hb)
                refine hJ _ _ (HC7.out W58 hD58.out) ?_
                refine pi_tail (by rfl) ?_; simp only [opsAt, List.getElem?_toArray, List.getElem?_cons_zero, List.getElem?_cons_succ]   -- [(12, 'Op.call { callee := Callee.value (Operand.func 52), args := #[Operand.tmp 63, Operand.tmp 64], argTypes := #[25, 25] }'), (13, 'Op.binOp BinOp.eql 3 (Operand.tmp 62) (Operand.tmp 65) 3'), (14, 'Op.pick (Operand.tmp 59) (Operand.const (Value.bool true)) (Operand.tmp 66)'), (15, 'Op.move (Operand.tmp 67)'), (16, 'Op.call { callee := Callee.value (Operand.func 36), args := #[], argTypes := #[] }'), (17, 'Op.pick (Operand.tmp 68) (Operand.tmp 69) (Operand.const (Value.bool false))'), (18, 'Op.assign (Operand.tmp 70)')]
                have C1 := Lib.hid (cmp_k (ST58.out.get (v := (.agg #[.bool g1, .slice a1 n1 cap1])) (g := g1) (z := z1) (by simp)) (ST58.out.get (v := (.agg #[.bool g2, .slice a2 n2 cap2])) (g := g2) (z := z2) (by simp)) Hx1.out Hx2.out)
                rw [Ht.out] at C1
                go_wp2_with first
                  | (go_at_call 52; refine C1.out.mono ?_; rintro e Wx ⟨rfl, hb⟩; have STx := Lib.hid (ST58.out.go hb); clear hb)
                  | (go_at_call 36; refine (awake_any Wx).mono ?_; rintro e Wy ⟨rfl, hb⟩; have STy := Lib.hid (STx.out.go hb); clear hb)
                go_ret
                exact ⟨by simp, STy.out.below⟩
              · have h9 := True.intro
                clear h9
                have HC7 : Hid (∀ wx, Below W55.heap.size W55 wx → (fun w' : World => w'.cell? ⟨b7, 0, none⟩ = some (.bool n7) ∧ w'.cell? ⟨b7, 1, none⟩ = some (.slice a7 c7 d7) ∧ w'.cell? ⟨b5, 0, none⟩ = some (.bool n5) ∧ w'.cell? ⟨b5, 1, none⟩ = some (.slice a5 c5 d5) ∧ w'.cell? ⟨p3, 0, none⟩ = some (.bool g3) ∧ w'.cell? ⟨p3, 1, none⟩ = some (.slice a3 n3 cap3) ∧ w'.cell? ⟨p2, 0, none⟩ = some (.bool g2) ∧ w'.cell? ⟨p2, 1, none⟩ = some (.slice a2 n2 cap2) ∧ w'.cell? ⟨p1, 0, none⟩ = some (.bool g1) ∧ w'.cell? ⟨p1, 1, none⟩ = some (.slice a1 n1 cap1)) wx) := Lib.hid fun wx hx => by
                  have h := ST56.out.go hx
                  exact ⟨(h.cells (b := b7) (n := n7) (s := .slice a7 c7 d7) (by simp)).1, (h.cells (b := b7) (n := n7) (s := .slice a7 c7 d7) (by simp)).2, (h.cells (b := b5) (n := n5) (s := .slice a5 c5 d5) (by simp)).1, (h.cells (b := b5) (n := n5) (s := .slice a5 c5 d5) (by simp)).2, (h.cells (b := p3) (n := g3) (s := .slice a3 n3 cap3) (by simp)).1, (h.cells (b := p3) (n := g3) (s := .slice a3 n3 cap3) (by simp)).2, (h.cells (b := p2) (n := g2) (s := .slice a2 n2 cap2) (by simp)).1, (h.cells (b := p2) (n := g2) (s := .slice a2 n2 cap2) (by simp)).2, (h.cells (b := p1) (n := g1) (s := .slice a1 n1 cap1) (by simp)).1, (h.cells (b := p1) (n := g1) (s := .slice a1 n1 cap1) (by simp)).2⟩
                have hD7 := Lib.hid (Below.refl W55.heap.size W55).drew
                have ST59 := Lib.hid (ST56.out.go hD7.out)
                have HS := HC7.out W55.drew hD7.out
                refine wp_region_pi (fun w' : World => w'.cell? ⟨b7, 0, none⟩ = some (.bool n7) ∧ w'.cell? ⟨b7, 1, none⟩ = some (.slice a7 c7 d7) ∧ w'.cell? ⟨b5, 0, none⟩ = some (.bool n5) ∧ w'.cell? ⟨b5, 1, none⟩ = some (.slice a5 c5 d5) ∧ w'.cell? ⟨p3, 0, none⟩ = some (.bool g3) ∧ w'.cell? ⟨p3, 1, none⟩ = some (.slice a3 n3 cap3) ∧ w'.cell? ⟨p2, 0, none⟩ = some (.bool g2) ∧ w'.cell? ⟨p2, 1, none⟩ = some (.slice a2 n2 cap2) ∧ w'.cell? ⟨p1, 0, none⟩ = some (.bool g1) ∧ w'.cell? ⟨p1, 1, none⟩ = some (.slice a1 n1 cap1)) [(0, 1), (1, 1), (2, 1), (3, 1), (4, 1), (5, 1), (6, 1), (7, 0), (8, 0), (10, 0), (11, 0), (9, 2), (12, 3), (13, 3), (14, 3), (15, 3), (16, 3), (17, 3), (18, 3)] [(12, [9, 7]), (12, [9, 8]), (12, [10]), (12, [11]), (13, [9, 7]), (13, [9, 8]), (13, [12, 10]), (13, [12, 11]), (14, [13, 9, 7]), (14, [13, 9, 8]), (14, [13, 12, 10]), (14, [13, 12, 11]), (15, [12, 9, 7]), (15, [12, 9, 8]), (15, [12, 10]), (15, [12, 11]), (16, [15, 12, 9, 7]), (16, [15, 12, 9, 8]), (16, [15, 12, 10]), (16, [15, 12, 11]), (17, [15, 12, 9, 7]), (17, [15, 12, 9, 8]), (17, [15, 12, 10]), (17, [15, 12, 11]), (18, [7]), (18, [8]), (18, [10]), (18, [11])] (by kernel_rfl) (by kernel_rfl) (fun _ _ _ _ _ h => h) (HS) ?_
                refine pq_pu (some 53) rfl rfl (by rfl) (fun ws => by go_simp; try with_reducible rfl) ?_; go_frame   -- 0 Op.move (Operand.tmp 8)
                refine pq_pu (some 54) rfl rfl (by rfl) (fun ws => by go_simp; try with_reducible rfl) ?_; go_frame   -- 1 Op.binOp BinOp.neq 29 (Operand.tmp 53) (Operand.const (Value.int IntKind.i64 0)) 29
                refine pq_pu (some 55) rfl rfl (by rfl) (fun ws => by go_simp; try with_reducible rfl) ?_; go_frame   -- 2 Op.move (Operand.tmp 54)
                refine pq_pu (some 56) rfl rfl (by rfl) (fun ws => by go_simp; try with_reducible rfl) ?_; go_frame   -- 3 Op.move (Operand.tmp 10)
                refine pq_pu (some 57) rfl rfl (by rfl) (fun ws => by go_simp; try with_reducible rfl) ?_; go_frame   -- 4 Op.binOp BinOp.neq 29 (Operand.tmp 56) (Operand.const (Value.int IntKind.i64 0)) 29
                refine pq_pu (some 58) rfl rfl (by rfl) (fun ws => by go_simp; try with_reducible rfl) ?_; go_frame   -- 5 Op.pick (Operand.tmp 55) (Operand.const (Value.bool true)) (Operand.tmp 57)
                refine pq_pu (some 59) rfl rfl (by rfl) (fun ws => by go_simp; try with_reducible rfl) ?_; go_frame   -- 6 Op.move (Operand.tmp 58)
                refine pq_ld_skip (some 60) rfl rfl (by rfl) ?_; go_frame   -- 7 Op.load 25 (Operand.tmp 7)
                refine pq_ld_skip (some 61) rfl rfl (by rfl) ?_; go_frame   -- 8 Op.load 25 (Operand.tmp 9)
                refine pq_ld_skip (some 63) rfl rfl (by rfl) ?_; go_frame   -- 10 Op.load 25 (Operand.tmp 3)
                refine pq_ld_skip (some 64) rfl rfl (by rfl) ?_; go_frame   -- 11 Op.load 25 (Operand.tmp 4)
                refine pk_ke rfl (fun J hJ => ?_)   -- pi_ke 9 Op.call { callee := Callee.value (Operand.func 52), args := #[Operand.tmp 60, Operand.tmp 61], argTypes := #[25, 25] }
                go_wp2_with fail
                refine hJ _ _ (HC7.out W55.drew hD7.out) ?_
                refine pi_tail (by rfl) ?_; simp only [opsAt, List.getElem?_toArray, List.getElem?_cons_zero, List.getElem?_cons_succ]   -- [(12, 'Op.call { callee := Callee.value (Operand.func 52), args := #[Operand.tmp 63, Operand.tmp 64], argTypes := #[25, 25] }'), (13, 'Op.binOp BinOp.eql 3 (Operand.tmp 62) (Operand.tmp 65) 3'), (14, 'Op.pick (Operand.tmp 59) (Operand.const (Value.bool true)) (Operand.tmp 66)'), (15, 'Op.move (Operand.tmp 67)'), (16, 'Op.call { callee := Callee.value (Operand.func 36), args := #[], argTypes := #[] }'), (17, 'Op.pick (Operand.tmp 68) (Operand.tmp 69) (Operand.const (Value.bool false))'), (18, 'Op.assign (Operand.tmp 70)')]
                go_wp2_with (go_at_call 36; refine (awake_any W55.drew).mono ?_; rintro e Wy ⟨rfl, hb⟩; have STy := Lib.hid (ST59.out.go hb); clear hb)
                go_ret
                exact ⟨by simp, STy.out.below⟩
            · have h9 := h7
              clear h9 h7
              have HC7 : Hid (∀ wx, Below W55.heap.size W55 wx → (fun w' : World => w'.cell? ⟨b7, 0, none⟩ = some (.bool n7) ∧ w'.cell? ⟨b7, 1, none⟩ = some (.slice a7 c7 d7) ∧ w'.cell? ⟨b5, 0, none⟩ = some (.bool n5) ∧ w'.cell? ⟨b5, 1, none⟩ = some (.slice a5 c5 d5) ∧ w'.cell? ⟨p3, 0, none⟩ = some (.bool g3) ∧ w'.cell? ⟨p3, 1, none⟩ = some (.slice a3 n3 cap3) ∧ w'.cell? ⟨p2, 0, none⟩ = some (.bool g2) ∧ w'.cell? ⟨p2, 1, none⟩ = some (.slice a2 n2 cap2) ∧ w'.cell? ⟨p1, 0, none⟩ = some (.bool g1) ∧ w'.cell? ⟨p1, 1, none⟩ = some (.slice a1 n1 cap1)) wx) := Lib.hid fun wx hx => by
                have h := ST56.out.go hx
                exact ⟨(h.cells (b := b7) (n := n7) (s := .slice a7 c7 d7) (by simp)).1, (h.cells (b := b7) (n := n7) (s := .slice a7 c7 d7) (by simp)).2, (h.cells (b := b5) (n := n5) (s := .slice a5 c5 d5) (by simp)).1, (h.cells (b := b5) (n := n5) (s := .slice a5 c5 d5) (by simp)).2, (h.cells (b := p3) (n := g3) (s := .slice a3 n3 cap3) (by simp)).1, (h.cells (b := p3) (n := g3) (s := .slice a3 n3 cap3) (by simp)).2, (h.cells (b := p2) (n := g2) (s := .slice a2 n2 cap2) (by simp)).1, (h.cells (b := p2) (n := g2) (s := .slice a2 n2 cap2) (by simp)).2, (h.cells (b := p1) (n := g1) (s := .slice a1 n1 cap1) (by simp)).1, (h.cells (b := p1) (n := g1) (s := .slice a1 n1 cap1) (by simp)).2⟩
              have hD7 := Lib.hid (Below.refl W55.heap.size W55).drew
              have ST60 := Lib.hid (ST56.out.go hD7.out)
              have HS := HC7.out W55.drew hD7.out
              refine wp_region_pi (fun w' : World => w'.cell? ⟨b7, 0, none⟩ = some (.bool n7) ∧ w'.cell? ⟨b7, 1, none⟩ = some (.slice a7 c7 d7) ∧ w'.cell? ⟨b5, 0, none⟩ = some (.bool n5) ∧ w'.cell? ⟨b5, 1, none⟩ = some (.slice a5 c5 d5) ∧ w'.cell? ⟨p3, 0, none⟩ = some (.bool g3) ∧ w'.cell? ⟨p3, 1, none⟩ = some (.slice a3 n3 cap3) ∧ w'.cell? ⟨p2, 0, none⟩ = some (.bool g2) ∧ w'.cell? ⟨p2, 1, none⟩ = some (.slice a2 n2 cap2) ∧ w'.cell? ⟨p1, 0, none⟩ = some (.bool g1) ∧ w'.cell? ⟨p1, 1, none⟩ = some (.slice a1 n1 cap1)) [(0, 1), (1, 1), (2, 1), (3, 1), (4, 1), (5, 1), (6, 1), (7, 0), (8, 0), (10, 0), (11, 0), (9, 2), (12, 3), (13, 3), (14, 3), (15, 3), (16, 3), (17, 3), (18, 3)] [(12, [9, 7]), (12, [9, 8]), (12, [10]), (12, [11]), (13, [9, 7]), (13, [9, 8]), (13, [12, 10]), (13, [12, 11]), (14, [13, 9, 7]), (14, [13, 9, 8]), (14, [13, 12, 10]), (14, [13, 12, 11]), (15, [12, 9, 7]), (15, [12, 9, 8]), (15, [12, 10]), (15, [12, 11]), (16, [15, 12, 9, 7]), (16, [15, 12, 9, 8]), (16, [15, 12, 10]), (16, [15, 12, 11]), (17, [15, 12, 9, 7]), (17, [15, 12, 9, 8]), (17, [15, 12, 10]), (17, [15, 12, 11]), (18, [7]), (18, [8]), (18, [10]), (18, [11])] (by kernel_rfl) (by kernel_rfl) (fun _ _ _ _ _ h => h) (HS) ?_
              refine pq_pu (some 53) rfl rfl (by rfl) (fun ws => by go_simp; try with_reducible rfl) ?_; go_frame   -- 0 Op.move (Operand.tmp 8)
              refine pq_pu (some 54) rfl rfl (by rfl) (fun ws => by go_simp; try with_reducible rfl) ?_; go_frame   -- 1 Op.binOp BinOp.neq 29 (Operand.tmp 53) (Operand.const (Value.int IntKind.i64 0)) 29
              refine pq_pu (some 55) rfl rfl (by rfl) (fun ws => by go_simp; try with_reducible rfl) ?_; go_frame   -- 2 Op.move (Operand.tmp 54)
              refine pq_pu_skip (some 56) rfl rfl (by rfl) ?_; go_frame   -- 3 Op.move (Operand.tmp 10)
              refine pq_pu_skip (some 57) rfl rfl (by rfl) ?_; go_frame   -- 4 Op.binOp BinOp.neq 29 (Operand.tmp 56) (Operand.const (Value.int IntKind.i64 0)) 29
              refine pq_pu (some 58) rfl rfl (by rfl) (fun ws => by go_simp; try with_reducible rfl) ?_; go_frame   -- 5 Op.pick (Operand.tmp 55) (Operand.const (Value.bool true)) (Operand.tmp 57)
              refine pq_pu (some 59) rfl rfl (by rfl) (fun ws => by go_simp; try with_reducible rfl) ?_; go_frame   -- 6 Op.move (Operand.tmp 58)
              refine pq_ld_skip (some 60) rfl rfl (by rfl) ?_; go_frame   -- 7 Op.load 25 (Operand.tmp 7)
              refine pq_ld_skip (some 61) rfl rfl (by rfl) ?_; go_frame   -- 8 Op.load 25 (Operand.tmp 9)
              refine pq_ld_skip (some 63) rfl rfl (by rfl) ?_; go_frame   -- 10 Op.load 25 (Operand.tmp 3)
              refine pq_ld_skip (some 64) rfl rfl (by rfl) ?_; go_frame   -- 11 Op.load 25 (Operand.tmp 4)
              refine pk_ke rfl (fun J hJ => ?_)   -- pi_ke 9 Op.call { callee := Callee.value (Operand.func 52), args := #[Operand.tmp 60, Operand.tmp 61], argTypes := #[25, 25] }
              go_wp2_with fail
              refine hJ _ _ (HC7.out W55.drew hD7.out) ?_
              refine pi_tail (by rfl) ?_; simp only [opsAt, List.getElem?_toArray, List.getElem?_cons_zero, List.getElem?_cons_succ]   -- [(12, 'Op.call { callee := Callee.value (Operand.func 52), args := #[Operand.tmp 63, Operand.tmp 64], argTypes := #[25, 25] }'), (13, 'Op.binOp BinOp.eql 3 (Operand.tmp 62) (Operand.tmp 65) 3'), (14, 'Op.pick (Operand.tmp 59) (Operand.const (Value.bool true)) (Operand.tmp 66)'), (15, 'Op.move (Operand.tmp 67)'), (16, 'Op.call { callee := Callee.value (Operand.func 36), args := #[], argTypes := #[] }'), (17, 'Op.pick (Operand.tmp 68) (Operand.tmp 69) (Operand.const (Value.bool false))'), (18, 'Op.assign (Operand.tmp 70)')]
              go_wp2_with (go_at_call 36; refine (awake_any W55.drew).mono ?_; rintro e Wy ⟨rfl, hb⟩; have STy := Lib.hid (ST60.out.go hb); clear hb)
              go_ret
              exact ⟨by simp, STy.out.below⟩
end Go.Proofs.YtcnakbhogmnddaaDoor
