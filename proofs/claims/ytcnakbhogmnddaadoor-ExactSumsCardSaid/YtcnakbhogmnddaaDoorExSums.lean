/- The law ExactSums: the walk. No condition. -/
import Derived.Test.YtcnakbhogmnddaaDoorRfSum
import Derived.Test.YtcnakbhogmnddaaDoorRfBack
import Derived.Test.YtcnakbhogmnddaaDoorRegQ
namespace Go.Proofs.YtcnakbhogmnddaaDoor
open Go.RowKit

set_option maxRecDepth 100000 in
set_option maxHeartbeats 6400000 in
theorem exactSums_any (g1 : Bool) (a1 : Option Addr) (n1 cap1 : Nat) (z1 : List Nat) (g2 : Bool) (a2 : Option Addr) (n2 cap2 : Nat) (z2 : List Nat) (w : World) (h1 : WordsAt w a1 n1 z1 ∧ n1 ≤ cap1) (h2 : WordsAt w a2 n2 z2 ∧ n2 ≤ cap2) :
    Calls Tryd.prog 10 #[.agg #[.bool g1, .slice a1 n1 cap1], .agg #[.bool g2, .slice a2 n2 cap2]] w fun e w' => e = .returned (.bool true) ∧ Below w.heap.size w w' := by
  have H1 := Lib.hid h1
  obtain ⟨x1, Hx1⟩ : ∃ x, Hid (valI g1 z1 = x) := ⟨_, Lib.hid rfl⟩
  have H2 := Lib.hid h2
  obtain ⟨x2, Hx2⟩ : ∃ x, Hid (valI g2 z2 = x) := ⟨_, Lib.hid rfl⟩
  have ST0 := Lib.hid (St.start w)
  clear h1 h2
  go_enter Tryd.func10, Tryd.ntmps10
  go_wp2_with (go_at_call 35; refine hold ?_)
  obtain ⟨W1, HW1⟩ : ∃ W', Hid (W' = w.alloc (.cells #[.bool g1, .slice a1 n1 cap1] 25)) := ⟨_, Lib.hid rfl⟩
  obtain ⟨p1, Hp1⟩ : ∃ b, Hid (b = w.heap.size) := ⟨_, Lib.hid rfl⟩
  have ST2 := Lib.hid (ST0.out.box Hp1.out HW1.out)
  obtain ⟨W3, HW3⟩ : ∃ W', Hid (W' = W1.alloc (.cells #[.bool g2, .slice a2 n2 cap2] 25)) := ⟨_, Lib.hid rfl⟩
  obtain ⟨p2, Hp2⟩ : ∃ b, Hid (b = W1.heap.size) := ⟨_, Lib.hid rfl⟩
  have ST4 := Lib.hid (ST2.out.box Hp2.out HW3.out)
  have hz1 : w.heap.size + 1 = p2 := by rw [Hp2.out, HW1.out, World.size_alloc]
  rw [← HW1.out, ← HW3.out]
  try rw [hz1]
  try rw [← Hp1.out]
  clear hz1
  refine Hold.mk ?_
  obtain ⟨t1, Ht1⟩ : ∃ t, Hid (decide (n1 ≤ 40) = t) := ⟨_, Lib.hid rfl⟩
  have K1 := Lib.hid (in_any g1 a1 n1 cap1 W3)
  rw [Ht1.out] at K1
  refine K1.out.mono ?_
  rintro e W5 ⟨rfl, hb⟩
  have ST6 := Lib.hid (ST4.out.go hb)
  clear hb
  cases t1 with
  | false =>
    go_wp2_with (go_at_call 36; refine hold ?_)
    refine Hold.mk ?_
    refine (awake_any W5).mono ?_
    rintro e W7 ⟨rfl, hb⟩
    have ST7 := Lib.hid (ST6.out.go hb)
    clear hb
    go_wp2_with fail
    go_ret
    exact ⟨rfl, ST7.out.below⟩
  | true =>
    obtain ⟨qp20, qp21⟩ := ST6.out.cells (b := p2) (n := g2) (s := .slice a2 n2 cap2) (by simp)
    go_wp2_with (go_at_call 35; refine hold ?_)
    refine Hold.mk ?_
    obtain ⟨t2, Ht2⟩ : ∃ t, Hid (decide (n2 ≤ 40) = t) := ⟨_, Lib.hid rfl⟩
    have K2 := Lib.hid (in_any g2 a2 n2 cap2 W5)
    rw [Ht2.out] at K2
    refine K2.out.mono ?_
    rintro e W8 ⟨rfl, hb⟩
    clear qp20 qp21
    have ST9 := Lib.hid (ST6.out.go hb)
    clear hb
    cases t2 with
    | false =>
      go_wp2_with (go_at_call 36; refine hold ?_)
      refine Hold.mk ?_
      refine (awake_any W8).mono ?_
      rintro e W10 ⟨rfl, hb⟩
      have ST10 := Lib.hid (ST9.out.go hb)
      clear hb
      go_wp2_with fail
      go_ret
      exact ⟨rfl, ST10.out.below⟩
    | true =>
      have hn1 : n1 ≤ 40 := of_decide_eq_true Ht1.out
      have ST11 := Lib.hid (ST9.out.num (IntV.below (⟨a1, n1, cap1, rfl, H1.out.1, H1.out.2, by omega⟩ : IntV w (.agg #[.bool g1, .slice a1 n1 cap1]) g1 z1) ST9.out.below))
      clear hn1
      have hn2 : n2 ≤ 40 := of_decide_eq_true Ht2.out
      have ST12 := Lib.hid (ST11.out.num (IntV.below (⟨a2, n2, cap2, rfl, H2.out.1, H2.out.2, by omega⟩ : IntV w (.agg #[.bool g2, .slice a2 n2 cap2]) g2 z2) ST11.out.below))
      clear hn2
      obtain ⟨t, Ht⟩ : ∃ t, Hid (cmpI x1 x2 = t) := ⟨_, Lib.hid rfl⟩
      obtain ⟨qp20, qp21⟩ := ST12.out.cells (b := p2) (n := g2) (s := .slice a2 n2 cap2) (by simp)
      obtain ⟨qp10, qp11⟩ := ST12.out.cells (b := p1) (n := g1) (s := .slice a1 n1 cap1) (by simp)
      go_wp2_with (go_at_call 37; refine hold ?_)
      refine Hold.mk ?_
      have C13 := Lib.hid (lent_any (ST12.out.get (v := (.agg #[.bool g1, .slice a1 n1 cap1])) (g := g1) (z := z1) (by simp)) (by have := H1.out.1.1; have := of_decide_eq_true Ht1.out; omega))
      rw [show z1.length = n1 from H1.out.1.1] at C13
      refine C13.out.mono ?_
      rintro e W13 ⟨⟨a5, c5, rfl, hv, hu⟩, hb⟩
      clear qp20 qp21 qp10 qp11
      have ST14 := Lib.hid ((ST12.out.next hb hv).num hu)
      clear hb hv hu
      go_upto_region 4 with fail
      obtain ⟨W15, HW15⟩ : ∃ W', Hid (W' = W13.alloc (.cells #[.bool g1, .slice (some a5) n1 c5] 25)) := ⟨_, Lib.hid rfl⟩
      obtain ⟨b5, Hb5⟩ : ∃ b, Hid (b = W13.heap.size) := ⟨_, Lib.hid rfl⟩
      have ST16 := Lib.hid (ST14.out.box Hb5.out HW15.out)
      rw [← HW15.out]
      try rw [← Hb5.out]
      obtain ⟨qp20, qp21⟩ := ST16.out.cells (b := p2) (n := g2) (s := .slice a2 n2 cap2) (by simp)
      obtain ⟨qp10, qp11⟩ := ST16.out.cells (b := p1) (n := g1) (s := .slice a1 n1 cap1) (by simp)
      go_wp2_with (go_at_call 37; refine hold ?_)
      refine Hold.mk ?_
      have C17 := Lib.hid (lent_any (ST16.out.get (v := (.agg #[.bool g2, .slice a2 n2 cap2])) (g := g2) (z := z2) (by simp)) (by have := H2.out.1.1; have := of_decide_eq_true Ht2.out; omega))
      rw [show z2.length = n2 from H2.out.1.1] at C17
      refine C17.out.mono ?_
      rintro e W17 ⟨⟨a6, c6, rfl, hv, hu⟩, hb⟩
      clear qp20 qp21 qp10 qp11
      have ST18 := Lib.hid ((ST16.out.next hb hv).num hu)
      clear hb hv hu
      go_upto_region 5 with fail
      obtain ⟨W19, HW19⟩ : ∃ W', Hid (W' = W17.alloc (.cells #[.bool g2, .slice (some a6) n2 c6] 25)) := ⟨_, Lib.hid rfl⟩
      obtain ⟨b6, Hb6⟩ : ∃ b, Hid (b = W17.heap.size) := ⟨_, Lib.hid rfl⟩
      have ST20 := Lib.hid (ST18.out.box Hb6.out HW19.out)
      rw [← HW19.out]
      try rw [← Hb6.out]
      obtain ⟨qb60, qb61⟩ := ST20.out.cells (b := b6) (n := g2) (s := .slice (some a6) n2 c6) (by simp)
      obtain ⟨qb50, qb51⟩ := ST20.out.cells (b := b5) (n := g1) (s := .slice (some a5) n1 c5) (by simp)
      go_wp2_with (go_at_call 53; refine hold ?_)
      refine Hold.mk ?_
      refine (add_k (ST20.out.get (v := (.agg #[.bool g1, .slice (some a5) n1 c5])) (g := g1) (z := z1) (by simp)) (ST20.out.get (v := (.agg #[.bool g2, .slice (some a6) n2 c6])) (g := g2) (z := z2) (by simp)) Hx1.out Hx2.out).mono ?_
      rintro e W21 ⟨⟨n7, a7, c7, d7, k7, rfl, hk, hv⟩, hb⟩
      clear qb60 qb61 qb50 qb51
      have ST22 := Lib.hid (ST20.out.next hb hv)
      have Hk7 := Lib.hid hk
      clear hk hv hb
      go_upto_region 6 with fail
      obtain ⟨W23, HW23⟩ : ∃ W', Hid (W' = W21.alloc (.cells #[.bool n7, .slice a7 c7 d7] 25)) := ⟨_, Lib.hid rfl⟩
      obtain ⟨b7, Hb7⟩ : ∃ b, Hid (b = W21.heap.size) := ⟨_, Lib.hid rfl⟩
      have ST24 := Lib.hid (ST22.out.box Hb7.out HW23.out)
      rw [← HW23.out]
      try rw [← Hb7.out]
      obtain ⟨qp20, qp21⟩ := ST24.out.cells (b := p2) (n := g2) (s := .slice a2 n2 cap2) (by simp)
      obtain ⟨qp10, qp11⟩ := ST24.out.cells (b := p1) (n := g1) (s := .slice a1 n1 cap1) (by simp)
      go_wp2_with (go_at_call 54; refine hold ?_)
      refine Hold.mk ?_
      refine (radd_k (ST24.out.get (v := (.agg #[.bool g1, .slice a1 n1 cap1])) (g := g1) (z := z1) (by simp)) (ST24.out.get (v := (.agg #[.bool g2, .slice a2 n2 cap2])) (g := g2) (z := z2) (by simp)) Hx1.out Hx2.out).mono ?_
      rintro e W25 ⟨⟨n9, a9, c9, d9, k9, rfl, hk, hv⟩, hb⟩
      clear qp20 qp21 qp10 qp11
      have ST26 := Lib.hid (ST24.out.next hb hv)
      have Hk9 := Lib.hid hk
      clear hk hv hb
      go_upto_region 7 with fail
      obtain ⟨W27, HW27⟩ : ∃ W', Hid (W' = W25.alloc (.cells #[.bool n9, .slice a9 c9 d9] 25)) := ⟨_, Lib.hid rfl⟩
      obtain ⟨b9, Hb9⟩ : ∃ b, Hid (b = W25.heap.size) := ⟨_, Lib.hid rfl⟩
      have ST28 := Lib.hid (ST26.out.box Hb9.out HW27.out)
      rw [← HW27.out]
      try rw [← Hb9.out]
      obtain ⟨qb60, qb61⟩ := ST28.out.cells (b := b6) (n := g2) (s := .slice (some a6) n2 c6) (by simp)
      obtain ⟨qb50, qb51⟩ := ST28.out.cells (b := b5) (n := g1) (s := .slice (some a5) n1 c5) (by simp)
      go_wp2_with (go_at_call 55; refine hold ?_)
      refine Hold.mk ?_
      refine (sub_k (ST28.out.get (v := (.agg #[.bool g1, .slice (some a5) n1 c5])) (g := g1) (z := z1) (by simp)) (ST28.out.get (v := (.agg #[.bool g2, .slice (some a6) n2 c6])) (g := g2) (z := z2) (by simp)) Hx1.out Hx2.out).mono ?_
      rintro e W29 ⟨⟨n11, a11, c11, d11, k11, rfl, hk, hv⟩, hb⟩
      clear qb60 qb61 qb50 qb51
      have ST30 := Lib.hid (ST28.out.next hb hv)
      have Hk11 := Lib.hid hk
      clear hk hv hb
      go_upto_region 8 with fail
      obtain ⟨W31, HW31⟩ : ∃ W', Hid (W' = W29.alloc (.cells #[.bool n11, .slice a11 c11 d11] 25)) := ⟨_, Lib.hid rfl⟩
      obtain ⟨b11, Hb11⟩ : ∃ b, Hid (b = W29.heap.size) := ⟨_, Lib.hid rfl⟩
      have ST32 := Lib.hid (ST30.out.box Hb11.out HW31.out)
      rw [← HW31.out]
      try rw [← Hb11.out]
      obtain ⟨qp20, qp21⟩ := ST32.out.cells (b := p2) (n := g2) (s := .slice a2 n2 cap2) (by simp)
      obtain ⟨qp10, qp11⟩ := ST32.out.cells (b := p1) (n := g1) (s := .slice a1 n1 cap1) (by simp)
      go_wp2_with (go_at_call 56; refine hold ?_)
      refine Hold.mk ?_
      refine (rsub_k (ST32.out.get (v := (.agg #[.bool g1, .slice a1 n1 cap1])) (g := g1) (z := z1) (by simp)) (ST32.out.get (v := (.agg #[.bool g2, .slice a2 n2 cap2])) (g := g2) (z := z2) (by simp)) Hx1.out Hx2.out).mono ?_
      rintro e W33 ⟨⟨n13, a13, c13, d13, k13, rfl, hk, hv⟩, hb⟩
      clear qp20 qp21 qp10 qp11
      have ST34 := Lib.hid (ST32.out.next hb hv)
      have Hk13 := Lib.hid hk
      clear hk hv hb
      go_upto_region 9 with fail
      obtain ⟨W35, HW35⟩ : ∃ W', Hid (W' = W33.alloc (.cells #[.bool n13, .slice a13 c13 d13] 25)) := ⟨_, Lib.hid rfl⟩
      obtain ⟨b13, Hb13⟩ : ∃ b, Hid (b = W33.heap.size) := ⟨_, Lib.hid rfl⟩
      have ST36 := Lib.hid (ST34.out.box Hb13.out HW35.out)
      rw [← HW35.out]
      try rw [← Hb13.out]
      have e9 : k9 = k7 := by rw [Hk9.out, Hk7.out]
      subst e9
      have e13 : k13 = k11 := by rw [Hk13.out, Hk11.out]
      subst e13
      have HC9 : Hid (∀ wx, Below W35.heap.size W35 wx → (fun w' : World => w'.cell? ⟨b13, 0, none⟩ = some (.bool n13) ∧ w'.cell? ⟨b13, 1, none⟩ = some (.slice a13 c13 d13) ∧ w'.cell? ⟨b11, 0, none⟩ = some (.bool n11) ∧ w'.cell? ⟨b11, 1, none⟩ = some (.slice a11 c11 d11) ∧ w'.cell? ⟨b9, 0, none⟩ = some (.bool n9) ∧ w'.cell? ⟨b9, 1, none⟩ = some (.slice a9 c9 d9) ∧ w'.cell? ⟨b7, 0, none⟩ = some (.bool n7) ∧ w'.cell? ⟨b7, 1, none⟩ = some (.slice a7 c7 d7) ∧ w'.cell? ⟨b6, 0, none⟩ = some (.bool g2) ∧ w'.cell? ⟨b6, 1, none⟩ = some (.slice (some a6) n2 c6) ∧ w'.cell? ⟨b5, 0, none⟩ = some (.bool g1) ∧ w'.cell? ⟨b5, 1, none⟩ = some (.slice (some a5) n1 c5) ∧ w'.cell? ⟨p2, 0, none⟩ = some (.bool g2) ∧ w'.cell? ⟨p2, 1, none⟩ = some (.slice a2 n2 cap2) ∧ w'.cell? ⟨p1, 0, none⟩ = some (.bool g1) ∧ w'.cell? ⟨p1, 1, none⟩ = some (.slice a1 n1 cap1)) wx) := Lib.hid fun wx hx => by
        have h := ST36.out.go hx
        exact ⟨(h.cells (b := b13) (n := n13) (s := .slice a13 c13 d13) (by simp)).1, (h.cells (b := b13) (n := n13) (s := .slice a13 c13 d13) (by simp)).2, (h.cells (b := b11) (n := n11) (s := .slice a11 c11 d11) (by simp)).1, (h.cells (b := b11) (n := n11) (s := .slice a11 c11 d11) (by simp)).2, (h.cells (b := b9) (n := n9) (s := .slice a9 c9 d9) (by simp)).1, (h.cells (b := b9) (n := n9) (s := .slice a9 c9 d9) (by simp)).2, (h.cells (b := b7) (n := n7) (s := .slice a7 c7 d7) (by simp)).1, (h.cells (b := b7) (n := n7) (s := .slice a7 c7 d7) (by simp)).2, (h.cells (b := b6) (n := g2) (s := .slice (some a6) n2 c6) (by simp)).1, (h.cells (b := b6) (n := g2) (s := .slice (some a6) n2 c6) (by simp)).2, (h.cells (b := b5) (n := g1) (s := .slice (some a5) n1 c5) (by simp)).1, (h.cells (b := b5) (n := g1) (s := .slice (some a5) n1 c5) (by simp)).2, (h.cells (b := p2) (n := g2) (s := .slice a2 n2 cap2) (by simp)).1, (h.cells (b := p2) (n := g2) (s := .slice a2 n2 cap2) (by simp)).2, (h.cells (b := p1) (n := g1) (s := .slice a1 n1 cap1) (by simp)).1, (h.cells (b := p1) (n := g1) (s := .slice a1 n1 cap1) (by simp)).2⟩
      have hD9 := Lib.hid (Below.refl W35.heap.size W35).drew
      have ST37 := Lib.hid (ST36.out.go hD9.out)
      have HS := HC9.out W35.drew hD9.out
      refine wp_region_pi (fun w' : World => w'.cell? ⟨b13, 0, none⟩ = some (.bool n13) ∧ w'.cell? ⟨b13, 1, none⟩ = some (.slice a13 c13 d13) ∧ w'.cell? ⟨b11, 0, none⟩ = some (.bool n11) ∧ w'.cell? ⟨b11, 1, none⟩ = some (.slice a11 c11 d11) ∧ w'.cell? ⟨b9, 0, none⟩ = some (.bool n9) ∧ w'.cell? ⟨b9, 1, none⟩ = some (.slice a9 c9 d9) ∧ w'.cell? ⟨b7, 0, none⟩ = some (.bool n7) ∧ w'.cell? ⟨b7, 1, none⟩ = some (.slice a7 c7 d7) ∧ w'.cell? ⟨b6, 0, none⟩ = some (.bool g2) ∧ w'.cell? ⟨b6, 1, none⟩ = some (.slice (some a6) n2 c6) ∧ w'.cell? ⟨b5, 0, none⟩ = some (.bool g1) ∧ w'.cell? ⟨b5, 1, none⟩ = some (.slice (some a5) n1 c5) ∧ w'.cell? ⟨p2, 0, none⟩ = some (.bool g2) ∧ w'.cell? ⟨p2, 1, none⟩ = some (.slice a2 n2 cap2) ∧ w'.cell? ⟨p1, 0, none⟩ = some (.bool g1) ∧ w'.cell? ⟨p1, 1, none⟩ = some (.slice a1 n1 cap1)) [(0, 0), (1, 0), (2, 2), (3, 1), (4, 1), (5, 1), (6, 1), (7, 1), (8, 1), (9, 0), (10, 0), (11, 2), (12, 1), (13, 1), (14, 1), (15, 1), (16, 1), (17, 1), (18, 1), (19, 0), (20, 0), (22, 0), (23, 0), (21, 2), (24, 2), (25, 1), (26, 1), (27, 1), (28, 0), (30, 0), (29, 2), (31, 2), (32, 2), (33, 1), (34, 1), (35, 0), (36, 0), (37, 2), (38, 1), (39, 1), (40, 0), (41, 0), (42, 3), (43, 3), (44, 3), (45, 3), (46, 3), (47, 3)] [(42, [39, 38, 34, 33, 27, 26, 18, 13, 12, 8, 3, 2, 0]), (42, [39, 38, 34, 33, 27, 26, 18, 13, 12, 8, 3, 2, 1]), (42, [39, 38, 34, 33, 27, 26, 18, 13, 11, 9]), (42, [39, 38, 34, 33, 27, 26, 18, 13, 11, 10]), (42, [39, 38, 34, 33, 27, 24, 21, 19]), (42, [39, 38, 34, 33, 27, 24, 21, 20]), (42, [39, 38, 34, 33, 27, 24, 22]), (42, [39, 38, 34, 33, 27, 24, 23]), (42, [39, 38, 34, 32, 29, 28]), (42, [39, 38, 34, 32, 31, 30]), (42, [39, 37, 35]), (42, [39, 37, 36]), (42, [40]), (42, [41]), (43, [39, 38, 34, 33, 27, 26, 18, 13, 12, 8, 3, 2, 0]), (43, [39, 38, 34, 33, 27, 26, 18, 13, 12, 8, 3, 2, 1]), (43, [39, 38, 34, 33, 27, 26, 18, 13, 11, 9]), (43, [39, 38, 34, 33, 27, 26, 18, 13, 11, 10]), (43, [39, 38, 34, 33, 27, 24, 21, 19]), (43, [39, 38, 34, 33, 27, 24, 21, 20]), (43, [39, 38, 34, 33, 27, 24, 22]), (43, [39, 38, 34, 33, 27, 24, 23]), (43, [39, 38, 34, 32, 29, 28]), (43, [39, 38, 34, 32, 31, 30]), (43, [39, 37, 35]), (43, [39, 37, 36]), (43, [42, 40]), (43, [42, 41]), (44, [43, 39, 38, 34, 33, 27, 26, 18, 13, 12, 8, 3, 2, 0]), (44, [43, 39, 38, 34, 33, 27, 26, 18, 13, 12, 8, 3, 2, 1]), (44, [43, 39, 38, 34, 33, 27, 26, 18, 13, 11, 9]), (44, [43, 39, 38, 34, 33, 27, 26, 18, 13, 11, 10]), (44, [43, 39, 38, 34, 33, 27, 24, 21, 19]), (44, [43, 39, 38, 34, 33, 27, 24, 21, 20]), (44, [43, 39, 38, 34, 33, 27, 24, 22]), (44, [43, 39, 38, 34, 33, 27, 24, 23]), (44, [43, 39, 38, 34, 32, 29, 28]), (44, [43, 39, 38, 34, 32, 31, 30]), (44, [43, 39, 37, 35]), (44, [43, 39, 37, 36]), (44, [42, 40]), (44, [42, 41]), (45, [44, 43, 39, 38, 34, 33, 27, 26, 18, 13, 12, 8, 3, 2, 0]), (45, [44, 43, 39, 38, 34, 33, 27, 26, 18, 13, 12, 8, 3, 2, 1]), (45, [44, 43, 39, 38, 34, 33, 27, 26, 18, 13, 11, 9]), (45, [44, 43, 39, 38, 34, 33, 27, 26, 18, 13, 11, 10]), (45, [44, 43, 39, 38, 34, 33, 27, 24, 21, 19]), (45, [44, 43, 39, 38, 34, 33, 27, 24, 21, 20]), (45, [44, 43, 39, 38, 34, 33, 27, 24, 22]), (45, [44, 43, 39, 38, 34, 33, 27, 24, 23]), (45, [44, 43, 39, 38, 34, 32, 29, 28]), (45, [44, 43, 39, 38, 34, 32, 31, 30]), (45, [44, 43, 39, 37, 35]), (45, [44, 43, 39, 37, 36]), (45, [44, 42, 40]), (45, [44, 42, 41]), (46, [44, 43, 39, 38, 34, 33, 27, 26, 18, 13, 12, 8, 3, 2, 0]), (46, [44, 43, 39, 38, 34, 33, 27, 26, 18, 13, 12, 8, 3, 2, 1]), (46, [44, 43, 39, 38, 34, 33, 27, 26, 18, 13, 11, 9]), (46, [44, 43, 39, 38, 34, 33, 27, 26, 18, 13, 11, 10]), (46, [44, 43, 39, 38, 34, 33, 27, 24, 21, 19]), (46, [44, 43, 39, 38, 34, 33, 27, 24, 21, 20]), (46, [44, 43, 39, 38, 34, 33, 27, 24, 22]), (46, [44, 43, 39, 38, 34, 33, 27, 24, 23]), (46, [44, 43, 39, 38, 34, 32, 29, 28]), (46, [44, 43, 39, 38, 34, 32, 31, 30]), (46, [44, 43, 39, 37, 35]), (46, [44, 43, 39, 37, 36]), (46, [44, 42, 40]), (46, [44, 42, 41]), (47, [0]), (47, [1]), (47, [9]), (47, [10]), (47, [19]), (47, [20]), (47, [22]), (47, [23]), (47, [28]), (47, [30]), (47, [35]), (47, [36]), (47, [40]), (47, [41])] (by kernel_rfl) (by kernel_rfl) (fun _ _ _ _ _ h => h) (HS) ?_
      refine pq_ld (some 52) rfl rfl (by rfl) (fun ws HS => by go_split_ands; go_simp; try with_reducible rfl) ?_; go_frame   -- 0 Op.load 25 (Operand.tmp 7)
      refine pq_ld (some 53) rfl rfl (by rfl) (fun ws HS => by go_split_ands; go_simp; try with_reducible rfl) ?_; go_frame   -- 1 Op.load 25 (Operand.tmp 9)
      refine pk_ke rfl (fun J hJ => ?_)   -- pi_ke 2 Op.call { callee := Callee.value (Operand.func 40), args := #[Operand.tmp 52, Operand.tmp 53], argTypes := #[25, 25] }
      have C38 := Lib.hid (whole_eq _ _ (addV (x1) (x2)) (addV (x1) (x2)) W35.drew (ST37.out.getC (v := (.agg #[.bool n7, .slice a7 c7 d7])) (i := addV (x1) (x2)) (by simp)) (ST37.out.getC (v := (.agg #[.bool n9, .slice a9 c9 d9])) (i := addV (x1) (x2)) (by simp)) rfl)
      go_wp2_with (go_at_call 40; refine C38.out.mono ?_; rintro e W38 ⟨rfl, hb⟩; have ST38 := Lib.hid (ST37.out.go hb); have hD38 := Lib.hid (hD9.out.trans (Below.mono hb hD9.out.size)); clear hb)
      refine hJ _ _ (HC9.out W38 hD38.out) ?_
      refine pq_pu (some 55) rfl rfl (by rfl) (fun ws => by go_simp; try with_reducible rfl) ?_; go_frame   -- 3 Op.move (Operand.tmp 54)
      refine pq_pu (some 56) rfl rfl (by rfl) (fun ws => by go_simp; try with_reducible rfl) ?_; go_frame   -- 4 Op.move (Operand.tmp 8)
      refine pq_pu (some 57) rfl rfl (by rfl) (fun ws => by go_simp; try with_reducible rfl) ?_; go_frame   -- 5 Op.move (Operand.tmp 10)
      refine pq_pu (some 58) rfl rfl (by rfl) (fun ws => by go_simp; try with_reducible rfl) ?_; go_frame   -- 6 Op.binOp BinOp.eql 3 (Operand.tmp 56) (Operand.tmp 57) 3
      try simp only [beq_self_eq_true]
      refine pq_pu (some 59) rfl rfl (by rfl) (fun ws => by go_simp; try with_reducible rfl) ?_; go_frame   -- 7 Op.pick (Operand.tmp 55) (Operand.tmp 58) (Operand.const (Value.bool false))
      refine pq_pu (some 60) rfl rfl (by rfl) (fun ws => by go_simp; try with_reducible rfl) ?_; go_frame   -- 8 Op.move (Operand.tmp 59)
      refine pq_ld (some 61) rfl rfl (by rfl) (fun ws HS => by go_split_ands; go_simp; try with_reducible rfl) ?_; go_frame   -- 9 Op.load 25 (Operand.tmp 11)
      refine pq_ld (some 62) rfl rfl (by rfl) (fun ws HS => by go_split_ands; go_simp; try with_reducible rfl) ?_; go_frame   -- 10 Op.load 25 (Operand.tmp 13)
      refine pk_ke rfl (fun J hJ => ?_)   -- pi_ke 11 Op.call { callee := Callee.value (Operand.func 40), args := #[Operand.tmp 61, Operand.tmp 62], argTypes := #[25, 25] }
      have C39 := Lib.hid (whole_eq _ _ (subV (x1) (x2)) (subV (x1) (x2)) W38 (ST38.out.getC (v := (.agg #[.bool n11, .slice a11 c11 d11])) (i := subV (x1) (x2)) (by simp)) (ST38.out.getC (v := (.agg #[.bool n13, .slice a13 c13 d13])) (i := subV (x1) (x2)) (by simp)) rfl)
      go_wp2_with (go_at_call 40; refine C39.out.mono ?_; rintro e W39 ⟨rfl, hb⟩; have ST39 := Lib.hid (ST38.out.go hb); have hD39 := Lib.hid (hD38.out.trans (Below.mono hb hD38.out.size)); clear hb)
      refine hJ _ _ (HC9.out W39 hD39.out) ?_
      refine pq_pu (some 64) rfl rfl (by rfl) (fun ws => by go_simp; try with_reducible rfl) ?_; go_frame   -- 12 Op.pick (Operand.tmp 60) (Operand.tmp 63) (Operand.const (Value.bool false))
      refine pq_pu (some 65) rfl rfl (by rfl) (fun ws => by go_simp; try with_reducible rfl) ?_; go_frame   -- 13 Op.move (Operand.tmp 64)
      refine pq_pu (some 66) rfl rfl (by rfl) (fun ws => by go_simp; try with_reducible rfl) ?_; go_frame   -- 14 Op.move (Operand.tmp 12)
      refine pq_pu (some 67) rfl rfl (by rfl) (fun ws => by go_simp; try with_reducible rfl) ?_; go_frame   -- 15 Op.move (Operand.tmp 14)
      refine pq_pu (some 68) rfl rfl (by rfl) (fun ws => by go_simp; try with_reducible rfl) ?_; go_frame   -- 16 Op.binOp BinOp.eql 3 (Operand.tmp 66) (Operand.tmp 67) 3
      try simp only [beq_self_eq_true]
      refine pq_pu (some 69) rfl rfl (by rfl) (fun ws => by go_simp; try with_reducible rfl) ?_; go_frame   -- 17 Op.pick (Operand.tmp 65) (Operand.tmp 68) (Operand.const (Value.bool false))
      refine pq_pu (some 70) rfl rfl (by rfl) (fun ws => by go_simp; try with_reducible rfl) ?_; go_frame   -- 18 Op.move (Operand.tmp 69)
      refine pq_ld (some 71) rfl rfl (by rfl) (fun ws HS => by go_split_ands; go_simp; try with_reducible rfl) ?_; go_frame   -- 19 Op.load 25 (Operand.tmp 5)
      refine pq_ld (some 72) rfl rfl (by rfl) (fun ws HS => by go_split_ands; go_simp; try with_reducible rfl) ?_; go_frame   -- 20 Op.load 25 (Operand.tmp 6)
      refine pq_ld (some 74) rfl rfl (by rfl) (fun ws HS => by go_split_ands; go_simp; try with_reducible rfl) ?_; go_frame   -- 22 Op.load 25 (Operand.tmp 2)
      refine pq_ld (some 75) rfl rfl (by rfl) (fun ws HS => by go_split_ands; go_simp; try with_reducible rfl) ?_; go_frame   -- 23 Op.load 25 (Operand.tmp 3)
      refine pk_ke rfl (fun J hJ => ?_)   -- pi_ke 21 Op.call { callee := Callee.value (Operand.func 52), args := #[Operand.tmp 71, Operand.tmp 72], argTypes := #[25, 25] }
      have D40 := Lib.hid (cmp_k (ST39.out.get (v := (.agg #[.bool g1, .slice (some a5) n1 c5])) (g := g1) (z := z1) (by simp)) (ST39.out.get (v := (.agg #[.bool g2, .slice (some a6) n2 c6])) (g := g2) (z := z2) (by simp)) Hx1.out Hx2.out)
      rw [Ht.out] at D40
      have C41 := Lib.hid (D40.out)
      go_wp2_with (go_at_call 52; refine C41.out.mono ?_; rintro e W41 ⟨rfl, hb⟩; have ST41 := Lib.hid (ST39.out.go hb); have hD41 := Lib.hid (hD39.out.trans (Below.mono hb hD39.out.size)); clear hb)
      refine hJ _ _ (HC9.out W41 hD41.out) ?_
      refine pk_ke rfl (fun J hJ => ?_)   -- pi_ke 24 Op.call { callee := Callee.value (Operand.func 57), args := #[Operand.tmp 74, Operand.tmp 75], argTypes := #[25, 25] }
      have D42 := Lib.hid (rcompare_k (ST41.out.get (v := (.agg #[.bool g1, .slice a1 n1 cap1])) (g := g1) (z := z1) (by simp)) (ST41.out.get (v := (.agg #[.bool g2, .slice a2 n2 cap2])) (g := g2) (z := z2) (by simp)) Hx1.out Hx2.out)
      rw [Ht.out] at D42
      have C43 := Lib.hid (D42.out)
      go_wp2_with (go_at_call 57; refine C43.out.mono ?_; rintro e W43 ⟨rfl, hb⟩; have ST43 := Lib.hid (ST41.out.go hb); have hD43 := Lib.hid (hD41.out.trans (Below.mono hb hD41.out.size)); clear hb)
      refine hJ _ _ (HC9.out W43 hD43.out) ?_
      refine pq_pu (some 77) rfl rfl (by rfl) (fun ws => by go_simp; try with_reducible rfl) ?_; go_frame   -- 25 Op.binOp BinOp.eql 3 (Operand.tmp 73) (Operand.tmp 76) 3
      try simp only [beq_self_eq_true]
      refine pq_pu (some 78) rfl rfl (by rfl) (fun ws => by go_simp; try with_reducible rfl) ?_; go_frame   -- 26 Op.pick (Operand.tmp 70) (Operand.tmp 77) (Operand.const (Value.bool false))
      refine pq_pu (some 79) rfl rfl (by rfl) (fun ws => by go_simp; try with_reducible rfl) ?_; go_frame   -- 27 Op.move (Operand.tmp 78)
      refine pq_ld (some 80) rfl rfl (by rfl) (fun ws HS => by go_split_ands; go_simp; try with_reducible rfl) ?_; go_frame   -- 28 Op.load 25 (Operand.tmp 5)
      refine pq_ld (some 82) rfl rfl (by rfl) (fun ws HS => by go_split_ands; go_simp; try with_reducible rfl) ?_; go_frame   -- 30 Op.load 25 (Operand.tmp 2)
      refine pk_ke rfl (fun J hJ => ?_)   -- pi_ke 29 Op.call { callee := Callee.value (Operand.func 58), args := #[Operand.tmp 80], argTypes := #[25] }
      have C44 := Lib.hid (neg_k (ST43.out.get (v := (.agg #[.bool g1, .slice (some a5) n1 c5])) (g := g1) (z := z1) (by simp)) Hx1.out)
      go_wp2_with (go_at_call 58; refine C44.out.mono ?_; rintro e W44 ⟨⟨n20, a20, c20, d20, rfl, hv⟩, hb⟩; have ST44 := Lib.hid (ST43.out.next hb hv); have hD44 := Lib.hid (hD43.out.trans (Below.mono hb hD43.out.size)); clear hb)
      refine hJ _ _ (HC9.out W44 hD44.out) ?_
      clear hv
      refine pk_ke rfl (fun J hJ => ?_)   -- pi_ke 31 Op.call { callee := Callee.value (Operand.func 59), args := #[Operand.tmp 82], argTypes := #[25] }
      have C45 := Lib.hid (rneg_k (ST44.out.get (v := (.agg #[.bool g1, .slice a1 n1 cap1])) (g := g1) (z := z1) (by simp)) Hx1.out)
      go_wp2_with (go_at_call 59; refine C45.out.mono ?_; rintro e W45 ⟨⟨n21, a21, c21, d21, rfl, hv⟩, hb⟩; have ST45 := Lib.hid (ST44.out.next hb hv); have hD45 := Lib.hid (hD44.out.trans (Below.mono hb hD44.out.size)); clear hb)
      refine hJ _ _ (HC9.out W45 hD45.out) ?_
      clear hv
      refine pk_ke rfl (fun J hJ => ?_)   -- pi_ke 32 Op.call { callee := Callee.value (Operand.func 40), args := #[Operand.tmp 81, Operand.tmp 83], argTypes := #[25, 25] }
      have C46 := Lib.hid (whole_eq _ _ (-x1) (-x1) W45 (ST45.out.getC (v := (.agg #[.bool n20, .slice a20 c20 d20])) (i := -x1) (by simp)) (ST45.out.getC (v := (.agg #[.bool n21, .slice a21 c21 d21])) (i := -x1) (by simp)) rfl)
      go_wp2_with (go_at_call 40; refine C46.out.mono ?_; rintro e W46 ⟨rfl, hb⟩; have ST46 := Lib.hid (ST45.out.go hb); have hD46 := Lib.hid (hD45.out.trans (Below.mono hb hD45.out.size)); clear hb)
      refine hJ _ _ (HC9.out W46 hD46.out) ?_
      refine pq_pu (some 85) rfl rfl (by rfl) (fun ws => by go_simp; try with_reducible rfl) ?_; go_frame   -- 33 Op.pick (Operand.tmp 79) (Operand.tmp 84) (Operand.const (Value.bool false))
      refine pq_pu (some 86) rfl rfl (by rfl) (fun ws => by go_simp; try with_reducible rfl) ?_; go_frame   -- 34 Op.move (Operand.tmp 85)
      refine pq_ld (some 87) rfl rfl (by rfl) (fun ws HS => by go_split_ands; go_simp; try with_reducible rfl) ?_; go_frame   -- 35 Op.load 25 (Operand.tmp 5)
      refine pq_ld (some 88) rfl rfl (by rfl) (fun ws HS => by go_split_ands; go_simp; try with_reducible rfl) ?_; go_frame   -- 36 Op.load 25 (Operand.tmp 2)
      refine pk_ke rfl (fun J hJ => ?_)   -- pi_ke 37 Op.call { callee := Callee.value (Operand.func 41), args := #[Operand.tmp 87, Operand.tmp 88], argTypes := #[25, 25] }
      have C47 := Lib.hid (kept_any (ST46.out.get (v := (.agg #[.bool g1, .slice (some a5) n1 c5])) (g := g1) (z := z1) (by simp)) (ST46.out.get (v := (.agg #[.bool g1, .slice (some a5) (n1 + 1) c5])) (g := g1) (z := (z1 ++ [77])) (by simp)) (ST46.out.get (v := (.agg #[.bool g1, .slice a1 n1 cap1])) (g := g1) (z := z1) (by simp)))
      go_wp2_with (go_at_call 41; refine C47.out.mono ?_; rintro e W47 ⟨rfl, hb⟩; have ST47 := Lib.hid (ST46.out.go hb); have hD47 := Lib.hid (hD46.out.trans (Below.mono hb hD46.out.size)); clear hb)
      refine hJ _ _ (HC9.out W47 hD47.out) ?_
      refine pq_pu (some 90) rfl rfl (by rfl) (fun ws => by go_simp; try with_reducible rfl) ?_; go_frame   -- 38 Op.pick (Operand.tmp 86) (Operand.tmp 89) (Operand.const (Value.bool false))
      refine pq_pu (some 91) rfl rfl (by rfl) (fun ws => by go_simp; try with_reducible rfl) ?_; go_frame   -- 39 Op.move (Operand.tmp 90)
      refine pq_ld (some 92) rfl rfl (by rfl) (fun ws HS => by go_split_ands; go_simp; try with_reducible rfl) ?_; go_frame   -- 40 Op.load 25 (Operand.tmp 6)
      refine pq_ld (some 93) rfl rfl (by rfl) (fun ws HS => by go_split_ands; go_simp; try with_reducible rfl) ?_; go_frame   -- 41 Op.load 25 (Operand.tmp 3)
      refine pi_tail (by rfl) ?_; simp only [opsAt, List.getElem?_toArray, List.getElem?_cons_zero, List.getElem?_cons_succ]   -- [(42, 'Op.call { callee := Callee.value (Operand.func 41), args := #[Operand.tmp 92, Operand.tmp 93], argTypes := #[25, 25] }'), (43, 'Op.pick (Operand.tmp 91) (Operand.tmp 94) (Operand.const (Value.bool false))'), (44, 'Op.move (Operand.tmp 95)'), (45, 'Op.call { callee := Callee.value (Operand.func 36), args := #[], argTypes := #[] }'), (46, 'Op.pick (Operand.tmp 96) (Operand.tmp 97) (Operand.const (Value.bool false))'), (47, 'Op.assign (Operand.tmp 98)')]
      have CB := Lib.hid (kept_any (ST47.out.get (v := (.agg #[.bool g2, .slice (some a6) n2 c6])) (g := g2) (z := z2) (by simp)) (ST47.out.get (v := (.agg #[.bool g2, .slice (some a6) (n2 + 1) c6])) (g := g2) (z := (z2 ++ [77])) (by simp)) (ST47.out.get (v := (.agg #[.bool g2, .slice a2 n2 cap2])) (g := g2) (z := z2) (by simp)))
      go_wp2_with first
        | (go_at_call 41; refine CB.out.mono ?_; rintro e Wx ⟨rfl, hb⟩; have STx := Lib.hid (ST47.out.go hb); clear hb)
        | (go_at_call 36; refine (awake_any Wx).mono ?_; rintro e Wy ⟨rfl, hb⟩; have STy := Lib.hid (STx.out.go hb); clear hb)
      go_ret
      exact ⟨by simp, STy.out.below⟩
end Go.Proofs.YtcnakbhogmnddaaDoor
