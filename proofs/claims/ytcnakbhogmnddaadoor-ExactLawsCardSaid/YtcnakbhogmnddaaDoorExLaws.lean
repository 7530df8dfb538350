/- The law ExactLaws: the walk. No condition. -/
import Derived.Test.YtcnakbhogmnddaaDoorExOps
import Derived.Test.YtcnakbhogmnddaaDoorRegQ
namespace Go.Proofs.YtcnakbhogmnddaaDoor
open Go.RowKit

set_option maxRecDepth 100000 in
set_option maxHeartbeats 6400000 in
theorem exactLaws_any (g1 : Bool) (a1 : Option Addr) (n1 cap1 : Nat) (z1 : List Nat) (g2 : Bool) (a2 : Option Addr) (n2 cap2 : Nat) (z2 : List Nat) (w : World) (h1 : WordsAt w a1 n1 z1 ∧ n1 ≤ cap1) (h2 : WordsAt w a2 n2 z2 ∧ n2 ≤ cap2) :
    Calls Tryd.prog 13 #[.agg #[.bool g1, .slice a1 n1 cap1], .agg #[.bool g2, .slice a2 n2 cap2]] w fun e w' => e = .returned (.bool true) ∧ Below w.heap.size w w' := by
  have H1 := Lib.hid h1
  obtain ⟨x1, Hx1⟩ : ∃ x, Hid (valI g1 z1 = x) := ⟨_, Lib.hid rfl⟩
  have H2 := Lib.hid h2
  obtain ⟨x2, Hx2⟩ : ∃ x, Hid (valI g2 z2 = x) := ⟨_, Lib.hid rfl⟩
  have ST0 := Lib.hid (St.start w)
  clear h1 h2
  go_enter Tryd.func13, Tryd.ntmps13
  go_wp2_with (go_at_call 35; refine hold ?_)
  obtain ⟨W1, HW1⟩ : ∃ W', Hid (W' = w.alloc (.cells #[.bool g1, .slice a1 n1 cap1] 25)) := ⟨_, Lib.hid rfl⟩
  obtain ⟨p1, Hp1⟩ : ∃ b, Hid (b = w.heap.size) := ⟨_, Lib.hid rfl⟩
  have ST2 := Lib.hid (ST0.out.box Hp1.out HW1.out)
  obtain ⟨W3, HW3⟩ : ∃ W', Hid (W' = W1.alloc (.cells #[.bool g2, .slice a2 n2 cap2] 25)) := ⟨_, Lib.hid rfl⟩
  obtain ⟨p2, Hp2⟩ : ∃ b, Hid (b = W1.heap.size) := ⟨_, Lib.hid rfl⟩
  have ST4 := Lib.hid (ST2.out.box Hp2.out HW3.out)
  have hz1 : w.heap.size + 1 = p2 := by rw [Hp2.out, HW1.out, World.size_alloc]
  rw [← HW1.out, ← HW3.out]
  try rw [hz1]
  try rw [← Hp1.out]
  clear hz1
  refine Hold.mk ?_
  obtain ⟨t1, Ht1⟩ : ∃ t, Hid (decide (n1 ≤ 40) = t) := ⟨_, Lib.hid rfl⟩
  have K1 := Lib.hid (in_any g1 a1 n1 cap1 W3)
  rw [Ht1.out] at K1
  refine K1.out.mono ?_
  rintro e W5 ⟨rfl, hb⟩
  have ST6 := Lib.hid (ST4.out.go hb)
  clear hb
  cases t1 with
  | false =>
    go_wp2_with (go_at_call 36; refine hold ?_)
    refine Hold.mk ?_
    refine (awake_any W5).mono ?_
    rintro e W7 ⟨rfl, hb⟩
    have ST7 := Lib.hid (ST6.out.go hb)
    clear hb
    go_wp2_with fail
    go_ret
    exact ⟨rfl, ST7.out.below⟩
  | true =>
    obtain ⟨qp20, qp21⟩ := ST6.out.cells (b := p2) (n := g2) (s := .slice a2 n2 cap2) (by simp)
    go_wp2_with (go_at_call 35; refine hold ?_)
    refine Hold.mk ?_
    obtain ⟨t2, Ht2⟩ : ∃ t, Hid (decide (n2 ≤ 40) = t) := ⟨_, Lib.hid rfl⟩
    have K2 := Lib.hid (in_any g2 a2 n2 cap2 W5)
    rw [Ht2.out] at K2
    refine K2.out.mono ?_
    rintro e W8 ⟨rfl, hb⟩
    clear qp20 qp21
    have ST9 := Lib.hid (ST6.out.go hb)
    clear hb
    cases t2 with
    | false =>
      go_wp2_with (go_at_call 36; refine hold ?_)
      refine Hold.mk ?_
      refine (awake_any W8).mono ?_
      rintro e W10 ⟨rfl, hb⟩
      have ST10 := Lib.hid (ST9.out.go hb)
      clear hb
      go_wp2_with fail
      go_ret
      exact ⟨rfl, ST10.out.below⟩
    | true =>
      have hn1 : n1 ≤ 40 := of_decide_eq_true Ht1.out
      have ST11 := Lib.hid (ST9.out.num (IntV.below (⟨a1, n1, cap1, rfl, H1.out.1, H1.out.2, by omega⟩ : IntV w (.agg #[.bool g1, .slice a1 n1 cap1]) g1 z1) ST9.out.below))
      clear hn1
      have hn2 : n2 ≤ 40 := of_decide_eq_true Ht2.out
      have ST12 := Lib.hid (ST11.out.num (IntV.below (⟨a2, n2, cap2, rfl, H2.out.1, H2.out.2, by omega⟩ : IntV w (.agg #[.bool g2, .slice a2 n2 cap2]) g2 z2) ST11.out.below))
      clear hn2
      obtain ⟨qp20, qp21⟩ := ST12.out.cells (b := p2) (n := g2) (s := .slice a2 n2 cap2) (by simp)
      obtain ⟨qp10, qp11⟩ := ST12.out.cells (b := p1) (n := g1) (s := .slice a1 n1 cap1) (by simp)
      go_wp2_with (go_at_call 53; refine hold ?_)
      refine Hold.mk ?_
      refine (add_k (ST12.out.get (v := (.agg #[.bool g1, .slice a1 n1 cap1])) (g := g1) (z := z1) (by simp)) (ST12.out.get (v := (.agg #[.bool g2, .slice a2 n2 cap2])) (g := g2) (z := z2) (by simp)) Hx1.out Hx2.out).mono ?_
      rintro e W13 ⟨⟨n5, a5, c5, d5, k5, rfl, hk, hv⟩, hb⟩
      clear qp20 qp21 qp10 qp11
      have ST14 := Lib.hid (ST12.out.next hb hv)
      have Hk5 := Lib.hid hk
      clear hk hv hb
      go_upto_region 4 with fail
      obtain ⟨W15, HW15⟩ : ∃ W', Hid (W' = W13.alloc (.cells #[.bool n5, .slice a5 c5 d5] 25)) := ⟨_, Lib.hid rfl⟩
      obtain ⟨b5, Hb5⟩ : ∃ b, Hid (b = W13.heap.size) := ⟨_, Lib.hid rfl⟩
      have ST16 := Lib.hid (ST14.out.box Hb5.out HW15.out)
      rw [← HW15.out]
      try rw [← Hb5.out]
      obtain ⟨qp20, qp21⟩ := ST16.out.cells (b := p2) (n := g2) (s := .slice a2 n2 cap2) (by simp)
      obtain ⟨qp10, qp11⟩ := ST16.out.cells (b := p1) (n := g1) (s := .slice a1 n1 cap1) (by simp)
      go_wp2_with (go_at_call 53; refine hold ?_)
      refine Hold.mk ?_
      refine (add_k (ST16.out.get (v := (.agg #[.bool g2, .slice a2 n2 cap2])) (g := g2) (z := z2) (by simp)) (ST16.out.get (v := (.agg #[.bool g1, .slice a1 n1 cap1])) (g := g1) (z := z1) (by simp)) Hx2.out Hx1.out).mono ?_
      rintro e W17 ⟨⟨n7, a7, c7, d7, k7, rfl, hk, hv⟩, hb⟩
      clear qp20 qp21 qp10 qp11
      have ST18 := Lib.hid (ST16.out.next hb hv)
      have Hk7 := Lib.hid hk
      clear hk hv hb
      go_upto_region 5 with fail
      obtain ⟨W19, HW19⟩ : ∃ W', Hid (W' = W17.alloc (.cells #[.bool n7, .slice a7 c7 d7] 25)) := ⟨_, Lib.hid rfl⟩
      obtain ⟨b7, Hb7⟩ : ∃ b, Hid (b = W17.heap.size) := ⟨_, Lib.hid rfl⟩
      have ST20 := Lib.hid (ST18.out.box Hb7.out HW19.out)
      rw [← HW19.out]
      try rw [← Hb7.out]
      obtain ⟨qp20, qp21⟩ := ST20.out.cells (b := p2) (n := g2) (s := .slice a2 n2 cap2) (by simp)
      obtain ⟨qp10, qp11⟩ := ST20.out.cells (b := p1) (n := g1) (s := .slice a1 n1 cap1) (by simp)
      go_wp2_with (go_at_call 48; refine hold ?_)
      refine Hold.mk ?_
      refine (mul_k (ST20.out.get (v := (.agg #[.bool g1, .slice a1 n1 cap1])) (g := g1) (z := z1) (by simp)) (ST20.out.get (v := (.agg #[.bool g2, .slice a2 n2 cap2])) (g := g2) (z := z2) (by simp)) Hx1.out Hx2.out).mono ?_
      rintro e W21 ⟨⟨n9, a9, c9, d9, k9, rfl, hk, hv⟩, hb⟩
      clear qp20 qp21 qp10 qp11
      have ST22 := Lib.hid (ST20.out.next hb hv)
      have Hk9 := Lib.hid hk
      clear hk hv hb
      go_upto_region 6 with fail
      obtain ⟨W23, HW23⟩ : ∃ W', Hid (W' = W21.alloc (.cells #[.bool n9, .slice a9 c9 d9] 25)) := ⟨_, Lib.hid rfl⟩
      obtain ⟨b9, Hb9⟩ : ∃ b, Hid (b = W21.heap.size) := ⟨_, Lib.hid rfl⟩
      have ST24 := Lib.hid (ST22.out.box Hb9.out HW23.out)
      rw [← HW23.out]
      try rw [← Hb9.out]
      obtain ⟨qp20, qp21⟩ := ST24.out.cells (b := p2) (n := g2) (s := .slice a2 n2 cap2) (by simp)
      obtain ⟨qp10, qp11⟩ := ST24.out.cells (b := p1) (n := g1) (s := .slice a1 n1 cap1) (by simp)
      go_wp2_with (go_at_call 48; refine hold ?_)
      refine Hold.mk ?_
      refine (mul_k (ST24.out.get (v := (.agg #[.bool g2, .slice a2 n2 cap2])) (g := g2) (z := z2) (by simp)) (ST24.out.get (v := (.agg #[.bool g1, .slice a1 n1 cap1])) (g := g1) (z := z1) (by simp)) Hx2.out Hx1.out).mono ?_
      rintro e W25 ⟨⟨n11, a11, c11, d11, k11, rfl, hk, hv⟩, hb⟩
      clear qp20 qp21 qp10 qp11
      have ST26 := Lib.hid (ST24.out.next hb hv)
      have Hk11 := Lib.hid hk
      clear hk hv hb
      go_upto_region 7 with fail
      obtain ⟨W27, HW27⟩ : ∃ W', Hid (W' = W25.alloc (.cells #[.bool n11, .slice a11 c11 d11] 25)) := ⟨_, Lib.hid rfl⟩
      obtain ⟨b11, Hb11⟩ : ∃ b, Hid (b = W25.heap.size) := ⟨_, Lib.hid rfl⟩
      have ST28 := Lib.hid (ST26.out.box Hb11.out HW27.out)
      rw [← HW27.out]
      try rw [← Hb11.out]
      obtain ⟨qp20, qp21⟩ := ST28.out.cells (b := p2) (n := g2) (s := .slice a2 n2 cap2) (by simp)
      obtain ⟨qp10, qp11⟩ := ST28.out.cells (b := p1) (n := g1) (s := .slice a1 n1 cap1) (by simp)
      go_wp2_with (go_at_call 55; refine hold ?_)
      refine Hold.mk ?_
      refine (sub_k (ST28.out.get (v := (.agg #[.bool g1, .slice a1 n1 cap1])) (g := g1) (z := z1) (by simp)) (ST28.out.get (v := (.agg #[.bool g1, .slice a1 n1 cap1])) (g := g1) (z := z1) (by simp)) Hx1.out Hx1.out).mono ?_
      rintro e W29 ⟨⟨n13, a13, c13, d13, k13, rfl, hk, hv⟩, hb⟩
      clear qp20 qp21 qp10 qp11
      have ST30 := Lib.hid (ST28.out.next hb hv)
      have Hk13 := Lib.hid hk
      clear hk hv hb
      go_upto_region 8 with fail
      obtain ⟨W31, HW31⟩ : ∃ W', Hid (W' = W29.alloc (.cells #[.bool n13, .slice a13 c13 d13] 25)) := ⟨_, Lib.hid rfl⟩
      obtain ⟨b13, Hb13⟩ : ∃ b, Hid (b = W29.heap.size) := ⟨_, Lib.hid rfl⟩
      have ST32 := Lib.hid (ST30.out.box Hb13.out HW31.out)
      rw [← HW31.out]
      try rw [← Hb13.out]
      have e7 : k7 = k5 := by rw [Hk7.out, Hk5.out, addK_comm]
      subst e7
      have e11 : k11 = k9 := by rw [Hk11.out, Hk9.out, mulK_comm]
      subst e11
      obtain ⟨lx, Hlx⟩ : ∃ l, Hid (big x1 = l) := ⟨_, Lib.hid rfl⟩
      have e13 : k13 = if lx = true then 2 else 0 := by rw [Hk13.out, subK_self, Hlx.out]
      obtain ⟨t, Ht⟩ : ∃ t, Hid (cmpI x1 x2 = t) := ⟨_, Lib.hid rfl⟩
      have htl : -1 ≤ t ∧ t ≤ 1 := by rw [← Ht.out]; exact cmpI_lim x1 x2
      obtain ⟨ht0, ht1⟩ := htl
      cases lx with
      | true =>
        have f13 : k13 = 2 := e13
        clear e13
        subst f13
        have HC8 : Hid (∀ wx, Below W31.heap.size W31 wx → (fun w' : World => w'.cell? ⟨b13, 0, none⟩ = some (.bool n13) ∧ w'.cell? ⟨b13, 1, none⟩ = some (.slice a13 c13 d13) ∧ w'.cell? ⟨b11, 0, none⟩ = some (.bool n11) ∧ w'.cell? ⟨b11, 1, none⟩ = some (.slice a11 c11 d11) ∧ w'.cell? ⟨b9, 0, none⟩ = some (.bool n9) ∧ w'.cell? ⟨b9, 1, none⟩ = some (.slice a9 c9 d9) ∧ w'.cell? ⟨b7, 0, none⟩ = some (.bool n7) ∧ w'.cell? ⟨b7, 1, none⟩ = some (.slice a7 c7 d7) ∧ w'.cell? ⟨b5, 0, none⟩ = some (.bool n5) ∧ w'.cell? ⟨b5, 1, none⟩ = some (.slice a5 c5 d5) ∧ w'.cell? ⟨p2, 0, none⟩ = some (.bool g2) ∧ w'.cell? ⟨p2, 1, none⟩ = some (.slice a2 n2 cap2) ∧ w'.cell? ⟨p1, 0, none⟩ = some (.bool g1) ∧ w'.cell? ⟨p1, 1, none⟩ = some (.slice a1 n1 cap1)) wx) := Lib.hid fun wx hx => by
          have h := ST32.out.go hx
          exact ⟨(h.cells (b := b13) (n := n13) (s := .slice a13 c13 d13) (by simp)).1, (h.cells (b := b13) (n := n13) (s := .slice a13 c13 d13) (by simp)).2, (h.cells (b := b11) (n := n11) (s := .slice a11 c11 d11) (by simp)).1, (h.cells (b := b11) (n := n11) (s := .slice a11 c11 d11) (by simp)).2, (h.cells (b := b9) (n := n9) (s := .slice a9 c9 d9) (by simp)).1, (h.cells (b := b9) (n := n9) (s := .slice a9 c9 d9) (by simp)).2, (h.cells (b := b7) (n := n7) (s := .slice a7 c7 d7) (by simp)).1, (h.cells (b := b7) (n := n7) (s := .slice a7 c7 d7) (by simp)).2, (h.cells (b := b5) (n := n5) (s := .slice a5 c5 d5) (by simp)).1, (h.cells (b := b5) (n := n5) (s := .slice a5 c5 d5) (by simp)).2, (h.cells (b := p2) (n := g2) (s := .slice a2 n2 cap2) (by simp)).1, (h.cells (b := p2) (n := g2) (s := .slice a2 n2 cap2) (by simp)).2, (h.cells (b := p1) (n := g1) (s := .slice a1 n1 cap1) (by simp)).1, (h.cells (b := p1) (n := g1) (s := .slice a1 n1 cap1) (by simp)).2⟩
        have hD8 := Lib.hid (Below.refl W31.heap.size W31).drew
        have ST33 := Lib.hid (ST32.out.go hD8.out)
        have HS := HC8.out W31.drew hD8.out
        refine wp_region_pi (fun w' : World => w'.cell? ⟨b13, 0, none⟩ = some (.bool n13) ∧ w'.cell? ⟨b13, 1, none⟩ = some (.slice a13 c13 d13) ∧ w'.cell? ⟨b11, 0, none⟩ = some (.bool n11) ∧ w'.cell? ⟨b11, 1, none⟩ = some (.slice a11 c11 d11) ∧ w'.cell? ⟨b9, 0, none⟩ = some (.bool n9) ∧ w'.cell? ⟨b9, 1, none⟩ = some (.slice a9 c9 d9) ∧ w'.cell? ⟨b7, 0, none⟩ = some (.bool n7) ∧ w'.cell? ⟨b7, 1, none⟩ = some (.slice a7 c7 d7) ∧ w'.cell? ⟨b5, 0, none⟩ = some (.bool n5) ∧ w'.cell? ⟨b5, 1, none⟩ = some (.slice a5 c5 d5) ∧ w'.cell? ⟨p2, 0, none⟩ = some (.bool g2) ∧ w'.cell? ⟨p2, 1, none⟩ = some (.slice a2 n2 cap2) ∧ w'.cell? ⟨p1, 0, none⟩ = some (.bool g1) ∧ w'.cell? ⟨p1, 1, none⟩ = some (.slice a1 n1 cap1)) [(0, 1), (1, 1), (2, 1), (3, 1), (4, 0), (5, 0), (6, 2), (7, 1), (8, 1), (9, 1), (10, 1), (11, 1), (12, 1), (13, 1), (14, 0), (15, 0), (16, 2), (17, 1), (18, 1), (19, 1), (20, 1), (21, 1), (22, 0), (23, 2), (24, 2), (25, 1), (26, 1), (27, 1), (28, 1), (29, 0), (30, 0), (32, 0), (33, 0), (31, 2), (34, 3), (35, 3), (36, 3), (37, 3), (38, 3), (39, 3), (40, 3), (41, 3)] [(34, [28, 27, 18, 17, 13, 8, 6, 4]), (34, [28, 27, 18, 17, 13, 8, 6, 5]), (34, [28, 27, 18, 16, 14]), (34, [28, 27, 18, 16, 15]), (34, [28, 24, 22]), (34, [31, 29]), (34, [31, 30]), (34, [32]), (34, [33]), (35, [28, 27, 18, 17, 13, 8, 6, 4]), (35, [28, 27, 18, 17, 13, 8, 6, 5]), (35, [28, 27, 18, 16, 14]), (35, [28, 27, 18, 16, 15]), (35, [28, 24, 22]), (35, [34, 31, 29]), (35, [34, 31, 30]), (35, [34, 32]), (35, [34, 33]), (36, [28, 27, 18, 17, 13, 8, 6, 4]), (36, [28, 27, 18, 17, 13, 8, 6, 5]), (36, [28, 27, 18, 16, 14]), (36, [28, 27, 18, 16, 15]), (36, [28, 24, 22]), (36, [31, 29]), (36, [31, 30]), (36, [35, 34, 32]), (36, [35, 34, 33]), (37, [28, 27, 18, 17, 13, 8, 6, 4]), (37, [28, 27, 18, 17, 13, 8, 6, 5]), (37, [28, 27, 18, 16, 14]), (37, [28, 27, 18, 16, 15]), (37, [28, 24, 22]), (37, [36, 31, 29]), (37, [36, 31, 30]), (37, [36, 35, 34, 32]), (37, [36, 35, 34, 33]), (38, [37, 28, 27, 18, 17, 13, 8, 6, 4]), (38, [37, 28, 27, 18, 17, 13, 8, 6, 5]), (38, [37, 28, 27, 18, 16, 14]), (38, [37, 28, 27, 18, 16, 15]), (38, [37, 28, 24, 22]), (38, [34, 31, 29]), (38, [34, 31, 30]), (38, [34, 32]), (38, [34, 33]), (39, [38, 37, 28, 27, 18, 17, 13, 8, 6, 4]), (39, [38, 37, 28, 27, 18, 17, 13, 8, 6, 5]), (39, [38, 37, 28, 27, 18, 16, 14]), (39, [38, 37, 28, 27, 18, 16, 15]), (39, [38, 37, 28, 24, 22]), (39, [38, 34, 31, 29]), (39, [38, 34, 31, 30]), (39, [38, 34, 32]), (39, [38, 34, 33]), (40, [38, 37, 28, 27, 18, 17, 13, 8, 6, 4]), (40, [38, 37, 28, 27, 18, 17, 13, 8, 6, 5]), (40, [38, 37, 28, 27, 18, 16, 14]), (40, [38, 37, 28, 27, 18, 16, 15]), (40, [38, 37, 28, 24, 22]), (40, [38, 34, 31, 29]), (40, [38, 34, 31, 30]), (40, [38, 34, 32]), (40, [38, 34, 33]), (41, [4]), (41, [5]), (41, [14]), (41, [15]), (41, [22]), (41, [29]), (41, [30]), (41, [32]), (41, [33])] (by kernel_rfl) (by kernel_rfl) (fun _ _ _ _ _ h => h) (HS) ?_
        refine pq_pu (some 54) rfl rfl (by rfl) (fun ws => by go_simp; try with_reducible rfl) ?_; go_frame   -- 0 Op.move (Operand.tmp 6)
        refine pq_pu (some 55) rfl rfl (by rfl) (fun ws => by go_simp; try with_reducible rfl) ?_; go_frame   -- 1 Op.move (Operand.tmp 8)
        refine pq_pu (some 56) rfl rfl (by rfl) (fun ws => by go_simp; try with_reducible rfl) ?_; go_frame   -- 2 Op.binOp BinOp.eql 29 (Operand.tmp 54) (Operand.tmp 55) 29
        try simp only [beq_self_eq_true]
        refine pq_pu (some 57) rfl rfl (by rfl) (fun ws => by go_simp; try with_reducible rfl) ?_; go_frame   -- 3 Op.move (Operand.tmp 56)
        refine pq_ld (some 58) rfl rfl (by rfl) (fun ws HS => by go_split_ands; go_simp; try with_reducible rfl) ?_; go_frame   -- 4 Op.load 25 (Operand.tmp 5)
        refine pq_ld (some 59) rfl rfl (by rfl) (fun ws HS => by go_split_ands; go_simp; try with_reducible rfl) ?_; go_frame   -- 5 Op.load 25 (Operand.tmp 7)
        refine pk_ke rfl (fun J hJ => ?_)   -- pi_ke 6 Op.call { callee := Callee.value (Operand.func 40), args := #[Operand.tmp 58, Operand.tmp 59], argTypes := #[25, 25] }
        have C34 := Lib.hid (whole_eq _ _ (addV (x1) (x2)) (addV (x2) (x1)) W31.drew (ST33.out.getC (v := (.agg #[.bool n5, .slice a5 c5 d5])) (i := addV (x1) (x2)) (by simp)) (ST33.out.getC (v := (.agg #[.bool n7, .slice a7 c7 d7])) (i := addV (x2) (x1)) (by simp)) (addV_comm x2 x1))
        go_wp2_with (go_at_call 40; refine C34.out.mono ?_; rintro e W34 ⟨rfl, hb⟩; have ST34 := Lib.hid (ST33.out.go hb); have hD34 := Lib.hid (hD8.out.trans (Below.mono hb hD8.out.size)); clear hb)
        refine hJ _ _ (HC8.out W34 hD34.out) ?_
        refine pq_pu (some 61) rfl rfl (by rfl) (fun ws => by go_simp; try with_reducible rfl) ?_; go_frame   -- 7 Op.pick (Operand.tmp 57) (Operand.tmp 60) (Operand.const (Value.bool false))
        refine pq_pu (some 62) rfl rfl (by rfl) (fun ws => by go_simp; try with_reducible rfl) ?_; go_frame   -- 8 Op.move (Operand.tmp 61)
        refine pq_pu (some 63) rfl rfl (by rfl) (fun ws => by go_simp; try with_reducible rfl) ?_; go_frame   -- 9 Op.move (Operand.tmp 10)
        refine pq_pu (some 64) rfl rfl (by rfl) (fun ws => by go_simp; try with_reducible rfl) ?_; go_frame   -- 10 Op.move (Operand.tmp 12)
        refine pq_pu (some 65) rfl rfl (by rfl) (fun ws => by go_simp; try with_reducible rfl) ?_; go_frame   -- 11 Op.binOp BinOp.eql 29 (Operand.tmp 63) (Operand.tmp 64) 29
        try simp only [beq_self_eq_true]
        refine pq_pu (some 66) rfl rfl (by rfl) (fun ws => by go_simp; try with_reducible rfl) ?_; go_frame   -- 12 Op.pick (Operand.tmp 62) (Operand.tmp 65) (Operand.const (Value.bool false))
        refine pq_pu (some 67) rfl rfl (by rfl) (fun ws => by go_simp; try with_reducible rfl) ?_; go_frame   -- 13 Op.move (Operand.tmp 66)
        refine pq_ld (some 68) rfl rfl (by rfl) (fun ws HS => by go_split_ands; go_simp; try with_reducible rfl) ?_; go_frame   -- 14 Op.load 25 (Operand.tmp 9)
        refine pq_ld (some 69) rfl rfl (by rfl) (fun ws HS => by go_split_ands; go_simp; try with_reducible rfl) ?_; go_frame   -- 15 Op.load 25 (Operand.tmp 11)
        refine pk_ke rfl (fun J hJ => ?_)   -- pi_ke 16 Op.call { callee := Callee.value (Operand.func 40), args := #[Operand.tmp 68, Operand.tmp 69], argTypes := #[25, 25] }
        have C35 := Lib.hid (whole_eq _ _ (mulV (x1) (x2)) (mulV (x2) (x1)) W34 (ST34.out.getC (v := (.agg #[.bool n9, .slice a9 c9 d9])) (i := mulV (x1) (x2)) (by simp)) (ST34.out.getC (v := (.agg #[.bool n11, .slice a11 c11 d11])) (i := mulV (x2) (x1)) (by simp)) (mulV_comm x2 x1))
        go_wp2_with (go_at_call 40; refine C35.out.mono ?_; rintro e W35 ⟨rfl, hb⟩; have ST35 := Lib.hid (ST34.out.go hb); have hD35 := Lib.hid (hD34.out.trans (Below.mono hb hD34.out.size)); clear hb)
        refine hJ _ _ (HC8.out W35 hD35.out) ?_
        refine pq_pu (some 71) rfl rfl (by rfl) (fun ws => by go_simp; try with_reducible rfl) ?_; go_frame   -- 17 Op.pick (Operand.tmp 67) (Operand.tmp 70) (Operand.const (Value.bool false))
        refine pq_pu (some 72) rfl rfl (by rfl) (fun ws => by go_simp; try with_reducible rfl) ?_; go_frame   -- 18 Op.move (Operand.tmp 71)
        refine pq_pu (some 73) rfl rfl (by rfl) (fun ws => by go_simp; try with_reducible rfl) ?_; go_frame   -- 19 Op.move (Operand.tmp 14)
        refine pq_pu (some 74) rfl rfl (by rfl) (fun ws => by go_simp; try with_reducible rfl) ?_; go_frame   -- 20 Op.binOp BinOp.neq 29 (Operand.tmp 73) (Operand.const (Value.int IntKind.i64 0)) 29
        refine pq_pu (some 75) rfl rfl (by rfl) (fun ws => by go_simp; try with_reducible rfl) ?_; go_frame   -- 21 Op.move (Operand.tmp 74)
        refine pq_ld_skip (some 76) rfl rfl (by rfl) ?_; go_frame   -- 22 Op.load 25 (Operand.tmp 13)
        refine pk_ke rfl (fun J hJ => ?_)   -- pi_ke 23 Op.call { callee := Callee.value (Operand.func 43), args := #[Operand.const (Value.int IntKind.i64 0)], argTypes := #[3] }
        go_wp2_with fail
        refine hJ _ _ (HC8.out W35 hD35.out) ?_
        refine pk_ke rfl (fun J hJ => ?_)   -- pi_ke 24 Op.call { callee := Callee.value (Operand.func 52), args := #[Operand.tmp 76, Operand.tmp 77], argTypes := #[25, 25] }
        go_wp2_with fail
        refine hJ _ _ (HC8.out W35 hD35.out) ?_
        refine pq_pu_skip (some 79) rfl rfl (by rfl) ?_; go_frame   -- 25 Op.binOp BinOp.eql 3 (Operand.tmp 78) (Operand.const (Value.int IntKind.i64 0)) 3
        refine pq_pu (some 80) rfl rfl (by rfl) (fun ws => by go_simp; try with_reducible rfl) ?_; go_frame   -- 26 Op.pick (Operand.tmp 75) (Operand.const (Value.bool true)) (Operand.tmp 79)
        refine pq_pu (some 81) rfl rfl (by rfl) (fun ws => by go_simp; try with_reducible rfl) ?_; go_frame   -- 27 Op.pick (Operand.tmp 72) (Operand.tmp 80) (Operand.const (Value.bool false))
        refine pq_pu (some 82) rfl rfl (by rfl) (fun ws => by go_simp; try with_reducible rfl) ?_; go_frame   -- 28 Op.move (Operand.tmp 81)
        refine pq_ld (some 83) rfl rfl (by rfl) (fun ws HS => by go_split_ands; go_simp; try with_reducible rfl) ?_; go_frame   -- 29 Op.load 25 (Operand.tmp 2)
        refine pq_ld (some 84) rfl rfl (by rfl) (fun ws HS => by go_split_ands; go_simp; try with_reducible rfl) ?_; go_frame   -- 30 Op.load 25 (Operand.tmp 3)
        refine pq_ld (some 86) rfl rfl (by rfl) (fun ws HS => by go_split_ands; go_simp; try with_reducible rfl) ?_; go_frame   -- 32 Op.load 25 (Operand.tmp 3)
        refine pq_ld (some 87) rfl rfl (by rfl) (fun ws HS => by go_split_ands; go_simp; try with_reducible rfl) ?_; go_frame   -- 33 Op.load 25 (Operand.tmp 2)
        refine pk_ke rfl (fun J hJ => ?_)   -- pi_ke 31 Op.call { callee := Callee.value (Operand.func 52), args := #[Operand.tmp 83, Operand.tmp 84], argTypes := #[25, 25] }
        have C1 := Lib.hid (cmp_k (ST35.out.get (v := (.agg #[.bool g1, .slice a1 n1 cap1])) (g := g1) (z := z1) (by simp)) (ST35.out.get (v := (.agg #[.bool g2, .slice a2 n2 cap2])) (g := g2) (z := z2) (by simp)) Hx1.out Hx2.out)
        rw [Ht.out] at C1
        have C36 := Lib.hid (C1.out)
        go_wp2_with (go_at_call 52; refine C36.out.mono ?_; rintro e W36 ⟨rfl, hb⟩; have ST36 := Lib.hid (ST35.out.go hb); have hD36 := Lib.hid (hD35.out.trans (Below.mono hb hD35.out.size)); clear hb)
        refine hJ _ _ (HC8.out W36 hD36.out) ?_
        refine pi_tail (by rfl) ?_; simp only [opsAt, List.getElem?_toArray, List.getElem?_cons_zero, List.getElem?_cons_succ]   -- [(34, 'Op.call { callee := Callee.value (Operand.func 52), args := #[Operand.tmp 86, Operand.tmp 87], argTypes := #[25, 25] }'), (35, 'Op.unOp UnOp.neg 3 (Operand.tmp 88)'), (36, 'Op.binOp BinOp.eql 3 (Operand.tmp 85) (Operand.tmp 89) 3'), (37, 'Op.pick (Operand.tmp 82) (Operand.tmp 90) (Operand.const (Value.bool false))'), (38, 'Op.move (Operand.tmp 91)'), (39, 'Op.call { callee := Callee.value (Operand.func 36), args := #[], argTypes := #[] }'), (40, 'Op.pick (Operand.tmp 92) (Operand.tmp 93) (Operand.const (Value.bool false))'), (41, 'Op.assign (Operand.tmp 94)')]
        have C2 := Lib.hid (cmp_k (ST36.out.get (v := (.agg #[.bool g2, .slice a2 n2 cap2])) (g := g2) (z := z2) (by simp)) (ST36.out.get (v := (.agg #[.bool g1, .slice a1 n1 cap1])) (g := g1) (z := z1) (by simp)) Hx2.out Hx1.out)
        rw [cmpI_swap, Ht.out] at C2
        go_wp2_with first
          | (go_at_call 52; refine C2.out.mono ?_; rintro e Wx ⟨rfl, hb⟩; have STx := Lib.hid (ST36.out.go hb); clear hb)
          | (go_at_call 36; refine (awake_any Wx).mono ?_; rintro e Wy ⟨rfl, hb⟩; have STy := Lib.hid (STx.out.go hb); clear hb)
        go_ret
        exact ⟨by simp, STy.out.below⟩
      | false =>
        have f13 : k13 = 0 := e13
        clear e13
        subst f13
        have HC8 : Hid (∀ wx, Below W31.heap.size W31 wx → (fun w' : World => w'.cell? ⟨b13, 0, none⟩ = some (.bool n13) ∧ w'.cell? ⟨b13, 1, none⟩ = some (.slice a13 c13 d13) ∧ w'.cell? ⟨b11, 0, none⟩ = some (.bool n11) ∧ w'.cell? ⟨b11, 1, none⟩ = some (.slice a11 c11 d11) ∧ w'.cell? ⟨b9, 0, none⟩ = some (.bool n9) ∧ w'.cell? ⟨b9, 1, none⟩ = some (.slice a9 c9 d9) ∧ w'.cell? ⟨b7, 0, none⟩ = some (.bool n7) ∧ w'.cell? ⟨b7, 1, none⟩ = some (.slice a7 c7 d7) ∧ w'.cell? ⟨b5, 0, none⟩ = some (.bool n5) ∧ w'.cell? ⟨b5, 1, none⟩ = some (.slice a5 c5 d5) ∧ w'.cell? ⟨p2, 0, none⟩ = some (.bool g2) ∧ w'.cell? ⟨p2, 1, none⟩ = some (.slice a2 n2 cap2) ∧ w'.cell? ⟨p1, 0, none⟩ = some (.bool g1) ∧ w'.cell? ⟨p1, 1, none⟩ = some (.slice a1 n1 cap1)) wx) := Lib.hid fun wx hx => by
          have h := ST32.out.go hx
          exact ⟨(h.cells (b := b13) (n := n13) (s := .slice a13 c13 d13) (by simp)).1, (h.cells (b := b13) (n := n13) (s := .slice a13 c13 d13) (by simp)).2, (h.cells (b := b11) (n := n11) (s := .slice a11 c11 d11) (by simp)).1, (h.cells (b := b11) (n := n11) (s := .slice a11 c11 d11) (by simp)).2, (h.cells (b := b9) (n := n9) (s := .slice a9 c9 d9) (by simp)).1, (h.cells (b := b9) (n := n9) (s := .slice a9 c9 d9) (by simp)).2, (h.cells (b := b7) (n := n7) (s := .slice a7 c7 d7) (by simp)).1, (h.cells (b := b7) (n := n7) (s := .slice a7 c7 d7) (by simp)).2, (h.cells (b := b5) (n := n5) (s := .slice a5 c5 d5) (by simp)).1, (h.cells (b := b5) (n := n5) (s := .slice a5 c5 d5) (by simp)).2, (h.cells (b := p2) (n := g2) (s := .slice a2 n2 cap2) (by simp)).1, (h.cells (b := p2) (n := g2) (s := .slice a2 n2 cap2) (by simp)).2, (h.cells (b := p1) (n := g1) (s := .slice a1 n1 cap1) (by simp)).1, (h.cells (b := p1) (n := g1) (s := .slice a1 n1 cap1) (by simp)).2⟩
        have hD8 := Lib.hid (Below.refl W31.heap.size W31).drew
        have ST38 := Lib.hid (ST32.out.go hD8.out)
        have HS := HC8.out W31.drew hD8.out
        refine wp_region_pi (fun w' : World => w'.cell? ⟨b13, 0, none⟩ = some (.bool n13) ∧ w'.cell? ⟨b13, 1, none⟩ = some (.slice a13 c13 d13) ∧ w'.cell? ⟨b11, 0, none⟩ = some (.bool n11) ∧ w'.cell? ⟨b11, 1, none⟩ = some (.slice a11 c11 d11) ∧ w'.cell? ⟨b9, 0, none⟩ = some (.bool n9) ∧ w'.cell? ⟨b9, 1, none⟩ = some (.slice a9 c9 d9) ∧ w'.cell? ⟨b7, 0, none⟩ = some (.bool n7) ∧ w'.cell? ⟨b7, 1, none⟩ = some (.slice a7 c7 d7) ∧ w'.cell? ⟨b5, 0, none⟩ = some (.bool n5) ∧ w'.cell? ⟨b5, 1, none⟩ = some (.slice a5 c5 d5) ∧ w'.cell? ⟨p2, 0, none⟩ = some (.bool g2) ∧ w'.cell? ⟨p2, 1, none⟩ = some (.slice a2 n2 cap2) ∧ w'.cell? ⟨p1, 0, none⟩ = some (.bool g1) ∧ w'.cell? ⟨p1, 1, none⟩ = some (.slice a1 n1 cap1)) [(0, 1), (1, 1), (2, 1), (3, 1), (4, 0), (5, 0), (6, 2), (7, 1), (8, 1), (9, 1), (10, 1), (11, 1), (12, 1), (13, 1), (14, 0), (15, 0), (16, 2), (17, 1), (18, 1), (19, 1), (20, 1), (21, 1), (22, 0), (23, 2), (24, 2), (25, 1), (26, 1), (27, 1), (28, 1), (29, 0), (30, 0), (32, 0), (33, 0), (31, 2), (34, 3), (35, 3), (36, 3), (37, 3), (38, 3), (39, 3), (40, 3), (41, 3)] [(34, [28, 27, 18, 17, 13, 8, 6, 4]), (34, [28, 27, 18, 17, 13, 8, 6, 5]), (34, [28, 27, 18, 16, 14]), (34, [28, 27, 18, 16, 15]), (34, [28, 24, 22]), (34, [31, 29]), (34, [31, 30]), (34, [32]), (34, [33]), (35, [28, 27, 18, 17, 13, 8, 6, 4]), (35, [28, 27, 18, 17, 13, 8, 6, 5]), (35, [28, 27, 18, 16, 14]), (35, [28, 27, 18, 16, 15]), (35, [28, 24, 22]), (35, [34, 31, 29]), (35, [34, 31, 30]), (35, [34, 32]), (35, [34, 33]), (36, [28, 27, 18, 17, 13, 8, 6, 4]), (36, [28, 27, 18, 17, 13, 8, 6, 5]), (36, [28, 27, 18, 16, 14]), (36, [28, 27, 18, 16, 15]), (36, [28, 24, 22]), (36, [31, 29]), (36, [31, 30]), (36, [35, 34, 32]), (36, [35, 34, 33]), (37, [28, 27, 18, 17, 13, 8, 6, 4]), (37, [28, 27, 18, 17, 13, 8, 6, 5]), (37, [28, 27, 18, 16, 14]), (37, [28, 27, 18, 16, 15]), (37, [28, 24, 22]), (37, [36, 31, 29]), (37, [36, 31, 30]), (37, [36, 35, 34, 32]), (37, [36, 35, 34, 33]), (38, [37, 28, 27, 18, 17, 13, 8, 6, 4]), (38, [37, 28, 27, 18, 17, 13, 8, 6, 5]), (38, [37, 28, 27, 18, 16, 14]), (38, [37, 28, 27, 18, 16, 15]), (38, [37, 28, 24, 22]), (38, [34, 31, 29]), (38, [34, 31, 30]), (38, [34, 32]), (38, [34, 33]), (39, [38, 37, 28, 27, 18, 17, 13, 8, 6, 4]), (39, [38, 37, 28, 27, 18, 17, 13, 8, 6, 5]), (39, [38, 37, 28, 27, 18, 16, 14]), (39, [38, 37, 28, 27, 18, 16, 15]), (39, [38, 37, 28, 24, 22]), (39, [38, 34, 31, 29]), (39, [38, 34, 31, 30]), (39, [38, 34, 32]), (39, [38, 34, 33]), (40, [38, 37, 28, 27, 18, 17, 13, 8, 6, 4]), (40, [38, 37, 28, 27, 18, 17, 13, 8, 6, 5]), (40, [38, 37, 28, 27, 18, 16, 14]), (40, [38, 37, 28, 27, 18, 16, 15]), (40, [38, 37, 28, 24, 22]), (40, [38, 34, 31, 29]), (40, [38, 34, 31, 30]), (40, [38, 34, 32]), (40, [38, 34, 33]), (41, [4]), (41, [5]), (41, [14]), (41, [15]), (41, [22]), (41, [29]), (41, [30]), (41, [32]), (41, [33])] (by kernel_rfl) (by kernel_rfl) (fun _ _ _ _ _ h => h) (HS) ?_
        refine pq_pu (some 54) rfl rfl (by rfl) (fun ws => by go_simp; try with_reducible rfl) ?_; go_frame   -- 0 Op.move (Operand.tmp 6)
        refine pq_pu (some 55) rfl rfl (by rfl) (fun ws => by go_simp; try with_reducible rfl) ?_; go_frame   -- 1 Op.move (Operand.tmp 8)
        refine pq_pu (some 56) rfl rfl (by rfl) (fun ws => by go_simp; try with_reducible rfl) ?_; go_frame   -- 2 Op.binOp BinOp.eql 29 (Operand.tmp 54) (Operand.tmp 55) 29
        try simp only [beq_self_eq_true]
        refine pq_pu (some 57) rfl rfl (by rfl) (fun ws => by go_simp; try with_reducible rfl) ?_; go_frame   -- 3 Op.move (Operand.tmp 56)
        refine pq_ld (some 58) rfl rfl (by rfl) (fun ws HS => by go_split_ands; go_simp; try with_reducible rfl) ?_; go_frame   -- 4 Op.load 25 (Operand.tmp 5)
        refine pq_ld (some 59) rfl rfl (by rfl) (fun ws HS => by go_split_ands; go_simp; try with_reducible rfl) ?_; go_frame   -- 5 Op.load 25 (Operand.tmp 7)
        refine pk_ke rfl (fun J hJ => ?_)   -- pi_ke 6 Op.call { callee := Callee.value (Operand.func 40), args := #[Operand.tmp 58, Operand.tmp 59], argTypes := #[25, 25] }
        have C39 := Lib.hid (whole_eq _ _ (addV (x1) (x2)) (addV (x2) (x1)) W31.drew (ST38.out.getC (v := (.agg #[.bool n5, .slice a5 c5 d5])) (i := addV (x1) (x2)) (by simp)) (ST38.out.getC (v := (.agg #[.bool n7, .slice a7 c7 d7])) (i := addV (x2) (x1)) (by simp)) (addV_comm x2 x1))
        go_wp2_with (go_at_call 40; refine C39.out.mono ?_; rintro e W39 ⟨rfl, hb⟩; have ST39 := Lib.hid (ST38.out.go hb); have hD39 := Lib.hid (hD8.out.trans (Below.mono hb hD8.out.size)); clear hb)
        refine hJ _ _ (HC8.out W39 hD39.out) ?_
        refine pq_pu (some 61) rfl rfl (by rfl) (fun ws => by go_simp; try with_reducible rfl) ?_; go_frame   -- 7 Op.pick (Operand.tmp 57) (Operand.tmp 60) (Operand.const (Value.bool false))
        refine pq_pu (some 62) rfl rfl (by rfl) (fun ws => by go_simp; try with_reducible rfl) ?_; go_frame   -- 8 Op.move (Operand.tmp 61)
        refine pq_pu (some 63) rfl rfl (by rfl) (fun ws => by go_simp; try with_reducible rfl) ?_; go_frame   -- 9 Op.move (Operand.tmp 10)
        refine pq_pu (some 64) rfl rfl (by rfl) (fun ws => by go_simp; try with_reducible rfl) ?_; go_frame   -- 10 Op.move (Operand.tmp 12)
        refine pq_pu (some 65) rfl rfl (by rfl) (fun ws => by go_simp; try with_reducible rfl) ?_; go_frame   -- 11 Op.binOp BinOp.eql 29 (Operand.tmp 63) (Operand.tmp 64) 29
        try simp only [beq_self_eq_true]
        refine pq_pu (some 66) rfl rfl (by rfl) (fun ws => by go_simp; try with_reducible rfl) ?_; go_frame   -- 12 Op.pick (Operand.tmp 62) (Operand.tmp 65) (Operand.const (Value.bool false))
        refine pq_pu (some 67) rfl rfl (by rfl) (fun ws => by go_simp; try with_reducible rfl) ?_; go_frame   -- 13 Op.move (Operand.tmp 66)
        refine pq_ld (some 68) rfl rfl (by rfl) (fun ws HS => by go_split_ands; go_simp; try with_reducible rfl) ?_; go_frame   -- 14 Op.load 25 (Operand.tmp 9)
        refine pq_ld (some 69) rfl rfl (by rfl) (fun ws HS => by go_split_ands; go_simp; try with_reducible rfl) ?_; go_frame   -- 15 Op.load 25 (Operand.tmp 11)
        refine pk_ke rfl (fun J hJ => ?_)   -- pi_ke 16 Op.call { callee := Callee.value (Operand.func 40), args := #[Operand.tmp 68, Operand.tmp 69], argTypes := #[25, 25] }
        have C40 := Lib.hid (whole_eq _ _ (mulV (x1) (x2)) (mulV (x2) (x1)) W39 (ST39.out.getC (v := (.agg #[.bool n9, .slice a9 c9 d9])) (i := mulV (x1) (x2)) (by simp)) (ST39.out.getC (v := (.agg #[.bool n11, .slice a11 c11 d11])) (i := mulV (x2) (x1)) (by simp)) (mulV_comm x2 x1))
        go_wp2_with (go_at_call 40; refine C40.out.mono ?_; rintro e W40 ⟨rfl, hb⟩; have ST40 := Lib.hid (ST39.out.go hb); have hD40 := Lib.hid (hD39.out.trans (Below.mono hb hD39.out.size)); clear hb)
        refine hJ _ _ (HC8.out W40 hD40.out) ?_
        refine pq_pu (some 71) rfl rfl (by rfl) (fun ws => by go_simp; try with_reducible rfl) ?_; go_frame   -- 17 Op.pick (Operand.tmp 67) (Operand.tmp 70) (Operand.const (Value.bool false))
        refine pq_pu (some 72) rfl rfl (by rfl) (fun ws => by go_simp; try with_reducible rfl) ?_; go_frame   -- 18 Op.move (Operand.tmp 71)
        refine pq_pu (some 73) rfl rfl (by rfl) (fun ws => by go_simp; try with_reducible rfl) ?_; go_frame   -- 19 Op.move (Operand.tmp 14)
        refine pq_pu (some 74) rfl rfl (by rfl) (fun ws => by go_simp; try with_reducible rfl) ?_; go_frame   -- 20 Op.binOp BinOp.neq 29 (Operand.tmp 73) (Operand.const (Value.int IntKind.i64 0)) 29
        refine pq_pu (some 75) rfl rfl (by rfl) (fun ws => by go_simp; try with_reducible rfl) ?_; go_frame   -- 21 Op.move (Operand.tmp 74)
        refine pq_ld (some 76) rfl rfl (by rfl) (fun ws HS => by go_split_ands; go_simp; try with_reducible rfl) ?_; go_frame   -- 22 Op.load 25 (Operand.tmp 13)
        refine pk_ke rfl (fun J hJ => ?_)   -- pi_ke 23 Op.call { callee := Callee.value (Operand.func 43), args := #[Operand.const (Value.int IntKind.i64 0)], argTypes := #[3] }
        have C41 := Lib.hid (of_k 0 W40 (by decide) (by decide))
        go_wp2_with (go_at_call 43; refine C41.out.mono ?_; rintro e W41 ⟨⟨n0, a0, c0, d0, rfl, hv⟩, hb⟩; have ST41 := Lib.hid (ST40.out.next hb hv); have hD41 := Lib.hid (hD40.out.trans (Below.mono hb hD40.out.size)); clear hb)
        refine hJ _ _ (HC8.out W41 hD41.out) ?_
        refine pk_ke rfl (fun J hJ => ?_)   -- pi_ke 24 Op.call { callee := Callee.value (Operand.func 52), args := #[Operand.tmp 76, Operand.tmp 77], argTypes := #[25, 25] }
        have C0 := Lib.hid (cmp_k (ST41.out.getC (v := (.agg #[.bool n13, .slice a13 c13 d13])) (i := subV (x1) (x1)) (by simp)) (ST41.out.getC (v := (.agg #[.bool n0, .slice a0 c0 d0])) (i := 0) (by simp)) (valI_can _) (valI_can _))
        rw [subV_self, cmpI_self] at C0
        have C42 := Lib.hid (C0.out)
        go_wp2_with (go_at_call 52; refine C42.out.mono ?_; rintro e W42 ⟨rfl, hb⟩; have ST42 := Lib.hid (ST41.out.go hb); have hD42 := Lib.hid (hD41.out.trans (Below.mono hb hD41.out.size)); clear hb)
        refine hJ _ _ (HC8.out W42 hD42.out) ?_
        refine pq_pu (some 79) rfl rfl (by rfl) (fun ws => by go_simp; try with_reducible rfl) ?_; go_frame   -- 25 Op.binOp BinOp.eql 3 (Operand.tmp 78) (Operand.const (Value.int IntKind.i64 0)) 3
        refine pq_pu (some 80) rfl rfl (by rfl) (fun ws => by go_simp; try with_reducible rfl) ?_; go_frame   -- 26 Op.pick (Operand.tmp 75) (Operand.const (Value.bool true)) (Operand.tmp 79)
        refine pq_pu (some 81) rfl rfl (by rfl) (fun ws => by go_simp; try with_reducible rfl) ?_; go_frame   -- 27 Op.pick (Operand.tmp 72) (Operand.tmp 80) (Operand.const (Value.bool false))
        refine pq_pu (some 82) rfl rfl (by rfl) (fun ws => by go_simp; try with_reducible rfl) ?_; go_frame   -- 28 Op.move (Operand.tmp 81)
        refine pq_ld (some 83) rfl rfl (by rfl) (fun ws HS => by go_split_ands; go_simp; try with_reducible rfl) ?_; go_frame   -- 29 Op.load 25 (Operand.tmp 2)
        refine pq_ld (some 84) rfl rfl (by rfl) (fun ws HS => by go_split_ands; go_simp; try with_reducible rfl) ?_; go_frame   -- 30 Op.load 25 (Operand.tmp 3)
        refine pq_ld (some 86) rfl rfl (by rfl) (fun ws HS => by go_split_ands; go_simp; try with_reducible rfl) ?_; go_frame   -- 32 Op.load 25 (Operand.tmp 3)
        refine pq_ld (some 87) rfl rfl (by rfl) (fun ws HS => by go_split_ands; go_simp; try with_reducible rfl) ?_; go_frame   -- 33 Op.load 25 (Operand.tmp 2)
        refine pk_ke rfl (fun J hJ => ?_)   -- pi_ke 31 Op.call { callee := Callee.value (Operand.func 52), args := #[Operand.tmp 83, Operand.tmp 84], argTypes := #[25, 25] }
        have C1 := Lib.hid (cmp_k (ST42.out.get (v := (.agg #[.bool g1, .slice a1 n1 cap1])) (g := g1) (z := z1) (by simp)) (ST42.out.get (v := (.agg #[.bool g2, .slice a2 n2 cap2])) (g := g2) (z := z2) (by simp)) Hx1.out Hx2.out)
        rw [Ht.out] at C1
        have C43 := Lib.hid (C1.out)
        go_wp2_with (go_at_call 52; refine C43.out.mono ?_; rintro e W43 ⟨rfl, hb⟩; have ST43 := Lib.hid (ST42.out.go hb); have hD43 := Lib.hid (hD42.out.trans (Below.mono hb hD42.out.size)); clear hb)
        refine hJ _ _ (HC8.out W43 hD43.out) ?_
        refine pi_tail (by rfl) ?_; simp only [opsAt, List.getElem?_toArray, List.getElem?_cons_zero, List.getElem?_cons_succ]   -- [(34, 'Op.call { callee := Callee.value (Operand.func 52), args := #[Operand.tmp 86, Operand.tmp 87], argTypes := #[25, 25] }'), (35, 'Op.unOp UnOp.neg 3 (Operand.tmp 88)'), (36, 'Op.binOp BinOp.eql 3 (Operand.tmp 85) (Operand.tmp 89) 3'), (37, 'Op.pick (Operand.tmp 82) (Operand.tmp 90) (Operand.const (Value.bool false))'), (38, 'Op.move (Operand.tmp 91)'), (39, 'Op.call { callee := Callee.value (Operand.func 36), args := #[], argTypes := #[] }'), (40, 'Op.pick (Operand.tmp 92) (Operand.tmp 93) (Operand.const (Value.bool false))'), (41, 'Op.assign (Operand.tmp 94)')]
        have C2 := Lib.hid (cmp_k (ST43.out.get (v := (.agg #[.bool g2, .slice a2 n2 cap2])) (g := g2) (z := z2) (by simp)) (ST43.out.get (v := (.agg #[.bool g1, .slice a1 n1 cap1])) (g := g1) (z := z1) (by simp)) Hx2.out Hx1.out)
        rw [cmpI_swap, Ht.out] at C2
        go_wp2_with first
          | (go_at_call 52; refine C2.out.mono ?_; rintro e Wx ⟨rfl, hb⟩; have STx := Lib.hid (ST43.out.go hb); clear hb)
          | (go_at_call 36; refine (awake_any Wx).mono ?_; rintro e Wy ⟨rfl, hb⟩; have STy := Lib.hid (STx.out.go hb); clear hb)
        go_ret
        exact ⟨by simp, STy.out.below⟩
end Go.Proofs.YtcnakbhogmnddaaDoor
