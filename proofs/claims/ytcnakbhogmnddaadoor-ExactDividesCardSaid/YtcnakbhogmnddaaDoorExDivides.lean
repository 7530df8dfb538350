/- The law ExactDivides: the walk. No condition. -/
import Derived.Test.YtcnakbhogmnddaaDoorRfQuo
import Derived.Test.YtcnakbhogmnddaaDoorRfBack
namespace Go.Proofs.YtcnakbhogmnddaaDoor
open Go.RowKit

set_option maxRecDepth 100000 in
set_option maxHeartbeats 6400000 in
theorem exactDivides_any (g1 : Bool) (a1 : Option Addr) (n1 cap1 : Nat) (z1 : List Nat) (g2 : Bool) (a2 : Option Addr) (n2 cap2 : Nat) (z2 : List Nat) (w : World) (h1 : WordsAt w a1 n1 z1 ∧ n1 ≤ cap1) (h2 : WordsAt w a2 n2 z2 ∧ n2 ≤ cap2) :
    Calls Tryd.prog 5 #[.agg #[.bool g1, .slice a1 n1 cap1], .agg #[.bool g2, .slice a2 n2 cap2]] w fun e w' => e = .returned (.bool true) ∧ Below w.heap.size w w' := by
  have H1 := Lib.hid h1
  obtain ⟨x1, Hx1⟩ : ∃ x, Hid (valI g1 z1 = x) := ⟨_, Lib.hid rfl⟩
  have H2 := Lib.hid h2
  obtain ⟨x2, Hx2⟩ : ∃ x, Hid (valI g2 z2 = x) := ⟨_, Lib.hid rfl⟩
  have ST0 := Lib.hid (St.start w)
  clear h1 h2
  go_enter Tryd.func5, Tryd.ntmps5
  go_wp2_with (go_at_call 35; refine hold ?_)
  obtain ⟨W1, HW1⟩ : ∃ W', Hid (W' = w.alloc (.cells #[.bool g1, .slice a1 n1 cap1] 25)) := ⟨_, Lib.hid rfl⟩
  obtain ⟨p1, Hp1⟩ : ∃ b, Hid (b = w.heap.size) := ⟨_, Lib.hid rfl⟩
  have ST2 := Lib.hid (ST0.out.box Hp1.out HW1.out)
  obtain ⟨W3, HW3⟩ : ∃ W', Hid (W' = W1.alloc (.cells #[.bool g2, .slice a2 n2 cap2] 25)) := ⟨_, Lib.hid rfl⟩
  obtain ⟨p2, Hp2⟩ : ∃ b, Hid (b = W1.heap.size) := ⟨_, Lib.hid rfl⟩
  have ST4 := Lib.hid (ST2.out.box Hp2.out HW3.out)
  have hz1 : w.heap.size + 1 = p2 := by rw [Hp2.out, HW1.out, World.size_alloc]
  rw [← HW1.out, ← HW3.out]
  try rw [hz1]
  try rw [← Hp1.out]
  clear hz1
  refine Hold.mk ?_
  obtain ⟨t1, Ht1⟩ : ∃ t, Hid (decide (n1 ≤ 40) = t) := ⟨_, Lib.hid rfl⟩
  have K1 := Lib.hid (in_any g1 a1 n1 cap1 W3)
  rw [Ht1.out] at K1
  refine K1.out.mono ?_
  rintro e W5 ⟨rfl, hb⟩
  have ST6 := Lib.hid (ST4.out.go hb)
  clear hb
  cases t1 with
  | false =>
    go_wp2_with (go_at_call 36; refine hold ?_)
    refine Hold.mk ?_
    refine (awake_any W5).mono ?_
    rintro e W7 ⟨rfl, hb⟩
    have ST7 := Lib.hid (ST6.out.go hb)
    clear hb
    go_wp2_with fail
    go_ret
    exact ⟨rfl, ST7.out.below⟩
  | true =>
    obtain ⟨qp20, qp21⟩ := ST6.out.cells (b := p2) (n := g2) (s := .slice a2 n2 cap2) (by simp)
    go_wp2_with (go_at_call 35; refine hold ?_)
    refine Hold.mk ?_
    obtain ⟨t2, Ht2⟩ : ∃ t, Hid (decide (n2 ≤ 40) = t) := ⟨_, Lib.hid rfl⟩
    have K2 := Lib.hid (in_any g2 a2 n2 cap2 W5)
    rw [Ht2.out] at K2
    refine K2.out.mono ?_
    rintro e W8 ⟨rfl, hb⟩
    clear qp20 qp21
    have ST9 := Lib.hid (ST6.out.go hb)
    clear hb
    cases t2 with
    | false =>
      go_wp2_with (go_at_call 36; refine hold ?_)
      refine Hold.mk ?_
      refine (awake_any W8).mono ?_
      rintro e W10 ⟨rfl, hb⟩
      have ST10 := Lib.hid (ST9.out.go hb)
      clear hb
      go_wp2_with fail
      go_ret
      exact ⟨rfl, ST10.out.below⟩
    | true =>
      have hn1 : n1 ≤ 40 := of_decide_eq_true Ht1.out
      have ST11 := Lib.hid (ST9.out.num (IntV.below (⟨a1, n1, cap1, rfl, H1.out.1, H1.out.2, by omega⟩ : IntV w (.agg #[.bool g1, .slice a1 n1 cap1]) g1 z1) ST9.out.below))
      clear hn1
      have hn2 : n2 ≤ 40 := of_decide_eq_true Ht2.out
      have ST12 := Lib.hid (ST11.out.num (IntV.below (⟨a2, n2, cap2, rfl, H2.out.1, H2.out.2, by omega⟩ : IntV w (.agg #[.bool g2, .slice a2 n2 cap2]) g2 z2) ST11.out.below))
      clear hn2
      obtain ⟨qp20, qp21⟩ := ST12.out.cells (b := p2) (n := g2) (s := .slice a2 n2 cap2) (by simp)
      obtain ⟨qp10, qp11⟩ := ST12.out.cells (b := p1) (n := g1) (s := .slice a1 n1 cap1) (by simp)
      go_wp2_with (go_at_call 37; refine hold ?_)
      refine Hold.mk ?_
      have C13 := Lib.hid (lent_any (ST12.out.get (v := (.agg #[.bool g1, .slice a1 n1 cap1])) (g := g1) (z := z1) (by simp)) (by have := H1.out.1.1; have := of_decide_eq_true Ht1.out; omega))
      rw [show z1.length = n1 from H1.out.1.1] at C13
      refine C13.out.mono ?_
      rintro e W13 ⟨⟨a5, c5, rfl, hv, hu⟩, hb⟩
      clear qp20 qp21 qp10 qp11
      have ST14 := Lib.hid ((ST12.out.next hb hv).num hu)
      clear hb hv hu
      go_upto_region 4 with fail
      obtain ⟨W15, HW15⟩ : ∃ W', Hid (W' = W13.alloc (.cells #[.bool g1, .slice (some a5) n1 c5] 25)) := ⟨_, Lib.hid rfl⟩
      obtain ⟨b5, Hb5⟩ : ∃ b, Hid (b = W13.heap.size) := ⟨_, Lib.hid rfl⟩
      have ST16 := Lib.hid (ST14.out.box Hb5.out HW15.out)
      rw [← HW15.out]
      try rw [← Hb5.out]
      obtain ⟨qp20, qp21⟩ := ST16.out.cells (b := p2) (n := g2) (s := .slice a2 n2 cap2) (by simp)
      obtain ⟨qp10, qp11⟩ := ST16.out.cells (b := p1) (n := g1) (s := .slice a1 n1 cap1) (by simp)
      go_wp2_with (go_at_call 37; refine hold ?_)
      refine Hold.mk ?_
      have C17 := Lib.hid (lent_any (ST16.out.get (v := (.agg #[.bool g2, .slice a2 n2 cap2])) (g := g2) (z := z2) (by simp)) (by have := H2.out.1.1; have := of_decide_eq_true Ht2.out; omega))
      rw [show z2.length = n2 from H2.out.1.1] at C17
      refine C17.out.mono ?_
      rintro e W17 ⟨⟨a6, c6, rfl, hv, hu⟩, hb⟩
      clear qp20 qp21 qp10 qp11
      have ST18 := Lib.hid ((ST16.out.next hb hv).num hu)
      clear hb hv hu
      go_upto_region 5 with fail
      obtain ⟨W19, HW19⟩ : ∃ W', Hid (W' = W17.alloc (.cells #[.bool g2, .slice (some a6) n2 c6] 25)) := ⟨_, Lib.hid rfl⟩
      obtain ⟨b6, Hb6⟩ : ∃ b, Hid (b = W17.heap.size) := ⟨_, Lib.hid rfl⟩
      have ST20 := Lib.hid (ST18.out.box Hb6.out HW19.out)
      rw [← HW19.out]
      try rw [← Hb6.out]
      obtain ⟨qb60, qb61⟩ := ST20.out.cells (b := b6) (n := g2) (s := .slice (some a6) n2 c6) (by simp)
      obtain ⟨qb50, qb51⟩ := ST20.out.cells (b := b5) (n := g1) (s := .slice (some a5) n1 c5) (by simp)
      go_wp2_with (go_at_call 38; refine hold ?_)
      refine Hold.mk ?_
      refine (quo_k (ST20.out.get (v := (.agg #[.bool g1, .slice (some a5) n1 c5])) (g := g1) (z := z1) (by simp)) (ST20.out.get (v := (.agg #[.bool g2, .slice (some a6) n2 c6])) (g := g2) (z := z2) (by simp)) Hx1.out Hx2.out).mono ?_
      rintro e W21 ⟨⟨n7, a7, c7, d7, n8, a8, c8, d8, k7, rfl, hk, hv, hu⟩, hb⟩
      clear qb60 qb61 qb50 qb51
      have Hk7 := Lib.hid hk
      have ST22 := Lib.hid ((ST20.out.next hb hv).num hu)
      clear hk hv hu hb
      go_upto_region 6 with fail
      obtain ⟨W23, HW23⟩ : ∃ W', Hid (W' = W21.alloc (.cells #[.bool n7, .slice a7 c7 d7] 25)) := ⟨_, Lib.hid rfl⟩
      obtain ⟨b7, Hb7⟩ : ∃ b, Hid (b = W21.heap.size) := ⟨_, Lib.hid rfl⟩
      have ST24 := Lib.hid (ST22.out.box Hb7.out HW23.out)
      obtain ⟨W25, HW25⟩ : ∃ W', Hid (W' = W23.alloc (.cells #[.bool n8, .slice a8 c8 d8] 25)) := ⟨_, Lib.hid rfl⟩
      obtain ⟨b8, Hb8⟩ : ∃ b, Hid (b = W23.heap.size) := ⟨_, Lib.hid rfl⟩
      have ST26 := Lib.hid (ST24.out.box Hb8.out HW25.out)
      have hz1 : W21.heap.size + 1 = b8 := by rw [Hb8.out, HW23.out, World.size_alloc]
      rw [← HW23.out, ← HW25.out]
      try rw [hz1]
      try rw [← Hb7.out]
      clear hz1
      obtain ⟨qp20, qp21⟩ := ST26.out.cells (b := p2) (n := g2) (s := .slice a2 n2 cap2) (by simp)
      obtain ⟨qp10, qp11⟩ := ST26.out.cells (b := p1) (n := g1) (s := .slice a1 n1 cap1) (by simp)
      go_wp2_with (go_at_call 39; refine hold ?_)
      refine Hold.mk ?_
      refine (rquo_k (ST26.out.get (v := (.agg #[.bool g1, .slice a1 n1 cap1])) (g := g1) (z := z1) (by simp)) (ST26.out.get (v := (.agg #[.bool g2, .slice a2 n2 cap2])) (g := g2) (z := z2) (by simp)) Hx1.out Hx2.out).mono ?_
      rintro e W27 ⟨⟨n10, a10, c10, d10, n11, a11, c11, d11, k10, rfl, hk, hv, hu⟩, hb⟩
      clear qp20 qp21 qp10 qp11
      have Hk10 := Lib.hid hk
      have ST28 := Lib.hid ((ST26.out.next hb hv).num hu)
      clear hk hv hu hb
      go_upto_region 7 with fail
      obtain ⟨W29, HW29⟩ : ∃ W', Hid (W' = W27.alloc (.cells #[.bool n10, .slice a10 c10 d10] 25)) := ⟨_, Lib.hid rfl⟩
      obtain ⟨b10, Hb10⟩ : ∃ b, Hid (b = W27.heap.size) := ⟨_, Lib.hid rfl⟩
      have ST30 := Lib.hid (ST28.out.box Hb10.out HW29.out)
      obtain ⟨W31, HW31⟩ : ∃ W', Hid (W' = W29.alloc (.cells #[.bool n11, .slice a11 c11 d11] 25)) := ⟨_, Lib.hid rfl⟩
      obtain ⟨b11, Hb11⟩ : ∃ b, Hid (b = W29.heap.size) := ⟨_, Lib.hid rfl⟩
      have ST32 := Lib.hid (ST30.out.box Hb11.out HW31.out)
      have hz1 : W27.heap.size + 1 = b11 := by rw [Hb11.out, HW29.out, World.size_alloc]
      rw [← HW29.out, ← HW31.out]
      try rw [hz1]
      try rw [← Hb10.out]
      clear hz1
      have e10 : k10 = k7 := by rw [Hk10.out, Hk7.out]
      subst e10
      obtain ⟨qb100, qb101⟩ := ST32.out.cells (b := b10) (n := n10) (s := .slice a10 c10 d10) (by simp)
      obtain ⟨qb70, qb71⟩ := ST32.out.cells (b := b7) (n := n7) (s := .slice a7 c7 d7) (by simp)
      go_wp2_with (go_at_call 40; refine hold ?_)
      refine Hold.mk ?_
      refine (whole_eq _ _ (quoV x1 x2) (quoV x1 x2) W31 (ST32.out.getC (v := (.agg #[.bool n7, .slice a7 c7 d7])) (i := quoV x1 x2) (by simp)) (ST32.out.getC (v := (.agg #[.bool n10, .slice a10 c10 d10])) (i := quoV x1 x2) (by simp)) rfl).mono ?_
      rintro e W33 ⟨rfl, hb⟩
      clear qb100 qb101 qb70 qb71
      have ST34 := Lib.hid (ST32.out.go hb)
      clear hb
      obtain ⟨qb110, qb111⟩ := ST34.out.cells (b := b11) (n := n11) (s := .slice a11 c11 d11) (by simp)
      obtain ⟨qb80, qb81⟩ := ST34.out.cells (b := b8) (n := n8) (s := .slice a8 c8 d8) (by simp)
      go_wp2_with (go_at_call 40; refine hold ?_)
      refine Hold.mk ?_
      refine (whole_eq _ _ (remV x1 x2) (remV x1 x2) W33 (ST34.out.getC (v := (.agg #[.bool n8, .slice a8 c8 d8])) (i := remV x1 x2) (by simp)) (ST34.out.getC (v := (.agg #[.bool n11, .slice a11 c11 d11])) (i := remV x1 x2) (by simp)) rfl).mono ?_
      rintro e W35 ⟨rfl, hb⟩
      clear qb110 qb111 qb80 qb81
      have ST36 := Lib.hid (ST34.out.go hb)
      clear hb
      obtain ⟨qb50, qb51⟩ := ST36.out.cells (b := b5) (n := g1) (s := .slice (some a5) n1 c5) (by simp)
      obtain ⟨qp10, qp11⟩ := ST36.out.cells (b := p1) (n := g1) (s := .slice a1 n1 cap1) (by simp)
      go_wp2_with (go_at_call 41; refine hold ?_)
      refine Hold.mk ?_
      refine (kept_any (ST36.out.get (v := (.agg #[.bool g1, .slice (some a5) n1 c5])) (g := g1) (z := z1) (by simp)) (ST36.out.get (v := (.agg #[.bool g1, .slice (some a5) (n1 + 1) c5])) (g := g1) (z := (z1 ++ [77])) (by simp)) (ST36.out.get (v := (.agg #[.bool g1, .slice a1 n1 cap1])) (g := g1) (z := z1) (by simp))).mono ?_
      rintro e W37 ⟨rfl, hb⟩
      clear qb50 qb51 qp10 qp11
      have ST38 := Lib.hid (ST36.out.go hb)
      clear hb
      obtain ⟨qb60, qb61⟩ := ST38.out.cells (b := b6) (n := g2) (s := .slice (some a6) n2 c6) (by simp)
      obtain ⟨qp20, qp21⟩ := ST38.out.cells (b := p2) (n := g2) (s := .slice a2 n2 cap2) (by simp)
      go_wp2_with (go_at_call 41; refine hold ?_)
      refine Hold.mk ?_
      refine (kept_any (ST38.out.get (v := (.agg #[.bool g2, .slice (some a6) n2 c6])) (g := g2) (z := z2) (by simp)) (ST38.out.get (v := (.agg #[.bool g2, .slice (some a6) (n2 + 1) c6])) (g := g2) (z := (z2 ++ [77])) (by simp)) (ST38.out.get (v := (.agg #[.bool g2, .slice a2 n2 cap2])) (g := g2) (z := z2) (by simp))).mono ?_
      rintro e W39 ⟨rfl, hb⟩
      clear qb60 qb61 qp20 qp21
      have ST40 := Lib.hid (ST38.out.go hb)
      clear hb
      go_wp2_with (go_at_call 36; refine hold ?_)
      refine Hold.mk ?_
      refine (awake_any W39).mono ?_
      rintro e W41 ⟨rfl, hb⟩
      have ST41 := Lib.hid (ST40.out.go hb)
      clear hb
      go_wp2_with fail
      go_ret
      exact ⟨rfl, ST41.out.below⟩
end Go.Proofs.YtcnakbhogmnddaaDoor
