/- The law ExactProducts: the walk. No condition. -/
import Derived.Test.YtcnakbhogmnddaaDoorExOps
import Derived.Test.YtcnakbhogmnddaaDoorRegQ
import Derived.Test.YtcnakbhogmnddaaDoorRfMul
namespace Go.Proofs.YtcnakbhogmnddaaDoor
open Go.RowKit

theorem rmul_k {v1 v2 : Value} {g1 g2 : Bool} {z1 z2 : List Nat} {w : World} {x y : Int} (h1 : IntV w v1 g1 z1) (h2 : IntV w v2 g2 z2) (hx : valI g1 z1 = x) (hy : valI g2 z2 = y) : Calls Tryd.prog 49 #[v1, v2] w fun e w' => Told w' e (mulK x y) (mulV x y) ∧ Below w.heap.size w w' := by
  subst hx
  subst hy
  exact (rmul_any v1 v2 g1 g2 z1 z2 w h1 h2).mono fun e w' h => ⟨told_of h.1, h.2⟩

set_option maxRecDepth 100000 in
set_option maxHeartbeats 6400000 in
theorem exactProducts_any (g1 : Bool) (a1 : Option Addr) (n1 cap1 : Nat) (z1 : List Nat) (g2 : Bool) (a2 : Option Addr) (n2 cap2 : Nat) (z2 : List Nat) (w : World) (h1 : WordsAt w a1 n1 z1 ∧ n1 ≤ cap1) (h2 : WordsAt w a2 n2 z2 ∧ n2 ≤ cap2) :
    Calls Tryd.prog 7 #[.agg #[.bool g1, .slice a1 n1 cap1], .agg #[.bool g2, .slice a2 n2 cap2]] w fun e w' => e = .returned (.bool true) ∧ Below w.heap.size w w' := by
  have H1 := Lib.hid h1
  obtain ⟨x1, Hx1⟩ : ∃ x, Hid (valI g1 z1 = x) := ⟨_, Lib.hid rfl⟩
  have H2 := Lib.hid h2
  obtain ⟨x2, Hx2⟩ : ∃ x, Hid (valI g2 z2 = x) := ⟨_, Lib.hid rfl⟩
  have ST0 := Lib.hid (St.start w)
  clear h1 h2
  go_enter Tryd.func7, Tryd.ntmps7
  go_wp2_with (go_at_call 35; refine hold ?_)
  obtain ⟨W1, HW1⟩ : ∃ W', Hid (W' = w.alloc (.cells #[.bool g1, .slice a1 n1 cap1] 25)) := ⟨_, Lib.hid rfl⟩
  obtain ⟨p1, Hp1⟩ : ∃ b, Hid (b = w.heap.size) := ⟨_, Lib.hid rfl⟩
  have ST2 := Lib.hid (ST0.out.box Hp1.out HW1.out)
  obtain ⟨W3, HW3⟩ : ∃ W', Hid (W' = W1.alloc (.cells #[.bool g2, .slice a2 n2 cap2] 25)) := ⟨_, Lib.hid rfl⟩
  obtain ⟨p2, Hp2⟩ : ∃ b, Hid (b = W1.heap.size) := ⟨_, Lib.hid rfl⟩
  have ST4 := Lib.hid (ST2.out.box Hp2.out HW3.out)
  have hz1 : w.heap.size + 1 = p2 := by rw [Hp2.out, HW1.out, World.size_alloc]
  rw [← HW1.out, ← HW3.out]
  try rw [hz1]
  try rw [← Hp1.out]
  clear hz1
  refine Hold.mk ?_
  obtain ⟨t1, Ht1⟩ : ∃ t, Hid (decide (n1 ≤ 40) = t) := ⟨_, Lib.hid rfl⟩
  have K1 := Lib.hid (in_any g1 a1 n1 cap1 W3)
  rw [Ht1.out] at K1
  refine K1.out.mono ?_
  rintro e W5 ⟨rfl, hb⟩
  have ST6 := Lib.hid (ST4.out.go hb)
  clear hb
  cases t1 with
  | false =>
    go_wp2_with (go_at_call 36; refine hold ?_)
    refine Hold.mk ?_
    refine (awake_any W5).mono ?_
    rintro e W7 ⟨rfl, hb⟩
    have ST7 := Lib.hid (ST6.out.go hb)
    clear hb
    go_wp2_with fail
    go_ret
    exact ⟨rfl, ST7.out.below⟩
  | true =>
    obtain ⟨qp20, qp21⟩ := ST6.out.cells (b := p2) (n := g2) (s := .slice a2 n2 cap2) (by simp)
    go_wp2_with (go_at_call 35; refine hold ?_)
    refine Hold.mk ?_
    obtain ⟨t2, Ht2⟩ : ∃ t, Hid (decide (n2 ≤ 40) = t) := ⟨_, Lib.hid rfl⟩
    have K2 := Lib.hid (in_any g2 a2 n2 cap2 W5)
    rw [Ht2.out] at K2
    refine K2.out.mono ?_
    rintro e W8 ⟨rfl, hb⟩
    clear qp20 qp21
    have ST9 := Lib.hid (ST6.out.go hb)
    clear hb
    cases t2 with
    | false =>
      go_wp2_with (go_at_call 36; refine hold ?_)
      refine Hold.mk ?_
      refine (awake_any W8).mono ?_
      rintro e W10 ⟨rfl, hb⟩
      have ST10 := Lib.hid (ST9.out.go hb)
      clear hb
      go_wp2_with fail
      go_ret
      exact ⟨rfl, ST10.out.below⟩
    | true =>
      have hn1 : n1 ≤ 40 := of_decide_eq_true Ht1.out
      have ST11 := Lib.hid (ST9.out.num (IntV.below (⟨a1, n1, cap1, rfl, H1.out.1, H1.out.2, by omega⟩ : IntV w (.agg #[.bool g1, .slice a1 n1 cap1]) g1 z1) ST9.out.below))
      clear hn1
      have hn2 : n2 ≤ 40 := of_decide_eq_true Ht2.out
      have ST12 := Lib.hid (ST11.out.num (IntV.below (⟨a2, n2, cap2, rfl, H2.out.1, H2.out.2, by omega⟩ : IntV w (.agg #[.bool g2, .slice a2 n2 cap2]) g2 z2) ST11.out.below))
      clear hn2
      obtain ⟨qp20, qp21⟩ := ST12.out.cells (b := p2) (n := g2) (s := .slice a2 n2 cap2) (by simp)
      obtain ⟨qp10, qp11⟩ := ST12.out.cells (b := p1) (n := g1) (s := .slice a1 n1 cap1) (by simp)
      go_wp2_with (go_at_call 48; refine hold ?_)
      refine Hold.mk ?_
      refine (mul_k (ST12.out.get (v := (.agg #[.bool g1, .slice a1 n1 cap1])) (g := g1) (z := z1) (by simp)) (ST12.out.get (v := (.agg #[.bool g2, .slice a2 n2 cap2])) (g := g2) (z := z2) (by simp)) Hx1.out Hx2.out).mono ?_
      rintro e W13 ⟨⟨n5, a5, c5, d5, k5, rfl, hk, hv⟩, hb⟩
      clear qp20 qp21 qp10 qp11
      have ST14 := Lib.hid (ST12.out.next hb hv)
      have Hk5 := Lib.hid hk
      clear hk hv hb
      go_upto_region 4 with fail
      obtain ⟨W15, HW15⟩ : ∃ W', Hid (W' = W13.alloc (.cells #[.bool n5, .slice a5 c5 d5] 25)) := ⟨_, Lib.hid rfl⟩
      obtain ⟨b5, Hb5⟩ : ∃ b, Hid (b = W13.heap.size) := ⟨_, Lib.hid rfl⟩
      have ST16 := Lib.hid (ST14.out.box Hb5.out HW15.out)
      rw [← HW15.out]
      try rw [← Hb5.out]
      obtain ⟨qp20, qp21⟩ := ST16.out.cells (b := p2) (n := g2) (s := .slice a2 n2 cap2) (by simp)
      obtain ⟨qp10, qp11⟩ := ST16.out.cells (b := p1) (n := g1) (s := .slice a1 n1 cap1) (by simp)
      go_wp2_with (go_at_call 49; refine hold ?_)
      refine Hold.mk ?_
      refine (rmul_k (ST16.out.get (v := (.agg #[.bool g1, .slice a1 n1 cap1])) (g := g1) (z := z1) (by simp)) (ST16.out.get (v := (.agg #[.bool g2, .slice a2 n2 cap2])) (g := g2) (z := z2) (by simp)) Hx1.out Hx2.out).mono ?_
      rintro e W17 ⟨⟨n7, a7, c7, d7, k7, rfl, hk, hv⟩, hb⟩
      clear qp20 qp21 qp10 qp11
      have ST18 := Lib.hid (ST16.out.next hb hv)
      have Hk7 := Lib.hid hk
      clear hk hv hb
      go_upto_region 5 with fail
      obtain ⟨W19, HW19⟩ : ∃ W', Hid (W' = W17.alloc (.cells #[.bool n7, .slice a7 c7 d7] 25)) := ⟨_, Lib.hid rfl⟩
      obtain ⟨b7, Hb7⟩ : ∃ b, Hid (b = W17.heap.size) := ⟨_, Lib.hid rfl⟩
      have ST20 := Lib.hid (ST18.out.box Hb7.out HW19.out)
      rw [← HW19.out]
      try rw [← Hb7.out]
      have e7 : k7 = k5 := by rw [Hk7.out, Hk5.out]
      subst e7
      obtain ⟨qb70, qb71⟩ := ST20.out.cells (b := b7) (n := n7) (s := .slice a7 c7 d7) (by simp)
      obtain ⟨qb50, qb51⟩ := ST20.out.cells (b := b5) (n := n5) (s := .slice a5 c5 d5) (by simp)
      have C0 := Lib.hid (whole_eq _ _ (mulV (x1) (x2)) (mulV (x1) (x2)) W19 (ST20.out.getC (v := (.agg #[.bool n5, .slice a5 c5 d5])) (i := mulV (x1) (x2)) (by simp)) (ST20.out.getC (v := (.agg #[.bool n7, .slice a7 c7 d7])) (i := mulV (x1) (x2)) (by simp)) rfl)
      go_wp2_with (go_at_call 40; refine hold ?_)
      refine Hold.mk ?_
      refine C0.out.mono ?_
      rintro e Wz ⟨rfl, hb⟩
      clear qb70 qb71 qb50 qb51
      have ST21 := Lib.hid (ST20.out.go hb)
      clear hb
      go_wp2_with (go_at_call 36; refine hold ?_)
      refine Hold.mk ?_
      refine (awake_any Wz).mono ?_
      rintro e W22 ⟨rfl, hb⟩
      have ST22 := Lib.hid (ST21.out.go hb)
      clear hb
      go_wp2_with fail
      go_ret
      exact ⟨rfl, ST22.out.below⟩
end Go.Proofs.YtcnakbhogmnddaaDoor
