/- The law ExactSpread: the walk. No condition. -/
import Derived.Test.YtcnakbhogmnddaaDoorExOps
namespace Go.Proofs.YtcnakbhogmnddaaDoor
open Go.RowKit

theorem big_lt {x : Int} {k : Nat} (h : x.natAbs < 2 ^ k) (hk : k ≤ 512) : big x = false := by
  unfold big
  exact decide_eq_false (not_le_pow _ k 512 h hk)
theorem pow_up {a k m : Nat} (h : a < 2 ^ k) (hm : k ≤ m) : a < 2 ^ m := Nat.lt_of_lt_of_le h (pow_mono 2 k m (by decide) hm)
theorem abs_mul {x y : Int} {a b : Nat} (hx : x.natAbs < 2 ^ a) (hy : y.natAbs < 2 ^ b) : (x * y).natAbs < 2 ^ (a + b) := by
  rw [Int.natAbs_mul, Nat.pow_add]
  exact Nat.mul_lt_mul'' hx hy
theorem abs_add {x y : Int} {a : Nat} (hx : x.natAbs < 2 ^ a) (hy : y.natAbs < 2 ^ a) : (x + y).natAbs < 2 ^ (a + 1) := by
  rw [Nat.pow_succ]
  have := Int.natAbs_add_le x y
  omega
theorem addS {x y : Int} {a : Nat} (hx : x.natAbs < 2 ^ a) (hy : y.natAbs < 2 ^ a) (ha : a ≤ 511) : addK x y = 0 ∧ addV x y = x + y := by
  have h : bad1 x y (x + y) = false := by
    unfold bad1
    rw [big_lt hx (by omega), big_lt hy (by omega), big_lt (abs_add hx hy) (by omega)]
    rfl
  unfold addK addV
  rw [h]
  exact ⟨rfl, rfl⟩
theorem mulS {x y : Int} {a b : Nat} (hx : x.natAbs < 2 ^ a) (hy : y.natAbs < 2 ^ b) (ha : a + b ≤ 512) : mulK x y = 0 ∧ mulV x y = x * y := by
  have h : bad1 x y (x * y) = false := by
    unfold bad1
    rw [big_lt hx (by omega), big_lt hy (by omega), big_lt (abs_mul hx hy) (by omega)]
    rfl
  unfold mulK mulV
  rw [h]
  exact ⟨rfl, rfl⟩
theorem spread {x y z : Int} (hx : x.natAbs < 2 ^ 128) (hy : y.natAbs < 2 ^ 128) (hz : z.natAbs < 2 ^ 128) :
    addK y z = 0 ∧ mulK x (addV y z) = 0 ∧ mulK x y = 0 ∧ mulK x z = 0 ∧ addK (mulV x y) (mulV x z) = 0 ∧ mulV x (addV y z) = addV (mulV x y) (mulV x z) := by
  obtain ⟨a1, a2⟩ := addS hy hz (by decide)
  obtain ⟨b1, b2⟩ := mulS hx (abs_add hy hz) (by decide)
  obtain ⟨c1, c2⟩ := mulS hx hy (by decide)
  obtain ⟨d1, d2⟩ := mulS hx hz (by decide)
  obtain ⟨e1, e2⟩ := addS (abs_mul hx hy) (abs_mul hx hz) (by decide)
  rw [a2, c2, d2]
  exact ⟨a1, b1, c1, d1, e1, by rw [b2, e2, Int.mul_add]⟩
theorem abs_of {g : Bool} {z : List Nat} {n : Nat} {a : Option Addr} {w : World} (h : WordsAt w a n z) (hn : n ≤ 4) : (valI g z).natAbs < 2 ^ 128 := by
  rw [valI_abs]
  refine Nat.lt_of_lt_of_le (ofW_lt h.2.1) ?_
  rw [h.1, show (2 : Nat) ^ 128 = 4294967296 ^ 4 from Nat.pow_mul 2 32 4]
  exact Nat.pow_le_pow_right (by decide) hn

set_option maxRecDepth 100000 in
set_option maxHeartbeats 6400000 in
theorem exactSpread_any (g1 : Bool) (a1 : Option Addr) (n1 cap1 : Nat) (z1 : List Nat) (g2 : Bool) (a2 : Option Addr) (n2 cap2 : Nat) (z2 : List Nat) (g3 : Bool) (a3 : Option Addr) (n3 cap3 : Nat) (z3 : List Nat) (w : World) (h1 : WordsAt w a1 n1 z1 ∧ n1 ≤ cap1) (h2 : WordsAt w a2 n2 z2 ∧ n2 ≤ cap2) (h3 : WordsAt w a3 n3 z3 ∧ n3 ≤ cap3) :
    Calls Tryd.prog 11 #[.agg #[.bool g1, .slice a1 n1 cap1], .agg #[.bool g2, .slice a2 n2 cap2], .agg #[.bool g3, .slice a3 n3 cap3]] w fun e w' => e = .returned (.bool true) ∧ Below w.heap.size w w' := by
  have H1 := Lib.hid h1
  obtain ⟨x1, Hx1⟩ : ∃ x, Hid (valI g1 z1 = x) := ⟨_, Lib.hid rfl⟩
  have H2 := Lib.hid h2
  obtain ⟨x2, Hx2⟩ : ∃ x, Hid (valI g2 z2 = x) := ⟨_, Lib.hid rfl⟩
  have H3 := Lib.hid h3
  obtain ⟨x3, Hx3⟩ : ∃ x, Hid (valI g3 z3 = x) := ⟨_, Lib.hid rfl⟩
  have ST0 := Lib.hid (St.start w)
  clear h1 h2 h3
  go_enter Tryd.func11, Tryd.ntmps11
  go_wp2_with (go_at_call 35; refine hold ?_)
  obtain ⟨W1, HW1⟩ : ∃ W', Hid (W' = w.alloc (.cells #[.bool g1, .slice a1 n1 cap1] 25)) := ⟨_, Lib.hid rfl⟩
  obtain ⟨p1, Hp1⟩ : ∃ b, Hid (b = w.heap.size) := ⟨_, Lib.hid rfl⟩
  have ST2 := Lib.hid (ST0.out.box Hp1.out HW1.out)
  obtain ⟨W3, HW3⟩ : ∃ W', Hid (W' = W1.alloc (.cells #[.bool g2, .slice a2 n2 cap2] 25)) := ⟨_, Lib.hid rfl⟩
  obtain ⟨p2, Hp2⟩ : ∃ b, Hid (b = W1.heap.size) := ⟨_, Lib.hid rfl⟩
  have ST4 := Lib.hid (ST2.out.box Hp2.out HW3.out)
  obtain ⟨W5, HW5⟩ : ∃ W', Hid (W' = W3.alloc (.cells #[.bool g3, .slice a3 n3 cap3] 25)) := ⟨_, Lib.hid rfl⟩
  obtain ⟨p3, Hp3⟩ : ∃ b, Hid (b = W3.heap.size) := ⟨_, Lib.hid rfl⟩
  have ST6 := Lib.hid (ST4.out.box Hp3.out HW5.out)
  have hz2 : w.heap.size + 2 = p3 := by rw [Hp3.out, HW3.out, World.size_alloc, HW1.out, World.size_alloc]
  have hz1 : w.heap.size + 1 = p2 := by rw [Hp2.out, HW1.out, World.size_alloc]
  rw [← HW1.out, ← HW3.out, ← HW5.out]
  try rw [hz2]
  try rw [hz1]
  try rw [← Hp1.out]
  clear hz1 hz2
  refine Hold.mk ?_
  obtain ⟨t1, Ht1⟩ : ∃ t, Hid (decide (n1 ≤ 40) = t) := ⟨_, Lib.hid rfl⟩
  have K1 := Lib.hid (in_any g1 a1 n1 cap1 W5)
  rw [Ht1.out] at K1
  refine K1.out.mono ?_
  rintro e W7 ⟨rfl, hb⟩
  have ST8 := Lib.hid (ST6.out.go hb)
  clear hb
  cases t1 with
  | false =>
    go_wp2_with (go_at_call 36; refine hold ?_)
    refine Hold.mk ?_
    refine (awake_any W7).mono ?_
    rintro e W9 ⟨rfl, hb⟩
    have ST9 := Lib.hid (ST8.out.go hb)
    clear hb
    go_wp2_with fail
    go_ret
    exact ⟨rfl, ST9.out.below⟩
  | true =>
    obtain ⟨qp20, qp21⟩ := ST8.out.cells (b := p2) (n := g2) (s := .slice a2 n2 cap2) (by simp)
    go_wp2_with (go_at_call 35; refine hold ?_)
    refine Hold.mk ?_
    obtain ⟨t2, Ht2⟩ : ∃ t, Hid (decide (n2 ≤ 40) = t) := ⟨_, Lib.hid rfl⟩
    have K2 := Lib.hid (in_any g2 a2 n2 cap2 W7)
    rw [Ht2.out] at K2
    refine K2.out.mono ?_
    rintro e W10 ⟨rfl, hb⟩
    clear qp20 qp21
    have ST11 := Lib.hid (ST8.out.go hb)
    clear hb
    cases t2 with
    | false =>
      go_wp2_with (go_at_call 36; refine hold ?_)
      refine Hold.mk ?_
      refine (awake_any W10).mono ?_
      rintro e W12 ⟨rfl, hb⟩
      have ST12 := Lib.hid (ST11.out.go hb)
      clear hb
      go_wp2_with fail
      go_ret
      exact ⟨rfl, ST12.out.below⟩
    | true =>
      obtain ⟨qp30, qp31⟩ := ST11.out.cells (b := p3) (n := g3) (s := .slice a3 n3 cap3) (by simp)
      go_wp2_with (go_at_call 35; refine hold ?_)
      refine Hold.mk ?_
      obtain ⟨t3, Ht3⟩ : ∃ t, Hid (decide (n3 ≤ 40) = t) := ⟨_, Lib.hid rfl⟩
      have K3 := Lib.hid (in_any g3 a3 n3 cap3 W10)
      rw [Ht3.out] at K3
      refine K3.out.mono ?_
      rintro e W13 ⟨rfl, hb⟩
      clear qp30 qp31
      have ST14 := Lib.hid (ST11.out.go hb)
      clear hb
      cases t3 with
      | false =>
        go_wp2_with (go_at_call 36; refine hold ?_)
        refine Hold.mk ?_
        refine (awake_any W13).mono ?_
        rintro e W15 ⟨rfl, hb⟩
        have ST15 := Lib.hid (ST14.out.go hb)
        clear hb
        go_wp2_with fail
        go_ret
        exact ⟨rfl, ST15.out.below⟩
      | true =>
        have hn1 : n1 ≤ 40 := of_decide_eq_true Ht1.out
        have ST16 := Lib.hid (ST14.out.num (IntV.below (⟨a1, n1, cap1, rfl, H1.out.1, H1.out.2, by omega⟩ : IntV w (.agg #[.bool g1, .slice a1 n1 cap1]) g1 z1) ST14.out.below))
        clear hn1
        have hn2 : n2 ≤ 40 := of_decide_eq_true Ht2.out
        have ST17 := Lib.hid (ST16.out.num (IntV.below (⟨a2, n2, cap2, rfl, H2.out.1, H2.out.2, by omega⟩ : IntV w (.agg #[.bool g2, .slice a2 n2 cap2]) g2 z2) ST16.out.below))
        clear hn2
        have hn3 : n3 ≤ 40 := of_decide_eq_true Ht3.out
        have ST18 := Lib.hid (ST17.out.num (IntV.below (⟨a3, n3, cap3, rfl, H3.out.1, H3.out.2, by omega⟩ : IntV w (.agg #[.bool g3, .slice a3 n3 cap3]) g3 z3) ST17.out.below))
        clear hn3
        cases Nat.lt_or_ge 4 n1 with
        | inl q1 =>
          obtain ⟨qp30, qp31⟩ := ST18.out.cells (b := p3) (n := g3) (s := .slice a3 n3 cap3) (by simp)
          obtain ⟨qp20, qp21⟩ := ST18.out.cells (b := p2) (n := g2) (s := .slice a2 n2 cap2) (by simp)
          obtain ⟨qp10, qp11⟩ := ST18.out.cells (b := p1) (n := g1) (s := .slice a1 n1 cap1) (by simp)
          go_wp2_with (go_at_call 36; refine hold ?_)
          refine Hold.mk ?_
          refine (awake_any W13).mono ?_
          rintro e W19 ⟨rfl, hb⟩
          clear qp30 qp31 qp20 qp21 qp10 qp11
          have ST19 := Lib.hid (ST18.out.go hb)
          clear hb
          go_wp2_with fail
          go_ret
          exact ⟨rfl, ST19.out.below⟩
        | inr q1 =>
          cases Nat.lt_or_ge 4 n2 with
          | inl q2 =>
            obtain ⟨qp30, qp31⟩ := ST18.out.cells (b := p3) (n := g3) (s := .slice a3 n3 cap3) (by simp)
            obtain ⟨qp20, qp21⟩ := ST18.out.cells (b := p2) (n := g2) (s := .slice a2 n2 cap2) (by simp)
            obtain ⟨qp10, qp11⟩ := ST18.out.cells (b := p1) (n := g1) (s := .slice a1 n1 cap1) (by simp)
            go_wp2_with (go_at_call 36; refine hold ?_)
            refine Hold.mk ?_
            refine (awake_any W13).mono ?_
            rintro e W20 ⟨rfl, hb⟩
            clear qp30 qp31 qp20 qp21 qp10 qp11
            have ST20 := Lib.hid (ST18.out.go hb)
            clear hb
            go_wp2_with fail
            go_ret
            exact ⟨rfl, ST20.out.below⟩
          | inr q2 =>
            cases Nat.lt_or_ge 4 n3 with
            | inl q3 =>
              obtain ⟨qp30, qp31⟩ := ST18.out.cells (b := p3) (n := g3) (s := .slice a3 n3 cap3) (by simp)
              obtain ⟨qp20, qp21⟩ := ST18.out.cells (b := p2) (n := g2) (s := .slice a2 n2 cap2) (by simp)
              obtain ⟨qp10, qp11⟩ := ST18.out.cells (b := p1) (n := g1) (s := .slice a1 n1 cap1) (by simp)
              go_wp2_with (go_at_call 36; refine hold ?_)
              refine Hold.mk ?_
              refine (awake_any W13).mono ?_
              rintro e W21 ⟨rfl, hb⟩
              clear qp30 qp31 qp20 qp21 qp10 qp11
              have ST21 := Lib.hid (ST18.out.go hb)
              clear hb
              go_wp2_with fail
              go_ret
              exact ⟨rfl, ST21.out.below⟩
            | inr q3 =>
              have HS := Lib.hid (spread (Hx1.out ▸ abs_of H1.out.1 q1) (Hx2.out ▸ abs_of H2.out.1 q2) (Hx3.out ▸ abs_of H3.out.1 q3) : _)
              obtain ⟨qp30, qp31⟩ := ST18.out.cells (b := p3) (n := g3) (s := .slice a3 n3 cap3) (by simp)
              obtain ⟨qp20, qp21⟩ := ST18.out.cells (b := p2) (n := g2) (s := .slice a2 n2 cap2) (by simp)
              obtain ⟨qp10, qp11⟩ := ST18.out.cells (b := p1) (n := g1) (s := .slice a1 n1 cap1) (by simp)
              go_wp2_with (go_at_call 53; refine hold ?_)
              refine Hold.mk ?_
              refine (add_k (ST18.out.get (v := (.agg #[.bool g2, .slice a2 n2 cap2])) (g := g2) (z := z2) (by simp)) (ST18.out.get (v := (.agg #[.bool g3, .slice a3 n3 cap3])) (g := g3) (z := z3) (by simp)) Hx2.out Hx3.out).mono ?_
              rintro e W22 ⟨⟨n5, a5, c5, d5, k5, rfl, hk, hv⟩, hb⟩
              clear qp30 qp31 qp20 qp21 qp10 qp11
              have ST23 := Lib.hid (ST18.out.next hb hv)
              have Hk5 := Lib.hid hk
              clear hk hv hb
              have e5 : k5 = 0 := by rw [Hk5.out]; exact HS.out.1
              subst e5
              go_upto_region 4 with fail
              obtain ⟨W24, HW24⟩ : ∃ W', Hid (W' = W22.alloc (.cells #[.bool n5, .slice a5 c5 d5] 25)) := ⟨_, Lib.hid rfl⟩
              obtain ⟨b5, Hb5⟩ : ∃ b, Hid (b = W22.heap.size) := ⟨_, Lib.hid rfl⟩
              have ST25 := Lib.hid (ST23.out.box Hb5.out HW24.out)
              rw [← HW24.out]
              try rw [← Hb5.out]
              obtain ⟨qb50, qb51⟩ := ST25.out.cells (b := b5) (n := n5) (s := .slice a5 c5 d5) (by simp)
              obtain ⟨qp10, qp11⟩ := ST25.out.cells (b := p1) (n := g1) (s := .slice a1 n1 cap1) (by simp)
              go_wp2_with (go_at_call 48; refine hold ?_)
              refine Hold.mk ?_
              refine (mul_k (ST25.out.get (v := (.agg #[.bool g1, .slice a1 n1 cap1])) (g := g1) (z := z1) (by simp)) (ST25.out.get (v := (.agg #[.bool n5, .slice a5 c5 d5])) (g := decide (addV (x2) (x3) < 0)) (z := canW (addV (x2) (x3)).natAbs) (by simp)) Hx1.out (valI_can _)).mono ?_
              rintro e W26 ⟨⟨n7, a7, c7, d7, k7, rfl, hk, hv⟩, hb⟩
              clear qb50 qb51 qp10 qp11
              have ST27 := Lib.hid (ST25.out.next hb hv)
              have Hk7 := Lib.hid hk
              clear hk hv hb
              have e7 : k7 = 0 := by rw [Hk7.out]; exact HS.out.2.1
              subst e7
              go_upto_region 5 with fail
              obtain ⟨W28, HW28⟩ : ∃ W', Hid (W' = W26.alloc (.cells #[.bool n7, .slice a7 c7 d7] 25)) := ⟨_, Lib.hid rfl⟩
              obtain ⟨b7, Hb7⟩ : ∃ b, Hid (b = W26.heap.size) := ⟨_, Lib.hid rfl⟩
              have ST29 := Lib.hid (ST27.out.box Hb7.out HW28.out)
              rw [← HW28.out]
              try rw [← Hb7.out]
              obtain ⟨qp20, qp21⟩ := ST29.out.cells (b := p2) (n := g2) (s := .slice a2 n2 cap2) (by simp)
              obtain ⟨qp10, qp11⟩ := ST29.out.cells (b := p1) (n := g1) (s := .slice a1 n1 cap1) (by simp)
              go_wp2_with (go_at_call 48; refine hold ?_)
              refine Hold.mk ?_
              refine (mul_k (ST29.out.get (v := (.agg #[.bool g1, .slice a1 n1 cap1])) (g := g1) (z := z1) (by simp)) (ST29.out.get (v := (.agg #[.bool g2, .slice a2 n2 cap2])) (g := g2) (z := z2) (by simp)) Hx1.out Hx2.out).mono ?_
              rintro e W30 ⟨⟨n9, a9, c9, d9, k9, rfl, hk, hv⟩, hb⟩
              clear qp20 qp21 qp10 qp11
              have ST31 := Lib.hid (ST29.out.next hb hv)
              have Hk9 := Lib.hid hk
              clear hk hv hb
              have e9 : k9 = 0 := by rw [Hk9.out]; exact HS.out.2.2.1
              subst e9
              go_upto_region 6 with fail
              obtain ⟨W32, HW32⟩ : ∃ W', Hid (W' = W30.alloc (.cells #[.bool n9, .slice a9 c9 d9] 25)) := ⟨_, Lib.hid rfl⟩
              obtain ⟨b9, Hb9⟩ : ∃ b, Hid (b = W30.heap.size) := ⟨_, Lib.hid rfl⟩
              have ST33 := Lib.hid (ST31.out.box Hb9.out HW32.out)
              rw [← HW32.out]
              try rw [← Hb9.out]
              obtain ⟨qp30, qp31⟩ := ST33.out.cells (b := p3) (n := g3) (s := .slice a3 n3 cap3) (by simp)
              obtain ⟨qp10, qp11⟩ := ST33.out.cells (b := p1) (n := g1) (s := .slice a1 n1 cap1) (by simp)
              go_wp2_with (go_at_call 48; refine hold ?_)
              refine Hold.mk ?_
              refine (mul_k (ST33.out.get (v := (.agg #[.bool g1, .slice a1 n1 cap1])) (g := g1) (z := z1) (by simp)) (ST33.out.get (v := (.agg #[.bool g3, .slice a3 n3 cap3])) (g := g3) (z := z3) (by simp)) Hx1.out Hx3.out).mono ?_
              rintro e W34 ⟨⟨n11, a11, c11, d11, k11, rfl, hk, hv⟩, hb⟩
              clear qp30 qp31 qp10 qp11
              have ST35 := Lib.hid (ST33.out.next hb hv)
              have Hk11 := Lib.hid hk
              clear hk hv hb
              have e11 : k11 = 0 := by rw [Hk11.out]; exact HS.out.2.2.2.1
              subst e11
              go_upto_region 7 with fail
              obtain ⟨W36, HW36⟩ : ∃ W', Hid (W' = W34.alloc (.cells #[.bool n11, .slice a11 c11 d11] 25)) := ⟨_, Lib.hid rfl⟩
              obtain ⟨b11, Hb11⟩ : ∃ b, Hid (b = W34.heap.size) := ⟨_, Lib.hid rfl⟩
              have ST37 := Lib.hid (ST35.out.box Hb11.out HW36.out)
              rw [← HW36.out]
              try rw [← Hb11.out]
              obtain ⟨qb110, qb111⟩ := ST37.out.cells (b := b11) (n := n11) (s := .slice a11 c11 d11) (by simp)
              obtain ⟨qb90, qb91⟩ := ST37.out.cells (b := b9) (n := n9) (s := .slice a9 c9 d9) (by simp)
              go_wp2_with (go_at_call 53; refine hold ?_)
              refine Hold.mk ?_
              refine (add_k (ST37.out.get (v := (.agg #[.bool n9, .slice a9 c9 d9])) (g := decide (mulV (x1) (x2) < 0)) (z := canW (mulV (x1) (x2)).natAbs) (by simp)) (ST37.out.get (v := (.agg #[.bool n11, .slice a11 c11 d11])) (g := decide (mulV (x1) (x3) < 0)) (z := canW (mulV (x1) (x3)).natAbs) (by simp)) (valI_can _) (valI_can _)).mono ?_
              rintro e W38 ⟨⟨n13, a13, c13, d13, k13, rfl, hk, hv⟩, hb⟩
              clear qb110 qb111 qb90 qb91
              have ST39 := Lib.hid (ST37.out.next hb hv)
              have Hk13 := Lib.hid hk
              clear hk hv hb
              have e13 : k13 = 0 := by rw [Hk13.out]; exact HS.out.2.2.2.2.1
              subst e13
              go_upto_region 8 with fail
              obtain ⟨W40, HW40⟩ : ∃ W', Hid (W' = W38.alloc (.cells #[.bool n13, .slice a13 c13 d13] 25)) := ⟨_, Lib.hid rfl⟩
              obtain ⟨b13, Hb13⟩ : ∃ b, Hid (b = W38.heap.size) := ⟨_, Lib.hid rfl⟩
              have ST41 := Lib.hid (ST39.out.box Hb13.out HW40.out)
              rw [← HW40.out]
              try rw [← Hb13.out]
              obtain ⟨qb130, qb131⟩ := ST41.out.cells (b := b13) (n := n13) (s := .slice a13 c13 d13) (by simp)
              obtain ⟨qb70, qb71⟩ := ST41.out.cells (b := b7) (n := n7) (s := .slice a7 c7 d7) (by simp)
              have C0 := Lib.hid (whole_eq _ _ (mulV (x1) (addV (x2) (x3))) (addV (mulV (x1) (x2)) (mulV (x1) (x3))) W40 (ST41.out.getC (v := (.agg #[.bool n7, .slice a7 c7 d7])) (i := mulV (x1) (addV (x2) (x3))) (by simp)) (ST41.out.getC (v := (.agg #[.bool n13, .slice a13 c13 d13])) (i := addV (mulV (x1) (x2)) (mulV (x1) (x3))) (by simp)) HS.out.2.2.2.2.2)
              go_wp2_with (go_at_call 40; refine hold ?_)
              refine Hold.mk ?_
              refine C0.out.mono ?_
              rintro e Wz ⟨rfl, hb⟩
              clear qb130 qb131 qb70 qb71
              have ST43 := Lib.hid (ST41.out.go hb)
              clear hb
              go_wp2_with (go_at_call 36; refine hold ?_)
              refine Hold.mk ?_
              refine (awake_any Wz).mono ?_
              rintro e W44 ⟨rfl, hb⟩
              have ST44 := Lib.hid (ST43.out.go hb)
              clear hb
              go_wp2_with fail
              go_ret
              exact ⟨rfl, ST44.out.below⟩
end Go.Proofs.YtcnakbhogmnddaaDoor
