/- The law ExactBack: the walk. No condition. -/
import Derived.Test.YtcnakbhogmnddaaDoorExOps
import Derived.Test.YtcnakbhogmnddaaDoorRegQ
namespace Go.Proofs.YtcnakbhogmnddaaDoor
open Go.RowKit

theorem St.old {w W : World} {LB : List (Nat × Bool × Value)} {LN : List (Value × Bool × List Nat)} (h : St w W LB LN) {B : Nat} (hB : B = W.heap.size) : (∀ x ∈ LB, x.1 ≠ B) ∧ w.heap.size ≤ B := by
  subst hB
  exact ⟨fun x hx => Nat.ne_of_lt (Array.getElem?_eq_some_iff.1 (h.boxes x hx)).1, h.below.size⟩
theorem St.store {w W W' : World} {LB : List (Nat × Bool × Value)} {LN : List (Value × Bool × List Nat)} {b n1 c1 : Nat} {a1 : Option Addr} {n n' : Bool} {s' : Value} (h : St w W ((b, n, .slice a1 n1 c1) :: LB) LN) (hne : (∀ x ∈ LB, x.1 ≠ b) ∧ w.heap.size ≤ b)
    (hW : W' = (W.setCell ⟨b, 0, none⟩ (.bool n')).setCell ⟨b, 1, none⟩ s') : St w W' ((b, n', s') :: LB) LN := by
  subst hW
  have q := h.boxes _ (List.mem_cons_self ..)
  refine ⟨(h.below.setCell hne.2 _).setCell hne.2 _, fun x hx => ?_, fun x hx => ?_⟩
  · rcases List.mem_cons.1 hx with rfl | hx
    · exact (setCell_same2 (setCell_same2 q _) _).trans rfl
    · exact (Below.heap_setCell _ _ _ _ (hne.1 x hx)).trans ((Below.heap_setCell _ _ _ _ (hne.1 x hx)).trans (h.boxes x (List.mem_cons_of_mem _ hx)))
  · obtain ⟨a, m, c, e, hw, hr⟩ := h.nums x hx
    exact ⟨a, m, c, e, hw.box q _ _, hr⟩
theorem big_mono {a x : Int} (h : big x = false) (hle : a.natAbs ≤ x.natAbs) : big a = false := by
  unfold big at *
  exact decide_eq_false fun h2 => (of_decide_eq_false h) (Nat.le_trans h2 hle)
theorem quo_back {x y : Int} (h : quoK x y = 0) : mulK (quoV x y) y = 0 ∧ addK (mulV (quoV x y) y) (remV x y) = 0 ∧ addV (mulV (quoV x y) y) (remV x y) = x ∧ (remV x y).natAbs < y.natAbs ∧ y ≠ 0 ∧ (remV x y < 0 → x < 0) ∧ (0 < remV x y → 0 < x) := by
  have hq : quoV x y = x.tdiv y := by unfold quoV; rw [if_pos h]
  have hr : remV x y = x.tmod y := by unfold remV; rw [if_pos h]
  rw [hq, hr]
  unfold quoK at h
  cases hx : big x with
  | true => rw [hx] at h; cases h
  | false =>
    cases hy : big y with
    | true => rw [hx, hy] at h; cases h
    | false =>
      rw [hx, hy] at h
      have hy0 : y ≠ 0 := fun e => by rw [if_neg (by decide), if_pos e] at h; cases h
      have ep : y * x.tdiv y + x.tmod y = x := Int.mul_tdiv_add_tmod x y
      rw [Int.mul_comm] at ep
      have e1 : (x.tdiv y).natAbs = x.natAbs / y.natAbs := Int.natAbs_tdiv x y
      have e2 : (x.tmod y).natAbs = x.natAbs % y.natAbs := Int.natAbs_tmod x y
      have e3 : (x.tdiv y * y).natAbs ≤ x.natAbs := by rw [Int.natAbs_mul, e1]; exact Nat.div_mul_le_self _ _
      have b1 := big_mono hx (a := x.tdiv y) (by rw [e1]; exact Nat.div_le_self _ _)
      have b2 := big_mono hx e3
      have b3 := big_mono hx (a := x.tmod y) (by rw [e2]; exact Nat.mod_le _ _)
      have m1 : bad1 (x.tdiv y) y (x.tdiv y * y) = false := by unfold bad1; rw [b1, hy, b2]; rfl
      have m2 : mulV (x.tdiv y) y = x.tdiv y * y := by unfold mulV; rw [m1]; rfl
      have m3 : bad1 (x.tdiv y * y) (x.tmod y) (x.tdiv y * y + x.tmod y) = false := by unfold bad1; rw [b2, b3, ep, hx]; rfl
      rw [m2]
      refine ⟨by unfold mulK; rw [m1]; rfl, by unfold addK; rw [m3]; rfl, by unfold addV; rw [m3]; exact ep, ?_, hy0, fun hr => ?_, fun hr => ?_⟩
      · rw [e2]
        exact Nat.mod_lt _ (by omega)
      · refine Int.not_le.1 fun h0 => ?_
        have := Int.tmod_nonneg y h0
        omega
      · refine Int.not_le.1 fun h0 => ?_
        have := Int.tmod_nonneg y (show 0 ≤ -x by omega)
        rw [Int.neg_tmod] at this
        omega
theorem quoK_three (x y : Int) : quoK x y = 0 ∨ quoK x y = 2 ∨ quoK x y = 5 := by
  unfold quoK
  split
  · exact .inr (.inl rfl)
  · split
    · exact .inr (.inr rfl)
    · exact .inl rfl
theorem cmpI_lo {x y : Int} (h : x < y) : cmpI x y = -1 := by unfold cmpI; rw [if_pos h]
theorem cmpI_hi {x y : Int} (h : y < x) : cmpI x y = 1 := by unfold cmpI; rw [if_neg (by omega), if_neg (by omega)]

set_option maxRecDepth 100000 in
set_option maxHeartbeats 6400000 in
theorem exactBack_any (g1 : Bool) (a1 : Option Addr) (n1 cap1 : Nat) (z1 : List Nat) (g2 : Bool) (a2 : Option Addr) (n2 cap2 : Nat) (z2 : List Nat) (w : World) (h1 : WordsAt w a1 n1 z1 ∧ n1 ≤ cap1) (h2 : WordsAt w a2 n2 z2 ∧ n2 ≤ cap2) :
    Calls Tryd.prog 12 #[.agg #[.bool g1, .slice a1 n1 cap1], .agg #[.bool g2, .slice a2 n2 cap2]] w fun e w' => e = .returned (.bool true) ∧ Below w.heap.size w w' := by
  have H1 := Lib.hid h1
  obtain ⟨x1, Hx1⟩ : ∃ x, Hid (valI g1 z1 = x) := ⟨_, Lib.hid rfl⟩
  have H2 := Lib.hid h2
  obtain ⟨x2, Hx2⟩ : ∃ x, Hid (valI g2 z2 = x) := ⟨_, Lib.hid rfl⟩
  have ST0 := Lib.hid (St.start w)
  clear h1 h2
  go_enter Tryd.func12, Tryd.ntmps12
  go_wp2_with (go_at_call 35; refine hold ?_)
  obtain ⟨W1, HW1⟩ : ∃ W', Hid (W' = w.alloc (.cells #[.bool g1, .slice a1 n1 cap1] 25)) := ⟨_, Lib.hid rfl⟩
  obtain ⟨p1, Hp1⟩ : ∃ b, Hid (b = w.heap.size) := ⟨_, Lib.hid rfl⟩
  have ST2 := Lib.hid (ST0.out.box Hp1.out HW1.out)
  obtain ⟨W3, HW3⟩ : ∃ W', Hid (W' = W1.alloc (.cells #[.bool g2, .slice a2 n2 cap2] 25)) := ⟨_, Lib.hid rfl⟩
  obtain ⟨p2, Hp2⟩ : ∃ b, Hid (b = W1.heap.size) := ⟨_, Lib.hid rfl⟩
  have ST4 := Lib.hid (ST2.out.box Hp2.out HW3.out)
  have hz1 : w.heap.size + 1 = p2 := by rw [Hp2.out, HW1.out, World.size_alloc]
  rw [← HW1.out, ← HW3.out]
  try rw [hz1]
  try rw [← Hp1.out]
  clear hz1
  refine Hold.mk ?_
  obtain ⟨t1, Ht1⟩ : ∃ t, Hid (decide (n1 ≤ 40) = t) := ⟨_, Lib.hid rfl⟩
  have K1 := Lib.hid (in_any g1 a1 n1 cap1 W3)
  rw [Ht1.out] at K1
  refine K1.out.mono ?_
  rintro e W5 ⟨rfl, hb⟩
  have ST6 := Lib.hid (ST4.out.go hb)
  clear hb
  cases t1 with
  | false =>
    go_wp2_with (go_at_call 36; refine hold ?_)
    refine Hold.mk ?_
    refine (awake_any W5).mono ?_
    rintro e W7 ⟨rfl, hb⟩
    have ST7 := Lib.hid (ST6.out.go hb)
    clear hb
    go_wp2_with fail
    go_ret
    exact ⟨rfl, ST7.out.below⟩
  | true =>
    obtain ⟨qp20, qp21⟩ := ST6.out.cells (b := p2) (n := g2) (s := .slice a2 n2 cap2) (by simp)
    go_wp2_with (go_at_call 35; refine hold ?_)
    refine Hold.mk ?_
    obtain ⟨t2, Ht2⟩ : ∃ t, Hid (decide (n2 ≤ 40) = t) := ⟨_, Lib.hid rfl⟩
    have K2 := Lib.hid (in_any g2 a2 n2 cap2 W5)
    rw [Ht2.out] at K2
    refine K2.out.mono ?_
    rintro e W8 ⟨rfl, hb⟩
    clear qp20 qp21
    have ST9 := Lib.hid (ST6.out.go hb)
    clear hb
    cases t2 with
    | false =>
      go_wp2_with (go_at_call 36; refine hold ?_)
      refine Hold.mk ?_
      refine (awake_any W8).mono ?_
      rintro e W10 ⟨rfl, hb⟩
      have ST10 := Lib.hid (ST9.out.go hb)
      clear hb
      go_wp2_with fail
      go_ret
      exact ⟨rfl, ST10.out.below⟩
    | true =>
      have hn1 : n1 ≤ 40 := of_decide_eq_true Ht1.out
      have ST11 := Lib.hid (ST9.out.num (IntV.below (⟨a1, n1, cap1, rfl, H1.out.1, H1.out.2, by omega⟩ : IntV w (.agg #[.bool g1, .slice a1 n1 cap1]) g1 z1) ST9.out.below))
      clear hn1
      have hn2 : n2 ≤ 40 := of_decide_eq_true Ht2.out
      have ST12 := Lib.hid (ST11.out.num (IntV.below (⟨a2, n2, cap2, rfl, H2.out.1, H2.out.2, by omega⟩ : IntV w (.agg #[.bool g2, .slice a2 n2 cap2]) g2 z2) ST11.out.below))
      clear hn2
      obtain ⟨qp20, qp21⟩ := ST12.out.cells (b := p2) (n := g2) (s := .slice a2 n2 cap2) (by simp)
      obtain ⟨qp10, qp11⟩ := ST12.out.cells (b := p1) (n := g1) (s := .slice a1 n1 cap1) (by simp)
      go_wp2_with (go_at_call 38; refine hold ?_)
      refine Hold.mk ?_
      refine (quo_k (ST12.out.get (v := (.agg #[.bool g1, .slice a1 n1 cap1])) (g := g1) (z := z1) (by simp)) (ST12.out.get (v := (.agg #[.bool g2, .slice a2 n2 cap2])) (g := g2) (z := z2) (by simp)) Hx1.out Hx2.out).mono ?_
      rintro e W13 ⟨⟨n5, a5, c5, d5, n6, a6, c6, d6, k5, rfl, hk, hv, hu⟩, hb⟩
      clear qp20 qp21 qp10 qp11
      obtain ⟨Q, HQ⟩ : ∃ Q, Hid (quoV x1 x2 = Q) := ⟨_, Lib.hid rfl⟩
      obtain ⟨R, HR⟩ : ∃ R, Hid (remV x1 x2 = R) := ⟨_, Lib.hid rfl⟩
      rw [HQ.out] at hv
      rw [HR.out] at hu
      have h5 := quoK_three x1 x2
      rw [← hk] at h5
      have Hk5 := Lib.hid hk
      have ST14 := Lib.hid ((ST12.out.next hb hv).num hu)
      clear hk hv hu hb
      go_upto_region 4 with fail
      obtain ⟨W15, HW15⟩ : ∃ W', Hid (W' = W13.alloc (.cells #[.bool n5, .slice a5 c5 d5] 25)) := ⟨_, Lib.hid rfl⟩
      obtain ⟨b5, Hb5⟩ : ∃ b, Hid (b = W13.heap.size) := ⟨_, Lib.hid rfl⟩
      have ST16 := Lib.hid (ST14.out.box Hb5.out HW15.out)
      obtain ⟨W17, HW17⟩ : ∃ W', Hid (W' = W15.alloc (.cells #[.bool n6, .slice a6 c6 d6] 25)) := ⟨_, Lib.hid rfl⟩
      obtain ⟨b6, Hb6⟩ : ∃ b, Hid (b = W15.heap.size) := ⟨_, Lib.hid rfl⟩
      have ST18 := Lib.hid (ST16.out.box Hb6.out HW17.out)
      have hz1 : W13.heap.size + 1 = b6 := by rw [Hb6.out, HW15.out, World.size_alloc]
      rw [← HW15.out, ← HW17.out]
      try rw [hz1]
      try rw [← Hb5.out]
      clear hz1
      rcases h5 with rfl | rfl | rfl
      · have h9 := True.intro
        clear h9
        have HP := Lib.hid (quo_back Hk5.out.symm)
        rw [HQ.out, HR.out] at HP
        obtain ⟨qb50, qb51⟩ := ST18.out.cells (b := b5) (n := n5) (s := .slice a5 c5 d5) (by simp)
        obtain ⟨qp20, qp21⟩ := ST18.out.cells (b := p2) (n := g2) (s := .slice a2 n2 cap2) (by simp)
        go_wp2_with (go_at_call 48; refine hold ?_)
        refine Hold.mk ?_
        refine (mul_k (ST18.out.get (v := (.agg #[.bool n5, .slice a5 c5 d5])) (g := decide (Q < 0)) (z := canW (Q).natAbs) (by simp)) (ST18.out.get (v := (.agg #[.bool g2, .slice a2 n2 cap2])) (g := g2) (z := z2) (by simp)) (valI_can _) Hx2.out).mono ?_
        rintro e W19 ⟨⟨n8, a8, c8, d8, k8, rfl, hk, hv⟩, hb⟩
        clear qb50 qb51 qp20 qp21
        have ST20 := Lib.hid (ST18.out.next hb hv)
        have Hk8 := Lib.hid hk
        clear hk hv hb
        have e8 : k8 = 0 := by rw [Hk8.out]; exact HP.out.1
        subst e8
        go_upto_region 7 with fail
        obtain ⟨W21, HW21⟩ : ∃ W', Hid (W' = W19.alloc (.cells #[.bool n8, .slice a8 c8 d8] 25)) := ⟨_, Lib.hid rfl⟩
        obtain ⟨b8, Hb8⟩ : ∃ b, Hid (b = W19.heap.size) := ⟨_, Lib.hid rfl⟩
        have ST22 := Lib.hid (ST20.out.box Hb8.out HW21.out)
        rw [← HW21.out]
        try rw [← Hb8.out]
        obtain ⟨qb80, qb81⟩ := ST22.out.cells (b := b8) (n := n8) (s := .slice a8 c8 d8) (by simp)
        obtain ⟨qb60, qb61⟩ := ST22.out.cells (b := b6) (n := n6) (s := .slice a6 c6 d6) (by simp)
        go_wp2_with (go_at_call 53; refine hold ?_)
        refine Hold.mk ?_
        refine (add_k (ST22.out.get (v := (.agg #[.bool n8, .slice a8 c8 d8])) (g := decide (mulV (Q) (x2) < 0)) (z := canW (mulV (Q) (x2)).natAbs) (by simp)) (ST22.out.get (v := (.agg #[.bool n6, .slice a6 c6 d6])) (g := decide (R < 0)) (z := canW (R).natAbs) (by simp)) (valI_can _) (valI_can _)).mono ?_
        rintro e W23 ⟨⟨n10, a10, c10, d10, k10, rfl, hk, hv⟩, hb⟩
        clear qb80 qb81 qb60 qb61
        have ST24 := Lib.hid (ST22.out.next hb hv)
        have Hk10 := Lib.hid hk
        clear hk hv hb
        have e10 : k10 = 0 := by rw [Hk10.out]; exact HP.out.2.1
        subst e10
        go_upto_region 8 with fail
        obtain ⟨W25, HW25⟩ : ∃ W', Hid (W' = W23.alloc (.cells #[.bool n10, .slice a10 c10 d10] 25)) := ⟨_, Lib.hid rfl⟩
        obtain ⟨b10, Hb10⟩ : ∃ b, Hid (b = W23.heap.size) := ⟨_, Lib.hid rfl⟩
        have ST26 := Lib.hid (ST24.out.box Hb10.out HW25.out)
        rw [← HW25.out]
        try rw [← Hb10.out]
        go_wp2_with (go_at_call 43; refine hold ?_)
        refine Hold.mk ?_
        refine (of_k 0 W25 (by decide) (by decide)).mono ?_
        rintro e W27 ⟨⟨n12, a12, c12, d12, rfl, hv⟩, hb⟩
        have ST28 := Lib.hid (ST26.out.next hb hv)
        clear hb hv
        go_upto_region 9 with fail
        obtain ⟨W29, HW29⟩ : ∃ W', Hid (W' = W27.alloc (.cells #[.bool n12, .slice a12 c12 d12] 25)) := ⟨_, Lib.hid rfl⟩
        obtain ⟨b12, Hb12⟩ : ∃ b, Hid (b = W27.heap.size) := ⟨_, Lib.hid rfl⟩
        have ST30 := Lib.hid (ST28.out.box Hb12.out HW29.out)
        rw [← HW29.out]
        try rw [← Hb12.out]
        obtain ⟨qp20, qp21⟩ := ST30.out.cells (b := p2) (n := g2) (s := .slice a2 n2 cap2) (by simp)
        go_upto_region 10 with fail
        have Hb13n := Lib.hid (ST30.out.old (B := W29.heap.size) rfl)
        clear qp20 qp21
        obtain ⟨W31, HW31⟩ : ∃ W', Hid (W' = W29.alloc (.cells #[.bool g2, .slice a2 n2 cap2] 25)) := ⟨_, Lib.hid rfl⟩
        obtain ⟨b13, Hb13⟩ : ∃ b, Hid (b = W29.heap.size) := ⟨_, Lib.hid rfl⟩
        have ST32 := Lib.hid (ST30.out.box Hb13.out HW31.out)
        rw [← HW31.out]
        try rw [← Hb13.out]
        rw [← Hb13.out] at Hb13n
        rcases Int.lt_or_gt_of_ne HP.out.2.2.2.2.1 with q1 | q1
        · have Hy := Lib.hid q1
          clear q1
          have Hyc := Lib.hid (cmpI_lo Hy.out)
          obtain ⟨qb120, qb121⟩ := ST32.out.cells (b := b12) (n := n12) (s := .slice a12 c12 d12) (by simp)
          obtain ⟨qp20, qp21⟩ := ST32.out.cells (b := p2) (n := g2) (s := .slice a2 n2 cap2) (by simp)
          go_wp2_with (go_at_call 52; refine hold ?_)
          refine Hold.mk ?_
          have C33 := Lib.hid (cmp_k (ST32.out.get (v := (.agg #[.bool g2, .slice a2 n2 cap2])) (g := g2) (z := z2) (by simp)) (ST32.out.get (v := (.agg #[.bool n12, .slice a12 c12 d12])) (g := decide ((0 : Int) < 0)) (z := canW ((0 : Int)).natAbs) (by simp)) Hx2.out (valI_can _))
          rw [Hyc.out] at C33
          refine C33.out.mono ?_
          rintro e W33 ⟨rfl, hb⟩
          clear qb120 qb121 qp20 qp21
          have ST34 := Lib.hid (ST32.out.go hb)
          clear hb
          obtain ⟨qp20, qp21⟩ := ST34.out.cells (b := p2) (n := g2) (s := .slice a2 n2 cap2) (by simp)
          go_wp2_with (go_at_call 58; refine hold ?_)
          refine Hold.mk ?_
          refine (neg_k (ST34.out.get (v := (.agg #[.bool g2, .slice a2 n2 cap2])) (g := g2) (z := z2) (by simp)) Hx2.out).mono ?_
          rintro e W35 ⟨⟨n15, a15, c15, d15, rfl, hv⟩, hb⟩
          clear qp20 qp21
          have ST36 := Lib.hid (ST34.out.next hb hv)
          clear hb hv
          obtain ⟨⟨r0, r1⟩, f0, f1⟩ := box_cells (ST36.out.boxes (b13, g2, .slice a2 n2 cap2) (by simp))
          go_upto_region 12 with fail
          obtain ⟨W37, HW37⟩ : ∃ W', Hid (W' = (W35.setCell ⟨b13, 0, none⟩ (.bool n15)).setCell ⟨b13, 1, none⟩ (.slice a15 c15 d15)) := ⟨_, Lib.hid rfl⟩
          rw [← HW37.out]
          clear r0 r1 f0 f1
          have ST38 := Lib.hid (ST36.out.store Hb13n.out HW37.out)
          obtain ⟨qb60, qb61⟩ := ST38.out.cells (b := b6) (n := n6) (s := .slice a6 c6 d6) (by simp)
          go_upto_region 13 with fail
          have Hb14n := Lib.hid (ST38.out.old (B := W37.heap.size) rfl)
          clear qb60 qb61
          obtain ⟨W39, HW39⟩ : ∃ W', Hid (W' = W37.alloc (.cells #[.bool n6, .slice a6 c6 d6] 25)) := ⟨_, Lib.hid rfl⟩
          obtain ⟨b14, Hb14⟩ : ∃ b, Hid (b = W37.heap.size) := ⟨_, Lib.hid rfl⟩
          have ST40 := Lib.hid (ST38.out.box Hb14.out HW39.out)
          rw [← HW39.out]
          try rw [← Hb14.out]
          rw [← Hb14.out] at Hb14n
          rcases Int.lt_trichotomy R 0 with q2 | q2 | q2
          · have Hrs := Lib.hid q2
            clear q2
            have Hr := Lib.hid (cmpI_lo Hrs.out)
            have Hx := Lib.hid (cmpI_lo (HP.out.2.2.2.2.2.1 Hrs.out))
            obtain ⟨qb120, qb121⟩ := ST40.out.cells (b := b12) (n := n12) (s := .slice a12 c12 d12) (by simp)
            obtain ⟨qb60, qb61⟩ := ST40.out.cells (b := b6) (n := n6) (s := .slice a6 c6 d6) (by simp)
            go_wp2_with (go_at_call 52; refine hold ?_)
            refine Hold.mk ?_
            have C41 := Lib.hid (cmp_k (ST40.out.get (v := (.agg #[.bool n6, .slice a6 c6 d6])) (g := decide (R < 0)) (z := canW (R).natAbs) (by simp)) (ST40.out.get (v := (.agg #[.bool n12, .slice a12 c12 d12])) (g := decide ((0 : Int) < 0)) (z := canW ((0 : Int)).natAbs) (by simp)) (valI_can _) (valI_can _))
            rw [Hr.out] at C41
            refine C41.out.mono ?_
            rintro e W41 ⟨rfl, hb⟩
            clear qb120 qb121 qb60 qb61
            have ST42 := Lib.hid (ST40.out.go hb)
            clear hb
            obtain ⟨qb60, qb61⟩ := ST42.out.cells (b := b6) (n := n6) (s := .slice a6 c6 d6) (by simp)
            go_wp2_with (go_at_call 58; refine hold ?_)
            refine Hold.mk ?_
            refine (neg_k (ST42.out.get (v := (.agg #[.bool n6, .slice a6 c6 d6])) (g := decide (R < 0)) (z := canW (R).natAbs) (by simp)) (valI_can _)).mono ?_
            rintro e W43 ⟨⟨n16, a16, c16, d16, rfl, hv⟩, hb⟩
            clear qb60 qb61
            have ST44 := Lib.hid (ST42.out.next hb hv)
            clear hb hv
            obtain ⟨⟨r0, r1⟩, f0, f1⟩ := box_cells (ST44.out.boxes (b14, n6, .slice a6 c6 d6) (by simp))
            go_upto_region 15 with fail
            obtain ⟨W45, HW45⟩ : ∃ W', Hid (W' = (W43.setCell ⟨b14, 0, none⟩ (.bool n16)).setCell ⟨b14, 1, none⟩ (.slice a16 c16 d16)) := ⟨_, Lib.hid rfl⟩
            rw [← HW45.out]
            clear r0 r1 f0 f1
            have ST46 := Lib.hid (ST44.out.store Hb14n.out HW45.out)
            have Hc := Lib.hid (show cmpI (-R) (-x2) = -1 from cmpI_lo (by have h1 := HP.out.2.2.2.1; have h2 := Hrs.out; have h3 := Hy.out; omega))
            have HC15 : Hid (∀ wx, Below W45.heap.size W45 wx → (fun w' : World => w'.cell? ⟨b14, 0, none⟩ = some (.bool n16) ∧ w'.cell? ⟨b14, 1, none⟩ = some (.slice a16 c16 d16) ∧ w'.cell? ⟨b13, 0, none⟩ = some (.bool n15) ∧ w'.cell? ⟨b13, 1, none⟩ = some (.slice a15 c15 d15) ∧ w'.cell? ⟨b12, 0, none⟩ = some (.bool n12) ∧ w'.cell? ⟨b12, 1, none⟩ = some (.slice a12 c12 d12) ∧ w'.cell? ⟨b10, 0, none⟩ = some (.bool n10) ∧ w'.cell? ⟨b10, 1, none⟩ = some (.slice a10 c10 d10) ∧ w'.cell? ⟨b8, 0, none⟩ = some (.bool n8) ∧ w'.cell? ⟨b8, 1, none⟩ = some (.slice a8 c8 d8) ∧ w'.cell? ⟨b6, 0, none⟩ = some (.bool n6) ∧ w'.cell? ⟨b6, 1, none⟩ = some (.slice a6 c6 d6) ∧ w'.cell? ⟨b5, 0, none⟩ = some (.bool n5) ∧ w'.cell? ⟨b5, 1, none⟩ = some (.slice a5 c5 d5) ∧ w'.cell? ⟨p2, 0, none⟩ = some (.bool g2) ∧ w'.cell? ⟨p2, 1, none⟩ = some (.slice a2 n2 cap2) ∧ w'.cell? ⟨p1, 0, none⟩ = some (.bool g1) ∧ w'.cell? ⟨p1, 1, none⟩ = some (.slice a1 n1 cap1)) wx) := Lib.hid fun wx hx => by
              have h := ST46.out.go hx
              exact ⟨(h.cells (b := b14) (n := n16) (s := .slice a16 c16 d16) (by simp)).1, (h.cells (b := b14) (n := n16) (s := .slice a16 c16 d16) (by simp)).2, (h.cells (b := b13) (n := n15) (s := .slice a15 c15 d15) (by simp)).1, (h.cells (b := b13) (n := n15) (s := .slice a15 c15 d15) (by simp)).2, (h.cells (b := b12) (n := n12) (s := .slice a12 c12 d12) (by simp)).1, (h.cells (b := b12) (n := n12) (s := .slice a12 c12 d12) (by simp)).2, (h.cells (b := b10) (n := n10) (s := .slice a10 c10 d10) (by simp)).1, (h.cells (b := b10) (n := n10) (s := .slice a10 c10 d10) (by simp)).2, (h.cells (b := b8) (n := n8) (s := .slice a8 c8 d8) (by simp)).1, (h.cells (b := b8) (n := n8) (s := .slice a8 c8 d8) (by simp)).2, (h.cells (b := b6) (n := n6) (s := .slice a6 c6 d6) (by simp)).1, (h.cells (b := b6) (n := n6) (s := .slice a6 c6 d6) (by simp)).2, (h.cells (b := b5) (n := n5) (s := .slice a5 c5 d5) (by simp)).1, (h.cells (b := b5) (n := n5) (s := .slice a5 c5 d5) (by simp)).2, (h.cells (b := p2) (n := g2) (s := .slice a2 n2 cap2) (by simp)).1, (h.cells (b := p2) (n := g2) (s := .slice a2 n2 cap2) (by simp)).2, (h.cells (b := p1) (n := g1) (s := .slice a1 n1 cap1) (by simp)).1, (h.cells (b := p1) (n := g1) (s := .slice a1 n1 cap1) (by simp)).2⟩
            have hD15 := Lib.hid (Below.refl W45.heap.size W45).drew
            have ST47 := Lib.hid (ST46.out.go hD15.out)
            have HS := HC15.out W45.drew hD15.out
            refine wp_region_pi (fun w' : World => w'.cell? ⟨b14, 0, none⟩ = some (.bool n16) ∧ w'.cell? ⟨b14, 1, none⟩ = some (.slice a16 c16 d16) ∧ w'.cell? ⟨b13, 0, none⟩ = some (.bool n15) ∧ w'.cell? ⟨b13, 1, none⟩ = some (.slice a15 c15 d15) ∧ w'.cell? ⟨b12, 0, none⟩ = some (.bool n12) ∧ w'.cell? ⟨b12, 1, none⟩ = some (.slice a12 c12 d12) ∧ w'.cell? ⟨b10, 0, none⟩ = some (.bool n10) ∧ w'.cell? ⟨b10, 1, none⟩ = some (.slice a10 c10 d10) ∧ w'.cell? ⟨b8, 0, none⟩ = some (.bool n8) ∧ w'.cell? ⟨b8, 1, none⟩ = some (.slice a8 c8 d8) ∧ w'.cell? ⟨b6, 0, none⟩ = some (.bool n6) ∧ w'.cell? ⟨b6, 1, none⟩ = some (.slice a6 c6 d6) ∧ w'.cell? ⟨b5, 0, none⟩ = some (.bool n5) ∧ w'.cell? ⟨b5, 1, none⟩ = some (.slice a5 c5 d5) ∧ w'.cell? ⟨p2, 0, none⟩ = some (.bool g2) ∧ w'.cell? ⟨p2, 1, none⟩ = some (.slice a2 n2 cap2) ∧ w'.cell? ⟨p1, 0, none⟩ = some (.bool g1) ∧ w'.cell? ⟨p1, 1, none⟩ = some (.slice a1 n1 cap1)) [(0, 1), (1, 1), (2, 1), (3, 1), (4, 1), (5, 1), (6, 1), (7, 0), (8, 0), (9, 2), (10, 1), (11, 1), (12, 1), (13, 0), (14, 0), (15, 2), (16, 1), (17, 1), (18, 1), (19, 0), (20, 0), (21, 2), (22, 1), (23, 1), (24, 0), (25, 0), (28, 0), (29, 0), (26, 2), (27, 1), (30, 3), (31, 3), (32, 3), (33, 3), (34, 3), (35, 3), (36, 3), (37, 3), (38, 3)] [(30, [23, 18, 17, 12, 9, 7]), (30, [23, 18, 17, 12, 9, 8]), (30, [23, 18, 15, 13]), (30, [23, 18, 15, 14]), (30, [23, 21, 19]), (30, [23, 21, 20]), (30, [26, 24]), (30, [26, 25]), (30, [28]), (30, [29]), (31, [23, 18, 17, 12, 9, 7]), (31, [23, 18, 17, 12, 9, 8]), (31, [23, 18, 15, 13]), (31, [23, 18, 15, 14]), (31, [23, 21, 19]), (31, [23, 21, 20]), (31, [30, 26, 24]), (31, [30, 26, 25]), (31, [30, 28]), (31, [30, 29]), (32, [23, 18, 17, 12, 9, 7]), (32, [23, 18, 17, 12, 9, 8]), (32, [23, 18, 15, 13]), (32, [23, 18, 15, 14]), (32, [23, 21, 19]), (32, [23, 21, 20]), (32, [27, 26, 24]), (32, [27, 26, 25]), (32, [31, 30, 28]), (32, [31, 30, 29]), (33, [18, 17, 12, 9, 7]), (33, [18, 17, 12, 9, 8]), (33, [18, 15, 13]), (33, [18, 15, 14]), (33, [23, 21, 19]), (33, [23, 21, 20]), (33, [32, 27, 26, 24]), (33, [32, 27, 26, 25]), (33, [32, 31, 30, 28]), (33, [32, 31, 30, 29]), (34, [18, 17, 12, 9, 7]), (34, [18, 17, 12, 9, 8]), (34, [18, 15, 13]), (34, [18, 15, 14]), (34, [33, 23, 21, 19]), (34, [33, 23, 21, 20]), (34, [33, 32, 27, 26, 24]), (34, [33, 32, 27, 26, 25]), (34, [33, 32, 31, 30, 28]), (34, [33, 32, 31, 30, 29]), (35, [34, 18, 17, 12, 9, 7]), (35, [34, 18, 17, 12, 9, 8]), (35, [34, 18, 15, 13]), (35, [34, 18, 15, 14]), (35, [30, 23, 21, 19]), (35, [30, 23, 21, 20]), (35, [30, 26, 24]), (35, [30, 26, 25]), (35, [30, 28]), (35, [30, 29]), (36, [35, 34, 18, 17, 12, 9, 7]), (36, [35, 34, 18, 17, 12, 9, 8]), (36, [35, 34, 18, 15, 13]), (36, [35, 34, 18, 15, 14]), (36, [35, 30, 23, 21, 19]), (36, [35, 30, 23, 21, 20]), (36, [35, 30, 26, 24]), (36, [35, 30, 26, 25]), (36, [35, 30, 28]), (36, [35, 30, 29]), (37, [35, 34, 18, 17, 12, 9, 7]), (37, [35, 34, 18, 17, 12, 9, 8]), (37, [35, 34, 18, 15, 13]), (37, [35, 34, 18, 15, 14]), (37, [35, 30, 23, 21, 19]), (37, [35, 30, 23, 21, 20]), (37, [35, 30, 26, 24]), (37, [35, 30, 26, 25]), (37, [35, 30, 28]), (37, [35, 30, 29]), (38, [7]), (38, [8]), (38, [13]), (38, [14]), (38, [19]), (38, [20]), (38, [24]), (38, [25]), (38, [28]), (38, [29])] (by kernel_rfl) (by kernel_rfl) (fun _ _ _ _ _ h => h) (HS) ?_
            refine pq_pu (some 61) rfl rfl (by rfl) (fun ws => by go_simp; try with_reducible rfl) ?_; go_frame   -- 0 Op.move (Operand.tmp 9)
            refine pq_pu (some 62) rfl rfl (by rfl) (fun ws => by go_simp; try with_reducible rfl) ?_; go_frame   -- 1 Op.binOp BinOp.eql 29 (Operand.tmp 61) (Operand.const (Value.int IntKind.i64 0)) 29
            refine pq_pu (some 63) rfl rfl (by rfl) (fun ws => by go_simp; try with_reducible rfl) ?_; go_frame   -- 2 Op.move (Operand.tmp 62)
            refine pq_pu (some 64) rfl rfl (by rfl) (fun ws => by go_simp; try with_reducible rfl) ?_; go_frame   -- 3 Op.move (Operand.tmp 11)
            refine pq_pu (some 65) rfl rfl (by rfl) (fun ws => by go_simp; try with_reducible rfl) ?_; go_frame   -- 4 Op.binOp BinOp.eql 29 (Operand.tmp 64) (Operand.const (Value.int IntKind.i64 0)) 29
            refine pq_pu (some 66) rfl rfl (by rfl) (fun ws => by go_simp; try with_reducible rfl) ?_; go_frame   -- 5 Op.pick (Operand.tmp 63) (Operand.tmp 65) (Operand.const (Value.bool false))
            refine pq_pu (some 67) rfl rfl (by rfl) (fun ws => by go_simp; try with_reducible rfl) ?_; go_frame   -- 6 Op.move (Operand.tmp 66)
            refine pq_ld (some 68) rfl rfl (by rfl) (fun ws HS => by go_split_ands; go_simp; try with_reducible rfl) ?_; go_frame   -- 7 Op.load 25 (Operand.tmp 10)
            refine pq_ld (some 69) rfl rfl (by rfl) (fun ws HS => by go_split_ands; go_simp; try with_reducible rfl) ?_; go_frame   -- 8 Op.load 25 (Operand.tmp 2)
            refine pk_ke rfl (fun J hJ => ?_)   -- pi_ke 9 Op.call { callee := Callee.value (Operand.func 52), args := #[Operand.tmp 68, Operand.tmp 69], argTypes := #[25, 25] }
            have D48 := Lib.hid (cmp_k (ST47.out.get (v := (.agg #[.bool n10, .slice a10 c10 d10])) (g := decide (addV (mulV (Q) (x2)) (R) < 0)) (z := canW (addV (mulV (Q) (x2)) (R)).natAbs) (by simp)) (ST47.out.get (v := (.agg #[.bool g1, .slice a1 n1 cap1])) (g := g1) (z := z1) (by simp)) (valI_can _) Hx1.out)
            rw [HP.out.2.2.1, cmpI_self] at D48
            have C49 := Lib.hid (D48.out)
            go_wp2_with (go_at_call 52; refine C49.out.mono ?_; rintro e W49 ⟨rfl, hb⟩; have ST49 := Lib.hid (ST47.out.go hb); have hD49 := Lib.hid (hD15.out.trans (Below.mono hb hD15.out.size)); clear hb)
            refine hJ _ _ (HC15.out W49 hD49.out) ?_
            refine pq_pu (some 71) rfl rfl (by rfl) (fun ws => by go_simp; try with_reducible rfl) ?_; go_frame   -- 10 Op.binOp BinOp.eql 3 (Operand.tmp 70) (Operand.const (Value.int IntKind.i64 0)) 3
            refine pq_pu (some 72) rfl rfl (by rfl) (fun ws => by go_simp; try with_reducible rfl) ?_; go_frame   -- 11 Op.pick (Operand.tmp 67) (Operand.tmp 71) (Operand.const (Value.bool false))
            refine pq_pu (some 73) rfl rfl (by rfl) (fun ws => by go_simp; try with_reducible rfl) ?_; go_frame   -- 12 Op.move (Operand.tmp 72)
            refine pq_ld (some 74) rfl rfl (by rfl) (fun ws HS => by go_split_ands; go_simp; try with_reducible rfl) ?_; go_frame   -- 13 Op.load 25 (Operand.tmp 14)
            refine pq_ld (some 75) rfl rfl (by rfl) (fun ws HS => by go_split_ands; go_simp; try with_reducible rfl) ?_; go_frame   -- 14 Op.load 25 (Operand.tmp 13)
            refine pk_ke rfl (fun J hJ => ?_)   -- pi_ke 15 Op.call { callee := Callee.value (Operand.func 52), args := #[Operand.tmp 74, Operand.tmp 75], argTypes := #[25, 25] }
            have D50 := Lib.hid (cmp_k (ST49.out.get (v := (.agg #[.bool n16, .slice a16 c16 d16])) (g := decide (-R < 0)) (z := canW (-R).natAbs) (by simp)) (ST49.out.get (v := (.agg #[.bool n15, .slice a15 c15 d15])) (g := decide (-x2 < 0)) (z := canW (-x2).natAbs) (by simp)) (valI_can _) (valI_can _))
            rw [Hc.out] at D50
            have C51 := Lib.hid (D50.out)
            go_wp2_with (go_at_call 52; refine C51.out.mono ?_; rintro e W51 ⟨rfl, hb⟩; have ST51 := Lib.hid (ST49.out.go hb); have hD51 := Lib.hid (hD49.out.trans (Below.mono hb hD49.out.size)); clear hb)
            refine hJ _ _ (HC15.out W51 hD51.out) ?_
            refine pq_pu (some 77) rfl rfl (by rfl) (fun ws => by go_simp; try with_reducible rfl) ?_; go_frame   -- 16 Op.binOp BinOp.lss 3 (Operand.tmp 76) (Operand.const (Value.int IntKind.i64 0)) 3
            refine pq_pu (some 78) rfl rfl (by rfl) (fun ws => by go_simp; try with_reducible rfl) ?_; go_frame   -- 17 Op.pick (Operand.tmp 73) (Operand.tmp 77) (Operand.const (Value.bool false))
            refine pq_pu (some 79) rfl rfl (by rfl) (fun ws => by go_simp; try with_reducible rfl) ?_; go_frame   -- 18 Op.move (Operand.tmp 78)
            refine pq_ld (some 80) rfl rfl (by rfl) (fun ws HS => by go_split_ands; go_simp; try with_reducible rfl) ?_; go_frame   -- 19 Op.load 25 (Operand.tmp 6)
            refine pq_ld (some 81) rfl rfl (by rfl) (fun ws HS => by go_split_ands; go_simp; try with_reducible rfl) ?_; go_frame   -- 20 Op.load 25 (Operand.tmp 12)
            refine pk_ke rfl (fun J hJ => ?_)   -- pi_ke 21 Op.call { callee := Callee.value (Operand.func 52), args := #[Operand.tmp 80, Operand.tmp 81], argTypes := #[25, 25] }
            have D52 := Lib.hid (cmp_k (ST51.out.get (v := (.agg #[.bool n6, .slice a6 c6 d6])) (g := decide (R < 0)) (z := canW (R).natAbs) (by simp)) (ST51.out.get (v := (.agg #[.bool n12, .slice a12 c12 d12])) (g := decide ((0 : Int) < 0)) (z := canW ((0 : Int)).natAbs) (by simp)) (valI_can _) (valI_can _))
            rw [Hr.out] at D52
            have C53 := Lib.hid (D52.out)
            go_wp2_with (go_at_call 52; refine C53.out.mono ?_; rintro e W53 ⟨rfl, hb⟩; have ST53 := Lib.hid (ST51.out.go hb); have hD53 := Lib.hid (hD51.out.trans (Below.mono hb hD51.out.size)); clear hb)
            refine hJ _ _ (HC15.out W53 hD53.out) ?_
            refine pq_pu (some 83) rfl rfl (by rfl) (fun ws => by go_simp; try with_reducible rfl) ?_; go_frame   -- 22 Op.binOp BinOp.eql 3 (Operand.tmp 82) (Operand.const (Value.int IntKind.i64 0)) 3
            refine pq_pu (some 84) rfl rfl (by rfl) (fun ws => by go_simp; try with_reducible rfl) ?_; go_frame   -- 23 Op.move (Operand.tmp 83)
            refine pq_ld (some 85) rfl rfl (by rfl) (fun ws HS => by go_split_ands; go_simp; try with_reducible rfl) ?_; go_frame   -- 24 Op.load 25 (Operand.tmp 6)
            refine pq_ld (some 86) rfl rfl (by rfl) (fun ws HS => by go_split_ands; go_simp; try with_reducible rfl) ?_; go_frame   -- 25 Op.load 25 (Operand.tmp 12)
            refine pq_ld (some 89) rfl rfl (by rfl) (fun ws HS => by go_split_ands; go_simp; try with_reducible rfl) ?_; go_frame   -- 28 Op.load 25 (Operand.tmp 2)
            refine pq_ld (some 90) rfl rfl (by rfl) (fun ws HS => by go_split_ands; go_simp; try with_reducible rfl) ?_; go_frame   -- 29 Op.load 25 (Operand.tmp 12)
            refine pk_ke rfl (fun J hJ => ?_)   -- pi_ke 26 Op.call { callee := Callee.value (Operand.func 52), args := #[Operand.tmp 85, Operand.tmp 86], argTypes := #[25, 25] }
            have D54 := Lib.hid (cmp_k (ST53.out.get (v := (.agg #[.bool n6, .slice a6 c6 d6])) (g := decide (R < 0)) (z := canW (R).natAbs) (by simp)) (ST53.out.get (v := (.agg #[.bool n12, .slice a12 c12 d12])) (g := decide ((0 : Int) < 0)) (z := canW ((0 : Int)).natAbs) (by simp)) (valI_can _) (valI_can _))
            rw [Hr.out] at D54
            have C55 := Lib.hid (D54.out)
            go_wp2_with (go_at_call 52; refine C55.out.mono ?_; rintro e W55 ⟨rfl, hb⟩; have ST55 := Lib.hid (ST53.out.go hb); have hD55 := Lib.hid (hD53.out.trans (Below.mono hb hD53.out.size)); clear hb)
            refine hJ _ _ (HC15.out W55 hD55.out) ?_
            refine pq_pu (some 88) rfl rfl (by rfl) (fun ws => by go_simp; try with_reducible rfl) ?_; go_frame   -- 27 Op.binOp BinOp.lss 3 (Operand.tmp 87) (Operand.const (Value.int IntKind.i64 0)) 3
            refine pi_tail (by rfl) ?_; simp only [opsAt, List.getElem?_toArray, List.getElem?_cons_zero, List.getElem?_cons_succ]   -- [(30, 'Op.call { callee := Callee.value (Operand.func 52), args := #[Operand.tmp 89, Operand.tmp 90], argTypes := #[25, 25] }'), (31, 'Op.binOp BinOp.lss 3 (Operand.tmp 91) (Operand.const (Value.int IntKind.i64 0)) 3'), (32, 'Op.binOp BinOp.eql 4 (Operand.tmp 88) (Operand.tmp 92) 4'), (33, 'Op.pick (Operand.tmp 84) (Operand.const (Value.bool true)) (Operand.tmp 93)'), (34, 'Op.pick (Operand.tmp 79) (Operand.tmp 94) (Operand.const (Value.bool false))'), (35, 'Op.move (Operand.tmp 95)'), (36, 'Op.call { callee := Callee.value (Operand.func 36), args := #[], argTypes := #[] }'), (37, 'Op.pick (Operand.tmp 96) (Operand.tmp 97) (Operand.const (Value.bool false))'), (38, 'Op.assign (Operand.tmp 98)')]
            have D56 := Lib.hid (cmp_k (ST55.out.get (v := (.agg #[.bool g1, .slice a1 n1 cap1])) (g := g1) (z := z1) (by simp)) (ST55.out.get (v := (.agg #[.bool n12, .slice a12 c12 d12])) (g := decide ((0 : Int) < 0)) (z := canW ((0 : Int)).natAbs) (by simp)) Hx1.out (valI_can _))
            rw [Hx.out] at D56
            go_wp2_with first
              | (go_at_call 52; refine D56.out.mono ?_; rintro e Wx ⟨rfl, hb⟩; have STx := Lib.hid (ST55.out.go hb); clear hb)
              | (go_at_call 36; refine (awake_any Wx).mono ?_; rintro e Wy ⟨rfl, hb⟩; have STy := Lib.hid (STx.out.go hb); clear hb)
            go_ret
            exact ⟨by simp, STy.out.below⟩
          · subst q2
            have Hr := Lib.hid (cmpI_self 0)
            obtain ⟨qb120, qb121⟩ := ST40.out.cells (b := b12) (n := n12) (s := .slice a12 c12 d12) (by simp)
            obtain ⟨qb60, qb61⟩ := ST40.out.cells (b := b6) (n := n6) (s := .slice a6 c6 d6) (by simp)
            go_wp2_with (go_at_call 52; refine hold ?_)
            refine Hold.mk ?_
            have C57 := Lib.hid (cmp_k (ST40.out.get (v := (.agg #[.bool n6, .slice a6 c6 d6])) (g := decide ((0 : Int) < 0)) (z := canW (0 : Int).natAbs) (by simp)) (ST40.out.get (v := (.agg #[.bool n12, .slice a12 c12 d12])) (g := decide ((0 : Int) < 0)) (z := canW ((0 : Int)).natAbs) (by simp)) (valI_can _) (valI_can _))
            rw [Hr.out] at C57
            refine C57.out.mono ?_
            rintro e W57 ⟨rfl, hb⟩
            clear qb120 qb121 qb60 qb61
            have ST58 := Lib.hid (ST40.out.go hb)
            clear hb
            go_upto_region 15 with fail
            have Hc := Lib.hid (show cmpI ((0 : Int)) (-x2) = -1 from cmpI_lo (by have h1 := HP.out.2.2.2.1; have h3 := Hy.out; omega))
            have HC15 : Hid (∀ wx, Below W57.heap.size W57 wx → (fun w' : World => w'.cell? ⟨b14, 0, none⟩ = some (.bool n6) ∧ w'.cell? ⟨b14, 1, none⟩ = some (.slice a6 c6 d6) ∧ w'.cell? ⟨b13, 0, none⟩ = some (.bool n15) ∧ w'.cell? ⟨b13, 1, none⟩ = some (.slice a15 c15 d15) ∧ w'.cell? ⟨b12, 0, none⟩ = some (.bool n12) ∧ w'.cell? ⟨b12, 1, none⟩ = some (.slice a12 c12 d12) ∧ w'.cell? ⟨b10, 0, none⟩ = some (.bool n10) ∧ w'.cell? ⟨b10, 1, none⟩ = some (.slice a10 c10 d10) ∧ w'.cell? ⟨b8, 0, none⟩ = some (.bool n8) ∧ w'.cell? ⟨b8, 1, none⟩ = some (.slice a8 c8 d8) ∧ w'.cell? ⟨b6, 0, none⟩ = some (.bool n6) ∧ w'.cell? ⟨b6, 1, none⟩ = some (.slice a6 c6 d6) ∧ w'.cell? ⟨b5, 0, none⟩ = some (.bool n5) ∧ w'.cell? ⟨b5, 1, none⟩ = some (.slice a5 c5 d5) ∧ w'.cell? ⟨p2, 0, none⟩ = some (.bool g2) ∧ w'.cell? ⟨p2, 1, none⟩ = some (.slice a2 n2 cap2) ∧ w'.cell? ⟨p1, 0, none⟩ = some (.bool g1) ∧ w'.cell? ⟨p1, 1, none⟩ = some (.slice a1 n1 cap1)) wx) := Lib.hid fun wx hx => by
              have h := ST58.out.go hx
              exact ⟨(h.cells (b := b14) (n := n6) (s := .slice a6 c6 d6) (by simp)).1, (h.cells (b := b14) (n := n6) (s := .slice a6 c6 d6) (by simp)).2, (h.cells (b := b13) (n := n15) (s := .slice a15 c15 d15) (by simp)).1, (h.cells (b := b13) (n := n15) (s := .slice a15 c15 d15) (by simp)).2, (h.cells (b := b12) (n := n12) (s := .slice a12 c12 d12) (by simp)).1, (h.cells (b := b12) (n := n12) (s := .slice a12 c12 d12) (by simp)).2, (h.cells (b := b10) (n := n10) (s := .slice a10 c10 d10) (by simp)).1, (h.cells (b := b10) (n := n10) (s := .slice a10 c10 d10) (by simp)).2, (h.cells (b := b8) (n := n8) (s := .slice a8 c8 d8) (by simp)).1, (h.cells (b := b8) (n := n8) (s := .slice a8 c8 d8) (by simp)).2, (h.cells (b := b6) (n := n6) (s := .slice a6 c6 d6) (by simp)).1, (h.cells (b := b6) (n := n6) (s := .slice a6 c6 d6) (by simp)).2, (h.cells (b := b5) (n := n5) (s := .slice a5 c5 d5) (by simp)).1, (h.cells (b := b5) (n := n5) (s := .slice a5 c5 d5) (by simp)).2, (h.cells (b := p2) (n := g2) (s := .slice a2 n2 cap2) (by simp)).1, (h.cells (b := p2) (n := g2) (s := .slice a2 n2 cap2) (by simp)).2, (h.cells (b := p1) (n := g1) (s := .slice a1 n1 cap1) (by simp)).1, (h.cells (b := p1) (n := g1) (s := .slice a1 n1 cap1) (by simp)).2⟩
            have hD15 := Lib.hid (Below.refl W57.heap.size W57).drew
            have ST59 := Lib.hid (ST58.out.go hD15.out)
            have HS := HC15.out W57.drew hD15.out
            refine wp_region_pi (fun w' : World => w'.cell? ⟨b14, 0, none⟩ = some (.bool n6) ∧ w'.cell? ⟨b14, 1, none⟩ = some (.slice a6 c6 d6) ∧ w'.cell? ⟨b13, 0, none⟩ = some (.bool n15) ∧ w'.cell? ⟨b13, 1, none⟩ = some (.slice a15 c15 d15) ∧ w'.cell? ⟨b12, 0, none⟩ = some (.bool n12) ∧ w'.cell? ⟨b12, 1, none⟩ = some (.slice a12 c12 d12) ∧ w'.cell? ⟨b10, 0, none⟩ = some (.bool n10) ∧ w'.cell? ⟨b10, 1, none⟩ = some (.slice a10 c10 d10) ∧ w'.cell? ⟨b8, 0, none⟩ = some (.bool n8) ∧ w'.cell? ⟨b8, 1, none⟩ = some (.slice a8 c8 d8) ∧ w'.cell? ⟨b6, 0, none⟩ = some (.bool n6) ∧ w'.cell? ⟨b6, 1, none⟩ = some (.slice a6 c6 d6) ∧ w'.cell? ⟨b5, 0, none⟩ = some (.bool n5) ∧ w'.cell? ⟨b5, 1, none⟩ = some (.slice a5 c5 d5) ∧ w'.cell? ⟨p2, 0, none⟩ = some (.bool g2) ∧ w'.cell? ⟨p2, 1, none⟩ = some (.slice a2 n2 cap2) ∧ w'.cell? ⟨p1, 0, none⟩ = some (.bool g1) ∧ w'.cell? ⟨p1, 1, none⟩ = some (.slice a1 n1 cap1)) [(0, 1), (1, 1), (2, 1), (3, 1), (4, 1), (5, 1), (6, 1), (7, 0), (8, 0), (9, 2), (10, 1), (11, 1), (12, 1), (13, 0), (14, 0), (15, 2), (16, 1), (17, 1), (18, 1), (19, 0), (20, 0), (21, 2), (22, 1), (23, 1), (24, 0), (25, 0), (28, 0), (29, 0), (26, 2), (27, 1), (30, 3), (31, 3), (32, 3), (33, 3), (34, 3), (35, 3), (36, 3), (37, 3), (38, 3)] [(30, [23, 18, 17, 12, 9, 7]), (30, [23, 18, 17, 12, 9, 8]), (30, [23, 18, 15, 13]), (30, [23, 18, 15, 14]), (30, [23, 21, 19]), (30, [23, 21, 20]), (30, [26, 24]), (30, [26, 25]), (30, [28]), (30, [29]), (31, [23, 18, 17, 12, 9, 7]), (31, [23, 18, 17, 12, 9, 8]), (31, [23, 18, 15, 13]), (31, [23, 18, 15, 14]), (31, [23, 21, 19]), (31, [23, 21, 20]), (31, [30, 26, 24]), (31, [30, 26, 25]), (31, [30, 28]), (31, [30, 29]), (32, [23, 18, 17, 12, 9, 7]), (32, [23, 18, 17, 12, 9, 8]), (32, [23, 18, 15, 13]), (32, [23, 18, 15, 14]), (32, [23, 21, 19]), (32, [23, 21, 20]), (32, [27, 26, 24]), (32, [27, 26, 25]), (32, [31, 30, 28]), (32, [31, 30, 29]), (33, [18, 17, 12, 9, 7]), (33, [18, 17, 12, 9, 8]), (33, [18, 15, 13]), (33, [18, 15, 14]), (33, [23, 21, 19]), (33, [23, 21, 20]), (33, [32, 27, 26, 24]), (33, [32, 27, 26, 25]), (33, [32, 31, 30, 28]), (33, [32, 31, 30, 29]), (34, [18, 17, 12, 9, 7]), (34, [18, 17, 12, 9, 8]), (34, [18, 15, 13]), (34, [18, 15, 14]), (34, [33, 23, 21, 19]), (34, [33, 23, 21, 20]), (34, [33, 32, 27, 26, 24]), (34, [33, 32, 27, 26, 25]), (34, [33, 32, 31, 30, 28]), (34, [33, 32, 31, 30, 29]), (35, [34, 18, 17, 12, 9, 7]), (35, [34, 18, 17, 12, 9, 8]), (35, [34, 18, 15, 13]), (35, [34, 18, 15, 14]), (35, [30, 23, 21, 19]), (35, [30, 23, 21, 20]), (35, [30, 26, 24]), (35, [30, 26, 25]), (35, [30, 28]), (35, [30, 29]), (36, [35, 34, 18, 17, 12, 9, 7]), (36, [35, 34, 18, 17, 12, 9, 8]), (36, [35, 34, 18, 15, 13]), (36, [35, 34, 18, 15, 14]), (36, [35, 30, 23, 21, 19]), (36, [35, 30, 23, 21, 20]), (36, [35, 30, 26, 24]), (36, [35, 30, 26, 25]), (36, [35, 30, 28]), (36, [35, 30, 29]), (37, [35, 34, 18, 17, 12, 9, 7]), (37, [35, 34, 18, 17, 12, 9, 8]), (37, [35, 34, 18, 15, 13]), (37, [35, 34, 18, 15, 14]), (37, [35, 30, 23, 21, 19]), (37, [35, 30, 23, 21, 20]), (37, [35, 30, 26, 24]), (37, [35, 30, 26, 25]), (37, [35, 30, 28]), (37, [35, 30, 29]), (38, [7]), (38, [8]), (38, [13]), (38, [14]), (38, [19]), (38, [20]), (38, [24]), (38, [25]), (38, [28]), (38, [29])] (by kernel_rfl) (by kernel_rfl) (fun _ _ _ _ _ h => h) (HS) ?_
            refine pq_pu (some 61) rfl rfl (by rfl) (fun ws => by go_simp; try with_reducible rfl) ?_; go_frame   -- 0 Op.move (Operand.tmp 9)
            refine pq_pu (some 62) rfl rfl (by rfl) (fun ws => by go_simp; try with_reducible rfl) ?_; go_frame   -- 1 Op.binOp BinOp.eql 29 (Operand.tmp 61) (Operand.const (Value.int IntKind.i64 0)) 29
            refine pq_pu (some 63) rfl rfl (by rfl) (fun ws => by go_simp; try with_reducible rfl) ?_; go_frame   -- 2 Op.move (Operand.tmp 62)
            refine pq_pu (some 64) rfl rfl (by rfl) (fun ws => by go_simp; try with_reducible rfl) ?_; go_frame   -- 3 Op.move (Operand.tmp 11)
            refine pq_pu (some 65) rfl rfl (by rfl) (fun ws => by go_simp; try with_reducible rfl) ?_; go_frame   -- 4 Op.binOp BinOp.eql 29 (Operand.tmp 64) (Operand.const (Value.int IntKind.i64 0)) 29
            refine pq_pu (some 66) rfl rfl (by rfl) (fun ws => by go_simp; try with_reducible rfl) ?_; go_frame   -- 5 Op.pick (Operand.tmp 63) (Operand.tmp 65) (Operand.const (Value.bool false))
            refine pq_pu (some 67) rfl rfl (by rfl) (fun ws => by go_simp; try with_reducible rfl) ?_; go_frame   -- 6 Op.move (Operand.tmp 66)
            refine pq_ld (some 68) rfl rfl (by rfl) (fun ws HS => by go_split_ands; go_simp; try with_reducible rfl) ?_; go_frame   -- 7 Op.load 25 (Operand.tmp 10)
            refine pq_ld (some 69) rfl rfl (by rfl) (fun ws HS => by go_split_ands; go_simp; try with_reducible rfl) ?_; go_frame   -- 8 Op.load 25 (Operand.tmp 2)
            refine pk_ke rfl (fun J hJ => ?_)   -- pi_ke 9 Op.call { callee := Callee.value (Operand.func 52), args := #[Operand.tmp 68, Operand.tmp 69], argTypes := #[25, 25] }
            have D60 := Lib.hid (cmp_k (ST59.out.get (v := (.agg #[.bool n10, .slice a10 c10 d10])) (g := decide (addV (mulV (Q) (x2)) (0 : Int) < 0)) (z := canW (addV (mulV (Q) (x2)) (0 : Int)).natAbs) (by simp)) (ST59.out.get (v := (.agg #[.bool g1, .slice a1 n1 cap1])) (g := g1) (z := z1) (by simp)) (valI_can _) Hx1.out)
            rw [HP.out.2.2.1, cmpI_self] at D60
            have C61 := Lib.hid (D60.out)
            go_wp2_with (go_at_call 52; refine C61.out.mono ?_; rintro e W61 ⟨rfl, hb⟩; have ST61 := Lib.hid (ST59.out.go hb); have hD61 := Lib.hid (hD15.out.trans (Below.mono hb hD15.out.size)); clear hb)
            refine hJ _ _ (HC15.out W61 hD61.out) ?_
            refine pq_pu (some 71) rfl rfl (by rfl) (fun ws => by go_simp; try with_reducible rfl) ?_; go_frame   -- 10 Op.binOp BinOp.eql 3 (Operand.tmp 70) (Operand.const (Value.int IntKind.i64 0)) 3
            refine pq_pu (some 72) rfl rfl (by rfl) (fun ws => by go_simp; try with_reducible rfl) ?_; go_frame   -- 11 Op.pick (Operand.tmp 67) (Operand.tmp 71) (Operand.const (Value.bool false))
            refine pq_pu (some 73) rfl rfl (by rfl) (fun ws => by go_simp; try with_reducible rfl) ?_; go_frame   -- 12 Op.move (Operand.tmp 72)
            refine pq_ld (some 74) rfl rfl (by rfl) (fun ws HS => by go_split_ands; go_simp; try with_reducible rfl) ?_; go_frame   -- 13 Op.load 25 (Operand.tmp 14)
            refine pq_ld (some 75) rfl rfl (by rfl) (fun ws HS => by go_split_ands; go_simp; try with_reducible rfl) ?_; go_frame   -- 14 Op.load 25 (Operand.tmp 13)
            refine pk_ke rfl (fun J hJ => ?_)   -- pi_ke 15 Op.call { callee := Callee.value (Operand.func 52), args := #[Operand.tmp 74, Operand.tmp 75], argTypes := #[25, 25] }
            have D62 := Lib.hid (cmp_k (ST61.out.get (v := (.agg #[.bool n6, .slice a6 c6 d6])) (g := decide ((0 : Int) < 0)) (z := canW (0 : Int).natAbs) (by simp)) (ST61.out.get (v := (.agg #[.bool n15, .slice a15 c15 d15])) (g := decide (-x2 < 0)) (z := canW (-x2).natAbs) (by simp)) (valI_can _) (valI_can _))
            rw [Hc.out] at D62
            have C63 := Lib.hid (D62.out)
            go_wp2_with (go_at_call 52; refine C63.out.mono ?_; rintro e W63 ⟨rfl, hb⟩; have ST63 := Lib.hid (ST61.out.go hb); have hD63 := Lib.hid (hD61.out.trans (Below.mono hb hD61.out.size)); clear hb)
            refine hJ _ _ (HC15.out W63 hD63.out) ?_
            refine pq_pu (some 77) rfl rfl (by rfl) (fun ws => by go_simp; try with_reducible rfl) ?_; go_frame   -- 16 Op.binOp BinOp.lss 3 (Operand.tmp 76) (Operand.const (Value.int IntKind.i64 0)) 3
            refine pq_pu (some 78) rfl rfl (by rfl) (fun ws => by go_simp; try with_reducible rfl) ?_; go_frame   -- 17 Op.pick (Operand.tmp 73) (Operand.tmp 77) (Operand.const (Value.bool false))
            refine pq_pu (some 79) rfl rfl (by rfl) (fun ws => by go_simp; try with_reducible rfl) ?_; go_frame   -- 18 Op.move (Operand.tmp 78)
            refine pq_ld (some 80) rfl rfl (by rfl) (fun ws HS => by go_split_ands; go_simp; try with_reducible rfl) ?_; go_frame   -- 19 Op.load 25 (Operand.tmp 6)
            refine pq_ld (some 81) rfl rfl (by rfl) (fun ws HS => by go_split_ands; go_simp; try with_reducible rfl) ?_; go_frame   -- 20 Op.load 25 (Operand.tmp 12)
            refine pk_ke rfl (fun J hJ => ?_)   -- pi_ke 21 Op.call { callee := Callee.value (Operand.func 52), args := #[Operand.tmp 80, Operand.tmp 81], argTypes := #[25, 25] }
            have D64 := Lib.hid (cmp_k (ST63.out.get (v := (.agg #[.bool n6, .slice a6 c6 d6])) (g := decide ((0 : Int) < 0)) (z := canW (0 : Int).natAbs) (by simp)) (ST63.out.get (v := (.agg #[.bool n12, .slice a12 c12 d12])) (g := decide ((0 : Int) < 0)) (z := canW ((0 : Int)).natAbs) (by simp)) (valI_can _) (valI_can _))
            rw [Hr.out] at D64
            have C65 := Lib.hid (D64.out)
            go_wp2_with (go_at_call 52; refine C65.out.mono ?_; rintro e W65 ⟨rfl, hb⟩; have ST65 := Lib.hid (ST63.out.go hb); have hD65 := Lib.hid (hD63.out.trans (Below.mono hb hD63.out.size)); clear hb)
            refine hJ _ _ (HC15.out W65 hD65.out) ?_
            refine pq_pu (some 83) rfl rfl (by rfl) (fun ws => by go_simp; try with_reducible rfl) ?_; go_frame   -- 22 Op.binOp BinOp.eql 3 (Operand.tmp 82) (Operand.const (Value.int IntKind.i64 0)) 3
            refine pq_pu (some 84) rfl rfl (by rfl) (fun ws => by go_simp; try with_reducible rfl) ?_; go_frame   -- 23 Op.move (Operand.tmp 83)
            refine pq_ld_skip (some 85) rfl rfl (by rfl) ?_; go_frame   -- 24 Op.load 25 (Operand.tmp 6)
            refine pq_ld_skip (some 86) rfl rfl (by rfl) ?_; go_frame   -- 25 Op.load 25 (Operand.tmp 12)
            refine pq_ld_skip (some 89) rfl rfl (by rfl) ?_; go_frame   -- 28 Op.load 25 (Operand.tmp 2)
            refine pq_ld_skip (some 90) rfl rfl (by rfl) ?_; go_frame   -- 29 Op.load 25 (Operand.tmp 12)
            refine pk_ke rfl (fun J hJ => ?_)   -- pi_ke 26 Op.call { callee := Callee.value (Operand.func 52), args := #[Operand.tmp 85, Operand.tmp 86], argTypes := #[25, 25] }
            go_wp2_with fail
            refine hJ _ _ (HC15.out W65 hD65.out) ?_
            refine pq_pu_skip (some 88) rfl rfl (by rfl) ?_; go_frame   -- 27 Op.binOp BinOp.lss 3 (Operand.tmp 87) (Operand.const (Value.int IntKind.i64 0)) 3
            refine pi_tail (by rfl) ?_; simp only [opsAt, List.getElem?_toArray, List.getElem?_cons_zero, List.getElem?_cons_succ]   -- [(30, 'Op.call { callee := Callee.value (Operand.func 52), args := #[Operand.tmp 89, Operand.tmp 90], argTypes := #[25, 25] }'), (31, 'Op.binOp BinOp.lss 3 (Operand.tmp 91) (Operand.const (Value.int IntKind.i64 0)) 3'), (32, 'Op.binOp BinOp.eql 4 (Operand.tmp 88) (Operand.tmp 92) 4'), (33, 'Op.pick (Operand.tmp 84) (Operand.const (Value.bool true)) (Operand.tmp 93)'), (34, 'Op.pick (Operand.tmp 79) (Operand.tmp 94) (Operand.const (Value.bool false))'), (35, 'Op.move (Operand.tmp 95)'), (36, 'Op.call { callee := Callee.value (Operand.func 36), args := #[], argTypes := #[] }'), (37, 'Op.pick (Operand.tmp 96) (Operand.tmp 97) (Operand.const (Value.bool false))'), (38, 'Op.assign (Operand.tmp 98)')]
            go_wp2_with (go_at_call 36; refine (awake_any W65).mono ?_; rintro e Wy ⟨rfl, hb⟩; have STy := Lib.hid (ST65.out.go hb); clear hb)
            go_ret
            exact ⟨by simp, STy.out.below⟩
          · have Hrs := Lib.hid q2
            clear q2
            have Hr := Lib.hid (cmpI_hi Hrs.out)
            have Hx := Lib.hid (cmpI_hi (HP.out.2.2.2.2.2.2 Hrs.out))
            obtain ⟨qb120, qb121⟩ := ST40.out.cells (b := b12) (n := n12) (s := .slice a12 c12 d12) (by simp)
            obtain ⟨qb60, qb61⟩ := ST40.out.cells (b := b6) (n := n6) (s := .slice a6 c6 d6) (by simp)
            go_wp2_with (go_at_call 52; refine hold ?_)
            refine Hold.mk ?_
            have C66 := Lib.hid (cmp_k (ST40.out.get (v := (.agg #[.bool n6, .slice a6 c6 d6])) (g := decide (R < 0)) (z := canW (R).natAbs) (by simp)) (ST40.out.get (v := (.agg #[.bool n12, .slice a12 c12 d12])) (g := decide ((0 : Int) < 0)) (z := canW ((0 : Int)).natAbs) (by simp)) (valI_can _) (valI_can _))
            rw [Hr.out] at C66
            refine C66.out.mono ?_
            rintro e W66 ⟨rfl, hb⟩
            clear qb120 qb121 qb60 qb61
            have ST67 := Lib.hid (ST40.out.go hb)
            clear hb
            go_upto_region 15 with fail
            have Hc := Lib.hid (show cmpI (R) (-x2) = -1 from cmpI_lo (by have h1 := HP.out.2.2.2.1; have h2 := Hrs.out; have h3 := Hy.out; omega))
            have HC15 : Hid (∀ wx, Below W66.heap.size W66 wx → (fun w' : World => w'.cell? ⟨b14, 0, none⟩ = some (.bool n6) ∧ w'.cell? ⟨b14, 1, none⟩ = some (.slice a6 c6 d6) ∧ w'.cell? ⟨b13, 0, none⟩ = some (.bool n15) ∧ w'.cell? ⟨b13, 1, none⟩ = some (.slice a15 c15 d15) ∧ w'.cell? ⟨b12, 0, none⟩ = some (.bool n12) ∧ w'.cell? ⟨b12, 1, none⟩ = some (.slice a12 c12 d12) ∧ w'.cell? ⟨b10, 0, none⟩ = some (.bool n10) ∧ w'.cell? ⟨b10, 1, none⟩ = some (.slice a10 c10 d10) ∧ w'.cell? ⟨b8, 0, none⟩ = some (.bool n8) ∧ w'.cell? ⟨b8, 1, none⟩ = some (.slice a8 c8 d8) ∧ w'.cell? ⟨b6, 0, none⟩ = some (.bool n6) ∧ w'.cell? ⟨b6, 1, none⟩ = some (.slice a6 c6 d6) ∧ w'.cell? ⟨b5, 0, none⟩ = some (.bool n5) ∧ w'.cell? ⟨b5, 1, none⟩ = some (.slice a5 c5 d5) ∧ w'.cell? ⟨p2, 0, none⟩ = some (.bool g2) ∧ w'.cell? ⟨p2, 1, none⟩ = some (.slice a2 n2 cap2) ∧ w'.cell? ⟨p1, 0, none⟩ = some (.bool g1) ∧ w'.cell? ⟨p1, 1, none⟩ = some (.slice a1 n1 cap1)) wx) := Lib.hid fun wx hx => by
              have h := ST67.out.go hx
              exact ⟨(h.cells (b := b14) (n := n6) (s := .slice a6 c6 d6) (by simp)).1, (h.cells (b := b14) (n := n6) (s := .slice a6 c6 d6) (by simp)).2, (h.cells (b := b13) (n := n15) (s := .slice a15 c15 d15) (by simp)).1, (h.cells (b := b13) (n := n15) (s := .slice a15 c15 d15) (by simp)).2, (h.cells (b := b12) (n := n12) (s := .slice a12 c12 d12) (by simp)).1, (h.cells (b := b12) (n := n12) (s := .slice a12 c12 d12) (by simp)).2, (h.cells (b := b10) (n := n10) (s := .slice a10 c10 d10) (by simp)).1, (h.cells (b := b10) (n := n10) (s := .slice a10 c10 d10) (by simp)).2, (h.cells (b := b8) (n := n8) (s := .slice a8 c8 d8) (by simp)).1, (h.cells (b := b8) (n := n8) (s := .slice a8 c8 d8) (by simp)).2, (h.cells (b := b6) (n := n6) (s := .slice a6 c6 d6) (by simp)).1, (h.cells (b := b6) (n := n6) (s := .slice a6 c6 d6) (by simp)).2, (h.cells (b := b5) (n := n5) (s := .slice a5 c5 d5) (by simp)).1, (h.cells (b := b5) (n := n5) (s := .slice a5 c5 d5) (by simp)).2, (h.cells (b := p2) (n := g2) (s := .slice a2 n2 cap2) (by simp)).1, (h.cells (b := p2) (n := g2) (s := .slice a2 n2 cap2) (by simp)).2, (h.cells (b := p1) (n := g1) (s := .slice a1 n1 cap1) (by simp)).1, (h.cells (b := p1) (n := g1) (s := .slice a1 n1 cap1) (by simp)).2⟩
            have hD15 := Lib.hid (Below.refl W66.heap.size W66).drew
            have ST68 := Lib.hid (ST67.out.go hD15.out)
            have HS := HC15.out W66.drew hD15.out
            refine wp_region_pi (fun w' : World => w'.cell? ⟨b14, 0, none⟩ = some (.bool n6) ∧ w'.cell? ⟨b14, 1, none⟩ = some (.slice a6 c6 d6) ∧ w'.cell? ⟨b13, 0, none⟩ = some (.bool n15) ∧ w'.cell? ⟨b13, 1, none⟩ = some (.slice a15 c15 d15) ∧ w'.cell? ⟨b12, 0, none⟩ = some (.bool n12) ∧ w'.cell? ⟨b12, 1, none⟩ = some (.slice a12 c12 d12) ∧ w'.cell? ⟨b10, 0, none⟩ = some (.bool n10) ∧ w'.cell? ⟨b10, 1, none⟩ = some (.slice a10 c10 d10) ∧ w'.cell? ⟨b8, 0, none⟩ = some (.bool n8) ∧ w'.cell? ⟨b8, 1, none⟩ = some (.slice a8 c8 d8) ∧ w'.cell? ⟨b6, 0, none⟩ = some (.bool n6) ∧ w'.cell? ⟨b6, 1, none⟩ = some (.slice a6 c6 d6) ∧ w'.cell? ⟨b5, 0, none⟩ = some (.bool n5) ∧ w'.cell? ⟨b5, 1, none⟩ = some (.slice a5 c5 d5) ∧ w'.cell? ⟨p2, 0, none⟩ = some (.bool g2) ∧ w'.cell? ⟨p2, 1, none⟩ = some (.slice a2 n2 cap2) ∧ w'.cell? ⟨p1, 0, none⟩ = some (.bool g1) ∧ w'.cell? ⟨p1, 1, none⟩ = some (.slice a1 n1 cap1)) [(0, 1), (1, 1), (2, 1), (3, 1), (4, 1), (5, 1), (6, 1), (7, 0), (8, 0), (9, 2), (10, 1), (11, 1), (12, 1), (13, 0), (14, 0), (15, 2), (16, 1), (17, 1), (18, 1), (19, 0), (20, 0), (21, 2), (22, 1), (23, 1), (24, 0), (25, 0), (28, 0), (29, 0), (26, 2), (27, 1), (30, 3), (31, 3), (32, 3), (33, 3), (34, 3), (35, 3), (36, 3), (37, 3), (38, 3)] [(30, [23, 18, 17, 12, 9, 7]), (30, [23, 18, 17, 12, 9, 8]), (30, [23, 18, 15, 13]), (30, [23, 18, 15, 14]), (30, [23, 21, 19]), (30, [23, 21, 20]), (30, [26, 24]), (30, [26, 25]), (30, [28]), (30, [29]), (31, [23, 18, 17, 12, 9, 7]), (31, [23, 18, 17, 12, 9, 8]), (31, [23, 18, 15, 13]), (31, [23, 18, 15, 14]), (31, [23, 21, 19]), (31, [23, 21, 20]), (31, [30, 26, 24]), (31, [30, 26, 25]), (31, [30, 28]), (31, [30, 29]), (32, [23, 18, 17, 12, 9, 7]), (32, [23, 18, 17, 12, 9, 8]), (32, [23, 18, 15, 13]), (32, [23, 18, 15, 14]), (32, [23, 21, 19]), (32, [23, 21, 20]), (32, [27, 26, 24]), (32, [27, 26, 25]), (32, [31, 30, 28]), (32, [31, 30, 29]), (33, [18, 17, 12, 9, 7]), (33, [18, 17, 12, 9, 8]), (33, [18, 15, 13]), (33, [18, 15, 14]), (33, [23, 21, 19]), (33, [23, 21, 20]), (33, [32, 27, 26, 24]), (33, [32, 27, 26, 25]), (33, [32, 31, 30, 28]), (33, [32, 31, 30, 29]), (34, [18, 17, 12, 9, 7]), (34, [18, 17, 12, 9, 8]), (34, [18, 15, 13]), (34, [18, 15, 14]), (34, [33, 23, 21, 19]), (34, [33, 23, 21, 20]), (34, [33, 32, 27, 26, 24]), (34, [33, 32, 27, 26, 25]), (34, [33, 32, 31, 30, 28]), (34, [33, 32, 31, 30, 29]), (35, [34, 18, 17, 12, 9, 7]), (35, [34, 18, 17, 12, 9, 8]), (35, [34, 18, 15, 13]), (35, [34, 18, 15, 14]), (35, [30, 23, 21, 19]), (35, [30, 23, 21, 20]), (35, [30, 26, 24]), (35, [30, 26, 25]), (35, [30, 28]), (35, [30, 29]), (36, [35, 34, 18, 17, 12, 9, 7]), (36, [35, 34, 18, 17, 12, 9, 8]), (36, [35, 34, 18, 15, 13]), (36, [35, 34, 18, 15, 14]), (36, [35, 30, 23, 21, 19]), (36, [35, 30, 23, 21, 20]), (36, [35, 30, 26, 24]), (36, [35, 30, 26, 25]), (36, [35, 30, 28]), (36, [35, 30, 29]), (37, [35, 34, 18, 17, 12, 9, 7]), (37, [35, 34, 18, 17, 12, 9, 8]), (37, [35, 34, 18, 15, 13]), (37, [35, 34, 18, 15, 14]), (37, [35, 30, 23, 21, 19]), (37, [35, 30, 23, 21, 20]), (37, [35, 30, 26, 24]), (37, [35, 30, 26, 25]), (37, [35, 30, 28]), (37, [35, 30, 29]), (38, [7]), (38, [8]), (38, [13]), (38, [14]), (38, [19]), (38, [20]), (38, [24]), (38, [25]), (38, [28]), (38, [29])] (by kernel_rfl) (by kernel_rfl) (fun _ _ _ _ _ h => h) (HS) ?_
            refine pq_pu (some 61) rfl rfl (by rfl) (fun ws => by go_simp; try with_reducible rfl) ?_; go_frame   -- 0 Op.move (Operand.tmp 9)
            refine pq_pu (some 62) rfl rfl (by rfl) (fun ws => by go_simp; try with_reducible rfl) ?_; go_frame   -- 1 Op.binOp BinOp.eql 29 (Operand.tmp 61) (Operand.const (Value.int IntKind.i64 0)) 29
            refine pq_pu (some 63) rfl rfl (by rfl) (fun ws => by go_simp; try with_reducible rfl) ?_; go_frame   -- 2 Op.move (Operand.tmp 62)
            refine pq_pu (some 64) rfl rfl (by rfl) (fun ws => by go_simp; try with_reducible rfl) ?_; go_frame   -- 3 Op.move (Operand.tmp 11)
            refine pq_pu (some 65) rfl rfl (by rfl) (fun ws => by go_simp; try with_reducible rfl) ?_; go_frame   -- 4 Op.binOp BinOp.eql 29 (Operand.tmp 64) (Operand.const (Value.int IntKind.i64 0)) 29
            refine pq_pu (some 66) rfl rfl (by rfl) (fun ws => by go_simp; try with_reducible rfl) ?_; go_frame   -- 5 Op.pick (Operand.tmp 63) (Operand.tmp 65) (Operand.const (Value.bool false))
            refine pq_pu (some 67) rfl rfl (by rfl) (fun ws => by go_simp; try with_reducible rfl) ?_; go_frame   -- 6 Op.move (Operand.tmp 66)
            refine pq_ld (some 68) rfl rfl (by rfl) (fun ws HS => by go_split_ands; go_simp; try with_reducible rfl) ?_; go_frame   -- 7 Op.load 25 (Operand.tmp 10)
            refine pq_ld (some 69) rfl rfl (by rfl) (fun ws HS => by go_split_ands; go_simp; try with_reducible rfl) ?_; go_frame   -- 8 Op.load 25 (Operand.tmp 2)
            refine pk_ke rfl (fun J hJ => ?_)   -- pi_ke 9 Op.call { callee := Callee.value (Operand.func 52), args := #[Operand.tmp 68, Operand.tmp 69], argTypes := #[25, 25] }
            have D69 := Lib.hid (cmp_k (ST68.out.get (v := (.agg #[.bool n10, .slice a10 c10 d10])) (g := decide (addV (mulV (Q) (x2)) (R) < 0)) (z := canW (addV (mulV (Q) (x2)) (R)).natAbs) (by simp)) (ST68.out.get (v := (.agg #[.bool g1, .slice a1 n1 cap1])) (g := g1) (z := z1) (by simp)) (valI_can _) Hx1.out)
            rw [HP.out.2.2.1, cmpI_self] at D69
            have C70 := Lib.hid (D69.out)
            go_wp2_with (go_at_call 52; refine C70.out.mono ?_; rintro e W70 ⟨rfl, hb⟩; have ST70 := Lib.hid (ST68.out.go hb); have hD70 := Lib.hid (hD15.out.trans (Below.mono hb hD15.out.size)); clear hb)
            refine hJ _ _ (HC15.out W70 hD70.out) ?_
            refine pq_pu (some 71) rfl rfl (by rfl) (fun ws => by go_simp; try with_reducible rfl) ?_; go_frame   -- 10 Op.binOp BinOp.eql 3 (Operand.tmp 70) (Operand.const (Value.int IntKind.i64 0)) 3
            refine pq_pu (some 72) rfl rfl (by rfl) (fun ws => by go_simp; try with_reducible rfl) ?_; go_frame   -- 11 Op.pick (Operand.tmp 67) (Operand.tmp 71) (Operand.const (Value.bool false))
            refine pq_pu (some 73) rfl rfl (by rfl) (fun ws => by go_simp; try with_reducible rfl) ?_; go_frame   -- 12 Op.move (Operand.tmp 72)
            refine pq_ld (some 74) rfl rfl (by rfl) (fun ws HS => by go_split_ands; go_simp; try with_reducible rfl) ?_; go_frame   -- 13 Op.load 25 (Operand.tmp 14)
            refine pq_ld (some 75) rfl rfl (by rfl) (fun ws HS => by go_split_ands; go_simp; try with_reducible rfl) ?_; go_frame   -- 14 Op.load 25 (Operand.tmp 13)
            refine pk_ke rfl (fun J hJ => ?_)   -- pi_ke 15 Op.call { callee := Callee.value (Operand.func 52), args := #[Operand.tmp 74, Operand.tmp 75], argTypes := #[25, 25] }
            have D71 := Lib.hid (cmp_k (ST70.out.get (v := (.agg #[.bool n6, .slice a6 c6 d6])) (g := decide (R < 0)) (z := canW (R).natAbs) (by simp)) (ST70.out.get (v := (.agg #[.bool n15, .slice a15 c15 d15])) (g := decide (-x2 < 0)) (z := canW (-x2).natAbs) (by simp)) (valI_can _) (valI_can _))
            rw [Hc.out] at D71
            have C72 := Lib.hid (D71.out)
            go_wp2_with (go_at_call 52; refine C72.out.mono ?_; rintro e W72 ⟨rfl, hb⟩; have ST72 := Lib.hid (ST70.out.go hb); have hD72 := Lib.hid (hD70.out.trans (Below.mono hb hD70.out.size)); clear hb)
            refine hJ _ _ (HC15.out W72 hD72.out) ?_
            refine pq_pu (some 77) rfl rfl (by rfl) (fun ws => by go_simp; try with_reducible rfl) ?_; go_frame   -- 16 Op.binOp BinOp.lss 3 (Operand.tmp 76) (Operand.const (Value.int IntKind.i64 0)) 3
            refine pq_pu (some 78) rfl rfl (by rfl) (fun ws => by go_simp; try with_reducible rfl) ?_; go_frame   -- 17 Op.pick (Operand.tmp 73) (Operand.tmp 77) (Operand.const (Value.bool false))
            refine pq_pu (some 79) rfl rfl (by rfl) (fun ws => by go_simp; try with_reducible rfl) ?_; go_frame   -- 18 Op.move (Operand.tmp 78)
            refine pq_ld (some 80) rfl rfl (by rfl) (fun ws HS => by go_split_ands; go_simp; try with_reducible rfl) ?_; go_frame   -- 19 Op.load 25 (Operand.tmp 6)
            refine pq_ld (some 81) rfl rfl (by rfl) (fun ws HS => by go_split_ands; go_simp; try with_reducible rfl) ?_; go_frame   -- 20 Op.load 25 (Operand.tmp 12)
            refine pk_ke rfl (fun J hJ => ?_)   -- pi_ke 21 Op.call { callee := Callee.value (Operand.func 52), args := #[Operand.tmp 80, Operand.tmp 81], argTypes := #[25, 25] }
            have D73 := Lib.hid (cmp_k (ST72.out.get (v := (.agg #[.bool n6, .slice a6 c6 d6])) (g := decide (R < 0)) (z := canW (R).natAbs) (by simp)) (ST72.out.get (v := (.agg #[.bool n12, .slice a12 c12 d12])) (g := decide ((0 : Int) < 0)) (z := canW ((0 : Int)).natAbs) (by simp)) (valI_can _) (valI_can _))
            rw [Hr.out] at D73
            have C74 := Lib.hid (D73.out)
            go_wp2_with (go_at_call 52; refine C74.out.mono ?_; rintro e W74 ⟨rfl, hb⟩; have ST74 := Lib.hid (ST72.out.go hb); have hD74 := Lib.hid (hD72.out.trans (Below.mono hb hD72.out.size)); clear hb)
            refine hJ _ _ (HC15.out W74 hD74.out) ?_
            refine pq_pu (some 83) rfl rfl (by rfl) (fun ws => by go_simp; try with_reducible rfl) ?_; go_frame   -- 22 Op.binOp BinOp.eql 3 (Operand.tmp 82) (Operand.const (Value.int IntKind.i64 0)) 3
            refine pq_pu (some 84) rfl rfl (by rfl) (fun ws => by go_simp; try with_reducible rfl) ?_; go_frame   -- 23 Op.move (Operand.tmp 83)
            refine pq_ld (some 85) rfl rfl (by rfl) (fun ws HS => by go_split_ands; go_simp; try with_reducible rfl) ?_; go_frame   -- 24 Op.load 25 (Operand.tmp 6)
            refine pq_ld (some 86) rfl rfl (by rfl) (fun ws HS => by go_split_ands; go_simp; try with_reducible rfl) ?_; go_frame   -- 25 Op.load 25 (Operand.tmp 12)
            refine pq_ld (some 89) rfl rfl (by rfl) (fun ws HS => by go_split_ands; go_simp; try with_reducible rfl) ?_; go_frame   -- 28 Op.load 25 (Operand.tmp 2)
            refine pq_ld (some 90) rfl rfl (by rfl) (fun ws HS => by go_split_ands; go_simp; try with_reducible rfl) ?_; go_frame   -- 29 Op.load 25 (Operand.tmp 12)
            refine pk_ke rfl (fun J hJ => ?_)   -- pi_ke 26 Op.call { callee := Callee.value (Operand.func 52), args := #[Operand.tmp 85, Operand.tmp 86], argTypes := #[25, 25] }
            have D75 := Lib.hid (cmp_k (ST74.out.get (v := (.agg #[.bool n6, .slice a6 c6 d6])) (g := decide (R < 0)) (z := canW (R).natAbs) (by simp)) (ST74.out.get (v := (.agg #[.bool n12, .slice a12 c12 d12])) (g := decide ((0 : Int) < 0)) (z := canW ((0 : Int)).natAbs) (by simp)) (valI_can _) (valI_can _))
            rw [Hr.out] at D75
            have C76 := Lib.hid (D75.out)
            go_wp2_with (go_at_call 52; refine C76.out.mono ?_; rintro e W76 ⟨rfl, hb⟩; have ST76 := Lib.hid (ST74.out.go hb); have hD76 := Lib.hid (hD74.out.trans (Below.mono hb hD74.out.size)); clear hb)
            refine hJ _ _ (HC15.out W76 hD76.out) ?_
            refine pq_pu (some 88) rfl rfl (by rfl) (fun ws => by go_simp; try with_reducible rfl) ?_; go_frame   -- 27 Op.binOp BinOp.lss 3 (Operand.tmp 87) (Operand.const (Value.int IntKind.i64 0)) 3
            refine pi_tail (by rfl) ?_; simp only [opsAt, List.getElem?_toArray, List.getElem?_cons_zero, List.getElem?_cons_succ]   -- [(30, 'Op.call { callee := Callee.value (Operand.func 52), args := #[Operand.tmp 89, Operand.tmp 90], argTypes := #[25, 25] }'), (31, 'Op.binOp BinOp.lss 3 (Operand.tmp 91) (Operand.const (Value.int IntKind.i64 0)) 3'), (32, 'Op.binOp BinOp.eql 4 (Operand.tmp 88) (Operand.tmp 92) 4'), (33, 'Op.pick (Operand.tmp 84) (Operand.const (Value.bool true)) (Operand.tmp 93)'), (34, 'Op.pick (Operand.tmp 79) (Operand.tmp 94) (Operand.const (Value.bool false))'), (35, 'Op.move (Operand.tmp 95)'), (36, 'Op.call { callee := Callee.value (Operand.func 36), args := #[], argTypes := #[] }'), (37, 'Op.pick (Operand.tmp 96) (Operand.tmp 97) (Operand.const (Value.bool false))'), (38, 'Op.assign (Operand.tmp 98)')]
            have D77 := Lib.hid (cmp_k (ST76.out.get (v := (.agg #[.bool g1, .slice a1 n1 cap1])) (g := g1) (z := z1) (by simp)) (ST76.out.get (v := (.agg #[.bool n12, .slice a12 c12 d12])) (g := decide ((0 : Int) < 0)) (z := canW ((0 : Int)).natAbs) (by simp)) Hx1.out (valI_can _))
            rw [Hx.out] at D77
            go_wp2_with first
              | (go_at_call 52; refine D77.out.mono ?_; rintro e Wx ⟨rfl, hb⟩; have STx := Lib.hid (ST76.out.go hb); clear hb)
              | (go_at_call 36; refine (awake_any Wx).mono ?_; rintro e Wy ⟨rfl, hb⟩; have STy := Lib.hid (STx.out.go hb); clear hb)
            go_ret
            exact ⟨by simp, STy.out.below⟩
        · have Hy := Lib.hid q1
          clear q1
          have Hyc := Lib.hid (cmpI_hi Hy.out)
          obtain ⟨qb120, qb121⟩ := ST32.out.cells (b := b12) (n := n12) (s := .slice a12 c12 d12) (by simp)
          obtain ⟨qp20, qp21⟩ := ST32.out.cells (b := p2) (n := g2) (s := .slice a2 n2 cap2) (by simp)
          go_wp2_with (go_at_call 52; refine hold ?_)
          refine Hold.mk ?_
          have C78 := Lib.hid (cmp_k (ST32.out.get (v := (.agg #[.bool g2, .slice a2 n2 cap2])) (g := g2) (z := z2) (by simp)) (ST32.out.get (v := (.agg #[.bool n12, .slice a12 c12 d12])) (g := decide ((0 : Int) < 0)) (z := canW ((0 : Int)).natAbs) (by simp)) Hx2.out (valI_can _))
          rw [Hyc.out] at C78
          refine C78.out.mono ?_
          rintro e W78 ⟨rfl, hb⟩
          clear qb120 qb121 qp20 qp21
          have ST79 := Lib.hid (ST32.out.go hb)
          clear hb
          go_upto_region 12 with fail
          obtain ⟨qb60, qb61⟩ := ST79.out.cells (b := b6) (n := n6) (s := .slice a6 c6 d6) (by simp)
          go_upto_region 13 with fail
          have Hb14n := Lib.hid (ST79.out.old (B := W78.heap.size) rfl)
          clear qb60 qb61
          obtain ⟨W80, HW80⟩ : ∃ W', Hid (W' = W78.alloc (.cells #[.bool n6, .slice a6 c6 d6] 25)) := ⟨_, Lib.hid rfl⟩
          obtain ⟨b14, Hb14⟩ : ∃ b, Hid (b = W78.heap.size) := ⟨_, Lib.hid rfl⟩
          have ST81 := Lib.hid (ST79.out.box Hb14.out HW80.out)
          rw [← HW80.out]
          try rw [← Hb14.out]
          rw [← Hb14.out] at Hb14n
          rcases Int.lt_trichotomy R 0 with q2 | q2 | q2
          · have Hrs := Lib.hid q2
            clear q2
            have Hr := Lib.hid (cmpI_lo Hrs.out)
            have Hx := Lib.hid (cmpI_lo (HP.out.2.2.2.2.2.1 Hrs.out))
            obtain ⟨qb120, qb121⟩ := ST81.out.cells (b := b12) (n := n12) (s := .slice a12 c12 d12) (by simp)
            obtain ⟨qb60, qb61⟩ := ST81.out.cells (b := b6) (n := n6) (s := .slice a6 c6 d6) (by simp)
            go_wp2_with (go_at_call 52; refine hold ?_)
            refine Hold.mk ?_
            have C82 := Lib.hid (cmp_k (ST81.out.get (v := (.agg #[.bool n6, .slice a6 c6 d6])) (g := decide (R < 0)) (z := canW (R).natAbs) (by simp)) (ST81.out.get (v := (.agg #[.bool n12, .slice a12 c12 d12])) (g := decide ((0 : Int) < 0)) (z := canW ((0 : Int)).natAbs) (by simp)) (valI_can _) (valI_can _))
            rw [Hr.out] at C82
            refine C82.out.mono ?_
            rintro e W82 ⟨rfl, hb⟩
            clear qb120 qb121 qb60 qb61
            have ST83 := Lib.hid (ST81.out.go hb)
            clear hb
            obtain ⟨qb60, qb61⟩ := ST83.out.cells (b := b6) (n := n6) (s := .slice a6 c6 d6) (by simp)
            go_wp2_with (go_at_call 58; refine hold ?_)
            refine Hold.mk ?_
            refine (neg_k (ST83.out.get (v := (.agg #[.bool n6, .slice a6 c6 d6])) (g := decide (R < 0)) (z := canW (R).natAbs) (by simp)) (valI_can _)).mono ?_
            rintro e W84 ⟨⟨n16, a16, c16, d16, rfl, hv⟩, hb⟩
            clear qb60 qb61
            have ST85 := Lib.hid (ST83.out.next hb hv)
            clear hb hv
            obtain ⟨⟨r0, r1⟩, f0, f1⟩ := box_cells (ST85.out.boxes (b14, n6, .slice a6 c6 d6) (by simp))
            go_upto_region 15 with fail
            obtain ⟨W86, HW86⟩ : ∃ W', Hid (W' = (W84.setCell ⟨b14, 0, none⟩ (.bool n16)).setCell ⟨b14, 1, none⟩ (.slice a16 c16 d16)) := ⟨_, Lib.hid rfl⟩
            rw [← HW86.out]
            clear r0 r1 f0 f1
            have ST87 := Lib.hid (ST85.out.store Hb14n.out HW86.out)
            have Hc := Lib.hid (show cmpI (-R) (x2) = -1 from cmpI_lo (by have h1 := HP.out.2.2.2.1; have h2 := Hrs.out; have h3 := Hy.out; omega))
            have HC15 : Hid (∀ wx, Below W86.heap.size W86 wx → (fun w' : World => w'.cell? ⟨b14, 0, none⟩ = some (.bool n16) ∧ w'.cell? ⟨b14, 1, none⟩ = some (.slice a16 c16 d16) ∧ w'.cell? ⟨b13, 0, none⟩ = some (.bool g2) ∧ w'.cell? ⟨b13, 1, none⟩ = some (.slice a2 n2 cap2) ∧ w'.cell? ⟨b12, 0, none⟩ = some (.bool n12) ∧ w'.cell? ⟨b12, 1, none⟩ = some (.slice a12 c12 d12) ∧ w'.cell? ⟨b10, 0, none⟩ = some (.bool n10) ∧ w'.cell? ⟨b10, 1, none⟩ = some (.slice a10 c10 d10) ∧ w'.cell? ⟨b8, 0, none⟩ = some (.bool n8) ∧ w'.cell? ⟨b8, 1, none⟩ = some (.slice a8 c8 d8) ∧ w'.cell? ⟨b6, 0, none⟩ = some (.bool n6) ∧ w'.cell? ⟨b6, 1, none⟩ = some (.slice a6 c6 d6) ∧ w'.cell? ⟨b5, 0, none⟩ = some (.bool n5) ∧ w'.cell? ⟨b5, 1, none⟩ = some (.slice a5 c5 d5) ∧ w'.cell? ⟨p2, 0, none⟩ = some (.bool g2) ∧ w'.cell? ⟨p2, 1, none⟩ = some (.slice a2 n2 cap2) ∧ w'.cell? ⟨p1, 0, none⟩ = some (.bool g1) ∧ w'.cell? ⟨p1, 1, none⟩ = some (.slice a1 n1 cap1)) wx) := Lib.hid fun wx hx => by
              have h := ST87.out.go hx
              exact ⟨(h.cells (b := b14) (n := n16) (s := .slice a16 c16 d16) (by simp)).1, (h.cells (b := b14) (n := n16) (s := .slice a16 c16 d16) (by simp)).2, (h.cells (b := b13) (n := g2) (s := .slice a2 n2 cap2) (by simp)).1, (h.cells (b := b13) (n := g2) (s := .slice a2 n2 cap2) (by simp)).2, (h.cells (b := b12) (n := n12) (s := .slice a12 c12 d12) (by simp)).1, (h.cells (b := b12) (n := n12) (s := .slice a12 c12 d12) (by simp)).2, (h.cells (b := b10) (n := n10) (s := .slice a10 c10 d10) (by simp)).1, (h.cells (b := b10) (n := n10) (s := .slice a10 c10 d10) (by simp)).2, (h.cells (b := b8) (n := n8) (s := .slice a8 c8 d8) (by simp)).1, (h.cells (b := b8) (n := n8) (s := .slice a8 c8 d8) (by simp)).2, (h.cells (b := b6) (n := n6) (s := .slice a6 c6 d6) (by simp)).1, (h.cells (b := b6) (n := n6) (s := .slice a6 c6 d6) (by simp)).2, (h.cells (b := b5) (n := n5) (s := .slice a5 c5 d5) (by simp)).1, (h.cells (b := b5) (n := n5) (s := .slice a5 c5 d5) (by simp)).2, (h.cells (b := p2) (n := g2) (s := .slice a2 n2 cap2) (by simp)).1, (h.cells (b := p2) (n := g2) (s := .slice a2 n2 cap2) (by simp)).2, (h.cells (b := p1) (n := g1) (s := .slice a1 n1 cap1) (by simp)).1, (h.cells (b := p1) (n := g1) (s := .slice a1 n1 cap1) (by simp)).2⟩
            have hD15 := Lib.hid (Below.refl W86.heap.size W86).drew
            have ST88 := Lib.hid (ST87.out.go hD15.out)
            have HS := HC15.out W86.drew hD15.out
            refine wp_region_pi (fun w' : World => w'.cell? ⟨b14, 0, none⟩ = some (.bool n16) ∧ w'.cell? ⟨b14, 1, none⟩ = some (.slice a16 c16 d16) ∧ w'.cell? ⟨b13, 0, none⟩ = some (.bool g2) ∧ w'.cell? ⟨b13, 1, none⟩ = some (.slice a2 n2 cap2) ∧ w'.cell? ⟨b12, 0, none⟩ = some (.bool n12) ∧ w'.cell? ⟨b12, 1, none⟩ = some (.slice a12 c12 d12) ∧ w'.cell? ⟨b10, 0, none⟩ = some (.bool n10) ∧ w'.cell? ⟨b10, 1, none⟩ = some (.slice a10 c10 d10) ∧ w'.cell? ⟨b8, 0, none⟩ = some (.bool n8) ∧ w'.cell? ⟨b8, 1, none⟩ = some (.slice a8 c8 d8) ∧ w'.cell? ⟨b6, 0, none⟩ = some (.bool n6) ∧ w'.cell? ⟨b6, 1, none⟩ = some (.slice a6 c6 d6) ∧ w'.cell? ⟨b5, 0, none⟩ = some (.bool n5) ∧ w'.cell? ⟨b5, 1, none⟩ = some (.slice a5 c5 d5) ∧ w'.cell? ⟨p2, 0, none⟩ = some (.bool g2) ∧ w'.cell? ⟨p2, 1, none⟩ = some (.slice a2 n2 cap2) ∧ w'.cell? ⟨p1, 0, none⟩ = some (.bool g1) ∧ w'.cell? ⟨p1, 1, none⟩ = some (.slice a1 n1 cap1)) [(0, 1), (1, 1), (2, 1), (3, 1), (4, 1), (5, 1), (6, 1), (7, 0), (8, 0), (9, 2), (10, 1), (11, 1), (12, 1), (13, 0), (14, 0), (15, 2), (16, 1), (17, 1), (18, 1), (19, 0), (20, 0), (21, 2), (22, 1), (23, 1), (24, 0), (25, 0), (28, 0), (29, 0), (26, 2), (27, 1), (30, 3), (31, 3), (32, 3), (33, 3), (34, 3), (35, 3), (36, 3), (37, 3), (38, 3)] [(30, [23, 18, 17, 12, 9, 7]), (30, [23, 18, 17, 12, 9, 8]), (30, [23, 18, 15, 13]), (30, [23, 18, 15, 14]), (30, [23, 21, 19]), (30, [23, 21, 20]), (30, [26, 24]), (30, [26, 25]), (30, [28]), (30, [29]), (31, [23, 18, 17, 12, 9, 7]), (31, [23, 18, 17, 12, 9, 8]), (31, [23, 18, 15, 13]), (31, [23, 18, 15, 14]), (31, [23, 21, 19]), (31, [23, 21, 20]), (31, [30, 26, 24]), (31, [30, 26, 25]), (31, [30, 28]), (31, [30, 29]), (32, [23, 18, 17, 12, 9, 7]), (32, [23, 18, 17, 12, 9, 8]), (32, [23, 18, 15, 13]), (32, [23, 18, 15, 14]), (32, [23, 21, 19]), (32, [23, 21, 20]), (32, [27, 26, 24]), (32, [27, 26, 25]), (32, [31, 30, 28]), (32, [31, 30, 29]), (33, [18, 17, 12, 9, 7]), (33, [18, 17, 12, 9, 8]), (33, [18, 15, 13]), (33, [18, 15, 14]), (33, [23, 21, 19]), (33, [23, 21, 20]), (33, [32, 27, 26, 24]), (33, [32, 27, 26, 25]), (33, [32, 31, 30, 28]), (33, [32, 31, 30, 29]), (34, [18, 17, 12, 9, 7]), (34, [18, 17, 12, 9, 8]), (34, [18, 15, 13]), (34, [18, 15, 14]), (34, [33, 23, 21, 19]), (34, [33, 23, 21, 20]), (34, [33, 32, 27, 26, 24]), (34, [33, 32, 27, 26, 25]), (34, [33, 32, 31, 30, 28]), (34, [33, 32, 31, 30, 29]), (35, [34, 18, 17, 12, 9, 7]), (35, [34, 18, 17, 12, 9, 8]), (35, [34, 18, 15, 13]), (35, [34, 18, 15, 14]), (35, [30, 23, 21, 19]), (35, [30, 23, 21, 20]), (35, [30, 26, 24]), (35, [30, 26, 25]), (35, [30, 28]), (35, [30, 29]), (36, [35, 34, 18, 17, 12, 9, 7]), (36, [35, 34, 18, 17, 12, 9, 8]), (36, [35, 34, 18, 15, 13]), (36, [35, 34, 18, 15, 14]), (36, [35, 30, 23, 21, 19]), (36, [35, 30, 23, 21, 20]), (36, [35, 30, 26, 24]), (36, [35, 30, 26, 25]), (36, [35, 30, 28]), (36, [35, 30, 29]), (37, [35, 34, 18, 17, 12, 9, 7]), (37, [35, 34, 18, 17, 12, 9, 8]), (37, [35, 34, 18, 15, 13]), (37, [35, 34, 18, 15, 14]), (37, [35, 30, 23, 21, 19]), (37, [35, 30, 23, 21, 20]), (37, [35, 30, 26, 24]), (37, [35, 30, 26, 25]), (37, [35, 30, 28]), (37, [35, 30, 29]), (38, [7]), (38, [8]), (38, [13]), (38, [14]), (38, [19]), (38, [20]), (38, [24]), (38, [25]), (38, [28]), (38, [29])] (by kernel_rfl) (by kernel_rfl) (fun _ _ _ _ _ h => h) (HS) ?_
            refine pq_pu (some 61) rfl rfl (by rfl) (fun ws => by go_simp; try with_reducible rfl) ?_; go_frame   -- 0 Op.move (Operand.tmp 9)
            refine pq_pu (some 62) rfl rfl (by rfl) (fun ws => by go_simp; try with_reducible rfl) ?_; go_frame   -- 1 Op.binOp BinOp.eql 29 (Operand.tmp 61) (Operand.const (Value.int IntKind.i64 0)) 29
            refine pq_pu (some 63) rfl rfl (by rfl) (fun ws => by go_simp; try with_reducible rfl) ?_; go_frame   -- 2 Op.move (Operand.tmp 62)
            refine pq_pu (some 64) rfl rfl (by rfl) (fun ws => by go_simp; try with_reducible rfl) ?_; go_frame   -- 3 Op.move (Operand.tmp 11)
            refine pq_pu (some 65) rfl rfl (by rfl) (fun ws => by go_simp; try with_reducible rfl) ?_; go_frame   -- 4 Op.binOp BinOp.eql 29 (Operand.tmp 64) (Operand.const (Value.int IntKind.i64 0)) 29
            refine pq_pu (some 66) rfl rfl (by rfl) (fun ws => by go_simp; try with_reducible rfl) ?_; go_frame   -- 5 Op.pick (Operand.tmp 63) (Operand.tmp 65) (Operand.const (Value.bool false))
            refine pq_pu (some 67) rfl rfl (by rfl) (fun ws => by go_simp; try with_reducible rfl) ?_; go_frame   -- 6 Op.move (Operand.tmp 66)
            refine pq_ld (some 68) rfl rfl (by rfl) (fun ws HS => by go_split_ands; go_simp; try with_reducible rfl) ?_; go_frame   -- 7 Op.load 25 (Operand.tmp 10)
            refine pq_ld (some 69) rfl rfl (by rfl) (fun ws HS => by go_split_ands; go_simp; try with_reducible rfl) ?_; go_frame   -- 8 Op.load 25 (Operand.tmp 2)
            refine pk_ke rfl (fun J hJ => ?_)   -- pi_ke 9 Op.call { callee := Callee.value (Operand.func 52), args := #[Operand.tmp 68, Operand.tmp 69], argTypes := #[25, 25] }
            have D89 := Lib.hid (cmp_k (ST88.out.get (v := (.agg #[.bool n10, .slice a10 c10 d10])) (g := decide (addV (mulV (Q) (x2)) (R) < 0)) (z := canW (addV (mulV (Q) (x2)) (R)).natAbs) (by simp)) (ST88.out.get (v := (.agg #[.bool g1, .slice a1 n1 cap1])) (g := g1) (z := z1) (by simp)) (valI_can _) Hx1.out)
            rw [HP.out.2.2.1, cmpI_self] at D89
            have C90 := Lib.hid (D89.out)
            go_wp2_with (go_at_call 52; refine C90.out.mono ?_; rintro e W90 ⟨rfl, hb⟩; have ST90 := Lib.hid (ST88.out.go hb); have hD90 := Lib.hid (hD15.out.trans (Below.mono hb hD15.out.size)); clear hb)
            refine hJ _ _ (HC15.out W90 hD90.out) ?_
            refine pq_pu (some 71) rfl rfl (by rfl) (fun ws => by go_simp; try with_reducible rfl) ?_; go_frame   -- 10 Op.binOp BinOp.eql 3 (Operand.tmp 70) (Operand.const (Value.int IntKind.i64 0)) 3
            refine pq_pu (some 72) rfl rfl (by rfl) (fun ws => by go_simp; try with_reducible rfl) ?_; go_frame   -- 11 Op.pick (Operand.tmp 67) (Operand.tmp 71) (Operand.const (Value.bool false))
            refine pq_pu (some 73) rfl rfl (by rfl) (fun ws => by go_simp; try with_reducible rfl) ?_; go_frame   -- 12 Op.move (Operand.tmp 72)
            refine pq_ld (some 74) rfl rfl (by rfl) (fun ws HS => by go_split_ands; go_simp; try with_reducible rfl) ?_; go_frame   -- 13 Op.load 25 (Operand.tmp 14)
            refine pq_ld (some 75) rfl rfl (by rfl) (fun ws HS => by go_split_ands; go_simp; try with_reducible rfl) ?_; go_frame   -- 14 Op.load 25 (Operand.tmp 13)
            refine pk_ke rfl (fun J hJ => ?_)   -- pi_ke 15 Op.call { callee := Callee.value (Operand.func 52), args := #[Operand.tmp 74, Operand.tmp 75], argTypes := #[25, 25] }
            have D91 := Lib.hid (cmp_k (ST90.out.get (v := (.agg #[.bool n16, .slice a16 c16 d16])) (g := decide (-R < 0)) (z := canW (-R).natAbs) (by simp)) (ST90.out.get (v := (.agg #[.bool g2, .slice a2 n2 cap2])) (g := g2) (z := z2) (by simp)) (valI_can _) Hx2.out)
            rw [Hc.out] at D91
            have C92 := Lib.hid (D91.out)
            go_wp2_with (go_at_call 52; refine C92.out.mono ?_; rintro e W92 ⟨rfl, hb⟩; have ST92 := Lib.hid (ST90.out.go hb); have hD92 := Lib.hid (hD90.out.trans (Below.mono hb hD90.out.size)); clear hb)
            refine hJ _ _ (HC15.out W92 hD92.out) ?_
            refine pq_pu (some 77) rfl rfl (by rfl) (fun ws => by go_simp; try with_reducible rfl) ?_; go_frame   -- 16 Op.binOp BinOp.lss 3 (Operand.tmp 76) (Operand.const (Value.int IntKind.i64 0)) 3
            refine pq_pu (some 78) rfl rfl (by rfl) (fun ws => by go_simp; try with_reducible rfl) ?_; go_frame   -- 17 Op.pick (Operand.tmp 73) (Operand.tmp 77) (Operand.const (Value.bool false))
            refine pq_pu (some 79) rfl rfl (by rfl) (fun ws => by go_simp; try with_reducible rfl) ?_; go_frame   -- 18 Op.move (Operand.tmp 78)
            refine pq_ld (some 80) rfl rfl (by rfl) (fun ws HS => by go_split_ands; go_simp; try with_reducible rfl) ?_; go_frame   -- 19 Op.load 25 (Operand.tmp 6)
            refine pq_ld (some 81) rfl rfl (by rfl) (fun ws HS => by go_split_ands; go_simp; try with_reducible rfl) ?_; go_frame   -- 20 Op.load 25 (Operand.tmp 12)
            refine pk_ke rfl (fun J hJ => ?_)   -- pi_ke 21 Op.call { callee := Callee.value (Operand.func 52), args := #[Operand.tmp 80, Operand.tmp 81], argTypes := #[25, 25] }
            have D93 := Lib.hid (cmp_k (ST92.out.get (v := (.agg #[.bool n6, .slice a6 c6 d6])) (g := decide (R < 0)) (z := canW (R).natAbs) (by simp)) (ST92.out.get (v := (.agg #[.bool n12, .slice a12 c12 d12])) (g := decide ((0 : Int) < 0)) (z := canW ((0 : Int)).natAbs) (by simp)) (valI_can _) (valI_can _))
            rw [Hr.out] at D93
            have C94 := Lib.hid (D93.out)
            go_wp2_with (go_at_call 52; refine C94.out.mono ?_; rintro e W94 ⟨rfl, hb⟩; have ST94 := Lib.hid (ST92.out.go hb); have hD94 := Lib.hid (hD92.out.trans (Below.mono hb hD92.out.size)); clear hb)
            refine hJ _ _ (HC15.out W94 hD94.out) ?_
            refine pq_pu (some 83) rfl rfl (by rfl) (fun ws => by go_simp; try with_reducible rfl) ?_; go_frame   -- 22 Op.binOp BinOp.eql 3 (Operand.tmp 82) (Operand.const (Value.int IntKind.i64 0)) 3
            refine pq_pu (some 84) rfl rfl (by rfl) (fun ws => by go_simp; try with_reducible rfl) ?_; go_frame   -- 23 Op.move (Operand.tmp 83)
            refine pq_ld (some 85) rfl rfl (by rfl) (fun ws HS => by go_split_ands; go_simp; try with_reducible rfl) ?_; go_frame   -- 24 Op.load 25 (Operand.tmp 6)
            refine pq_ld (some 86) rfl rfl (by rfl) (fun ws HS => by go_split_ands; go_simp; try with_reducible rfl) ?_; go_frame   -- 25 Op.load 25 (Operand.tmp 12)
            refine pq_ld (some 89) rfl rfl (by rfl) (fun ws HS => by go_split_ands; go_simp; try with_reducible rfl) ?_; go_frame   -- 28 Op.load 25 (Operand.tmp 2)
            refine pq_ld (some 90) rfl rfl (by rfl) (fun ws HS => by go_split_ands; go_simp; try with_reducible rfl) ?_; go_frame   -- 29 Op.load 25 (Operand.tmp 12)
            refine pk_ke rfl (fun J hJ => ?_)   -- pi_ke 26 Op.call { callee := Callee.value (Operand.func 52), args := #[Operand.tmp 85, Operand.tmp 86], argTypes := #[25, 25] }
            have D95 := Lib.hid (cmp_k (ST94.out.get (v := (.agg #[.bool n6, .slice a6 c6 d6])) (g := decide (R < 0)) (z := canW (R).natAbs) (by simp)) (ST94.out.get (v := (.agg #[.bool n12, .slice a12 c12 d12])) (g := decide ((0 : Int) < 0)) (z := canW ((0 : Int)).natAbs) (by simp)) (valI_can _) (valI_can _))
            rw [Hr.out] at D95
            have C96 := Lib.hid (D95.out)
            go_wp2_with (go_at_call 52; refine C96.out.mono ?_; rintro e W96 ⟨rfl, hb⟩; have ST96 := Lib.hid (ST94.out.go hb); have hD96 := Lib.hid (hD94.out.trans (Below.mono hb hD94.out.size)); clear hb)
            refine hJ _ _ (HC15.out W96 hD96.out) ?_
            refine pq_pu (some 88) rfl rfl (by rfl) (fun ws => by go_simp; try with_reducible rfl) ?_; go_frame   -- 27 Op.binOp BinOp.lss 3 (Operand.tmp 87) (Operand.const (Value.int IntKind.i64 0)) 3
            refine pi_tail (by rfl) ?_; simp only [opsAt, List.getElem?_toArray, List.getElem?_cons_zero, List.getElem?_cons_succ]   -- [(30, 'Op.call { callee := Callee.value (Operand.func 52), args := #[Operand.tmp 89, Operand.tmp 90], argTypes := #[25, 25] }'), (31, 'Op.binOp BinOp.lss 3 (Operand.tmp 91) (Operand.const (Value.int IntKind.i64 0)) 3'), (32, 'Op.binOp BinOp.eql 4 (Operand.tmp 88) (Operand.tmp 92) 4'), (33, 'Op.pick (Operand.tmp 84) (Operand.const (Value.bool true)) (Operand.tmp 93)'), (34, 'Op.pick (Operand.tmp 79) (Operand.tmp 94) (Operand.const (Value.bool false))'), (35, 'Op.move (Operand.tmp 95)'), (36, 'Op.call { callee := Callee.value (Operand.func 36), args := #[], argTypes := #[] }'), (37, 'Op.pick (Operand.tmp 96) (Operand.tmp 97) (Operand.const (Value.bool false))'), (38, 'Op.assign (Operand.tmp 98)')]
            have D97 := Lib.hid (cmp_k (ST96.out.get (v := (.agg #[.bool g1, .slice a1 n1 cap1])) (g := g1) (z := z1) (by simp)) (ST96.out.get (v := (.agg #[.bool n12, .slice a12 c12 d12])) (g := decide ((0 : Int) < 0)) (z := canW ((0 : Int)).natAbs) (by simp)) Hx1.out (valI_can _))
            rw [Hx.out] at D97
            go_wp2_with first
              | (go_at_call 52; refine D97.out.mono ?_; rintro e Wx ⟨rfl, hb⟩; have STx := Lib.hid (ST96.out.go hb); clear hb)
              | (go_at_call 36; refine (awake_any Wx).mono ?_; rintro e Wy ⟨rfl, hb⟩; have STy := Lib.hid (STx.out.go hb); clear hb)
            go_ret
            exact ⟨by simp, STy.out.below⟩
          · subst q2
            have Hr := Lib.hid (cmpI_self 0)
            obtain ⟨qb120, qb121⟩ := ST81.out.cells (b := b12) (n := n12) (s := .slice a12 c12 d12) (by simp)
            obtain ⟨qb60, qb61⟩ := ST81.out.cells (b := b6) (n := n6) (s := .slice a6 c6 d6) (by simp)
            go_wp2_with (go_at_call 52; refine hold ?_)
            refine Hold.mk ?_
            have C98 := Lib.hid (cmp_k (ST81.out.get (v := (.agg #[.bool n6, .slice a6 c6 d6])) (g := decide ((0 : Int) < 0)) (z := canW (0 : Int).natAbs) (by simp)) (ST81.out.get (v := (.agg #[.bool n12, .slice a12 c12 d12])) (g := decide ((0 : Int) < 0)) (z := canW ((0 : Int)).natAbs) (by simp)) (valI_can _) (valI_can _))
            rw [Hr.out] at C98
            refine C98.out.mono ?_
            rintro e W98 ⟨rfl, hb⟩
            clear qb120 qb121 qb60 qb61
            have ST99 := Lib.hid (ST81.out.go hb)
            clear hb
            go_upto_region 15 with fail
            have Hc := Lib.hid (show cmpI ((0 : Int)) (x2) = -1 from cmpI_lo (by have h1 := HP.out.2.2.2.1; have h3 := Hy.out; omega))
            have HC15 : Hid (∀ wx, Below W98.heap.size W98 wx → (fun w' : World => w'.cell? ⟨b14, 0, none⟩ = some (.bool n6) ∧ w'.cell? ⟨b14, 1, none⟩ = some (.slice a6 c6 d6) ∧ w'.cell? ⟨b13, 0, none⟩ = some (.bool g2) ∧ w'.cell? ⟨b13, 1, none⟩ = some (.slice a2 n2 cap2) ∧ w'.cell? ⟨b12, 0, none⟩ = some (.bool n12) ∧ w'.cell? ⟨b12, 1, none⟩ = some (.slice a12 c12 d12) ∧ w'.cell? ⟨b10, 0, none⟩ = some (.bool n10) ∧ w'.cell? ⟨b10, 1, none⟩ = some (.slice a10 c10 d10) ∧ w'.cell? ⟨b8, 0, none⟩ = some (.bool n8) ∧ w'.cell? ⟨b8, 1, none⟩ = some (.slice a8 c8 d8) ∧ w'.cell? ⟨b6, 0, none⟩ = some (.bool n6) ∧ w'.cell? ⟨b6, 1, none⟩ = some (.slice a6 c6 d6) ∧ w'.cell? ⟨b5, 0, none⟩ = some (.bool n5) ∧ w'.cell? ⟨b5, 1, none⟩ = some (.slice a5 c5 d5) ∧ w'.cell? ⟨p2, 0, none⟩ = some (.bool g2) ∧ w'.cell? ⟨p2, 1, none⟩ = some (.slice a2 n2 cap2) ∧ w'.cell? ⟨p1, 0, none⟩ = some (.bool g1) ∧ w'.cell? ⟨p1, 1, none⟩ = some (.slice a1 n1 cap1)) wx) := Lib.hid fun wx hx => by
              have h := ST99.out.go hx
              exact ⟨(h.cells (b := b14) (n := n6) (s := .slice a6 c6 d6) (by simp)).1, (h.cells (b := b14) (n := n6) (s := .slice a6 c6 d6) (by simp)).2, (h.cells (b := b13) (n := g2) (s := .slice a2 n2 cap2) (by simp)).1, (h.cells (b := b13) (n := g2) (s := .slice a2 n2 cap2) (by simp)).2, (h.cells (b := b12) (n := n12) (s := .slice a12 c12 d12) (by simp)).1, (h.cells (b := b12) (n := n12) (s := .slice a12 c12 d12) (by simp)).2, (h.cells (b := b10) (n := n10) (s := .slice a10 c10 d10) (by simp)).1, (h.cells (b := b10) (n := n10) (s := .slice a10 c10 d10) (by simp)).2, (h.cells (b := b8) (n := n8) (s := .slice a8 c8 d8) (by simp)).1, (h.cells (b := b8) (n := n8) (s := .slice a8 c8 d8) (by simp)).2, (h.cells (b := b6) (n := n6) (s := .slice a6 c6 d6) (by simp)).1, (h.cells (b := b6) (n := n6) (s := .slice a6 c6 d6) (by simp)).2, (h.cells (b := b5) (n := n5) (s := .slice a5 c5 d5) (by simp)).1, (h.cells (b := b5) (n := n5) (s := .slice a5 c5 d5) (by simp)).2, (h.cells (b := p2) (n := g2) (s := .slice a2 n2 cap2) (by simp)).1, (h.cells (b := p2) (n := g2) (s := .slice a2 n2 cap2) (by simp)).2, (h.cells (b := p1) (n := g1) (s := .slice a1 n1 cap1) (by simp)).1, (h.cells (b := p1) (n := g1) (s := .slice a1 n1 cap1) (by simp)).2⟩
            have hD15 := Lib.hid (Below.refl W98.heap.size W98).drew
            have ST100 := Lib.hid (ST99.out.go hD15.out)
            have HS := HC15.out W98.drew hD15.out
            refine wp_region_pi (fun w' : World => w'.cell? ⟨b14, 0, none⟩ = some (.bool n6) ∧ w'.cell? ⟨b14, 1, none⟩ = some (.slice a6 c6 d6) ∧ w'.cell? ⟨b13, 0, none⟩ = some (.bool g2) ∧ w'.cell? ⟨b13, 1, none⟩ = some (.slice a2 n2 cap2) ∧ w'.cell? ⟨b12, 0, none⟩ = some (.bool n12) ∧ w'.cell? ⟨b12, 1, none⟩ = some (.slice a12 c12 d12) ∧ w'.cell? ⟨b10, 0, none⟩ = some (.bool n10) ∧ w'.cell? ⟨b10, 1, none⟩ = some (.slice a10 c10 d10) ∧ w'.cell? ⟨b8, 0, none⟩ = some (.bool n8) ∧ w'.cell? ⟨b8, 1, none⟩ = some (.slice a8 c8 d8) ∧ w'.cell? ⟨b6, 0, none⟩ = some (.bool n6) ∧ w'.cell? ⟨b6, 1, none⟩ = some (.slice a6 c6 d6) ∧ w'.cell? ⟨b5, 0, none⟩ = some (.bool n5) ∧ w'.cell? ⟨b5, 1, none⟩ = some (.slice a5 c5 d5) ∧ w'.cell? ⟨p2, 0, none⟩ = some (.bool g2) ∧ w'.cell? ⟨p2, 1, none⟩ = some (.slice a2 n2 cap2) ∧ w'.cell? ⟨p1, 0, none⟩ = some (.bool g1) ∧ w'.cell? ⟨p1, 1, none⟩ = some (.slice a1 n1 cap1)) [(0, 1), (1, 1), (2, 1), (3, 1), (4, 1), (5, 1), (6, 1), (7, 0), (8, 0), (9, 2), (10, 1), (11, 1), (12, 1), (13, 0), (14, 0), (15, 2), (16, 1), (17, 1), (18, 1), (19, 0), (20, 0), (21, 2), (22, 1), (23, 1), (24, 0), (25, 0), (28, 0), (29, 0), (26, 2), (27, 1), (30, 3), (31, 3), (32, 3), (33, 3), (34, 3), (35, 3), (36, 3), (37, 3), (38, 3)] [(30, [23, 18, 17, 12, 9, 7]), (30, [23, 18, 17, 12, 9, 8]), (30, [23, 18, 15, 13]), (30, [23, 18, 15, 14]), (30, [23, 21, 19]), (30, [23, 21, 20]), (30, [26, 24]), (30, [26, 25]), (30, [28]), (30, [29]), (31, [23, 18, 17, 12, 9, 7]), (31, [23, 18, 17, 12, 9, 8]), (31, [23, 18, 15, 13]), (31, [23, 18, 15, 14]), (31, [23, 21, 19]), (31, [23, 21, 20]), (31, [30, 26, 24]), (31, [30, 26, 25]), (31, [30, 28]), (31, [30, 29]), (32, [23, 18, 17, 12, 9, 7]), (32, [23, 18, 17, 12, 9, 8]), (32, [23, 18, 15, 13]), (32, [23, 18, 15, 14]), (32, [23, 21, 19]), (32, [23, 21, 20]), (32, [27, 26, 24]), (32, [27, 26, 25]), (32, [31, 30, 28]), (32, [31, 30, 29]), (33, [18, 17, 12, 9, 7]), (33, [18, 17, 12, 9, 8]), (33, [18, 15, 13]), (33, [18, 15, 14]), (33, [23, 21, 19]), (33, [23, 21, 20]), (33, [32, 27, 26, 24]), (33, [32, 27, 26, 25]), (33, [32, 31, 30, 28]), (33, [32, 31, 30, 29]), (34, [18, 17, 12, 9, 7]), (34, [18, 17, 12, 9, 8]), (34, [18, 15, 13]), (34, [18, 15, 14]), (34, [33, 23, 21, 19]), (34, [33, 23, 21, 20]), (34, [33, 32, 27, 26, 24]), (34, [33, 32, 27, 26, 25]), (34, [33, 32, 31, 30, 28]), (34, [33, 32, 31, 30, 29]), (35, [34, 18, 17, 12, 9, 7]), (35, [34, 18, 17, 12, 9, 8]), (35, [34, 18, 15, 13]), (35, [34, 18, 15, 14]), (35, [30, 23, 21, 19]), (35, [30, 23, 21, 20]), (35, [30, 26, 24]), (35, [30, 26, 25]), (35, [30, 28]), (35, [30, 29]), (36, [35, 34, 18, 17, 12, 9, 7]), (36, [35, 34, 18, 17, 12, 9, 8]), (36, [35, 34, 18, 15, 13]), (36, [35, 34, 18, 15, 14]), (36, [35, 30, 23, 21, 19]), (36, [35, 30, 23, 21, 20]), (36, [35, 30, 26, 24]), (36, [35, 30, 26, 25]), (36, [35, 30, 28]), (36, [35, 30, 29]), (37, [35, 34, 18, 17, 12, 9, 7]), (37, [35, 34, 18, 17, 12, 9, 8]), (37, [35, 34, 18, 15, 13]), (37, [35, 34, 18, 15, 14]), (37, [35, 30, 23, 21, 19]), (37, [35, 30, 23, 21, 20]), (37, [35, 30, 26, 24]), (37, [35, 30, 26, 25]), (37, [35, 30, 28]), (37, [35, 30, 29]), (38, [7]), (38, [8]), (38, [13]), (38, [14]), (38, [19]), (38, [20]), (38, [24]), (38, [25]), (38, [28]), (38, [29])] (by kernel_rfl) (by kernel_rfl) (fun _ _ _ _ _ h => h) (HS) ?_
            refine pq_pu (some 61) rfl rfl (by rfl) (fun ws => by go_simp; try with_reducible rfl) ?_; go_frame   -- 0 Op.move (Operand.tmp 9)
            refine pq_pu (some 62) rfl rfl (by rfl) (fun ws => by go_simp; try with_reducible rfl) ?_; go_frame   -- 1 Op.binOp BinOp.eql 29 (Operand.tmp 61) (Operand.const (Value.int IntKind.i64 0)) 29
            refine pq_pu (some 63) rfl rfl (by rfl) (fun ws => by go_simp; try with_reducible rfl) ?_; go_frame   -- 2 Op.move (Operand.tmp 62)
            refine pq_pu (some 64) rfl rfl (by rfl) (fun ws => by go_simp; try with_reducible rfl) ?_; go_frame   -- 3 Op.move (Operand.tmp 11)
            refine pq_pu (some 65) rfl rfl (by rfl) (fun ws => by go_simp; try with_reducible rfl) ?_; go_frame   -- 4 Op.binOp BinOp.eql 29 (Operand.tmp 64) (Operand.const (Value.int IntKind.i64 0)) 29
            refine pq_pu (some 66) rfl rfl (by rfl) (fun ws => by go_simp; try with_reducible rfl) ?_; go_frame   -- 5 Op.pick (Operand.tmp 63) (Operand.tmp 65) (Operand.const (Value.bool false))
            refine pq_pu (some 67) rfl rfl (by rfl) (fun ws => by go_simp; try with_reducible rfl) ?_; go_frame   -- 6 Op.move (Operand.tmp 66)
            refine pq_ld (some 68) rfl rfl (by rfl) (fun ws HS => by go_split_ands; go_simp; try with_reducible rfl) ?_; go_frame   -- 7 Op.load 25 (Operand.tmp 10)
            refine pq_ld (some 69) rfl rfl (by rfl) (fun ws HS => by go_split_ands; go_simp; try with_reducible rfl) ?_; go_frame   -- 8 Op.load 25 (Operand.tmp 2)
            refine pk_ke rfl (fun J hJ => ?_)   -- pi_ke 9 Op.call { callee := Callee.value (Operand.func 52), args := #[Operand.tmp 68, Operand.tmp 69], argTypes := #[25, 25] }
            have D101 := Lib.hid (cmp_k (ST100.out.get (v := (.agg #[.bool n10, .slice a10 c10 d10])) (g := decide (addV (mulV (Q) (x2)) (0 : Int) < 0)) (z := canW (addV (mulV (Q) (x2)) (0 : Int)).natAbs) (by simp)) (ST100.out.get (v := (.agg #[.bool g1, .slice a1 n1 cap1])) (g := g1) (z := z1) (by simp)) (valI_can _) Hx1.out)
            rw [HP.out.2.2.1, cmpI_self] at D101
            have C102 := Lib.hid (D101.out)
            go_wp2_with (go_at_call 52; refine C102.out.mono ?_; rintro e W102 ⟨rfl, hb⟩; have ST102 := Lib.hid (ST100.out.go hb); have hD102 := Lib.hid (hD15.out.trans (Below.mono hb hD15.out.size)); clear hb)
            refine hJ _ _ (HC15.out W102 hD102.out) ?_
            refine pq_pu (some 71) rfl rfl (by rfl) (fun ws => by go_simp; try with_reducible rfl) ?_; go_frame   -- 10 Op.binOp BinOp.eql 3 (Operand.tmp 70) (Operand.const (Value.int IntKind.i64 0)) 3
            refine pq_pu (some 72) rfl rfl (by rfl) (fun ws => by go_simp; try with_reducible rfl) ?_; go_frame   -- 11 Op.pick (Operand.tmp 67) (Operand.tmp 71) (Operand.const (Value.bool false))
            refine pq_pu (some 73) rfl rfl (by rfl) (fun ws => by go_simp; try with_reducible rfl) ?_; go_frame   -- 12 Op.move (Operand.tmp 72)
            refine pq_ld (some 74) rfl rfl (by rfl) (fun ws HS => by go_split_ands; go_simp; try with_reducible rfl) ?_; go_frame   -- 13 Op.load 25 (Operand.tmp 14)
            refine pq_ld (some 75) rfl rfl (by rfl) (fun ws HS => by go_split_ands; go_simp; try with_reducible rfl) ?_; go_frame   -- 14 Op.load 25 (Operand.tmp 13)
            refine pk_ke rfl (fun J hJ => ?_)   -- pi_ke 15 Op.call { callee := Callee.value (Operand.func 52), args := #[Operand.tmp 74, Operand.tmp 75], argTypes := #[25, 25] }
            have D103 := Lib.hid (cmp_k (ST102.out.get (v := (.agg #[.bool n6, .slice a6 c6 d6])) (g := decide ((0 : Int) < 0)) (z := canW (0 : Int).natAbs) (by simp)) (ST102.out.get (v := (.agg #[.bool g2, .slice a2 n2 cap2])) (g := g2) (z := z2) (by simp)) (valI_can _) Hx2.out)
            rw [Hc.out] at D103
            have C104 := Lib.hid (D103.out)
            go_wp2_with (go_at_call 52; refine C104.out.mono ?_; rintro e W104 ⟨rfl, hb⟩; have ST104 := Lib.hid (ST102.out.go hb); have hD104 := Lib.hid (hD102.out.trans (Below.mono hb hD102.out.size)); clear hb)
            refine hJ _ _ (HC15.out W104 hD104.out) ?_
            refine pq_pu (some 77) rfl rfl (by rfl) (fun ws => by go_simp; try with_reducible rfl) ?_; go_frame   -- 16 Op.binOp BinOp.lss 3 (Operand.tmp 76) (Operand.const (Value.int IntKind.i64 0)) 3
            refine pq_pu (some 78) rfl rfl (by rfl) (fun ws => by go_simp; try with_reducible rfl) ?_; go_frame   -- 17 Op.pick (Operand.tmp 73) (Operand.tmp 77) (Operand.const (Value.bool false))
            refine pq_pu (some 79) rfl rfl (by rfl) (fun ws => by go_simp; try with_reducible rfl) ?_; go_frame   -- 18 Op.move (Operand.tmp 78)
            refine pq_ld (some 80) rfl rfl (by rfl) (fun ws HS => by go_split_ands; go_simp; try with_reducible rfl) ?_; go_frame   -- 19 Op.load 25 (Operand.tmp 6)
            refine pq_ld (some 81) rfl rfl (by rfl) (fun ws HS => by go_split_ands; go_simp; try with_reducible rfl) ?_; go_frame   -- 20 Op.load 25 (Operand.tmp 12)
            refine pk_ke rfl (fun J hJ => ?_)   -- pi_ke 21 Op.call { callee := Callee.value (Operand.func 52), args := #[Operand.tmp 80, Operand.tmp 81], argTypes := #[25, 25] }
            have D105 := Lib.hid (cmp_k (ST104.out.get (v := (.agg #[.bool n6, .slice a6 c6 d6])) (g := decide ((0 : Int) < 0)) (z := canW (0 : Int).natAbs) (by simp)) (ST104.out.get (v := (.agg #[.bool n12, .slice a12 c12 d12])) (g := decide ((0 : Int) < 0)) (z := canW ((0 : Int)).natAbs) (by simp)) (valI_can _) (valI_can _))
            rw [Hr.out] at D105
            have C106 := Lib.hid (D105.out)
            go_wp2_with (go_at_call 52; refine C106.out.mono ?_; rintro e W106 ⟨rfl, hb⟩; have ST106 := Lib.hid (ST104.out.go hb); have hD106 := Lib.hid (hD104.out.trans (Below.mono hb hD104.out.size)); clear hb)
            refine hJ _ _ (HC15.out W106 hD106.out) ?_
            refine pq_pu (some 83) rfl rfl (by rfl) (fun ws => by go_simp; try with_reducible rfl) ?_; go_frame   -- 22 Op.binOp BinOp.eql 3 (Operand.tmp 82) (Operand.const (Value.int IntKind.i64 0)) 3
            refine pq_pu (some 84) rfl rfl (by rfl) (fun ws => by go_simp; try with_reducible rfl) ?_; go_frame   -- 23 Op.move (Operand.tmp 83)
            refine pq_ld_skip (some 85) rfl rfl (by rfl) ?_; go_frame   -- 24 Op.load 25 (Operand.tmp 6)
            refine pq_ld_skip (some 86) rfl rfl (by rfl) ?_; go_frame   -- 25 Op.load 25 (Operand.tmp 12)
            refine pq_ld_skip (some 89) rfl rfl (by rfl) ?_; go_frame   -- 28 Op.load 25 (Operand.tmp 2)
            refine pq_ld_skip (some 90) rfl rfl (by rfl) ?_; go_frame   -- 29 Op.load 25 (Operand.tmp 12)
            refine pk_ke rfl (fun J hJ => ?_)   -- pi_ke 26 Op.call { callee := Callee.value (Operand.func 52), args := #[Operand.tmp 85, Operand.tmp 86], argTypes := #[25, 25] }
            go_wp2_with fail
            refine hJ _ _ (HC15.out W106 hD106.out) ?_
            refine pq_pu_skip (some 88) rfl rfl (by rfl) ?_; go_frame   -- 27 Op.binOp BinOp.lss 3 (Operand.tmp 87) (Operand.const (Value.int IntKind.i64 0)) 3
            refine pi_tail (by rfl) ?_; simp only [opsAt, List.getElem?_toArray, List.getElem?_cons_zero, List.getElem?_cons_succ]   -- [(30, 'Op.call { callee := Callee.value (Operand.func 52), args := #[Operand.tmp 89, Operand.tmp 90], argTypes := #[25, 25] }'), (31, 'Op.binOp BinOp.lss 3 (Operand.tmp 91) (Operand.const (Value.int IntKind.i64 0)) 3'), (32, 'Op.binOp BinOp.eql 4 (Operand.tmp 88) (Operand.tmp 92) 4'), (33, 'Op.pick (Operand.tmp 84) (Operand.const (Value.bool true)) (Operand.tmp 93)'), (34, 'Op.pick (Operand.tmp 79) (Operand.tmp 94) (Operand.const (Value.bool false))'), (35, 'Op.move (Operand.tmp 95)'), (36, 'Op.call { callee := Callee.value (Operand.func 36), args := #[], argTypes := #[] }'), (37, 'Op.pick (Operand.tmp 96) (Operand.tmp 97) (Operand.const (Value.bool false))'), (38, 'Op.assign (Operand.tmp 98)')]
            go_wp2_with (go_at_call 36; refine (awake_any W106).mono ?_; rintro e Wy ⟨rfl, hb⟩; have STy := Lib.hid (ST106.out.go hb); clear hb)
            go_ret
            exact ⟨by simp, STy.out.below⟩
          · have Hrs := Lib.hid q2
            clear q2
            have Hr := Lib.hid (cmpI_hi Hrs.out)
            have Hx := Lib.hid (cmpI_hi (HP.out.2.2.2.2.2.2 Hrs.out))
            obtain ⟨qb120, qb121⟩ := ST81.out.cells (b := b12) (n := n12) (s := .slice a12 c12 d12) (by simp)
            obtain ⟨qb60, qb61⟩ := ST81.out.cells (b := b6) (n := n6) (s := .slice a6 c6 d6) (by simp)
            go_wp2_with (go_at_call 52; refine hold ?_)
            refine Hold.mk ?_
            have C107 := Lib.hid (cmp_k (ST81.out.get (v := (.agg #[.bool n6, .slice a6 c6 d6])) (g := decide (R < 0)) (z := canW (R).natAbs) (by simp)) (ST81.out.get (v := (.agg #[.bool n12, .slice a12 c12 d12])) (g := decide ((0 : Int) < 0)) (z := canW ((0 : Int)).natAbs) (by simp)) (valI_can _) (valI_can _))
            rw [Hr.out] at C107
            refine C107.out.mono ?_
            rintro e W107 ⟨rfl, hb⟩
            clear qb120 qb121 qb60 qb61
            have ST108 := Lib.hid (ST81.out.go hb)
            clear hb
            go_upto_region 15 with fail
            have Hc := Lib.hid (show cmpI (R) (x2) = -1 from cmpI_lo (by have h1 := HP.out.2.2.2.1; have h2 := Hrs.out; have h3 := Hy.out; omega))
            have HC15 : Hid (∀ wx, Below W107.heap.size W107 wx → (fun w' : World => w'.cell? ⟨b14, 0, none⟩ = some (.bool n6) ∧ w'.cell? ⟨b14, 1, none⟩ = some (.slice a6 c6 d6) ∧ w'.cell? ⟨b13, 0, none⟩ = some (.bool g2) ∧ w'.cell? ⟨b13, 1, none⟩ = some (.slice a2 n2 cap2) ∧ w'.cell? ⟨b12, 0, none⟩ = some (.bool n12) ∧ w'.cell? ⟨b12, 1, none⟩ = some (.slice a12 c12 d12) ∧ w'.cell? ⟨b10, 0, none⟩ = some (.bool n10) ∧ w'.cell? ⟨b10, 1, none⟩ = some (.slice a10 c10 d10) ∧ w'.cell? ⟨b8, 0, none⟩ = some (.bool n8) ∧ w'.cell? ⟨b8, 1, none⟩ = some (.slice a8 c8 d8) ∧ w'.cell? ⟨b6, 0, none⟩ = some (.bool n6) ∧ w'.cell? ⟨b6, 1, none⟩ = some (.slice a6 c6 d6) ∧ w'.cell? ⟨b5, 0, none⟩ = some (.bool n5) ∧ w'.cell? ⟨b5, 1, none⟩ = some (.slice a5 c5 d5) ∧ w'.cell? ⟨p2, 0, none⟩ = some (.bool g2) ∧ w'.cell? ⟨p2, 1, none⟩ = some (.slice a2 n2 cap2) ∧ w'.cell? ⟨p1, 0, none⟩ = some (.bool g1) ∧ w'.cell? ⟨p1, 1, none⟩ = some (.slice a1 n1 cap1)) wx) := Lib.hid fun wx hx => by
              have h := ST108.out.go hx
              exact ⟨(h.cells (b := b14) (n := n6) (s := .slice a6 c6 d6) (by simp)).1, (h.cells (b := b14) (n := n6) (s := .slice a6 c6 d6) (by simp)).2, (h.cells (b := b13) (n := g2) (s := .slice a2 n2 cap2) (by simp)).1, (h.cells (b := b13) (n := g2) (s := .slice a2 n2 cap2) (by simp)).2, (h.cells (b := b12) (n := n12) (s := .slice a12 c12 d12) (by simp)).1, (h.cells (b := b12) (n := n12) (s := .slice a12 c12 d12) (by simp)).2, (h.cells (b := b10) (n := n10) (s := .slice a10 c10 d10) (by simp)).1, (h.cells (b := b10) (n := n10) (s := .slice a10 c10 d10) (by simp)).2, (h.cells (b := b8) (n := n8) (s := .slice a8 c8 d8) (by simp)).1, (h.cells (b := b8) (n := n8) (s := .slice a8 c8 d8) (by simp)).2, (h.cells (b := b6) (n := n6) (s := .slice a6 c6 d6) (by simp)).1, (h.cells (b := b6) (n := n6) (s := .slice a6 c6 d6) (by simp)).2, (h.cells (b := b5) (n := n5) (s := .slice a5 c5 d5) (by simp)).1, (h.cells (b := b5) (n := n5) (s := .slice a5 c5 d5) (by simp)).2, (h.cells (b := p2) (n := g2) (s := .slice a2 n2 cap2) (by simp)).1, (h.cells (b := p2) (n := g2) (s := .slice a2 n2 cap2) (by simp)).2, (h.cells (b := p1) (n := g1) (s := .slice a1 n1 cap1) (by simp)).1, (h.cells (b := p1) (n := g1) (s := .slice a1 n1 cap1) (by simp)).2⟩
            have hD15 := Lib.hid (Below.refl W107.heap.size W107).drew
            have ST109 := Lib.hid (ST108.out.go hD15.out)
            have HS := HC15.out W107.drew hD15.out
            refine wp_region_pi (fun w' : World => w'.cell? ⟨b14, 0, none⟩ = some (.bool n6) ∧ w'.cell? ⟨b14, 1, none⟩ = some (.slice a6 c6 d6) ∧ w'.cell? ⟨b13, 0, none⟩ = some (.bool g2) ∧ w'.cell? ⟨b13, 1, none⟩ = some (.slice a2 n2 cap2) ∧ w'.cell? ⟨b12, 0, none⟩ = some (.bool n12) ∧ w'.cell? ⟨b12, 1, none⟩ = some (.slice a12 c12 d12) ∧ w'.cell? ⟨b10, 0, none⟩ = some (.bool n10) ∧ w'.cell? ⟨b10, 1, none⟩ = some (.slice a10 c10 d10) ∧ w'.cell? ⟨b8, 0, none⟩ = some (.bool n8) ∧ w'.cell? ⟨b8, 1, none⟩ = some (.slice a8 c8 d8) ∧ w'.cell? ⟨b6, 0, none⟩ = some (.bool n6) ∧ w'.cell? ⟨b6, 1, none⟩ = some (.slice a6 c6 d6) ∧ w'.cell? ⟨b5, 0, none⟩ = some (.bool n5) ∧ w'.cell? ⟨b5, 1, none⟩ = some (.slice a5 c5 d5) ∧ w'.cell? ⟨p2, 0, none⟩ = some (.bool g2) ∧ w'.cell? ⟨p2, 1, none⟩ = some (.slice a2 n2 cap2) ∧ w'.cell? ⟨p1, 0, none⟩ = some (.bool g1) ∧ w'.cell? ⟨p1, 1, none⟩ = some (.slice a1 n1 cap1)) [(0, 1), (1, 1), (2, 1), (3, 1), (4, 1), (5, 1), (6, 1), (7, 0), (8, 0), (9, 2), (10, 1), (11, 1), (12, 1), (13, 0), (14, 0), (15, 2), (16, 1), (17, 1), (18, 1), (19, 0), (20, 0), (21, 2), (22, 1), (23, 1), (24, 0), (25, 0), (28, 0), (29, 0), (26, 2), (27, 1), (30, 3), (31, 3), (32, 3), (33, 3), (34, 3), (35, 3), (36, 3), (37, 3), (38, 3)] [(30, [23, 18, 17, 12, 9, 7]), (30, [23, 18, 17, 12, 9, 8]), (30, [23, 18, 15, 13]), (30, [23, 18, 15, 14]), (30, [23, 21, 19]), (30, [23, 21, 20]), (30, [26, 24]), (30, [26, 25]), (30, [28]), (30, [29]), (31, [23, 18, 17, 12, 9, 7]), (31, [23, 18, 17, 12, 9, 8]), (31, [23, 18, 15, 13]), (31, [23, 18, 15, 14]), (31, [23, 21, 19]), (31, [23, 21, 20]), (31, [30, 26, 24]), (31, [30, 26, 25]), (31, [30, 28]), (31, [30, 29]), (32, [23, 18, 17, 12, 9, 7]), (32, [23, 18, 17, 12, 9, 8]), (32, [23, 18, 15, 13]), (32, [23, 18, 15, 14]), (32, [23, 21, 19]), (32, [23, 21, 20]), (32, [27, 26, 24]), (32, [27, 26, 25]), (32, [31, 30, 28]), (32, [31, 30, 29]), (33, [18, 17, 12, 9, 7]), (33, [18, 17, 12, 9, 8]), (33, [18, 15, 13]), (33, [18, 15, 14]), (33, [23, 21, 19]), (33, [23, 21, 20]), (33, [32, 27, 26, 24]), (33, [32, 27, 26, 25]), (33, [32, 31, 30, 28]), (33, [32, 31, 30, 29]), (34, [18, 17, 12, 9, 7]), (34, [18, 17, 12, 9, 8]), (34, [18, 15, 13]), (34, [18, 15, 14]), (34, [33, 23, 21, 19]), (34, [33, 23, 21, 20]), (34, [33, 32, 27, 26, 24]), (34, [33, 32, 27, 26, 25]), (34, [33, 32, 31, 30, 28]), (34, [33, 32, 31, 30, 29]), (35, [34, 18, 17, 12, 9, 7]), (35, [34, 18, 17, 12, 9, 8]), (35, [34, 18, 15, 13]), (35, [34, 18, 15, 14]), (35, [30, 23, 21, 19]), (35, [30, 23, 21, 20]), (35, [30, 26, 24]), (35, [30, 26, 25]), (35, [30, 28]), (35, [30, 29]), (36, [35, 34, 18, 17, 12, 9, 7]), (36, [35, 34, 18, 17, 12, 9, 8]), (36, [35, 34, 18, 15, 13]), (36, [35, 34, 18, 15, 14]), (36, [35, 30, 23, 21, 19]), (36, [35, 30, 23, 21, 20]), (36, [35, 30, 26, 24]), (36, [35, 30, 26, 25]), (36, [35, 30, 28]), (36, [35, 30, 29]), (37, [35, 34, 18, 17, 12, 9, 7]), (37, [35, 34, 18, 17, 12, 9, 8]), (37, [35, 34, 18, 15, 13]), (37, [35, 34, 18, 15, 14]), (37, [35, 30, 23, 21, 19]), (37, [35, 30, 23, 21, 20]), (37, [35, 30, 26, 24]), (37, [35, 30, 26, 25]), (37, [35, 30, 28]), (37, [35, 30, 29]), (38, [7]), (38, [8]), (38, [13]), (38, [14]), (38, [19]), (38, [20]), (38, [24]), (38, [25]), (38, [28]), (38, [29])] (by kernel_rfl) (by kernel_rfl) (fun _ _ _ _ _ h => h) (HS) ?_
            refine pq_pu (some 61) rfl rfl (by rfl) (fun ws => by go_simp; try with_reducible rfl) ?_; go_frame   -- 0 Op.move (Operand.tmp 9)
            refine pq_pu (some 62) rfl rfl (by rfl) (fun ws => by go_simp; try with_reducible rfl) ?_; go_frame   -- 1 Op.binOp BinOp.eql 29 (Operand.tmp 61) (Operand.const (Value.int IntKind.i64 0)) 29
            refine pq_pu (some 63) rfl rfl (by rfl) (fun ws => by go_simp; try with_reducible rfl) ?_; go_frame   -- 2 Op.move (Operand.tmp 62)
            refine pq_pu (some 64) rfl rfl (by rfl) (fun ws => by go_simp; try with_reducible rfl) ?_; go_frame   -- 3 Op.move (Operand.tmp 11)
            refine pq_pu (some 65) rfl rfl (by rfl) (fun ws => by go_simp; try with_reducible rfl) ?_; go_frame   -- 4 Op.binOp BinOp.eql 29 (Operand.tmp 64) (Operand.const (Value.int IntKind.i64 0)) 29
            refine pq_pu (some 66) rfl rfl (by rfl) (fun ws => by go_simp; try with_reducible rfl) ?_; go_frame   -- 5 Op.pick (Operand.tmp 63) (Operand.tmp 65) (Operand.const (Value.bool false))
            refine pq_pu (some 67) rfl rfl (by rfl) (fun ws => by go_simp; try with_reducible rfl) ?_; go_frame   -- 6 Op.move (Operand.tmp 66)
            refine pq_ld (some 68) rfl rfl (by rfl) (fun ws HS => by go_split_ands; go_simp; try with_reducible rfl) ?_; go_frame   -- 7 Op.load 25 (Operand.tmp 10)
            refine pq_ld (some 69) rfl rfl (by rfl) (fun ws HS => by go_split_ands; go_simp; try with_reducible rfl) ?_; go_frame   -- 8 Op.load 25 (Operand.tmp 2)
            refine pk_ke rfl (fun J hJ => ?_)   -- pi_ke 9 Op.call { callee := Callee.value (Operand.func 52), args := #[Operand.tmp 68, Operand.tmp 69], argTypes := #[25, 25] }
            have D110 := Lib.hid (cmp_k (ST109.out.get (v := (.agg #[.bool n10, .slice a10 c10 d10])) (g := decide (addV (mulV (Q) (x2)) (R) < 0)) (z := canW (addV (mulV (Q) (x2)) (R)).natAbs) (by simp)) (ST109.out.get (v := (.agg #[.bool g1, .slice a1 n1 cap1])) (g := g1) (z := z1) (by simp)) (valI_can _) Hx1.out)
            rw [HP.out.2.2.1, cmpI_self] at D110
            have C111 := Lib.hid (D110.out)
            go_wp2_with (go_at_call 52; refine C111.out.mono ?_; rintro e W111 ⟨rfl, hb⟩; have ST111 := Lib.hid (ST109.out.go hb); have hD111 := Lib.hid (hD15.out.trans (Below.mono hb hD15.out.size)); clear hb)
            refine hJ _ _ (HC15.out W111 hD111.out) ?_
            refine pq_pu (some 71) rfl rfl (by rfl) (fun ws => by go_simp; try with_reducible rfl) ?_; go_frame   -- 10 Op.binOp BinOp.eql 3 (Operand.tmp 70) (Operand.const (Value.int IntKind.i64 0)) 3
            refine pq_pu (some 72) rfl rfl (by rfl) (fun ws => by go_simp; try with_reducible rfl) ?_; go_frame   -- 11 Op.pick (Operand.tmp 67) (Operand.tmp 71) (Operand.const (Value.bool false))
            refine pq_pu (some 73) rfl rfl (by rfl) (fun ws => by go_simp; try with_reducible rfl) ?_; go_frame   -- 12 Op.move (Operand.tmp 72)
            refine pq_ld (some 74) rfl rfl (by rfl) (fun ws HS => by go_split_ands; go_simp; try with_reducible rfl) ?_; go_frame   -- 13 Op.load 25 (Operand.tmp 14)
            refine pq_ld (some 75) rfl rfl (by rfl) (fun ws HS => by go_split_ands; go_simp; try with_reducible rfl) ?_; go_frame   -- 14 Op.load 25 (Operand.tmp 13)
            refine pk_ke rfl (fun J hJ => ?_)   -- pi_ke 15 Op.call { callee := Callee.value (Operand.func 52), args := #[Operand.tmp 74, Operand.tmp 75], argTypes := #[25, 25] }
            have D112 := Lib.hid (cmp_k (ST111.out.get (v := (.agg #[.bool n6, .slice a6 c6 d6])) (g := decide (R < 0)) (z := canW (R).natAbs) (by simp)) (ST111.out.get (v := (.agg #[.bool g2, .slice a2 n2 cap2])) (g := g2) (z := z2) (by simp)) (valI_can _) Hx2.out)
            rw [Hc.out] at D112
            have C113 := Lib.hid (D112.out)
            go_wp2_with (go_at_call 52; refine C113.out.mono ?_; rintro e W113 ⟨rfl, hb⟩; have ST113 := Lib.hid (ST111.out.go hb); have hD113 := Lib.hid (hD111.out.trans (Below.mono hb hD111.out.size)); clear hb)
            refine hJ _ _ (HC15.out W113 hD113.out) ?_
            refine pq_pu (some 77) rfl rfl (by rfl) (fun ws => by go_simp; try with_reducible rfl) ?_; go_frame   -- 16 Op.binOp BinOp.lss 3 (Operand.tmp 76) (Operand.const (Value.int IntKind.i64 0)) 3
            refine pq_pu (some 78) rfl rfl (by rfl) (fun ws => by go_simp; try with_reducible rfl) ?_; go_frame   -- 17 Op.pick (Operand.tmp 73) (Operand.tmp 77) (Operand.const (Value.bool false))
            refine pq_pu (some 79) rfl rfl (by rfl) (fun ws => by go_simp; try with_reducible rfl) ?_; go_frame   -- 18 Op.move (Operand.tmp 78)
            refine pq_ld (some 80) rfl rfl (by rfl) (fun ws HS => by go_split_ands; go_simp; try with_reducible rfl) ?_; go_frame   -- 19 Op.load 25 (Operand.tmp 6)
            refine pq_ld (some 81) rfl rfl (by rfl) (fun ws HS => by go_split_ands; go_simp; try with_reducible rfl) ?_; go_frame   -- 20 Op.load 25 (Operand.tmp 12)
            refine pk_ke rfl (fun J hJ => ?_)   -- pi_ke 21 Op.call { callee := Callee.value (Operand.func 52), args := #[Operand.tmp 80, Operand.tmp 81], argTypes := #[25, 25] }
            have D114 := Lib.hid (cmp_k (ST113.out.get (v := (.agg #[.bool n6, .slice a6 c6 d6])) (g := decide (R < 0)) (z := canW (R).natAbs) (by simp)) (ST113.out.get (v := (.agg #[.bool n12, .slice a12 c12 d12])) (g := decide ((0 : Int) < 0)) (z := canW ((0 : Int)).natAbs) (by simp)) (valI_can _) (valI_can _))
            rw [Hr.out] at D114
            have C115 := Lib.hid (D114.out)
            go_wp2_with (go_at_call 52; refine C115.out.mono ?_; rintro e W115 ⟨rfl, hb⟩; have ST115 := Lib.hid (ST113.out.go hb); have hD115 := Lib.hid (hD113.out.trans (Below.mono hb hD113.out.size)); clear hb)
            refine hJ _ _ (HC15.out W115 hD115.out) ?_
            refine pq_pu (some 83) rfl rfl (by rfl) (fun ws => by go_simp; try with_reducible rfl) ?_; go_frame   -- 22 Op.binOp BinOp.eql 3 (Operand.tmp 82) (Operand.const (Value.int IntKind.i64 0)) 3
            refine pq_pu (some 84) rfl rfl (by rfl) (fun ws => by go_simp; try with_reducible rfl) ?_; go_frame   -- 23 Op.move (Operand.tmp 83)
            refine pq_ld (some 85) rfl rfl (by rfl) (fun ws HS => by go_split_ands; go_simp; try with_reducible rfl) ?_; go_frame   -- 24 Op.load 25 (Operand.tmp 6)
            refine pq_ld (some 86) rfl rfl (by rfl) (fun ws HS => by go_split_ands; go_simp; try with_reducible rfl) ?_; go_frame   -- 25 Op.load 25 (Operand.tmp 12)
            refine pq_ld (some 89) rfl rfl (by rfl) (fun ws HS => by go_split_ands; go_simp; try with_reducible rfl) ?_; go_frame   -- 28 Op.load 25 (Operand.tmp 2)
            refine pq_ld (some 90) rfl rfl (by rfl) (fun ws HS => by go_split_ands; go_simp; try with_reducible rfl) ?_; go_frame   -- 29 Op.load 25 (Operand.tmp 12)
            refine pk_ke rfl (fun J hJ => ?_)   -- pi_ke 26 Op.call { callee := Callee.value (Operand.func 52), args := #[Operand.tmp 85, Operand.tmp 86], argTypes := #[25, 25] }
            have D116 := Lib.hid (cmp_k (ST115.out.get (v := (.agg #[.bool n6, .slice a6 c6 d6])) (g := decide (R < 0)) (z := canW (R).natAbs) (by simp)) (ST115.out.get (v := (.agg #[.bool n12, .slice a12 c12 d12])) (g := decide ((0 : Int) < 0)) (z := canW ((0 : Int)).natAbs) (by simp)) (valI_can _) (valI_can _))
            rw [Hr.out] at D116
            have C117 := Lib.hid (D116.out)
            go_wp2_with (go_at_call 52; refine C117.out.mono ?_; rintro e W117 ⟨rfl, hb⟩; have ST117 := Lib.hid (ST115.out.go hb); have hD117 := Lib.hid (hD115.out.trans (Below.mono hb hD115.out.size)); clear hb)
            refine hJ _ _ (HC15.out W117 hD117.out) ?_
            refine pq_pu (some 88) rfl rfl (by rfl) (fun ws => by go_simp; try with_reducible rfl) ?_; go_frame   -- 27 Op.binOp BinOp.lss 3 (Operand.tmp 87) (Operand.const (Value.int IntKind.i64 0)) 3
            refine pi_tail (by rfl) ?_; simp only [opsAt, List.getElem?_toArray, List.getElem?_cons_zero, List.getElem?_cons_succ]   -- [(30, 'Op.call { callee := Callee.value (Operand.func 52), args := #[Operand.tmp 89, Operand.tmp 90], argTypes := #[25, 25] }'), (31, 'Op.binOp BinOp.lss 3 (Operand.tmp 91) (Operand.const (Value.int IntKind.i64 0)) 3'), (32, 'Op.binOp BinOp.eql 4 (Operand.tmp 88) (Operand.tmp 92) 4'), (33, 'Op.pick (Operand.tmp 84) (Operand.const (Value.bool true)) (Operand.tmp 93)'), (34, 'Op.pick (Operand.tmp 79) (Operand.tmp 94) (Operand.const (Value.bool false))'), (35, 'Op.move (Operand.tmp 95)'), (36, 'Op.call { callee := Callee.value (Operand.func 36), args := #[], argTypes := #[] }'), (37, 'Op.pick (Operand.tmp 96) (Operand.tmp 97) (Operand.const (Value.bool false))'), (38, 'Op.assign (Operand.tmp 98)')]
            have D118 := Lib.hid (cmp_k (ST117.out.get (v := (.agg #[.bool g1, .slice a1 n1 cap1])) (g := g1) (z := z1) (by simp)) (ST117.out.get (v := (.agg #[.bool n12, .slice a12 c12 d12])) (g := decide ((0 : Int) < 0)) (z := canW ((0 : Int)).natAbs) (by simp)) Hx1.out (valI_can _))
            rw [Hx.out] at D118
            go_wp2_with first
              | (go_at_call 52; refine D118.out.mono ?_; rintro e Wx ⟨rfl, hb⟩; have STx := Lib.hid (ST117.out.go hb); clear hb)
              | (go_at_call 36; refine (awake_any Wx).mono ?_; rintro e Wy ⟨rfl, hb⟩; have STy := Lib.hid (STx.out.go hb); clear hb)
            go_ret
            exact ⟨by simp, STy.out.below⟩
      · have h9 := True.intro
        clear h9
        go_wp2_with (go_at_call 36; refine hold ?_)
        refine Hold.mk ?_
        refine (awake_any W17).mono ?_
        rintro e W119 ⟨rfl, hb⟩
        have ST119 := Lib.hid (ST18.out.go hb)
        clear hb
        go_wp2_with fail
        go_ret
        exact ⟨rfl, ST119.out.below⟩
      · have h9 := True.intro
        clear h9
        go_wp2_with (go_at_call 36; refine hold ?_)
        refine Hold.mk ?_
        refine (awake_any W17).mono ?_
        rintro e W120 ⟨rfl, hb⟩
        have ST120 := Lib.hid (ST18.out.go hb)
        clear hb
        go_wp2_with fail
        go_ret
        exact ⟨rfl, ST120.out.below⟩
end Go.Proofs.YtcnakbhogmnddaaDoor
