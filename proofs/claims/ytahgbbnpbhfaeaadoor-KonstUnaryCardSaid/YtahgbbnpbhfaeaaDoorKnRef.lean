/- Compare, Neg and Of of the document. Condition: the numbers' words are words. -/
import Derived.Test.YtahgbbnpbhfaeaaDoorExOps
import Derived.Test.YtahgbbnpbhfaeaaDoorRfTrim
namespace Go.Proofs.YtahgbbnpbhfaeaaDoor
open Go.RowKit

theorem St.old {w W : World} {LB : List (Nat × Bool × Value)} {LN : List (Value × Bool × List Nat)} (h : St w W LB LN) {B : Nat} (hB : B = W.heap.size) : (∀ x ∈ LB, x.1 ≠ B) ∧ w.heap.size ≤ B := by
  subst hB
  exact ⟨fun x hx => Nat.ne_of_lt (Array.getElem?_eq_some_iff.1 (h.boxes x hx)).1, h.below.size⟩
theorem St.store {w W W' : World} {LB : List (Nat × Bool × Value)} {LN : List (Value × Bool × List Nat)} {b n1 c1 : Nat} {a1 : Option Addr} {n n' : Bool} {s' : Value} (h : St w W ((b, n, .slice a1 n1 c1) :: LB) LN) (hne : (∀ x ∈ LB, x.1 ≠ b) ∧ w.heap.size ≤ b)
    (hW : W' = (W.setCell ⟨b, 0, none⟩ (.bool n')).setCell ⟨b, 1, none⟩ s') : St w W' ((b, n', s') :: LB) LN := by
  subst hW
  have q := h.boxes _ (List.mem_cons_self ..)
  refine ⟨(h.below.setCell hne.2 _).setCell hne.2 _, fun x hx => ?_, fun x hx => ?_⟩
  · rcases List.mem_cons.1 hx with rfl | hx
    · exact (setCell_same2 (setCell_same2 q _) _).trans rfl
    · exact (Below.heap_setCell _ _ _ _ (hne.1 x hx)).trans ((Below.heap_setCell _ _ _ _ (hne.1 x hx)).trans (h.boxes x (List.mem_cons_of_mem _ hx)))
  · obtain ⟨a, m, c, e, hw, hr⟩ := h.nums x hx
    exact ⟨a, m, c, e, hw.box q _ _, hr⟩
section
variable {w W : World} {x0 x1 x2 : Nat × Bool × Value} {LB : List (Nat × Bool × Value)} {LN : List (Value × Bool × List Nat)}
theorem St.front1 (h : St w W (x0 :: x1 :: LB) LN) : St w W (x1 :: x0 :: LB) LN := ⟨h.below, fun x hx => h.boxes x (by simp at hx ⊢; rcases hx with hx | hx | hx <;> simp [hx]), h.nums⟩
theorem St.front2 (h : St w W (x0 :: x1 :: x2 :: LB) LN) : St w W (x2 :: x0 :: x1 :: LB) LN := ⟨h.below, fun x hx => h.boxes x (by simp at hx ⊢; rcases hx with hx | hx | hx | hx <;> simp [hx]), h.nums⟩
end
theorem ne_two {x0 : Nat × Bool × Value} {b B : Nat} (hb : B ≤ b) (h0 : x0.1 ≠ b) : (∀ x ∈ [x0], x.1 ≠ b) ∧ B ≤ b := ⟨fun x hx => by simp at hx; rw [hx]; exact h0, hb⟩
theorem ne_three {x0 x1 : Nat × Bool × Value} {b B : Nat} (hb : B ≤ b) (h0 : x0.1 ≠ b) (h1 : x1.1 ≠ b) : (∀ x ∈ [x0, x1], x.1 ≠ b) ∧ B ≤ b := ⟨fun x hx => by simp at hx; rcases hx with hx | hx <;> rw [hx] <;> assumption, hb⟩
theorem IntV.words {w : World} {b g : Bool} {a : Option Addr} {n c : Nat} {z : List Nat} (h : IntV w (.agg #[.bool b, .slice a n c]) g z) : b = g ∧ WordsAt w a n z ∧ n ≤ c ∧ n ≤ 1000000 := by
  obtain ⟨a', n', c', e, h1, h2, h3⟩ := h
  simp only [Value.agg.injEq, Array.mk.injEq, List.cons.injEq, Value.bool.injEq, Value.slice.injEq] at e
  obtain ⟨e1, ⟨e2, e3, e4⟩, _⟩ := e
  subst e1 e2 e3 e4
  exact ⟨rfl, h1, h2, h3⟩
theorem rform_k {g : Bool} {a : Option Addr} {n cap : Nat} {z : List Nat} {w : World} {i : Int} (h : WordsAt w a n z) (hn : n ≤ 1000000) (hc : n ≤ cap) (hi : valI g z = i) :
    Calls Tryd.prog 49 #[.bool g, .slice a n cap] w fun e w' => (∃ (b : Bool) (a : Option Addr) (n c : Nat), e = .returned (.agg #[.bool b, .slice a n c]) ∧ IntC w' (.agg #[.bool b, .slice a n c]) i) ∧ Below w.heap.size w w' := by
  subst hi
  refine (rform_any g a n cap z w h hn hc).mono fun e w' h => ?_
  obtain ⟨v, rfl, hv, hb⟩ := h
  obtain ⟨n, a, k, c, rfl⟩ := hv.agg
  exact ⟨⟨n, a, k, c, rfl, hv⟩, hb⟩
theorem cmpI_signs {x y : Int} : (x < 0 → ¬ y < 0 → cmpI x y = -1) ∧ (¬ x < 0 → y < 0 → cmpI x y = 1) ∧ (x < 0 → y < 0 → cmpN y.natAbs x.natAbs = cmpI x y) ∧ (¬ x < 0 → ¬ y < 0 → cmpN x.natAbs y.natAbs = cmpI x y) := by
  refine ⟨fun h1 h2 => ?_, fun h1 h2 => ?_, fun h1 h2 => ?_, fun h1 h2 => ?_⟩
  · unfold cmpI; rw [if_pos (by omega)]
  · unfold cmpI; rw [if_neg (by omega), if_neg (by omega)]
  · rw [cmpN_I, show ((y.natAbs : Nat) : Int) = -y by omega, show ((x.natAbs : Nat) : Int) = -x by omega, cmpI_neg]
  · rw [cmpN_I, show ((y.natAbs : Nat) : Int) = y by omega, show ((x.natAbs : Nat) : Int) = x by omega]
theorem rsize_k {a1 a2 : Option Addr} {m1 m2 cap1 cap2 : Nat} {N M : Nat} {w : World} (h1 : WordsAt w a1 m1 (canW N)) (h2 : WordsAt w a2 m2 (canW M)) (hm1 : m1 ≤ 1000000) (hm2 : m2 ≤ 1000000) :
    Calls Tryd.prog 53 #[.slice a1 m1 cap1, .slice a2 m2 cap2] w fun e w' => e = .returned (.int .i64 (cmpN N M)) ∧ Below w.heap.size w w' := by
  have h := rsize_any a1 a2 m1 m2 cap1 cap2 (canW N) (canW M) w h1 h2 (can_trim N) (can_trim M) hm1 hm2
  rw [(canW_words N).2, (canW_words M).2] at h
  exact h
theorem valI_t (l : List Nat) : valI true l = -(ofW l : Int) := rfl
theorem valI_f (l : List Nat) : valI false l = (ofW l : Int) := rfl
theorem IntV.flip {w : World} {b g : Bool} {a : Option Addr} {n c : Nat} {z : List Nat} (h : IntV w (.agg #[.bool b, .slice a n c]) g z) : IntV w (.agg #[.bool (!b), .slice a n c]) (!g) z := by
  obtain ⟨rfl, h1, h2, h3⟩ := h.words
  exact ⟨a, n, c, rfl, h1, h2, h3⟩
set_option maxRecDepth 100000 in
set_option maxHeartbeats 6400000 in
theorem rcompare_k {v1 v2 : Value} {g1 g2 : Bool} {z1 z2 : List Nat} {w : World} {x1 x2 : Int} (h1 : IntV w v1 g1 z1) (h2 : IntV w v2 g2 z2) (hx1 : valI g1 z1 = x1) (hx2 : valI g2 z2 = x2) :
    Calls Tryd.prog 30 #[v1, v2] w fun e w' => e = .returned (.int .i64 (cmpI x1 x2)) ∧ Below w.heap.size w w' := by
  obtain ⟨a1, n1, cap1, rfl, hw1, hc1, hn1⟩ := id h1
  have Hx1 := Lib.hid hx1
  clear hx1
  have Hx2 := Lib.hid hx2
  clear hx2
  have HN1 := Lib.hid (And.intro hc1 hn1)
  obtain ⟨a2, n2, cap2, rfl, hw2, hc2, hn2⟩ := id h2
  have HN2 := Lib.hid (And.intro hc2 hn2)
  have ST0 := Lib.hid (((St.start w).num h1).num h2)
  clear h1 hw1 hc1 hn1
  clear h2 hw2 hc2 hn2
  go_enter Tryd.func30, Tryd.ntmps30
  obtain ⟨t, Ht⟩ : ∃ t, Hid (cmpI x1 x2 = t) := ⟨_, Lib.hid rfl⟩
  rw [Ht.out]
  go_wp2_with (go_at_call 49; refine hold ?_)
  obtain ⟨W1, HW1⟩ : ∃ W', Hid (W' = w.alloc (.cells #[.bool g1, .slice a1 n1 cap1] 24)) := ⟨_, Lib.hid rfl⟩
  obtain ⟨p1, Hp1⟩ : ∃ b, Hid (b = w.heap.size) := ⟨_, Lib.hid rfl⟩
  have Hp1n := Lib.hid (ST0.out.old Hp1.out)
  have ST2 := Lib.hid (ST0.out.box Hp1.out HW1.out)
  obtain ⟨W3, HW3⟩ : ∃ W', Hid (W' = W1.alloc (.cells #[.bool g2, .slice a2 n2 cap2] 24)) := ⟨_, Lib.hid rfl⟩
  obtain ⟨p2, Hp2⟩ : ∃ b, Hid (b = W1.heap.size) := ⟨_, Lib.hid rfl⟩
  have Hp2n := Lib.hid (ST2.out.old Hp2.out)
  have ST4 := Lib.hid (ST2.out.box Hp2.out HW3.out)
  have hz1 : w.heap.size + 1 = p2 := by rw [Hp2.out, HW1.out, World.size_alloc]
  rw [← HW1.out, ← HW3.out]
  try rw [hz1]
  try rw [← Hp1.out]
  clear hz1
  refine Hold.mk ?_
  have WW3 := Lib.hid (IntV.words (ST4.out.get (v := (.agg #[.bool g1, .slice a1 n1 cap1])) (g := g1) (z := z1) (by simp)))
  have C5 := Lib.hid (rform_k WW3.out.2.1 WW3.out.2.2.2 WW3.out.2.2.1 (Hx1.out))
  refine C5.out.mono ?_
  rintro e W5 ⟨⟨n3, a3, c3, d3, rfl, hv⟩, hb⟩
  have ST6 := Lib.hid (ST4.out.next hb hv)
  clear hb hv
  have Hpn := Lib.hid (show p2 ≠ p1 from fun h => Hp2n.out.1 (p1, g1, .slice a1 n1 cap1) (by simp) h.symm)
  obtain ⟨⟨rp10, rp11⟩, fp10, fp11⟩ := box_cells (ST6.out.boxes (p1, g1, .slice a1 n1 cap1) (by simp))
  go_upto_region 2 with fail
  have ST7 := Lib.hid (ST6.out.front1)
  obtain ⟨W8, HW8⟩ : ∃ W', Hid (W' = (W5.setCell ⟨p1, 0, none⟩ (.bool n3)).setCell ⟨p1, 1, none⟩ (.slice a3 c3 d3)) := ⟨_, Lib.hid rfl⟩
  rw [← HW8.out]
  clear rp10 rp11 fp10 fp11
  have ST9 := Lib.hid (ST7.out.store (ne_two Hp1n.out.2 Hpn.out) HW8.out)
  obtain ⟨qp20, qp21⟩ := ST9.out.cells (b := p2) (n := g2) (s := .slice a2 n2 cap2) (by simp)
  go_wp2_with (go_at_call 49; refine hold ?_)
  refine Hold.mk ?_
  have WW4 := Lib.hid (IntV.words (ST9.out.get (v := (.agg #[.bool g2, .slice a2 n2 cap2])) (g := g2) (z := z2) (by simp)))
  have C10 := Lib.hid (rform_k WW4.out.2.1 WW4.out.2.2.2 WW4.out.2.2.1 (Hx2.out))
  refine C10.out.mono ?_
  rintro e W10 ⟨⟨n4, a4, c4, d4, rfl, hv⟩, hb⟩
  clear qp20 qp21
  have ST11 := Lib.hid (ST9.out.next hb hv)
  clear hb hv
  obtain ⟨⟨rp20, rp21⟩, fp20, fp21⟩ := box_cells (ST11.out.boxes (p2, g2, .slice a2 n2 cap2) (by simp))
  go_upto_region 3 with fail
  have ST12 := Lib.hid (ST11.out.front1)
  obtain ⟨W13, HW13⟩ : ∃ W', Hid (W' = (W10.setCell ⟨p2, 0, none⟩ (.bool n4)).setCell ⟨p2, 1, none⟩ (.slice a4 c4 d4)) := ⟨_, Lib.hid rfl⟩
  rw [← HW13.out]
  clear rp20 rp21 fp20 fp21
  have ST14 := Lib.hid (ST12.out.store (ne_two Hp2n.out.2 (Ne.symm Hpn.out)) HW13.out)
  have WWa := Lib.hid (IntV.words (ST14.out.get (v := (.agg #[.bool n3, .slice a3 c3 d3])) (g := decide (x1 < 0)) (z := canW (x1).natAbs) (by simp)))
  have WWb := Lib.hid (IntV.words (ST14.out.get (v := (.agg #[.bool n4, .slice a4 c4 d4])) (g := decide (x2 < 0)) (z := canW (x2).natAbs) (by simp)))
  have Hs1 := Lib.hid WWa.out.1
  have Hs2 := Lib.hid WWb.out.1
  obtain ⟨qp20, qp21⟩ := ST14.out.cells (b := p2) (n := n4) (s := .slice a4 c4 d4) (by simp)
  obtain ⟨qp10, qp11⟩ := ST14.out.cells (b := p1) (n := n3) (s := .slice a3 c3 d3) (by simp)
  cases n3 with
  | true =>
    cases n4 with
    | true =>
      have CS := Lib.hid (rsize_k WWb.out.2.1 WWa.out.2.1 WWb.out.2.2.2 WWa.out.2.2.2 (cap1 := d4) (cap2 := d3))
      rw [(cmpI_signs (x := x1) (y := x2)).2.2.1 (of_decide_eq_true Hs1.out.symm) (of_decide_eq_true Hs2.out.symm), Ht.out] at CS
      go_wp2_with (go_at_call 53; refine hold ?_)
      refine Hold.mk ?_
      refine CS.out.mono ?_
      rintro e Wz ⟨rfl, hb⟩
      clear qp20 qp21 qp10 qp11
      have ST15 := Lib.hid (ST14.out.go hb)
      clear hb
      go_wp2_with fail
      go_ret
      exact ⟨rfl, ST15.out.below⟩
    | false =>
      go_wp2_with fail
      go_ret
      exact ⟨eret_int (by rw [← Ht.out, (cmpI_signs (x := x1) (y := x2)).1 (of_decide_eq_true Hs1.out.symm) (of_decide_eq_false Hs2.out.symm)]), ST14.out.below⟩
  | false =>
    cases n4 with
    | true =>
      go_wp2_with fail
      go_ret
      exact ⟨eret_int (by rw [← Ht.out, (cmpI_signs (x := x1) (y := x2)).2.1 (of_decide_eq_false Hs1.out.symm) (of_decide_eq_true Hs2.out.symm)]), ST14.out.below⟩
    | false =>
      have CS := Lib.hid (rsize_k WWa.out.2.1 WWb.out.2.1 WWa.out.2.2.2 WWb.out.2.2.2 (cap1 := d3) (cap2 := d4))
      rw [(cmpI_signs (x := x1) (y := x2)).2.2.2 (of_decide_eq_false Hs1.out.symm) (of_decide_eq_false Hs2.out.symm), Ht.out] at CS
      go_wp2_with (go_at_call 53; refine hold ?_)
      refine Hold.mk ?_
      refine CS.out.mono ?_
      rintro e Wz ⟨rfl, hb⟩
      clear qp20 qp21 qp10 qp11
      have ST16 := Lib.hid (ST14.out.go hb)
      clear hb
      go_wp2_with fail
      go_ret
      exact ⟨rfl, ST16.out.below⟩
set_option maxRecDepth 100000 in
set_option maxHeartbeats 6400000 in
theorem rneg_k {v1 : Value} {g1 : Bool} {z1 : List Nat} {w : World} {x1 : Int} (h1 : IntV w v1 g1 z1) (hx1 : valI g1 z1 = x1) :
    Calls Tryd.prog 26 #[v1] w fun e w' => (∃ (b : Bool) (a : Option Addr) (n c : Nat), e = .returned (.agg #[.bool b, .slice a n c]) ∧ IntC w' (.agg #[.bool b, .slice a n c]) (-x1)) ∧ Below w.heap.size w w' := by
  obtain ⟨a1, n1, cap1, rfl, hw1, hc1, hn1⟩ := id h1
  have Hx1 := Lib.hid hx1
  clear hx1
  have HN1 := Lib.hid (And.intro hc1 hn1)
  have ST0 := Lib.hid ((St.start w).num h1)
  clear h1 hw1 hc1 hn1
  go_enter Tryd.func26, Tryd.ntmps26
  go_wp2_with (go_at_call 49; refine hold ?_)
  obtain ⟨W1, HW1⟩ : ∃ W', Hid (W' = w.alloc (.cells #[.bool g1, .slice a1 n1 cap1] 24)) := ⟨_, Lib.hid rfl⟩
  obtain ⟨p1, Hp1⟩ : ∃ b, Hid (b = w.heap.size) := ⟨_, Lib.hid rfl⟩
  have Hp1n := Lib.hid (ST0.out.old Hp1.out)
  have ST2 := Lib.hid (ST0.out.box Hp1.out HW1.out)
  obtain ⟨W3, HW3⟩ : ∃ W', Hid (W' = W1.alloc (.cells #[.bool false, .slice none 0 0] 24)) := ⟨_, Lib.hid rfl⟩
  obtain ⟨bo, Hbo⟩ : ∃ b, Hid (b = W1.heap.size) := ⟨_, Lib.hid rfl⟩
  have Hbon := Lib.hid (ST2.out.old Hbo.out)
  have ST4 := Lib.hid (ST2.out.box Hbo.out HW3.out)
  have hz1 : w.heap.size + 1 = bo := by rw [Hbo.out, HW1.out, World.size_alloc]
  rw [← HW1.out, ← HW3.out]
  try rw [hz1]
  try rw [← Hp1.out]
  clear hz1
  refine Hold.mk ?_
  have WW3 := Lib.hid (IntV.words (ST4.out.get (v := (.agg #[.bool g1, .slice a1 n1 cap1])) (g := g1) (z := z1) (by simp)))
  have C5 := Lib.hid (rform_k WW3.out.2.1 WW3.out.2.2.2 WW3.out.2.2.1 (by rw [valI_neg, Hx1.out]))
  refine C5.out.mono ?_
  rintro e W5 ⟨⟨n3, a3, c3, d3, rfl, hv⟩, hb⟩
  have ST6 := Lib.hid (ST4.out.next hb hv)
  clear hb hv
  obtain ⟨⟨rbo0, rbo1⟩, fbo0, fbo1⟩ := box_cells (ST6.out.boxes (bo, false, .slice none 0 0) (by simp))
  go_wp2_with fail
  obtain ⟨W7, HW7⟩ : ∃ W', Hid (W' = (W5.setCell ⟨bo, 0, none⟩ (.bool n3)).setCell ⟨bo, 1, none⟩ (.slice a3 c3 d3)) := ⟨_, Lib.hid rfl⟩
  rw [← HW7.out]
  clear rbo0 rbo1 fbo0 fbo1
  have ST8 := Lib.hid (ST6.out.store (Hbon.out) HW7.out)
  refine bodyPost_ret (results_cell_row rfl _ _ bo 24 #[.bool n3, .slice a3 c3 d3] (0, 0) _ rfl (ST8.out.boxes (bo, n3, .slice a3 c3 d3) (by simp)) Tryd.underlying24 rfl (by kernel_rfl)) rfl ?_
  exact ⟨⟨_, _, _, _, rfl, (ST8.out.getC (v := (.agg #[.bool n3, .slice a3 c3 d3])) (i := -x1) (by simp))⟩, ST8.out.below⟩
set_option maxRecDepth 100000 in
set_option maxHeartbeats 1600000 in
theorem rof_any (i : Int) (w : World) (h0 : -9223372036854775808 ≤ i) (h1 : i ≤ 9223372036854775807) :
    Calls Tryd.prog 39 #[.int .i64 i] w fun e w' => ∃ v, e = .returned v ∧ IntC w' v i ∧ Below w.heap.size w w' := by
  obtain ⟨N, HN⟩ : ∃ N, Hid (i.natAbs = N) := ⟨_, Lib.hid rfl⟩
  have hN : N < 18446744073709551616 := by have := HN.out; omega
  obtain ⟨w2, Hw2⟩ : ∃ w2, Hid (w2 = (w.alloc (.cells #[.bool false, .slice none 0 0] 24)).alloc (.cells #[.int .u32 ((N : Int) % 4294967296), .int .u32 ((N : Int) / 4294967296)] 68)) := ⟨_, Lib.hid rfl⟩
  obtain ⟨bo, Hbo⟩ : ∃ b, Hid (b = w.heap.size) := ⟨_, Lib.hid rfl⟩
  obtain ⟨bm, Hbm⟩ : ∃ b, Hid (b = w.heap.size + 1) := ⟨_, Lib.hid rfl⟩
  have HZ := Lib.hid (show WordsAt w2 (some ⟨bm, 0, none⟩) 2 [N % 4294967296, N / 4294967296] ∧ Below w.heap.size w w2 ∧ w2.heap[bo]? = some (.cells #[.bool false, .slice none 0 0] 24 (0, 0)) from by
    have q2 : w2.heap[bm]? = some (.cells #[.int .u32 ((N : Int) % 4294967296), .int .u32 ((N : Int) / 4294967296)] 68 (0, 0)) := by
      have := heap_alloc_new (w.alloc (.cells #[.bool false, .slice none 0 0] 24)) (.cells #[.int .u32 ((N : Int) % 4294967296), .int .u32 ((N : Int) / 4294967296)] 68)
      rw [World.size_alloc] at this
      rw [Hw2.out, Hbm.out]
      exact this
    refine ⟨⟨rfl, fun x hx => ?_, fun i hi => ⟨_, rfl, ?_⟩⟩, ?_, ?_⟩
    · simp at hx
      omega
    · match i, hi with
      | 0, _ => rw [addW]; simp only [World.cell?, q2]; rfl
      | 1, _ => rw [addW]; simp only [World.cell?, q2]; rfl
    · rw [Hw2.out]
      exact ((Below.refl _ w).alloc (Nat.le_refl _) _).alloc (by simp) _
    · rw [Hw2.out, Hbo.out]
      exact (Below.heap_alloc _ _ _ (by simp)).trans (heap_alloc_new w _))
  by_cases hneg : i < 0
  · have hU : IntKind.u64.wrap (-IntKind.u64.wrap i) = (N : Int) := by
      have := HN.out
      simp only [IntKind.wrap, IntKind.bits, IntKind.signed]
      simp
      omega
    go_enter Tryd.func39, Tryd.ntmps39
    go_wp2_with (go_at_call 49; refine hold ?_)
    rw [← Hw2.out]
    try rw [← Hbm.out]
    try rw [← Hbo.out]
    refine Hold.mk ?_
    have HF := rform_any true (some ⟨bm, 0, none⟩) 2 2 [N % 4294967296, N / 4294967296] w2 HZ.out.1 (by omega) (by omega)
    refine HF.mono ?_
    rintro e w3 ⟨v, rfl, ⟨a, n, cap, rfl, hv, hc, hn⟩, hb⟩
    have hval : valI true [N % 4294967296, N / 4294967296] = i := by
      unfold valI
      simp only [ofW]
      have := HN.out
      simp
      omega
    rw [hval] at hv ⊢
    have q3 := (hb.block bo (Array.getElem?_eq_some_iff.1 HZ.out.2.2).1).trans HZ.out.2.2
    have r0 : w3.cell? ⟨bo, 0, none⟩ = some (.bool false) := by simp only [World.cell?, q3]; rfl
    have r1 : w3.cell? ⟨bo, 1, none⟩ = some (.slice none 0 0) := by simp only [World.cell?, q3]; rfl
    have fz : ∀ j, w3.frozen? ⟨bo, j, none⟩ = false := fun j => by simp only [World.frozen?, q3]; simp
    have f0 := fz 0
    have f1 := fz 1
    obtain ⟨bb, Hbb⟩ : ∃ b, Hid (decide (i < 0) = b) := ⟨_, Lib.hid rfl⟩
    have HX := Lib.hid (And.intro q3 (And.intro hv (And.intro hc (And.intro hn (HZ.out.2.1.trans (Below.mono hb HZ.out.2.1.size))))))
    clear q3 hv hb fz HF
    rw [Hbb.out]
    go_wp2_with fail
    obtain ⟨q3, hv, hc, hn, hb⟩ := HX.out
    have h3 := setCell_same2 (j := 1) (setCell_same2 (j := 0) q3 (.bool bb)) (.slice a n cap)
    refine bodyPost_ret (results_cell_row rfl _ _ bo 24 #[.bool bb, .slice a n cap] (0, 0) _ rfl (h3.trans rfl) Tryd.underlying24 rfl (by kernel_rfl)) rfl ?_
    exact ⟨_, rfl, ⟨a, n, cap, by rw [Hbb.out], hv.box q3 _ _, hc, hn⟩, (hb.setCell (by have := Hbo.out; simp only; omega) _).setCell (by have := Hbo.out; simp only; omega) _⟩
  · have hU : IntKind.u64.wrap i = (N : Int) := by
      have := HN.out
      simp only [IntKind.wrap, IntKind.bits, IntKind.signed]
      simp
      omega
    have hi : i = (N : Int) := by have := HN.out; omega
    have hge : 0 ≤ (N : Int) := by omega
    subst hi
    clear hU hneg
    go_enter Tryd.func39, Tryd.ntmps39
    go_wp2_with (go_at_call 49; refine hold ?_)
    rw [← Hw2.out]
    try rw [← Hbm.out]
    try rw [← Hbo.out]
    refine Hold.mk ?_
    have HF := rform_any false (some ⟨bm, 0, none⟩) 2 2 [N % 4294967296, N / 4294967296] w2 HZ.out.1 (by omega) (by omega)
    refine HF.mono ?_
    rintro e w3 ⟨v, rfl, ⟨a, n, cap, rfl, hv, hc, hn⟩, hb⟩
    have hval : valI false [N % 4294967296, N / 4294967296] = (N : Int) := by
      unfold valI
      simp only [ofW]
      have := HN.out
      simp
      omega
    rw [hval] at hv ⊢
    have q3 := (hb.block bo (Array.getElem?_eq_some_iff.1 HZ.out.2.2).1).trans HZ.out.2.2
    have r0 : w3.cell? ⟨bo, 0, none⟩ = some (.bool false) := by simp only [World.cell?, q3]; rfl
    have r1 : w3.cell? ⟨bo, 1, none⟩ = some (.slice none 0 0) := by simp only [World.cell?, q3]; rfl
    have fz : ∀ j, w3.frozen? ⟨bo, j, none⟩ = false := fun j => by simp only [World.frozen?, q3]; simp
    have f0 := fz 0
    have f1 := fz 1
    obtain ⟨bb, Hbb⟩ : ∃ b, Hid (decide ((N : Int) < 0) = b) := ⟨_, Lib.hid rfl⟩
    have HX := Lib.hid (And.intro q3 (And.intro hv (And.intro hc (And.intro hn (HZ.out.2.1.trans (Below.mono hb HZ.out.2.1.size))))))
    clear q3 hv hb fz HF
    rw [Hbb.out]
    go_wp2_with fail
    obtain ⟨q3, hv, hc, hn, hb⟩ := HX.out
    have h3 := setCell_same2 (j := 1) (setCell_same2 (j := 0) q3 (.bool bb)) (.slice a n cap)
    refine bodyPost_ret (results_cell_row rfl _ _ bo 24 #[.bool bb, .slice a n cap] (0, 0) _ rfl (h3.trans rfl) Tryd.underlying24 rfl (by kernel_rfl)) rfl ?_
    exact ⟨_, rfl, ⟨a, n, cap, by rw [Hbb.out], hv.box q3 _ _, hc, hn⟩, (hb.setCell (by have := Hbo.out; simp only; omega) _).setCell (by have := Hbo.out; simp only; omega) _⟩
end Go.Proofs.YtahgbbnpbhfaeaaDoor
