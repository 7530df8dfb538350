/- konst.reckon for +, -, *. No condition. -/
import Derived.Test.YtahgbbnpbhfaeaaDoorKnOrd
namespace Go.Proofs.YtahgbbnpbhfaeaaDoor
open Go.RowKit

/-- The kind of what an arithmetic sign tells. -/
def kindK (K : Int) : Int := if K = 0 then 1 else 0

set_option maxRecDepth 100000 in
set_option maxHeartbeats 3200000 in
theorem reckon_add {w : World} {k1 : Int} {g1 : Bool} {a1 : Option Addr} {n1 c1 : Nat} {s1 : ByteArray} {t1 : Bool} {z1 : List Nat} {x1 : Int} {k2 : Int} {g2 : Bool} {a2 : Option Addr} {n2 c2 : Nat} {s2 : ByteArray} {t2 : Bool} {z2 : List Nat} {x2 : Int} (h1 : IntV w (.agg #[.bool g1, .slice a1 n1 c1]) g1 z1) (hx1 : valI g1 z1 = x1) (h2 : IntV w (.agg #[.bool g2, .slice a2 n2 c2]) g2 z2) (hx2 : valI g2 z2 = x2) (hk1 : k1 = 1) :
    Calls Tryd.prog 42 #[.string ⟨#[43]⟩, .agg #[.int .i64 k1, .bool g1, .slice a1 n1 c1, .string s1, .bool t1], .agg #[.int .i64 k2, .bool g2, .slice a2 n2 c2, .string s2, .bool t2]] w fun e w' => Kon3 w' e (kindK (addK x1 x2)) (addV x1 x2) ⟨#[]⟩ false (addK x1 x2) true ∧ Below w.heap.size w w' := by
  have ST0 := Lib.hid (Sk.start w)
  have Hx1 := Lib.hid hx1
  have ST1 := Lib.hid (ST0.out.num h1)
  clear h1 hx1
  have Hx2 := Lib.hid hx2
  have ST2 := Lib.hid (ST1.out.num h2)
  clear h2 hx2
  subst hk1
  obtain ⟨K, V, HKV⟩ : ∃ K V, Hid (addK x1 x2 = K ∧ addV x1 x2 = V) := ⟨_, _, Lib.hid ⟨rfl, rfl⟩⟩
  have HV0 := Lib.hid (show K ≠ 0 → V = 0 from by rw [← HKV.out.1, ← HKV.out.2]; exact addKV0)
  rw [HKV.out.1, HKV.out.2]
  go_enter Tryd.func42, Tryd.ntmps42
  go_upto_region 1 with fail
  obtain ⟨W3, HW3⟩ : ∃ W', Hid (W' = w.alloc (.cells #[(.int .i64 1), (.bool g1), (.slice a1 n1 c1), (.string s1), (.bool t1)] 26)) := ⟨_, Lib.hid rfl⟩
  obtain ⟨p1, Hp1⟩ : ∃ b, Hid (b = w.heap.size) := ⟨_, Lib.hid rfl⟩
  have ST4 := Lib.hid (ST2.out.box Hp1.out HW3.out)
  obtain ⟨W5, HW5⟩ : ∃ W', Hid (W' = W3.alloc (.cells #[(.int .i64 k2), (.bool g2), (.slice a2 n2 c2), (.string s2), (.bool t2)] 26)) := ⟨_, Lib.hid rfl⟩
  obtain ⟨p2, Hp2⟩ : ∃ b, Hid (b = W3.heap.size) := ⟨_, Lib.hid rfl⟩
  have Op2 := Lib.hid (ST4.out.old Hp2.out)
  have ST6 := Lib.hid (ST4.out.box Hp2.out HW5.out)
  obtain ⟨W7, HW7⟩ : ∃ W', Hid (W' = W5.alloc (.cells #[(.int .i64 0), (.bool false), (.slice none 0 0), (.string ⟨#[]⟩), (.bool false)] 26)) := ⟨_, Lib.hid rfl⟩
  obtain ⟨bo, Hbo⟩ : ∃ b, Hid (b = W5.heap.size) := ⟨_, Lib.hid rfl⟩
  have Obo := Lib.hid (ST6.out.old Hbo.out)
  have ST8 := Lib.hid (ST6.out.box Hbo.out HW7.out)
  have hz2 : w.heap.size + 2 = bo := by rw [Hbo.out, HW5.out, World.size_alloc, HW3.out, World.size_alloc]
  have hz1 : w.heap.size + 1 = p2 := by rw [Hp2.out, HW3.out, World.size_alloc]
  rw [← HW3.out, ← HW5.out, ← HW7.out]
  try rw [hz2]
  try rw [hz1]
  try rw [← Hp1.out]
  clear hz1 hz2
  have qp2_0 := ST8.out.cell (List.mem_cons_of_mem _ (List.mem_cons_self ..)) 0 _ rfl
  have qp2_1 := ST8.out.cell (List.mem_cons_of_mem _ (List.mem_cons_self ..)) 1 _ rfl
  have qp2_2 := ST8.out.cell (List.mem_cons_of_mem _ (List.mem_cons_self ..)) 2 _ rfl
  have qp2_3 := ST8.out.cell (List.mem_cons_of_mem _ (List.mem_cons_self ..)) 3 _ rfl
  have qp2_4 := ST8.out.cell (List.mem_cons_of_mem _ (List.mem_cons_self ..)) 4 _ rfl
  have qp1_0 := ST8.out.cell (List.mem_cons_of_mem _ (List.mem_cons_of_mem _ (List.mem_cons_self ..))) 0 _ rfl
  have qp1_1 := ST8.out.cell (List.mem_cons_of_mem _ (List.mem_cons_of_mem _ (List.mem_cons_self ..))) 1 _ rfl
  have qp1_2 := ST8.out.cell (List.mem_cons_of_mem _ (List.mem_cons_of_mem _ (List.mem_cons_self ..))) 2 _ rfl
  have qp1_3 := ST8.out.cell (List.mem_cons_of_mem _ (List.mem_cons_of_mem _ (List.mem_cons_self ..))) 3 _ rfl
  have qp1_4 := ST8.out.cell (List.mem_cons_of_mem _ (List.mem_cons_of_mem _ (List.mem_cons_self ..))) 4 _ rfl
  go_wp2_with (go_at_call 64; refine hold ?_)
  refine Hold.mk ?_
  have C9 := Lib.hid (add_k (ST8.out.get (v := (.agg #[.bool g1, .slice a1 n1 c1])) (g := g1) (z := z1) (List.mem_cons_of_mem _ (List.mem_cons_self ..))) (ST8.out.get (v := (.agg #[.bool g2, .slice a2 n2 c2])) (g := g2) (z := z2) (List.mem_cons_self ..)) Hx1.out Hx2.out)
  rw [HKV.out.1, HKV.out.2] at C9
  refine C9.out.mono ?_
  rintro e W9 ⟨⟨n5, a5, c5, d5, k5, rfl, hk, hv⟩, hb⟩
  clear qp2_0 qp2_1 qp2_2 qp2_3 qp2_4 qp1_0 qp1_1 qp1_2 qp1_3 qp1_4
  have ST10 := Lib.hid (ST8.out.next hb hv)
  clear hb hv
  have Hk := Lib.hid hk
  clear hk
  by_cases h0 : k5 = 0
  · subst h0
    have E0 := Lib.hid (show kindK K = 1 from by rw [← Hk.out]; rfl)
    go_wp2_with (go_at_call 24; refine hold ?_)
    refine Hold.mk ?_
    have C11 := Lib.hid (number_ok (ST10.out.getC (v := (.agg #[.bool n5, .slice a5 c5 d5])) (i := V) (List.mem_cons_self ..)))
    refine C11.out.mono ?_
    rintro e W11 ⟨⟨n6, a6, c6, d6, rfl, hv⟩, hb⟩
    have ST12 := Lib.hid (ST10.out.next hb hv)
    clear hb hv
    have qbo_0 := ST12.out.cell (List.mem_cons_self ..) 0 _ rfl
    have fbo_0 := ST12.out.thaw (List.mem_cons_self ..) 0
    have qbo_1 := ST12.out.cell (List.mem_cons_self ..) 1 _ rfl
    have fbo_1 := ST12.out.thaw (List.mem_cons_self ..) 1
    have qbo_2 := ST12.out.cell (List.mem_cons_self ..) 2 _ rfl
    have fbo_2 := ST12.out.thaw (List.mem_cons_self ..) 2
    have qbo_3 := ST12.out.cell (List.mem_cons_self ..) 3 _ rfl
    have fbo_3 := ST12.out.thaw (List.mem_cons_self ..) 3
    have qbo_4 := ST12.out.cell (List.mem_cons_self ..) 4 _ rfl
    have fbo_4 := ST12.out.thaw (List.mem_cons_self ..) 4
    go_upto_region 17 with fail
    obtain ⟨W13, HW13⟩ : ∃ W', Hid (W' = ((((W11.setCell ⟨bo, 0, none⟩ (.int .i64 1)).setCell ⟨bo, 1, none⟩ (.bool n6)).setCell ⟨bo, 2, none⟩ (.slice a6 c6 d6)).setCell ⟨bo, 3, none⟩ (.string ⟨#[]⟩)).setCell ⟨bo, 4, none⟩ (.bool false)) := ⟨_, Lib.hid rfl⟩
    rw [← HW13.out]
    clear qbo_0 fbo_0 qbo_1 fbo_1 qbo_2 fbo_2 qbo_3 fbo_3 qbo_4 fbo_4
    have ST14 := Lib.hid (ST12.out.store Obo.out HW13.out)
    have qbo_0 := ST14.out.cell (List.mem_cons_self ..) 0 _ rfl
    have fbo_0 := ST14.out.thaw (List.mem_cons_self ..) 0
    have qbo_1 := ST14.out.cell (List.mem_cons_self ..) 1 _ rfl
    have fbo_1 := ST14.out.thaw (List.mem_cons_self ..) 1
    have qbo_2 := ST14.out.cell (List.mem_cons_self ..) 2 _ rfl
    have fbo_2 := ST14.out.thaw (List.mem_cons_self ..) 2
    have qbo_3 := ST14.out.cell (List.mem_cons_self ..) 3 _ rfl
    have fbo_3 := ST14.out.thaw (List.mem_cons_self ..) 3
    have qbo_4 := ST14.out.cell (List.mem_cons_self ..) 4 _ rfl
    have fbo_4 := ST14.out.thaw (List.mem_cons_self ..) 4
    go_wp2_with fail
    exact finE3 (⟨E0.out, rfl, rfl, rfl, Hk.out.symm, rfl⟩) rfl (show BoxK W13 bo _ _ _ _ _ _ _ from (ST14.out.boxes _ (List.mem_cons_self ..)).1) ST14.out.below (ST14.out.boxes _ (List.mem_cons_self ..)).2 (ST14.out.getC (v := (.agg #[.bool n6, .slice a6 c6 d6])) (i := V) (List.mem_cons_self ..)) rfl rfl rfl
  · skip
    have E0 := Lib.hid (show kindK K = 0 ∧ V = 0 from by rw [Hk.out] at h0; exact ⟨if_neg h0, HV0.out h0⟩)
    go_wp2_with (go_at_call 24; refine hold ?_)
    refine Hold.mk ?_
    have C15 := Lib.hid (number_no (ST10.out.getC (v := (.agg #[.bool n5, .slice a5 c5 d5])) (i := V) (List.mem_cons_self ..)) h0)
    refine C15.out.mono ?_
    rintro e W15 ⟨⟨n6, a6, c6, d6, rfl, hv⟩, hb⟩
    have ST16 := Lib.hid (ST10.out.next hb hv)
    clear hb hv
    have qbo_0 := ST16.out.cell (List.mem_cons_self ..) 0 _ rfl
    have fbo_0 := ST16.out.thaw (List.mem_cons_self ..) 0
    have qbo_1 := ST16.out.cell (List.mem_cons_self ..) 1 _ rfl
    have fbo_1 := ST16.out.thaw (List.mem_cons_self ..) 1
    have qbo_2 := ST16.out.cell (List.mem_cons_self ..) 2 _ rfl
    have fbo_2 := ST16.out.thaw (List.mem_cons_self ..) 2
    have qbo_3 := ST16.out.cell (List.mem_cons_self ..) 3 _ rfl
    have fbo_3 := ST16.out.thaw (List.mem_cons_self ..) 3
    have qbo_4 := ST16.out.cell (List.mem_cons_self ..) 4 _ rfl
    have fbo_4 := ST16.out.thaw (List.mem_cons_self ..) 4
    go_upto_region 17 with fail
    obtain ⟨W17, HW17⟩ : ∃ W', Hid (W' = ((((W15.setCell ⟨bo, 0, none⟩ (.int .i64 0)).setCell ⟨bo, 1, none⟩ (.bool n6)).setCell ⟨bo, 2, none⟩ (.slice a6 c6 d6)).setCell ⟨bo, 3, none⟩ (.string ⟨#[]⟩)).setCell ⟨bo, 4, none⟩ (.bool false)) := ⟨_, Lib.hid rfl⟩
    rw [← HW17.out]
    clear qbo_0 fbo_0 qbo_1 fbo_1 qbo_2 fbo_2 qbo_3 fbo_3 qbo_4 fbo_4
    have ST18 := Lib.hid (ST16.out.store Obo.out HW17.out)
    have qbo_0 := ST18.out.cell (List.mem_cons_self ..) 0 _ rfl
    have fbo_0 := ST18.out.thaw (List.mem_cons_self ..) 0
    have qbo_1 := ST18.out.cell (List.mem_cons_self ..) 1 _ rfl
    have fbo_1 := ST18.out.thaw (List.mem_cons_self ..) 1
    have qbo_2 := ST18.out.cell (List.mem_cons_self ..) 2 _ rfl
    have fbo_2 := ST18.out.thaw (List.mem_cons_self ..) 2
    have qbo_3 := ST18.out.cell (List.mem_cons_self ..) 3 _ rfl
    have fbo_3 := ST18.out.thaw (List.mem_cons_self ..) 3
    have qbo_4 := ST18.out.cell (List.mem_cons_self ..) 4 _ rfl
    have fbo_4 := ST18.out.thaw (List.mem_cons_self ..) 4
    go_wp2_with fail
    exact finE3 (⟨E0.out.1, E0.out.2, rfl, rfl, Hk.out.symm, rfl⟩) rfl (show BoxK W17 bo _ _ _ _ _ _ _ from (ST18.out.boxes _ (List.mem_cons_self ..)).1) ST18.out.below (ST18.out.boxes _ (List.mem_cons_self ..)).2 (ST18.out.getC (v := (.agg #[.bool n6, .slice a6 c6 d6])) (i := 0) (List.mem_cons_self ..)) rfl rfl rfl

set_option maxRecDepth 100000 in
set_option maxHeartbeats 3200000 in
theorem reckon_sub {w : World} {k1 : Int} {g1 : Bool} {a1 : Option Addr} {n1 c1 : Nat} {s1 : ByteArray} {t1 : Bool} {z1 : List Nat} {x1 : Int} {k2 : Int} {g2 : Bool} {a2 : Option Addr} {n2 c2 : Nat} {s2 : ByteArray} {t2 : Bool} {z2 : List Nat} {x2 : Int} (h1 : IntV w (.agg #[.bool g1, .slice a1 n1 c1]) g1 z1) (hx1 : valI g1 z1 = x1) (h2 : IntV w (.agg #[.bool g2, .slice a2 n2 c2]) g2 z2) (hx2 : valI g2 z2 = x2) (hk1 : k1 = 1) :
    Calls Tryd.prog 42 #[.string ⟨#[45]⟩, .agg #[.int .i64 k1, .bool g1, .slice a1 n1 c1, .string s1, .bool t1], .agg #[.int .i64 k2, .bool g2, .slice a2 n2 c2, .string s2, .bool t2]] w fun e w' => Kon3 w' e (kindK (subK x1 x2)) (subV x1 x2) ⟨#[]⟩ false (subK x1 x2) true ∧ Below w.heap.size w w' := by
  have ST0 := Lib.hid (Sk.start w)
  have Hx1 := Lib.hid hx1
  have ST1 := Lib.hid (ST0.out.num h1)
  clear h1 hx1
  have Hx2 := Lib.hid hx2
  have ST2 := Lib.hid (ST1.out.num h2)
  clear h2 hx2
  subst hk1
  obtain ⟨K, V, HKV⟩ : ∃ K V, Hid (subK x1 x2 = K ∧ subV x1 x2 = V) := ⟨_, _, Lib.hid ⟨rfl, rfl⟩⟩
  have HV0 := Lib.hid (show K ≠ 0 → V = 0 from by rw [← HKV.out.1, ← HKV.out.2]; exact subKV0)
  rw [HKV.out.1, HKV.out.2]
  go_enter Tryd.func42, Tryd.ntmps42
  go_upto_region 1 with fail
  obtain ⟨W3, HW3⟩ : ∃ W', Hid (W' = w.alloc (.cells #[(.int .i64 1), (.bool g1), (.slice a1 n1 c1), (.string s1), (.bool t1)] 26)) := ⟨_, Lib.hid rfl⟩
  obtain ⟨p1, Hp1⟩ : ∃ b, Hid (b = w.heap.size) := ⟨_, Lib.hid rfl⟩
  have ST4 := Lib.hid (ST2.out.box Hp1.out HW3.out)
  obtain ⟨W5, HW5⟩ : ∃ W', Hid (W' = W3.alloc (.cells #[(.int .i64 k2), (.bool g2), (.slice a2 n2 c2), (.string s2), (.bool t2)] 26)) := ⟨_, Lib.hid rfl⟩
  obtain ⟨p2, Hp2⟩ : ∃ b, Hid (b = W3.heap.size) := ⟨_, Lib.hid rfl⟩
  have Op2 := Lib.hid (ST4.out.old Hp2.out)
  have ST6 := Lib.hid (ST4.out.box Hp2.out HW5.out)
  obtain ⟨W7, HW7⟩ : ∃ W', Hid (W' = W5.alloc (.cells #[(.int .i64 0), (.bool false), (.slice none 0 0), (.string ⟨#[]⟩), (.bool false)] 26)) := ⟨_, Lib.hid rfl⟩
  obtain ⟨bo, Hbo⟩ : ∃ b, Hid (b = W5.heap.size) := ⟨_, Lib.hid rfl⟩
  have Obo := Lib.hid (ST6.out.old Hbo.out)
  have ST8 := Lib.hid (ST6.out.box Hbo.out HW7.out)
  have hz2 : w.heap.size + 2 = bo := by rw [Hbo.out, HW5.out, World.size_alloc, HW3.out, World.size_alloc]
  have hz1 : w.heap.size + 1 = p2 := by rw [Hp2.out, HW3.out, World.size_alloc]
  rw [← HW3.out, ← HW5.out, ← HW7.out]
  try rw [hz2]
  try rw [hz1]
  try rw [← Hp1.out]
  clear hz1 hz2
  have qp2_0 := ST8.out.cell (List.mem_cons_of_mem _ (List.mem_cons_self ..)) 0 _ rfl
  have qp2_1 := ST8.out.cell (List.mem_cons_of_mem _ (List.mem_cons_self ..)) 1 _ rfl
  have qp2_2 := ST8.out.cell (List.mem_cons_of_mem _ (List.mem_cons_self ..)) 2 _ rfl
  have qp2_3 := ST8.out.cell (List.mem_cons_of_mem _ (List.mem_cons_self ..)) 3 _ rfl
  have qp2_4 := ST8.out.cell (List.mem_cons_of_mem _ (List.mem_cons_self ..)) 4 _ rfl
  have qp1_0 := ST8.out.cell (List.mem_cons_of_mem _ (List.mem_cons_of_mem _ (List.mem_cons_self ..))) 0 _ rfl
  have qp1_1 := ST8.out.cell (List.mem_cons_of_mem _ (List.mem_cons_of_mem _ (List.mem_cons_self ..))) 1 _ rfl
  have qp1_2 := ST8.out.cell (List.mem_cons_of_mem _ (List.mem_cons_of_mem _ (List.mem_cons_self ..))) 2 _ rfl
  have qp1_3 := ST8.out.cell (List.mem_cons_of_mem _ (List.mem_cons_of_mem _ (List.mem_cons_self ..))) 3 _ rfl
  have qp1_4 := ST8.out.cell (List.mem_cons_of_mem _ (List.mem_cons_of_mem _ (List.mem_cons_self ..))) 4 _ rfl
  go_wp2_with (go_at_call 65; refine hold ?_)
  refine Hold.mk ?_
  have C9 := Lib.hid (sub_k (ST8.out.get (v := (.agg #[.bool g1, .slice a1 n1 c1])) (g := g1) (z := z1) (List.mem_cons_of_mem _ (List.mem_cons_self ..))) (ST8.out.get (v := (.agg #[.bool g2, .slice a2 n2 c2])) (g := g2) (z := z2) (List.mem_cons_self ..)) Hx1.out Hx2.out)
  rw [HKV.out.1, HKV.out.2] at C9
  refine C9.out.mono ?_
  rintro e W9 ⟨⟨n5, a5, c5, d5, k5, rfl, hk, hv⟩, hb⟩
  clear qp2_0 qp2_1 qp2_2 qp2_3 qp2_4 qp1_0 qp1_1 qp1_2 qp1_3 qp1_4
  have ST10 := Lib.hid (ST8.out.next hb hv)
  clear hb hv
  have Hk := Lib.hid hk
  clear hk
  by_cases h0 : k5 = 0
  · subst h0
    have E0 := Lib.hid (show kindK K = 1 from by rw [← Hk.out]; rfl)
    go_wp2_with (go_at_call 24; refine hold ?_)
    refine Hold.mk ?_
    have C11 := Lib.hid (number_ok (ST10.out.getC (v := (.agg #[.bool n5, .slice a5 c5 d5])) (i := V) (List.mem_cons_self ..)))
    refine C11.out.mono ?_
    rintro e W11 ⟨⟨n6, a6, c6, d6, rfl, hv⟩, hb⟩
    have ST12 := Lib.hid (ST10.out.next hb hv)
    clear hb hv
    have qbo_0 := ST12.out.cell (List.mem_cons_self ..) 0 _ rfl
    have fbo_0 := ST12.out.thaw (List.mem_cons_self ..) 0
    have qbo_1 := ST12.out.cell (List.mem_cons_self ..) 1 _ rfl
    have fbo_1 := ST12.out.thaw (List.mem_cons_self ..) 1
    have qbo_2 := ST12.out.cell (List.mem_cons_self ..) 2 _ rfl
    have fbo_2 := ST12.out.thaw (List.mem_cons_self ..) 2
    have qbo_3 := ST12.out.cell (List.mem_cons_self ..) 3 _ rfl
    have fbo_3 := ST12.out.thaw (List.mem_cons_self ..) 3
    have qbo_4 := ST12.out.cell (List.mem_cons_self ..) 4 _ rfl
    have fbo_4 := ST12.out.thaw (List.mem_cons_self ..) 4
    go_upto_region 17 with fail
    obtain ⟨W13, HW13⟩ : ∃ W', Hid (W' = ((((W11.setCell ⟨bo, 0, none⟩ (.int .i64 1)).setCell ⟨bo, 1, none⟩ (.bool n6)).setCell ⟨bo, 2, none⟩ (.slice a6 c6 d6)).setCell ⟨bo, 3, none⟩ (.string ⟨#[]⟩)).setCell ⟨bo, 4, none⟩ (.bool false)) := ⟨_, Lib.hid rfl⟩
    rw [← HW13.out]
    clear qbo_0 fbo_0 qbo_1 fbo_1 qbo_2 fbo_2 qbo_3 fbo_3 qbo_4 fbo_4
    have ST14 := Lib.hid (ST12.out.store Obo.out HW13.out)
    have qbo_0 := ST14.out.cell (List.mem_cons_self ..) 0 _ rfl
    have fbo_0 := ST14.out.thaw (List.mem_cons_self ..) 0
    have qbo_1 := ST14.out.cell (List.mem_cons_self ..) 1 _ rfl
    have fbo_1 := ST14.out.thaw (List.mem_cons_self ..) 1
    have qbo_2 := ST14.out.cell (List.mem_cons_self ..) 2 _ rfl
    have fbo_2 := ST14.out.thaw (List.mem_cons_self ..) 2
    have qbo_3 := ST14.out.cell (List.mem_cons_self ..) 3 _ rfl
    have fbo_3 := ST14.out.thaw (List.mem_cons_self ..) 3
    have qbo_4 := ST14.out.cell (List.mem_cons_self ..) 4 _ rfl
    have fbo_4 := ST14.out.thaw (List.mem_cons_self ..) 4
    go_wp2_with fail
    exact finE3 (⟨E0.out, rfl, rfl, rfl, Hk.out.symm, rfl⟩) rfl (show BoxK W13 bo _ _ _ _ _ _ _ from (ST14.out.boxes _ (List.mem_cons_self ..)).1) ST14.out.below (ST14.out.boxes _ (List.mem_cons_self ..)).2 (ST14.out.getC (v := (.agg #[.bool n6, .slice a6 c6 d6])) (i := V) (List.mem_cons_self ..)) rfl rfl rfl
  · skip
    have E0 := Lib.hid (show kindK K = 0 ∧ V = 0 from by rw [Hk.out] at h0; exact ⟨if_neg h0, HV0.out h0⟩)
    go_wp2_with (go_at_call 24; refine hold ?_)
    refine Hold.mk ?_
    have C15 := Lib.hid (number_no (ST10.out.getC (v := (.agg #[.bool n5, .slice a5 c5 d5])) (i := V) (List.mem_cons_self ..)) h0)
    refine C15.out.mono ?_
    rintro e W15 ⟨⟨n6, a6, c6, d6, rfl, hv⟩, hb⟩
    have ST16 := Lib.hid (ST10.out.next hb hv)
    clear hb hv
    have qbo_0 := ST16.out.cell (List.mem_cons_self ..) 0 _ rfl
    have fbo_0 := ST16.out.thaw (List.mem_cons_self ..) 0
    have qbo_1 := ST16.out.cell (List.mem_cons_self ..) 1 _ rfl
    have fbo_1 := ST16.out.thaw (List.mem_cons_self ..) 1
    have qbo_2 := ST16.out.cell (List.mem_cons_self ..) 2 _ rfl
    have fbo_2 := ST16.out.thaw (List.mem_cons_self ..) 2
    have qbo_3 := ST16.out.cell (List.mem_cons_self ..) 3 _ rfl
    have fbo_3 := ST16.out.thaw (List.mem_cons_self ..) 3
    have qbo_4 := ST16.out.cell (List.mem_cons_self ..) 4 _ rfl
    have fbo_4 := ST16.out.thaw (List.mem_cons_self ..) 4
    go_upto_region 17 with fail
    obtain ⟨W17, HW17⟩ : ∃ W', Hid (W' = ((((W15.setCell ⟨bo, 0, none⟩ (.int .i64 0)).setCell ⟨bo, 1, none⟩ (.bool n6)).setCell ⟨bo, 2, none⟩ (.slice a6 c6 d6)).setCell ⟨bo, 3, none⟩ (.string ⟨#[]⟩)).setCell ⟨bo, 4, none⟩ (.bool false)) := ⟨_, Lib.hid rfl⟩
    rw [← HW17.out]
    clear qbo_0 fbo_0 qbo_1 fbo_1 qbo_2 fbo_2 qbo_3 fbo_3 qbo_4 fbo_4
    have ST18 := Lib.hid (ST16.out.store Obo.out HW17.out)
    have qbo_0 := ST18.out.cell (List.mem_cons_self ..) 0 _ rfl
    have fbo_0 := ST18.out.thaw (List.mem_cons_self ..) 0
    have qbo_1 := ST18.out.cell (List.mem_cons_self ..) 1 _ rfl
    have fbo_1 := ST18.out.thaw (List.mem_cons_self ..) 1
    have qbo_2 := ST18.out.cell (List.mem_cons_self ..) 2 _ rfl
    have fbo_2 := ST18.out.thaw (List.mem_cons_self ..) 2
    have qbo_3 := ST18.out.cell (List.mem_cons_self ..) 3 _ rfl
    have fbo_3 := ST18.out.thaw (List.mem_cons_self ..) 3
    have qbo_4 := ST18.out.cell (List.mem_cons_self ..) 4 _ rfl
    have fbo_4 := ST18.out.thaw (List.mem_cons_self ..) 4
    go_wp2_with fail
    exact finE3 (⟨E0.out.1, E0.out.2, rfl, rfl, Hk.out.symm, rfl⟩) rfl (show BoxK W17 bo _ _ _ _ _ _ _ from (ST18.out.boxes _ (List.mem_cons_self ..)).1) ST18.out.below (ST18.out.boxes _ (List.mem_cons_self ..)).2 (ST18.out.getC (v := (.agg #[.bool n6, .slice a6 c6 d6])) (i := 0) (List.mem_cons_self ..)) rfl rfl rfl

set_option maxRecDepth 100000 in
set_option maxHeartbeats 3200000 in
theorem reckon_mul {w : World} {k1 : Int} {g1 : Bool} {a1 : Option Addr} {n1 c1 : Nat} {s1 : ByteArray} {t1 : Bool} {z1 : List Nat} {x1 : Int} {k2 : Int} {g2 : Bool} {a2 : Option Addr} {n2 c2 : Nat} {s2 : ByteArray} {t2 : Bool} {z2 : List Nat} {x2 : Int} (h1 : IntV w (.agg #[.bool g1, .slice a1 n1 c1]) g1 z1) (hx1 : valI g1 z1 = x1) (h2 : IntV w (.agg #[.bool g2, .slice a2 n2 c2]) g2 z2) (hx2 : valI g2 z2 = x2) (hk1 : k1 = 1) :
    Calls Tryd.prog 42 #[.string ⟨#[42]⟩, .agg #[.int .i64 k1, .bool g1, .slice a1 n1 c1, .string s1, .bool t1], .agg #[.int .i64 k2, .bool g2, .slice a2 n2 c2, .string s2, .bool t2]] w fun e w' => Kon3 w' e (kindK (mulK x1 x2)) (mulV x1 x2) ⟨#[]⟩ false (mulK x1 x2) true ∧ Below w.heap.size w w' := by
  have ST0 := Lib.hid (Sk.start w)
  have Hx1 := Lib.hid hx1
  have ST1 := Lib.hid (ST0.out.num h1)
  clear h1 hx1
  have Hx2 := Lib.hid hx2
  have ST2 := Lib.hid (ST1.out.num h2)
  clear h2 hx2
  subst hk1
  obtain ⟨K, V, HKV⟩ : ∃ K V, Hid (mulK x1 x2 = K ∧ mulV x1 x2 = V) := ⟨_, _, Lib.hid ⟨rfl, rfl⟩⟩
  have HV0 := Lib.hid (show K ≠ 0 → V = 0 from by rw [← HKV.out.1, ← HKV.out.2]; exact mulKV0)
  rw [HKV.out.1, HKV.out.2]
  go_enter Tryd.func42, Tryd.ntmps42
  go_upto_region 1 with fail
  obtain ⟨W3, HW3⟩ : ∃ W', Hid (W' = w.alloc (.cells #[(.int .i64 1), (.bool g1), (.slice a1 n1 c1), (.string s1), (.bool t1)] 26)) := ⟨_, Lib.hid rfl⟩
  obtain ⟨p1, Hp1⟩ : ∃ b, Hid (b = w.heap.size) := ⟨_, Lib.hid rfl⟩
  have ST4 := Lib.hid (ST2.out.box Hp1.out HW3.out)
  obtain ⟨W5, HW5⟩ : ∃ W', Hid (W' = W3.alloc (.cells #[(.int .i64 k2), (.bool g2), (.slice a2 n2 c2), (.string s2), (.bool t2)] 26)) := ⟨_, Lib.hid rfl⟩
  obtain ⟨p2, Hp2⟩ : ∃ b, Hid (b = W3.heap.size) := ⟨_, Lib.hid rfl⟩
  have Op2 := Lib.hid (ST4.out.old Hp2.out)
  have ST6 := Lib.hid (ST4.out.box Hp2.out HW5.out)
  obtain ⟨W7, HW7⟩ : ∃ W', Hid (W' = W5.alloc (.cells #[(.int .i64 0), (.bool false), (.slice none 0 0), (.string ⟨#[]⟩), (.bool false)] 26)) := ⟨_, Lib.hid rfl⟩
  obtain ⟨bo, Hbo⟩ : ∃ b, Hid (b = W5.heap.size) := ⟨_, Lib.hid rfl⟩
  have Obo := Lib.hid (ST6.out.old Hbo.out)
  have ST8 := Lib.hid (ST6.out.box Hbo.out HW7.out)
  have hz2 : w.heap.size + 2 = bo := by rw [Hbo.out, HW5.out, World.size_alloc, HW3.out, World.size_alloc]
  have hz1 : w.heap.size + 1 = p2 := by rw [Hp2.out, HW3.out, World.size_alloc]
  rw [← HW3.out, ← HW5.out, ← HW7.out]
  try rw [hz2]
  try rw [hz1]
  try rw [← Hp1.out]
  clear hz1 hz2
  have qp2_0 := ST8.out.cell (List.mem_cons_of_mem _ (List.mem_cons_self ..)) 0 _ rfl
  have qp2_1 := ST8.out.cell (List.mem_cons_of_mem _ (List.mem_cons_self ..)) 1 _ rfl
  have qp2_2 := ST8.out.cell (List.mem_cons_of_mem _ (List.mem_cons_self ..)) 2 _ rfl
  have qp2_3 := ST8.out.cell (List.mem_cons_of_mem _ (List.mem_cons_self ..)) 3 _ rfl
  have qp2_4 := ST8.out.cell (List.mem_cons_of_mem _ (List.mem_cons_self ..)) 4 _ rfl
  have qp1_0 := ST8.out.cell (List.mem_cons_of_mem _ (List.mem_cons_of_mem _ (List.mem_cons_self ..))) 0 _ rfl
  have qp1_1 := ST8.out.cell (List.mem_cons_of_mem _ (List.mem_cons_of_mem _ (List.mem_cons_self ..))) 1 _ rfl
  have qp1_2 := ST8.out.cell (List.mem_cons_of_mem _ (List.mem_cons_of_mem _ (List.mem_cons_self ..))) 2 _ rfl
  have qp1_3 := ST8.out.cell (List.mem_cons_of_mem _ (List.mem_cons_of_mem _ (List.mem_cons_self ..))) 3 _ rfl
  have qp1_4 := ST8.out.cell (List.mem_cons_of_mem _ (List.mem_cons_of_mem _ (List.mem_cons_self ..))) 4 _ rfl
  go_wp2_with (go_at_call 66; refine hold ?_)
  refine Hold.mk ?_
  have C9 := Lib.hid (mul_k (ST8.out.get (v := (.agg #[.bool g1, .slice a1 n1 c1])) (g := g1) (z := z1) (List.mem_cons_of_mem _ (List.mem_cons_self ..))) (ST8.out.get (v := (.agg #[.bool g2, .slice a2 n2 c2])) (g := g2) (z := z2) (List.mem_cons_self ..)) Hx1.out Hx2.out)
  rw [HKV.out.1, HKV.out.2] at C9
  refine C9.out.mono ?_
  rintro e W9 ⟨⟨n5, a5, c5, d5, k5, rfl, hk, hv⟩, hb⟩
  clear qp2_0 qp2_1 qp2_2 qp2_3 qp2_4 qp1_0 qp1_1 qp1_2 qp1_3 qp1_4
  have ST10 := Lib.hid (ST8.out.next hb hv)
  clear hb hv
  have Hk := Lib.hid hk
  clear hk
  by_cases h0 : k5 = 0
  · subst h0
    have E0 := Lib.hid (show kindK K = 1 from by rw [← Hk.out]; rfl)
    go_wp2_with (go_at_call 24; refine hold ?_)
    refine Hold.mk ?_
    have C11 := Lib.hid (number_ok (ST10.out.getC (v := (.agg #[.bool n5, .slice a5 c5 d5])) (i := V) (List.mem_cons_self ..)))
    refine C11.out.mono ?_
    rintro e W11 ⟨⟨n6, a6, c6, d6, rfl, hv⟩, hb⟩
    have ST12 := Lib.hid (ST10.out.next hb hv)
    clear hb hv
    have qbo_0 := ST12.out.cell (List.mem_cons_self ..) 0 _ rfl
    have fbo_0 := ST12.out.thaw (List.mem_cons_self ..) 0
    have qbo_1 := ST12.out.cell (List.mem_cons_self ..) 1 _ rfl
    have fbo_1 := ST12.out.thaw (List.mem_cons_self ..) 1
    have qbo_2 := ST12.out.cell (List.mem_cons_self ..) 2 _ rfl
    have fbo_2 := ST12.out.thaw (List.mem_cons_self ..) 2
    have qbo_3 := ST12.out.cell (List.mem_cons_self ..) 3 _ rfl
    have fbo_3 := ST12.out.thaw (List.mem_cons_self ..) 3
    have qbo_4 := ST12.out.cell (List.mem_cons_self ..) 4 _ rfl
    have fbo_4 := ST12.out.thaw (List.mem_cons_self ..) 4
    go_upto_region 17 with fail
    obtain ⟨W13, HW13⟩ : ∃ W', Hid (W' = ((((W11.setCell ⟨bo, 0, none⟩ (.int .i64 1)).setCell ⟨bo, 1, none⟩ (.bool n6)).setCell ⟨bo, 2, none⟩ (.slice a6 c6 d6)).setCell ⟨bo, 3, none⟩ (.string ⟨#[]⟩)).setCell ⟨bo, 4, none⟩ (.bool false)) := ⟨_, Lib.hid rfl⟩
    rw [← HW13.out]
    clear qbo_0 fbo_0 qbo_1 fbo_1 qbo_2 fbo_2 qbo_3 fbo_3 qbo_4 fbo_4
    have ST14 := Lib.hid (ST12.out.store Obo.out HW13.out)
    have qbo_0 := ST14.out.cell (List.mem_cons_self ..) 0 _ rfl
    have fbo_0 := ST14.out.thaw (List.mem_cons_self ..) 0
    have qbo_1 := ST14.out.cell (List.mem_cons_self ..) 1 _ rfl
    have fbo_1 := ST14.out.thaw (List.mem_cons_self ..) 1
    have qbo_2 := ST14.out.cell (List.mem_cons_self ..) 2 _ rfl
    have fbo_2 := ST14.out.thaw (List.mem_cons_self ..) 2
    have qbo_3 := ST14.out.cell (List.mem_cons_self ..) 3 _ rfl
    have fbo_3 := ST14.out.thaw (List.mem_cons_self ..) 3
    have qbo_4 := ST14.out.cell (List.mem_cons_self ..) 4 _ rfl
    have fbo_4 := ST14.out.thaw (List.mem_cons_self ..) 4
    go_wp2_with fail
    exact finE3 (⟨E0.out, rfl, rfl, rfl, Hk.out.symm, rfl⟩) rfl (show BoxK W13 bo _ _ _ _ _ _ _ from (ST14.out.boxes _ (List.mem_cons_self ..)).1) ST14.out.below (ST14.out.boxes _ (List.mem_cons_self ..)).2 (ST14.out.getC (v := (.agg #[.bool n6, .slice a6 c6 d6])) (i := V) (List.mem_cons_self ..)) rfl rfl rfl
  · skip
    have E0 := Lib.hid (show kindK K = 0 ∧ V = 0 from by rw [Hk.out] at h0; exact ⟨if_neg h0, HV0.out h0⟩)
    go_wp2_with (go_at_call 24; refine hold ?_)
    refine Hold.mk ?_
    have C15 := Lib.hid (number_no (ST10.out.getC (v := (.agg #[.bool n5, .slice a5 c5 d5])) (i := V) (List.mem_cons_self ..)) h0)
    refine C15.out.mono ?_
    rintro e W15 ⟨⟨n6, a6, c6, d6, rfl, hv⟩, hb⟩
    have ST16 := Lib.hid (ST10.out.next hb hv)
    clear hb hv
    have qbo_0 := ST16.out.cell (List.mem_cons_self ..) 0 _ rfl
    have fbo_0 := ST16.out.thaw (List.mem_cons_self ..) 0
    have qbo_1 := ST16.out.cell (List.mem_cons_self ..) 1 _ rfl
    have fbo_1 := ST16.out.thaw (List.mem_cons_self ..) 1
    have qbo_2 := ST16.out.cell (List.mem_cons_self ..) 2 _ rfl
    have fbo_2 := ST16.out.thaw (List.mem_cons_self ..) 2
    have qbo_3 := ST16.out.cell (List.mem_cons_self ..) 3 _ rfl
    have fbo_3 := ST16.out.thaw (List.mem_cons_self ..) 3
    have qbo_4 := ST16.out.cell (List.mem_cons_self ..) 4 _ rfl
    have fbo_4 := ST16.out.thaw (List.mem_cons_self ..) 4
    go_upto_region 17 with fail
    obtain ⟨W17, HW17⟩ : ∃ W', Hid (W' = ((((W15.setCell ⟨bo, 0, none⟩ (.int .i64 0)).setCell ⟨bo, 1, none⟩ (.bool n6)).setCell ⟨bo, 2, none⟩ (.slice a6 c6 d6)).setCell ⟨bo, 3, none⟩ (.string ⟨#[]⟩)).setCell ⟨bo, 4, none⟩ (.bool false)) := ⟨_, Lib.hid rfl⟩
    rw [← HW17.out]
    clear qbo_0 fbo_0 qbo_1 fbo_1 qbo_2 fbo_2 qbo_3 fbo_3 qbo_4 fbo_4
    have ST18 := Lib.hid (ST16.out.store Obo.out HW17.out)
    have qbo_0 := ST18.out.cell (List.mem_cons_self ..) 0 _ rfl
    have fbo_0 := ST18.out.thaw (List.mem_cons_self ..) 0
    have qbo_1 := ST18.out.cell (List.mem_cons_self ..) 1 _ rfl
    have fbo_1 := ST18.out.thaw (List.mem_cons_self ..) 1
    have qbo_2 := ST18.out.cell (List.mem_cons_self ..) 2 _ rfl
    have fbo_2 := ST18.out.thaw (List.mem_cons_self ..) 2
    have qbo_3 := ST18.out.cell (List.mem_cons_self ..) 3 _ rfl
    have fbo_3 := ST18.out.thaw (List.mem_cons_self ..) 3
    have qbo_4 := ST18.out.cell (List.mem_cons_self ..) 4 _ rfl
    have fbo_4 := ST18.out.thaw (List.mem_cons_self ..) 4
    go_wp2_with fail
    exact finE3 (⟨E0.out.1, E0.out.2, rfl, rfl, Hk.out.symm, rfl⟩) rfl (show BoxK W17 bo _ _ _ _ _ _ _ from (ST18.out.boxes _ (List.mem_cons_self ..)).1) ST18.out.below (ST18.out.boxes _ (List.mem_cons_self ..)).2 (ST18.out.getC (v := (.agg #[.bool n6, .slice a6 c6 d6])) (i := 0) (List.mem_cons_self ..)) rfl rfl rfl

end Go.Proofs.YtahgbbnpbhfaeaaDoor
