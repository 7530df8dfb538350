/- konst.reckon: / and %, none; konst.other; konst.compare. No condition. -/
import Derived.Test.YtahgbbnpbhfaeaaDoorKnRec
namespace Go.Proofs.YtahgbbnpbhfaeaaDoor
open Go.RowKit

theorem quoKV0 {x y : Int} (h : quoK x y ≠ 0) : quoV x y = 0 ∧ remV x y = 0 := by
  unfold quoV remV
  rw [if_neg h, if_neg h]
  exact ⟨rfl, rfl⟩

set_option maxRecDepth 100000 in
set_option maxHeartbeats 3200000 in
theorem reckon_quo {w : World} {k1 : Int} {g1 : Bool} {a1 : Option Addr} {n1 c1 : Nat} {s1 : ByteArray} {t1 : Bool} {z1 : List Nat} {x1 : Int} {k2 : Int} {g2 : Bool} {a2 : Option Addr} {n2 c2 : Nat} {s2 : ByteArray} {t2 : Bool} {z2 : List Nat} {x2 : Int} (h1 : IntV w (.agg #[.bool g1, .slice a1 n1 c1]) g1 z1) (hx1 : valI g1 z1 = x1) (h2 : IntV w (.agg #[.bool g2, .slice a2 n2 c2]) g2 z2) (hx2 : valI g2 z2 = x2) (hk1 : k1 = 1) :
    Calls Tryd.prog 42 #[.string ⟨#[47]⟩, .agg #[.int .i64 k1, .bool g1, .slice a1 n1 c1, .string s1, .bool t1], .agg #[.int .i64 k2, .bool g2, .slice a2 n2 c2, .string s2, .bool t2]] w fun e w' => Kon3 w' e (kindK (quoK x1 x2)) (quoV x1 x2) ⟨#[]⟩ false (quoK x1 x2) true ∧ Below w.heap.size w w' := by
  have ST0 := Lib.hid (Sk.start w)
  have Hx1 := Lib.hid hx1
  have ST1 := Lib.hid (ST0.out.num h1)
  clear h1 hx1
  have Hx2 := Lib.hid hx2
  have ST2 := Lib.hid (ST1.out.num h2)
  clear h2 hx2
  subst hk1
  obtain ⟨K, V, HKV⟩ : ∃ K V, Hid (quoK x1 x2 = K ∧ quoV x1 x2 = V) := ⟨_, _, Lib.hid ⟨rfl, rfl⟩⟩
  have HV0 := Lib.hid (show K ≠ 0 → V = 0 from by rw [← HKV.out.1, ← HKV.out.2]; exact fun h => (quoKV0 h).1)
  rw [HKV.out.1, HKV.out.2]
  go_enter Tryd.func42, Tryd.ntmps42
  go_upto_region 1 with fail
  obtain ⟨W3, HW3⟩ : ∃ W', Hid (W' = w.alloc (.cells #[(.int .i64 1), (.bool g1), (.slice a1 n1 c1), (.string s1), (.bool t1)] 26)) := ⟨_, Lib.hid rfl⟩
  obtain ⟨p1, Hp1⟩ : ∃ b, Hid (b = w.heap.size) := ⟨_, Lib.hid rfl⟩
  have ST4 := Lib.hid (ST2.out.box Hp1.out HW3.out)
  obtain ⟨W5, HW5⟩ : ∃ W', Hid (W' = W3.alloc (.cells #[(.int .i64 k2), (.bool g2), (.slice a2 n2 c2), (.string s2), (.bool t2)] 26)) := ⟨_, Lib.hid rfl⟩
  obtain ⟨p2, Hp2⟩ : ∃ b, Hid (b = W3.heap.size) := ⟨_, Lib.hid rfl⟩
  have Op2 := Lib.hid (ST4.out.old Hp2.out)
  have ST6 := Lib.hid (ST4.out.box Hp2.out HW5.out)
  obtain ⟨W7, HW7⟩ : ∃ W', Hid (W' = W5.alloc (.cells #[(.int .i64 0), (.bool false), (.slice none 0 0), (.string ⟨#[]⟩), (.bool false)] 26)) := ⟨_, Lib.hid rfl⟩
  obtain ⟨bo, Hbo⟩ : ∃ b, Hid (b = W5.heap.size) := ⟨_, Lib.hid rfl⟩
  have Obo := Lib.hid (ST6.out.old Hbo.out)
  have ST8 := Lib.hid (ST6.out.box Hbo.out HW7.out)
  have hz2 : w.heap.size + 2 = bo := by rw [Hbo.out, HW5.out, World.size_alloc, HW3.out, World.size_alloc]
  have hz1 : w.heap.size + 1 = p2 := by rw [Hp2.out, HW3.out, World.size_alloc]
  rw [← HW3.out, ← HW5.out, ← HW7.out]
  try rw [hz2]
  try rw [hz1]
  try rw [← Hp1.out]
  clear hz1 hz2
  have qp2_0 := ST8.out.cell (List.mem_cons_of_mem _ (List.mem_cons_self ..)) 0 _ rfl
  have qp2_1 := ST8.out.cell (List.mem_cons_of_mem _ (List.mem_cons_self ..)) 1 _ rfl
  have qp2_2 := ST8.out.cell (List.mem_cons_of_mem _ (List.mem_cons_self ..)) 2 _ rfl
  have qp2_3 := ST8.out.cell (List.mem_cons_of_mem _ (List.mem_cons_self ..)) 3 _ rfl
  have qp2_4 := ST8.out.cell (List.mem_cons_of_mem _ (List.mem_cons_self ..)) 4 _ rfl
  have qp1_0 := ST8.out.cell (List.mem_cons_of_mem _ (List.mem_cons_of_mem _ (List.mem_cons_self ..))) 0 _ rfl
  have qp1_1 := ST8.out.cell (List.mem_cons_of_mem _ (List.mem_cons_of_mem _ (List.mem_cons_self ..))) 1 _ rfl
  have qp1_2 := ST8.out.cell (List.mem_cons_of_mem _ (List.mem_cons_of_mem _ (List.mem_cons_self ..))) 2 _ rfl
  have qp1_3 := ST8.out.cell (List.mem_cons_of_mem _ (List.mem_cons_of_mem _ (List.mem_cons_self ..))) 3 _ rfl
  have qp1_4 := ST8.out.cell (List.mem_cons_of_mem _ (List.mem_cons_of_mem _ (List.mem_cons_self ..))) 4 _ rfl
  go_wp2_with (go_at_call 67; refine hold ?_)
  refine Hold.mk ?_
  refine (quo_k (ST8.out.get (v := (.agg #[.bool g1, .slice a1 n1 c1])) (g := g1) (z := z1) (List.mem_cons_of_mem _ (List.mem_cons_self ..))) (ST8.out.get (v := (.agg #[.bool g2, .slice a2 n2 c2])) (g := g2) (z := z2) (List.mem_cons_self ..)) Hx1.out Hx2.out).mono ?_
  rintro e W9 ⟨⟨n5, a5, c5, d5, n6, a6, c6, d6, k5, rfl, hk, hv, hu⟩, hb⟩
  clear qp2_0 qp2_1 qp2_2 qp2_3 qp2_4 qp1_0 qp1_1 qp1_2 qp1_3 qp1_4
  have ST10 := Lib.hid ((ST8.out.next hb hv).num hu)
  have Hk := Lib.hid (show k5 = K from by rw [hk, HKV.out.1])
  clear hk hv hu hb
  go_upto_region 14 with fail
  obtain ⟨W11, HW11⟩ : ∃ W', Hid (W' = W9.alloc (.cells #[(.bool n5), (.slice a5 c5 d5)] 24)) := ⟨_, Lib.hid rfl⟩
  obtain ⟨b9, Hb9⟩ : ∃ b, Hid (b = W9.heap.size) := ⟨_, Lib.hid rfl⟩
  have Ob9 := Lib.hid (ST10.out.old Hb9.out)
  have ST12 := Lib.hid (ST10.out.box Hb9.out HW11.out)
  obtain ⟨W13, HW13⟩ : ∃ W', Hid (W' = W11.alloc (.cells #[(.bool n6), (.slice a6 c6 d6)] 24)) := ⟨_, Lib.hid rfl⟩
  obtain ⟨b10, Hb10⟩ : ∃ b, Hid (b = W11.heap.size) := ⟨_, Lib.hid rfl⟩
  have Ob10 := Lib.hid (ST12.out.old Hb10.out)
  have ST14 := Lib.hid (ST12.out.box Hb10.out HW13.out)
  have hz1 : W9.heap.size + 1 = b10 := by rw [Hb10.out, HW11.out, World.size_alloc]
  rw [← HW11.out, ← HW13.out]
  try rw [hz1]
  try rw [← Hb9.out]
  clear hz1
  have qb9_0 := ST14.out.cell (List.mem_cons_of_mem _ (List.mem_cons_self ..)) 0 _ rfl
  have qb9_1 := ST14.out.cell (List.mem_cons_of_mem _ (List.mem_cons_self ..)) 1 _ rfl
  by_cases h0 : k5 = 0
  · subst h0
    have E0 := Lib.hid (show kindK K = 1 from by rw [← Hk.out]; rfl)
    go_wp2_with (go_at_call 24; refine hold ?_)
    refine Hold.mk ?_
    have C15 := Lib.hid (number_ok (ST14.out.getC (v := (.agg #[.bool n5, .slice a5 c5 d5])) (i := quoV x1 x2) (List.mem_cons_of_mem _ (List.mem_cons_self ..))))
    refine C15.out.mono ?_
    rintro e W15 ⟨⟨n7, a7, c7, d7, rfl, hv⟩, hb⟩
    clear qb9_0 qb9_1
    have ST16 := Lib.hid (ST14.out.next hb hv)
    clear hb hv
    have qbo_0 := ST16.out.cell (List.mem_cons_of_mem _ (List.mem_cons_of_mem _ (List.mem_cons_self ..))) 0 _ rfl
    have fbo_0 := ST16.out.thaw (List.mem_cons_of_mem _ (List.mem_cons_of_mem _ (List.mem_cons_self ..))) 0
    have qbo_1 := ST16.out.cell (List.mem_cons_of_mem _ (List.mem_cons_of_mem _ (List.mem_cons_self ..))) 1 _ rfl
    have fbo_1 := ST16.out.thaw (List.mem_cons_of_mem _ (List.mem_cons_of_mem _ (List.mem_cons_self ..))) 1
    have qbo_2 := ST16.out.cell (List.mem_cons_of_mem _ (List.mem_cons_of_mem _ (List.mem_cons_self ..))) 2 _ rfl
    have fbo_2 := ST16.out.thaw (List.mem_cons_of_mem _ (List.mem_cons_of_mem _ (List.mem_cons_self ..))) 2
    have qbo_3 := ST16.out.cell (List.mem_cons_of_mem _ (List.mem_cons_of_mem _ (List.mem_cons_self ..))) 3 _ rfl
    have fbo_3 := ST16.out.thaw (List.mem_cons_of_mem _ (List.mem_cons_of_mem _ (List.mem_cons_self ..))) 3
    have qbo_4 := ST16.out.cell (List.mem_cons_of_mem _ (List.mem_cons_of_mem _ (List.mem_cons_self ..))) 4 _ rfl
    have fbo_4 := ST16.out.thaw (List.mem_cons_of_mem _ (List.mem_cons_of_mem _ (List.mem_cons_self ..))) 4
    go_upto_region 17 with fail
    have ST17 := Lib.hid (ST16.out.tl)
    have ST18 := Lib.hid (ST17.out.tl)
    obtain ⟨W19, HW19⟩ : ∃ W', Hid (W' = ((((W15.setCell ⟨bo, 0, none⟩ (.int .i64 1)).setCell ⟨bo, 1, none⟩ (.bool n7)).setCell ⟨bo, 2, none⟩ (.slice a7 c7 d7)).setCell ⟨bo, 3, none⟩ (.string ⟨#[]⟩)).setCell ⟨bo, 4, none⟩ (.bool false)) := ⟨_, Lib.hid rfl⟩
    rw [← HW19.out]
    clear qbo_0 fbo_0 qbo_1 fbo_1 qbo_2 fbo_2 qbo_3 fbo_3 qbo_4 fbo_4
    have ST20 := Lib.hid (ST18.out.store Obo.out HW19.out)
    have qbo_0 := ST20.out.cell (List.mem_cons_self ..) 0 _ rfl
    have fbo_0 := ST20.out.thaw (List.mem_cons_self ..) 0
    have qbo_1 := ST20.out.cell (List.mem_cons_self ..) 1 _ rfl
    have fbo_1 := ST20.out.thaw (List.mem_cons_self ..) 1
    have qbo_2 := ST20.out.cell (List.mem_cons_self ..) 2 _ rfl
    have fbo_2 := ST20.out.thaw (List.mem_cons_self ..) 2
    have qbo_3 := ST20.out.cell (List.mem_cons_self ..) 3 _ rfl
    have fbo_3 := ST20.out.thaw (List.mem_cons_self ..) 3
    have qbo_4 := ST20.out.cell (List.mem_cons_self ..) 4 _ rfl
    have fbo_4 := ST20.out.thaw (List.mem_cons_self ..) 4
    go_wp2_with fail
    exact finE3 (⟨E0.out, HKV.out.2.symm, rfl, rfl, Hk.out.symm, rfl⟩) rfl (show BoxK W19 bo _ _ _ _ _ _ _ from (ST20.out.boxes _ (List.mem_cons_self ..)).1) ST20.out.below (ST20.out.boxes _ (List.mem_cons_self ..)).2 (ST20.out.getC (v := (.agg #[.bool n7, .slice a7 c7 d7])) (i := quoV x1 x2) (List.mem_cons_self ..)) rfl rfl rfl
  · skip
    have E0 := Lib.hid (show kindK K = 0 ∧ V = 0 from by rw [Hk.out] at h0; exact ⟨if_neg h0, HV0.out h0⟩)
    go_wp2_with (go_at_call 24; refine hold ?_)
    refine Hold.mk ?_
    have C21 := Lib.hid (number_no (ST14.out.getC (v := (.agg #[.bool n5, .slice a5 c5 d5])) (i := quoV x1 x2) (List.mem_cons_of_mem _ (List.mem_cons_self ..))) h0)
    refine C21.out.mono ?_
    rintro e W21 ⟨⟨n7, a7, c7, d7, rfl, hv⟩, hb⟩
    clear qb9_0 qb9_1
    have ST22 := Lib.hid (ST14.out.next hb hv)
    clear hb hv
    have qbo_0 := ST22.out.cell (List.mem_cons_of_mem _ (List.mem_cons_of_mem _ (List.mem_cons_self ..))) 0 _ rfl
    have fbo_0 := ST22.out.thaw (List.mem_cons_of_mem _ (List.mem_cons_of_mem _ (List.mem_cons_self ..))) 0
    have qbo_1 := ST22.out.cell (List.mem_cons_of_mem _ (List.mem_cons_of_mem _ (List.mem_cons_self ..))) 1 _ rfl
    have fbo_1 := ST22.out.thaw (List.mem_cons_of_mem _ (List.mem_cons_of_mem _ (List.mem_cons_self ..))) 1
    have qbo_2 := ST22.out.cell (List.mem_cons_of_mem _ (List.mem_cons_of_mem _ (List.mem_cons_self ..))) 2 _ rfl
    have fbo_2 := ST22.out.thaw (List.mem_cons_of_mem _ (List.mem_cons_of_mem _ (List.mem_cons_self ..))) 2
    have qbo_3 := ST22.out.cell (List.mem_cons_of_mem _ (List.mem_cons_of_mem _ (List.mem_cons_self ..))) 3 _ rfl
    have fbo_3 := ST22.out.thaw (List.mem_cons_of_mem _ (List.mem_cons_of_mem _ (List.mem_cons_self ..))) 3
    have qbo_4 := ST22.out.cell (List.mem_cons_of_mem _ (List.mem_cons_of_mem _ (List.mem_cons_self ..))) 4 _ rfl
    have fbo_4 := ST22.out.thaw (List.mem_cons_of_mem _ (List.mem_cons_of_mem _ (List.mem_cons_self ..))) 4
    go_upto_region 17 with fail
    have ST23 := Lib.hid (ST22.out.tl)
    have ST24 := Lib.hid (ST23.out.tl)
    obtain ⟨W25, HW25⟩ : ∃ W', Hid (W' = ((((W21.setCell ⟨bo, 0, none⟩ (.int .i64 0)).setCell ⟨bo, 1, none⟩ (.bool n7)).setCell ⟨bo, 2, none⟩ (.slice a7 c7 d7)).setCell ⟨bo, 3, none⟩ (.string ⟨#[]⟩)).setCell ⟨bo, 4, none⟩ (.bool false)) := ⟨_, Lib.hid rfl⟩
    rw [← HW25.out]
    clear qbo_0 fbo_0 qbo_1 fbo_1 qbo_2 fbo_2 qbo_3 fbo_3 qbo_4 fbo_4
    have ST26 := Lib.hid (ST24.out.store Obo.out HW25.out)
    have qbo_0 := ST26.out.cell (List.mem_cons_self ..) 0 _ rfl
    have fbo_0 := ST26.out.thaw (List.mem_cons_self ..) 0
    have qbo_1 := ST26.out.cell (List.mem_cons_self ..) 1 _ rfl
    have fbo_1 := ST26.out.thaw (List.mem_cons_self ..) 1
    have qbo_2 := ST26.out.cell (List.mem_cons_self ..) 2 _ rfl
    have fbo_2 := ST26.out.thaw (List.mem_cons_self ..) 2
    have qbo_3 := ST26.out.cell (List.mem_cons_self ..) 3 _ rfl
    have fbo_3 := ST26.out.thaw (List.mem_cons_self ..) 3
    have qbo_4 := ST26.out.cell (List.mem_cons_self ..) 4 _ rfl
    have fbo_4 := ST26.out.thaw (List.mem_cons_self ..) 4
    go_wp2_with fail
    exact finE3 (⟨E0.out.1, E0.out.2, rfl, rfl, Hk.out.symm, rfl⟩) rfl (show BoxK W25 bo _ _ _ _ _ _ _ from (ST26.out.boxes _ (List.mem_cons_self ..)).1) ST26.out.below (ST26.out.boxes _ (List.mem_cons_self ..)).2 (ST26.out.getC (v := (.agg #[.bool n7, .slice a7 c7 d7])) (i := 0) (List.mem_cons_self ..)) rfl rfl rfl

set_option maxRecDepth 100000 in
set_option maxHeartbeats 3200000 in
theorem reckon_rem {w : World} {k1 : Int} {g1 : Bool} {a1 : Option Addr} {n1 c1 : Nat} {s1 : ByteArray} {t1 : Bool} {z1 : List Nat} {x1 : Int} {k2 : Int} {g2 : Bool} {a2 : Option Addr} {n2 c2 : Nat} {s2 : ByteArray} {t2 : Bool} {z2 : List Nat} {x2 : Int} (h1 : IntV w (.agg #[.bool g1, .slice a1 n1 c1]) g1 z1) (hx1 : valI g1 z1 = x1) (h2 : IntV w (.agg #[.bool g2, .slice a2 n2 c2]) g2 z2) (hx2 : valI g2 z2 = x2) (hk1 : k1 = 1) :
    Calls Tryd.prog 42 #[.string ⟨#[37]⟩, .agg #[.int .i64 k1, .bool g1, .slice a1 n1 c1, .string s1, .bool t1], .agg #[.int .i64 k2, .bool g2, .slice a2 n2 c2, .string s2, .bool t2]] w fun e w' => Kon3 w' e (kindK (quoK x1 x2)) (remV x1 x2) ⟨#[]⟩ false (quoK x1 x2) true ∧ Below w.heap.size w w' := by
  have ST0 := Lib.hid (Sk.start w)
  have Hx1 := Lib.hid hx1
  have ST1 := Lib.hid (ST0.out.num h1)
  clear h1 hx1
  have Hx2 := Lib.hid hx2
  have ST2 := Lib.hid (ST1.out.num h2)
  clear h2 hx2
  subst hk1
  obtain ⟨K, V, HKV⟩ : ∃ K V, Hid (quoK x1 x2 = K ∧ remV x1 x2 = V) := ⟨_, _, Lib.hid ⟨rfl, rfl⟩⟩
  have HV0 := Lib.hid (show K ≠ 0 → V = 0 from by rw [← HKV.out.1, ← HKV.out.2]; exact fun h => (quoKV0 h).2)
  rw [HKV.out.1, HKV.out.2]
  go_enter Tryd.func42, Tryd.ntmps42
  go_upto_region 1 with fail
  obtain ⟨W3, HW3⟩ : ∃ W', Hid (W' = w.alloc (.cells #[(.int .i64 1), (.bool g1), (.slice a1 n1 c1), (.string s1), (.bool t1)] 26)) := ⟨_, Lib.hid rfl⟩
  obtain ⟨p1, Hp1⟩ : ∃ b, Hid (b = w.heap.size) := ⟨_, Lib.hid rfl⟩
  have ST4 := Lib.hid (ST2.out.box Hp1.out HW3.out)
  obtain ⟨W5, HW5⟩ : ∃ W', Hid (W' = W3.alloc (.cells #[(.int .i64 k2), (.bool g2), (.slice a2 n2 c2), (.string s2), (.bool t2)] 26)) := ⟨_, Lib.hid rfl⟩
  obtain ⟨p2, Hp2⟩ : ∃ b, Hid (b = W3.heap.size) := ⟨_, Lib.hid rfl⟩
  have Op2 := Lib.hid (ST4.out.old Hp2.out)
  have ST6 := Lib.hid (ST4.out.box Hp2.out HW5.out)
  obtain ⟨W7, HW7⟩ : ∃ W', Hid (W' = W5.alloc (.cells #[(.int .i64 0), (.bool false), (.slice none 0 0), (.string ⟨#[]⟩), (.bool false)] 26)) := ⟨_, Lib.hid rfl⟩
  obtain ⟨bo, Hbo⟩ : ∃ b, Hid (b = W5.heap.size) := ⟨_, Lib.hid rfl⟩
  have Obo := Lib.hid (ST6.out.old Hbo.out)
  have ST8 := Lib.hid (ST6.out.box Hbo.out HW7.out)
  have hz2 : w.heap.size + 2 = bo := by rw [Hbo.out, HW5.out, World.size_alloc, HW3.out, World.size_alloc]
  have hz1 : w.heap.size + 1 = p2 := by rw [Hp2.out, HW3.out, World.size_alloc]
  rw [← HW3.out, ← HW5.out, ← HW7.out]
  try rw [hz2]
  try rw [hz1]
  try rw [← Hp1.out]
  clear hz1 hz2
  have qp2_0 := ST8.out.cell (List.mem_cons_of_mem _ (List.mem_cons_self ..)) 0 _ rfl
  have qp2_1 := ST8.out.cell (List.mem_cons_of_mem _ (List.mem_cons_self ..)) 1 _ rfl
  have qp2_2 := ST8.out.cell (List.mem_cons_of_mem _ (List.mem_cons_self ..)) 2 _ rfl
  have qp2_3 := ST8.out.cell (List.mem_cons_of_mem _ (List.mem_cons_self ..)) 3 _ rfl
  have qp2_4 := ST8.out.cell (List.mem_cons_of_mem _ (List.mem_cons_self ..)) 4 _ rfl
  have qp1_0 := ST8.out.cell (List.mem_cons_of_mem _ (List.mem_cons_of_mem _ (List.mem_cons_self ..))) 0 _ rfl
  have qp1_1 := ST8.out.cell (List.mem_cons_of_mem _ (List.mem_cons_of_mem _ (List.mem_cons_self ..))) 1 _ rfl
  have qp1_2 := ST8.out.cell (List.mem_cons_of_mem _ (List.mem_cons_of_mem _ (List.mem_cons_self ..))) 2 _ rfl
  have qp1_3 := ST8.out.cell (List.mem_cons_of_mem _ (List.mem_cons_of_mem _ (List.mem_cons_self ..))) 3 _ rfl
  have qp1_4 := ST8.out.cell (List.mem_cons_of_mem _ (List.mem_cons_of_mem _ (List.mem_cons_self ..))) 4 _ rfl
  go_wp2_with (go_at_call 67; refine hold ?_)
  refine Hold.mk ?_
  refine (quo_k (ST8.out.get (v := (.agg #[.bool g1, .slice a1 n1 c1])) (g := g1) (z := z1) (List.mem_cons_of_mem _ (List.mem_cons_self ..))) (ST8.out.get (v := (.agg #[.bool g2, .slice a2 n2 c2])) (g := g2) (z := z2) (List.mem_cons_self ..)) Hx1.out Hx2.out).mono ?_
  rintro e W9 ⟨⟨n5, a5, c5, d5, n6, a6, c6, d6, k5, rfl, hk, hv, hu⟩, hb⟩
  clear qp2_0 qp2_1 qp2_2 qp2_3 qp2_4 qp1_0 qp1_1 qp1_2 qp1_3 qp1_4
  have ST10 := Lib.hid ((ST8.out.next hb hv).num hu)
  have Hk := Lib.hid (show k5 = K from by rw [hk, HKV.out.1])
  clear hk hv hu hb
  go_upto_region 14 with fail
  obtain ⟨W11, HW11⟩ : ∃ W', Hid (W' = W9.alloc (.cells #[(.bool n5), (.slice a5 c5 d5)] 24)) := ⟨_, Lib.hid rfl⟩
  obtain ⟨b9, Hb9⟩ : ∃ b, Hid (b = W9.heap.size) := ⟨_, Lib.hid rfl⟩
  have Ob9 := Lib.hid (ST10.out.old Hb9.out)
  have ST12 := Lib.hid (ST10.out.box Hb9.out HW11.out)
  obtain ⟨W13, HW13⟩ : ∃ W', Hid (W' = W11.alloc (.cells #[(.bool n6), (.slice a6 c6 d6)] 24)) := ⟨_, Lib.hid rfl⟩
  obtain ⟨b10, Hb10⟩ : ∃ b, Hid (b = W11.heap.size) := ⟨_, Lib.hid rfl⟩
  have Ob10 := Lib.hid (ST12.out.old Hb10.out)
  have ST14 := Lib.hid (ST12.out.box Hb10.out HW13.out)
  have hz1 : W9.heap.size + 1 = b10 := by rw [Hb10.out, HW11.out, World.size_alloc]
  rw [← HW11.out, ← HW13.out]
  try rw [hz1]
  try rw [← Hb9.out]
  clear hz1
  have qb10_0 := ST14.out.cell (List.mem_cons_self ..) 0 _ rfl
  have qb10_1 := ST14.out.cell (List.mem_cons_self ..) 1 _ rfl
  have qb9_0 := ST14.out.cell (List.mem_cons_of_mem _ (List.mem_cons_self ..)) 0 _ rfl
  have fb9_0 := ST14.out.thaw (List.mem_cons_of_mem _ (List.mem_cons_self ..)) 0
  have qb9_1 := ST14.out.cell (List.mem_cons_of_mem _ (List.mem_cons_self ..)) 1 _ rfl
  have fb9_1 := ST14.out.thaw (List.mem_cons_of_mem _ (List.mem_cons_self ..)) 1
  go_upto_region 16 with fail
  have ST15 := Lib.hid (ST14.out.tl)
  obtain ⟨W16, HW16⟩ : ∃ W', Hid (W' = (W13.setCell ⟨b9, 0, none⟩ (.bool n6)).setCell ⟨b9, 1, none⟩ (.slice a6 c6 d6)) := ⟨_, Lib.hid rfl⟩
  rw [← HW16.out]
  clear qb10_0 qb10_1 qb9_0 fb9_0 qb9_1 fb9_1
  have ST17 := Lib.hid (ST15.out.storeI Ob9.out HW16.out)
  have qb9_0 := ST17.out.cell (List.mem_cons_self ..) 0 _ rfl
  have qb9_1 := ST17.out.cell (List.mem_cons_self ..) 1 _ rfl
  by_cases h0 : k5 = 0
  · subst h0
    have E0 := Lib.hid (show kindK K = 1 from by rw [← Hk.out]; rfl)
    go_wp2_with (go_at_call 24; refine hold ?_)
    refine Hold.mk ?_
    have C18 := Lib.hid (number_ok (ST17.out.getC (v := (.agg #[.bool n6, .slice a6 c6 d6])) (i := remV x1 x2) (List.mem_cons_self ..)))
    refine C18.out.mono ?_
    rintro e W18 ⟨⟨n7, a7, c7, d7, rfl, hv⟩, hb⟩
    clear qb9_0 qb9_1
    have ST19 := Lib.hid (ST17.out.next hb hv)
    clear hb hv
    have qbo_0 := ST19.out.cell (List.mem_cons_of_mem _ (List.mem_cons_self ..)) 0 _ rfl
    have fbo_0 := ST19.out.thaw (List.mem_cons_of_mem _ (List.mem_cons_self ..)) 0
    have qbo_1 := ST19.out.cell (List.mem_cons_of_mem _ (List.mem_cons_self ..)) 1 _ rfl
    have fbo_1 := ST19.out.thaw (List.mem_cons_of_mem _ (List.mem_cons_self ..)) 1
    have qbo_2 := ST19.out.cell (List.mem_cons_of_mem _ (List.mem_cons_self ..)) 2 _ rfl
    have fbo_2 := ST19.out.thaw (List.mem_cons_of_mem _ (List.mem_cons_self ..)) 2
    have qbo_3 := ST19.out.cell (List.mem_cons_of_mem _ (List.mem_cons_self ..)) 3 _ rfl
    have fbo_3 := ST19.out.thaw (List.mem_cons_of_mem _ (List.mem_cons_self ..)) 3
    have qbo_4 := ST19.out.cell (List.mem_cons_of_mem _ (List.mem_cons_self ..)) 4 _ rfl
    have fbo_4 := ST19.out.thaw (List.mem_cons_of_mem _ (List.mem_cons_self ..)) 4
    go_upto_region 17 with fail
    have ST20 := Lib.hid (ST19.out.tl)
    obtain ⟨W21, HW21⟩ : ∃ W', Hid (W' = ((((W18.setCell ⟨bo, 0, none⟩ (.int .i64 1)).setCell ⟨bo, 1, none⟩ (.bool n7)).setCell ⟨bo, 2, none⟩ (.slice a7 c7 d7)).setCell ⟨bo, 3, none⟩ (.string ⟨#[]⟩)).setCell ⟨bo, 4, none⟩ (.bool false)) := ⟨_, Lib.hid rfl⟩
    rw [← HW21.out]
    clear qbo_0 fbo_0 qbo_1 fbo_1 qbo_2 fbo_2 qbo_3 fbo_3 qbo_4 fbo_4
    have ST22 := Lib.hid (ST20.out.store Obo.out HW21.out)
    have qbo_0 := ST22.out.cell (List.mem_cons_self ..) 0 _ rfl
    have fbo_0 := ST22.out.thaw (List.mem_cons_self ..) 0
    have qbo_1 := ST22.out.cell (List.mem_cons_self ..) 1 _ rfl
    have fbo_1 := ST22.out.thaw (List.mem_cons_self ..) 1
    have qbo_2 := ST22.out.cell (List.mem_cons_self ..) 2 _ rfl
    have fbo_2 := ST22.out.thaw (List.mem_cons_self ..) 2
    have qbo_3 := ST22.out.cell (List.mem_cons_self ..) 3 _ rfl
    have fbo_3 := ST22.out.thaw (List.mem_cons_self ..) 3
    have qbo_4 := ST22.out.cell (List.mem_cons_self ..) 4 _ rfl
    have fbo_4 := ST22.out.thaw (List.mem_cons_self ..) 4
    go_wp2_with fail
    exact finE3 (⟨E0.out, HKV.out.2.symm, rfl, rfl, Hk.out.symm, rfl⟩) rfl (show BoxK W21 bo _ _ _ _ _ _ _ from (ST22.out.boxes _ (List.mem_cons_self ..)).1) ST22.out.below (ST22.out.boxes _ (List.mem_cons_self ..)).2 (ST22.out.getC (v := (.agg #[.bool n7, .slice a7 c7 d7])) (i := remV x1 x2) (List.mem_cons_self ..)) rfl rfl rfl
  · skip
    have E0 := Lib.hid (show kindK K = 0 ∧ V = 0 from by rw [Hk.out] at h0; exact ⟨if_neg h0, HV0.out h0⟩)
    go_wp2_with (go_at_call 24; refine hold ?_)
    refine Hold.mk ?_
    have C23 := Lib.hid (number_no (ST17.out.getC (v := (.agg #[.bool n6, .slice a6 c6 d6])) (i := remV x1 x2) (List.mem_cons_self ..)) h0)
    refine C23.out.mono ?_
    rintro e W23 ⟨⟨n7, a7, c7, d7, rfl, hv⟩, hb⟩
    clear qb9_0 qb9_1
    have ST24 := Lib.hid (ST17.out.next hb hv)
    clear hb hv
    have qbo_0 := ST24.out.cell (List.mem_cons_of_mem _ (List.mem_cons_self ..)) 0 _ rfl
    have fbo_0 := ST24.out.thaw (List.mem_cons_of_mem _ (List.mem_cons_self ..)) 0
    have qbo_1 := ST24.out.cell (List.mem_cons_of_mem _ (List.mem_cons_self ..)) 1 _ rfl
    have fbo_1 := ST24.out.thaw (List.mem_cons_of_mem _ (List.mem_cons_self ..)) 1
    have qbo_2 := ST24.out.cell (List.mem_cons_of_mem _ (List.mem_cons_self ..)) 2 _ rfl
    have fbo_2 := ST24.out.thaw (List.mem_cons_of_mem _ (List.mem_cons_self ..)) 2
    have qbo_3 := ST24.out.cell (List.mem_cons_of_mem _ (List.mem_cons_self ..)) 3 _ rfl
    have fbo_3 := ST24.out.thaw (List.mem_cons_of_mem _ (List.mem_cons_self ..)) 3
    have qbo_4 := ST24.out.cell (List.mem_cons_of_mem _ (List.mem_cons_self ..)) 4 _ rfl
    have fbo_4 := ST24.out.thaw (List.mem_cons_of_mem _ (List.mem_cons_self ..)) 4
    go_upto_region 17 with fail
    have ST25 := Lib.hid (ST24.out.tl)
    obtain ⟨W26, HW26⟩ : ∃ W', Hid (W' = ((((W23.setCell ⟨bo, 0, none⟩ (.int .i64 0)).setCell ⟨bo, 1, none⟩ (.bool n7)).setCell ⟨bo, 2, none⟩ (.slice a7 c7 d7)).setCell ⟨bo, 3, none⟩ (.string ⟨#[]⟩)).setCell ⟨bo, 4, none⟩ (.bool false)) := ⟨_, Lib.hid rfl⟩
    rw [← HW26.out]
    clear qbo_0 fbo_0 qbo_1 fbo_1 qbo_2 fbo_2 qbo_3 fbo_3 qbo_4 fbo_4
    have ST27 := Lib.hid (ST25.out.store Obo.out HW26.out)
    have qbo_0 := ST27.out.cell (List.mem_cons_self ..) 0 _ rfl
    have fbo_0 := ST27.out.thaw (List.mem_cons_self ..) 0
    have qbo_1 := ST27.out.cell (List.mem_cons_self ..) 1 _ rfl
    have fbo_1 := ST27.out.thaw (List.mem_cons_self ..) 1
    have qbo_2 := ST27.out.cell (List.mem_cons_self ..) 2 _ rfl
    have fbo_2 := ST27.out.thaw (List.mem_cons_self ..) 2
    have qbo_3 := ST27.out.cell (List.mem_cons_self ..) 3 _ rfl
    have fbo_3 := ST27.out.thaw (List.mem_cons_self ..) 3
    have qbo_4 := ST27.out.cell (List.mem_cons_self ..) 4 _ rfl
    have fbo_4 := ST27.out.thaw (List.mem_cons_self ..) 4
    go_wp2_with fail
    exact finE3 (⟨E0.out.1, E0.out.2, rfl, rfl, Hk.out.symm, rfl⟩) rfl (show BoxK W26 bo _ _ _ _ _ _ _ from (ST27.out.boxes _ (List.mem_cons_self ..)).1) ST27.out.below (ST27.out.boxes _ (List.mem_cons_self ..)).2 (ST27.out.getC (v := (.agg #[.bool n7, .slice a7 c7 d7])) (i := 0) (List.mem_cons_self ..)) rfl rfl rfl

set_option maxRecDepth 100000 in
set_option maxHeartbeats 3200000 in
theorem reckon_no1 {w : World} (op : ByteArray) {k1 : Int} {g1 : Bool} {a1 : Option Addr} {n1 c1 : Nat} {s1 : ByteArray} {t1 : Bool} {z1 : List Nat} {x1 : Int} {k2 : Int} {g2 : Bool} {a2 : Option Addr} {n2 c2 : Nat} {s2 : ByteArray} {t2 : Bool} {z2 : List Nat} {x2 : Int} (h1 : IntV w (.agg #[.bool g1, .slice a1 n1 c1]) g1 z1) (hx1 : valI g1 z1 = x1) (h2 : IntV w (.agg #[.bool g2, .slice a2 n2 c2]) g2 z2) (hx2 : valI g2 z2 = x2) (hk1 : k1 ≠ 1) :
    Calls Tryd.prog 42 #[.string op, .agg #[.int .i64 k1, .bool g1, .slice a1 n1 c1, .string s1, .bool t1], .agg #[.int .i64 k2, .bool g2, .slice a2 n2 c2, .string s2, .bool t2]] w fun e w' => Kon3 w' e 0 0 ⟨#[]⟩ false 0 false ∧ Below w.heap.size w w' := by
  have ST0 := Lib.hid (Sk.start w)
  have Hx1 := Lib.hid hx1
  have ST1 := Lib.hid (ST0.out.num h1)
  clear h1 hx1
  have Hx2 := Lib.hid hx2
  have ST2 := Lib.hid (ST1.out.num h2)
  clear h2 hx2
  have hk : (k1 != 1) = true := by simpa using hk1
  clear hk1
  go_enter Tryd.func42, Tryd.ntmps42
  go_upto_region 1 with fail
  obtain ⟨W3, HW3⟩ : ∃ W', Hid (W' = w.alloc (.cells #[(.int .i64 k1), (.bool g1), (.slice a1 n1 c1), (.string s1), (.bool t1)] 26)) := ⟨_, Lib.hid rfl⟩
  obtain ⟨p1, Hp1⟩ : ∃ b, Hid (b = w.heap.size) := ⟨_, Lib.hid rfl⟩
  have ST4 := Lib.hid (ST2.out.box Hp1.out HW3.out)
  obtain ⟨W5, HW5⟩ : ∃ W', Hid (W' = W3.alloc (.cells #[(.int .i64 k2), (.bool g2), (.slice a2 n2 c2), (.string s2), (.bool t2)] 26)) := ⟨_, Lib.hid rfl⟩
  obtain ⟨p2, Hp2⟩ : ∃ b, Hid (b = W3.heap.size) := ⟨_, Lib.hid rfl⟩
  have Op2 := Lib.hid (ST4.out.old Hp2.out)
  have ST6 := Lib.hid (ST4.out.box Hp2.out HW5.out)
  obtain ⟨W7, HW7⟩ : ∃ W', Hid (W' = W5.alloc (.cells #[(.int .i64 0), (.bool false), (.slice none 0 0), (.string ⟨#[]⟩), (.bool false)] 26)) := ⟨_, Lib.hid rfl⟩
  obtain ⟨bo, Hbo⟩ : ∃ b, Hid (b = W5.heap.size) := ⟨_, Lib.hid rfl⟩
  have Obo := Lib.hid (ST6.out.old Hbo.out)
  have ST8 := Lib.hid (ST6.out.box Hbo.out HW7.out)
  have hz2 : w.heap.size + 2 = bo := by rw [Hbo.out, HW5.out, World.size_alloc, HW3.out, World.size_alloc]
  have hz1 : w.heap.size + 1 = p2 := by rw [Hp2.out, HW3.out, World.size_alloc]
  rw [← HW3.out, ← HW5.out, ← HW7.out]
  try rw [hz2]
  try rw [hz1]
  try rw [← Hp1.out]
  clear hz1 hz2
  have qbo_0 := ST8.out.cell (List.mem_cons_self ..) 0 _ rfl
  have fbo_0 := ST8.out.thaw (List.mem_cons_self ..) 0
  have qbo_1 := ST8.out.cell (List.mem_cons_self ..) 1 _ rfl
  have fbo_1 := ST8.out.thaw (List.mem_cons_self ..) 1
  have qbo_2 := ST8.out.cell (List.mem_cons_self ..) 2 _ rfl
  have fbo_2 := ST8.out.thaw (List.mem_cons_self ..) 2
  have qbo_3 := ST8.out.cell (List.mem_cons_self ..) 3 _ rfl
  have fbo_3 := ST8.out.thaw (List.mem_cons_self ..) 3
  have qbo_4 := ST8.out.cell (List.mem_cons_self ..) 4 _ rfl
  have fbo_4 := ST8.out.thaw (List.mem_cons_self ..) 4
  have qp2_0 := ST8.out.cell (List.mem_cons_of_mem _ (List.mem_cons_self ..)) 0 _ rfl
  have qp2_1 := ST8.out.cell (List.mem_cons_of_mem _ (List.mem_cons_self ..)) 1 _ rfl
  have qp2_2 := ST8.out.cell (List.mem_cons_of_mem _ (List.mem_cons_self ..)) 2 _ rfl
  have qp2_3 := ST8.out.cell (List.mem_cons_of_mem _ (List.mem_cons_self ..)) 3 _ rfl
  have qp2_4 := ST8.out.cell (List.mem_cons_of_mem _ (List.mem_cons_self ..)) 4 _ rfl
  have qp1_0 := ST8.out.cell (List.mem_cons_of_mem _ (List.mem_cons_of_mem _ (List.mem_cons_self ..))) 0 _ rfl
  have qp1_1 := ST8.out.cell (List.mem_cons_of_mem _ (List.mem_cons_of_mem _ (List.mem_cons_self ..))) 1 _ rfl
  have qp1_2 := ST8.out.cell (List.mem_cons_of_mem _ (List.mem_cons_of_mem _ (List.mem_cons_self ..))) 2 _ rfl
  have qp1_3 := ST8.out.cell (List.mem_cons_of_mem _ (List.mem_cons_of_mem _ (List.mem_cons_self ..))) 3 _ rfl
  have qp1_4 := ST8.out.cell (List.mem_cons_of_mem _ (List.mem_cons_of_mem _ (List.mem_cons_self ..))) 4 _ rfl
  go_wp2_with fail
  exact finK3 rfl (show BoxK W7 bo _ _ _ _ _ _ _ from (ST8.out.boxes _ (List.mem_cons_self ..)).1) ST8.out.below (ST8.out.boxes _ (List.mem_cons_self ..)).2 (intC_zero _) rfl rfl rfl

set_option maxRecDepth 100000 in
set_option maxHeartbeats 3200000 in
theorem reckon_eq {w : World} {k1 : Int} {g1 : Bool} {a1 : Option Addr} {n1 c1 : Nat} {s1 : ByteArray} {t1 : Bool} {z1 : List Nat} {x1 : Int} {k2 : Int} {g2 : Bool} {a2 : Option Addr} {n2 c2 : Nat} {s2 : ByteArray} {t2 : Bool} {z2 : List Nat} {x2 : Int} (h1 : IntV w (.agg #[.bool g1, .slice a1 n1 c1]) g1 z1) (hx1 : valI g1 z1 = x1) (h2 : IntV w (.agg #[.bool g2, .slice a2 n2 c2]) g2 z2) (hx2 : valI g2 z2 = x2) (hk1 : k1 = 1) :
    Calls Tryd.prog 42 #[.string ⟨#[61, 61]⟩, .agg #[.int .i64 k1, .bool g1, .slice a1 n1 c1, .string s1, .bool t1], .agg #[.int .i64 k2, .bool g2, .slice a2 n2 c2, .string s2, .bool t2]] w fun e w' => Kon3 w' e 0 0 ⟨#[]⟩ false 0 false ∧ Below w.heap.size w w' := by
  have ST0 := Lib.hid (Sk.start w)
  have Hx1 := Lib.hid hx1
  have ST1 := Lib.hid (ST0.out.num h1)
  clear h1 hx1
  have Hx2 := Lib.hid hx2
  have ST2 := Lib.hid (ST1.out.num h2)
  clear h2 hx2
  subst hk1
  go_enter Tryd.func42, Tryd.ntmps42
  go_upto_region 1 with fail
  obtain ⟨W3, HW3⟩ : ∃ W', Hid (W' = w.alloc (.cells #[(.int .i64 1), (.bool g1), (.slice a1 n1 c1), (.string s1), (.bool t1)] 26)) := ⟨_, Lib.hid rfl⟩
  obtain ⟨p1, Hp1⟩ : ∃ b, Hid (b = w.heap.size) := ⟨_, Lib.hid rfl⟩
  have ST4 := Lib.hid (ST2.out.box Hp1.out HW3.out)
  obtain ⟨W5, HW5⟩ : ∃ W', Hid (W' = W3.alloc (.cells #[(.int .i64 k2), (.bool g2), (.slice a2 n2 c2), (.string s2), (.bool t2)] 26)) := ⟨_, Lib.hid rfl⟩
  obtain ⟨p2, Hp2⟩ : ∃ b, Hid (b = W3.heap.size) := ⟨_, Lib.hid rfl⟩
  have Op2 := Lib.hid (ST4.out.old Hp2.out)
  have ST6 := Lib.hid (ST4.out.box Hp2.out HW5.out)
  obtain ⟨W7, HW7⟩ : ∃ W', Hid (W' = W5.alloc (.cells #[(.int .i64 0), (.bool false), (.slice none 0 0), (.string ⟨#[]⟩), (.bool false)] 26)) := ⟨_, Lib.hid rfl⟩
  obtain ⟨bo, Hbo⟩ : ∃ b, Hid (b = W5.heap.size) := ⟨_, Lib.hid rfl⟩
  have Obo := Lib.hid (ST6.out.old Hbo.out)
  have ST8 := Lib.hid (ST6.out.box Hbo.out HW7.out)
  have hz2 : w.heap.size + 2 = bo := by rw [Hbo.out, HW5.out, World.size_alloc, HW3.out, World.size_alloc]
  have hz1 : w.heap.size + 1 = p2 := by rw [Hp2.out, HW3.out, World.size_alloc]
  rw [← HW3.out, ← HW5.out, ← HW7.out]
  try rw [hz2]
  try rw [hz1]
  try rw [← Hp1.out]
  clear hz1 hz2
  have qbo_0 := ST8.out.cell (List.mem_cons_self ..) 0 _ rfl
  have fbo_0 := ST8.out.thaw (List.mem_cons_self ..) 0
  have qbo_1 := ST8.out.cell (List.mem_cons_self ..) 1 _ rfl
  have fbo_1 := ST8.out.thaw (List.mem_cons_self ..) 1
  have qbo_2 := ST8.out.cell (List.mem_cons_self ..) 2 _ rfl
  have fbo_2 := ST8.out.thaw (List.mem_cons_self ..) 2
  have qbo_3 := ST8.out.cell (List.mem_cons_self ..) 3 _ rfl
  have fbo_3 := ST8.out.thaw (List.mem_cons_self ..) 3
  have qbo_4 := ST8.out.cell (List.mem_cons_self ..) 4 _ rfl
  have fbo_4 := ST8.out.thaw (List.mem_cons_self ..) 4
  have qp2_0 := ST8.out.cell (List.mem_cons_of_mem _ (List.mem_cons_self ..)) 0 _ rfl
  have qp2_1 := ST8.out.cell (List.mem_cons_of_mem _ (List.mem_cons_self ..)) 1 _ rfl
  have qp2_2 := ST8.out.cell (List.mem_cons_of_mem _ (List.mem_cons_self ..)) 2 _ rfl
  have qp2_3 := ST8.out.cell (List.mem_cons_of_mem _ (List.mem_cons_self ..)) 3 _ rfl
  have qp2_4 := ST8.out.cell (List.mem_cons_of_mem _ (List.mem_cons_self ..)) 4 _ rfl
  have qp1_0 := ST8.out.cell (List.mem_cons_of_mem _ (List.mem_cons_of_mem _ (List.mem_cons_self ..))) 0 _ rfl
  have qp1_1 := ST8.out.cell (List.mem_cons_of_mem _ (List.mem_cons_of_mem _ (List.mem_cons_self ..))) 1 _ rfl
  have qp1_2 := ST8.out.cell (List.mem_cons_of_mem _ (List.mem_cons_of_mem _ (List.mem_cons_self ..))) 2 _ rfl
  have qp1_3 := ST8.out.cell (List.mem_cons_of_mem _ (List.mem_cons_of_mem _ (List.mem_cons_self ..))) 3 _ rfl
  have qp1_4 := ST8.out.cell (List.mem_cons_of_mem _ (List.mem_cons_of_mem _ (List.mem_cons_self ..))) 4 _ rfl
  go_wp2_with fail
  exact finK3 rfl (show BoxK W7 bo _ _ _ _ _ _ _ from (ST8.out.boxes _ (List.mem_cons_self ..)).1) ST8.out.below (ST8.out.boxes _ (List.mem_cons_self ..)).2 (intC_zero _) rfl rfl rfl

set_option maxRecDepth 100000 in
set_option maxHeartbeats 3200000 in
theorem reckon_ne {w : World} {k1 : Int} {g1 : Bool} {a1 : Option Addr} {n1 c1 : Nat} {s1 : ByteArray} {t1 : Bool} {z1 : List Nat} {x1 : Int} {k2 : Int} {g2 : Bool} {a2 : Option Addr} {n2 c2 : Nat} {s2 : ByteArray} {t2 : Bool} {z2 : List Nat} {x2 : Int} (h1 : IntV w (.agg #[.bool g1, .slice a1 n1 c1]) g1 z1) (hx1 : valI g1 z1 = x1) (h2 : IntV w (.agg #[.bool g2, .slice a2 n2 c2]) g2 z2) (hx2 : valI g2 z2 = x2) (hk1 : k1 = 1) :
    Calls Tryd.prog 42 #[.string ⟨#[33, 61]⟩, .agg #[.int .i64 k1, .bool g1, .slice a1 n1 c1, .string s1, .bool t1], .agg #[.int .i64 k2, .bool g2, .slice a2 n2 c2, .string s2, .bool t2]] w fun e w' => Kon3 w' e 0 0 ⟨#[]⟩ false 0 false ∧ Below w.heap.size w w' := by
  have ST0 := Lib.hid (Sk.start w)
  have Hx1 := Lib.hid hx1
  have ST1 := Lib.hid (ST0.out.num h1)
  clear h1 hx1
  have Hx2 := Lib.hid hx2
  have ST2 := Lib.hid (ST1.out.num h2)
  clear h2 hx2
  subst hk1
  go_enter Tryd.func42, Tryd.ntmps42
  go_upto_region 1 with fail
  obtain ⟨W3, HW3⟩ : ∃ W', Hid (W' = w.alloc (.cells #[(.int .i64 1), (.bool g1), (.slice a1 n1 c1), (.string s1), (.bool t1)] 26)) := ⟨_, Lib.hid rfl⟩
  obtain ⟨p1, Hp1⟩ : ∃ b, Hid (b = w.heap.size) := ⟨_, Lib.hid rfl⟩
  have ST4 := Lib.hid (ST2.out.box Hp1.out HW3.out)
  obtain ⟨W5, HW5⟩ : ∃ W', Hid (W' = W3.alloc (.cells #[(.int .i64 k2), (.bool g2), (.slice a2 n2 c2), (.string s2), (.bool t2)] 26)) := ⟨_, Lib.hid rfl⟩
  obtain ⟨p2, Hp2⟩ : ∃ b, Hid (b = W3.heap.size) := ⟨_, Lib.hid rfl⟩
  have Op2 := Lib.hid (ST4.out.old Hp2.out)
  have ST6 := Lib.hid (ST4.out.box Hp2.out HW5.out)
  obtain ⟨W7, HW7⟩ : ∃ W', Hid (W' = W5.alloc (.cells #[(.int .i64 0), (.bool false), (.slice none 0 0), (.string ⟨#[]⟩), (.bool false)] 26)) := ⟨_, Lib.hid rfl⟩
  obtain ⟨bo, Hbo⟩ : ∃ b, Hid (b = W5.heap.size) := ⟨_, Lib.hid rfl⟩
  have Obo := Lib.hid (ST6.out.old Hbo.out)
  have ST8 := Lib.hid (ST6.out.box Hbo.out HW7.out)
  have hz2 : w.heap.size + 2 = bo := by rw [Hbo.out, HW5.out, World.size_alloc, HW3.out, World.size_alloc]
  have hz1 : w.heap.size + 1 = p2 := by rw [Hp2.out, HW3.out, World.size_alloc]
  rw [← HW3.out, ← HW5.out, ← HW7.out]
  try rw [hz2]
  try rw [hz1]
  try rw [← Hp1.out]
  clear hz1 hz2
  have qbo_0 := ST8.out.cell (List.mem_cons_self ..) 0 _ rfl
  have fbo_0 := ST8.out.thaw (List.mem_cons_self ..) 0
  have qbo_1 := ST8.out.cell (List.mem_cons_self ..) 1 _ rfl
  have fbo_1 := ST8.out.thaw (List.mem_cons_self ..) 1
  have qbo_2 := ST8.out.cell (List.mem_cons_self ..) 2 _ rfl
  have fbo_2 := ST8.out.thaw (List.mem_cons_self ..) 2
  have qbo_3 := ST8.out.cell (List.mem_cons_self ..) 3 _ rfl
  have fbo_3 := ST8.out.thaw (List.mem_cons_self ..) 3
  have qbo_4 := ST8.out.cell (List.mem_cons_self ..) 4 _ rfl
  have fbo_4 := ST8.out.thaw (List.mem_cons_self ..) 4
  have qp2_0 := ST8.out.cell (List.mem_cons_of_mem _ (List.mem_cons_self ..)) 0 _ rfl
  have qp2_1 := ST8.out.cell (List.mem_cons_of_mem _ (List.mem_cons_self ..)) 1 _ rfl
  have qp2_2 := ST8.out.cell (List.mem_cons_of_mem _ (List.mem_cons_self ..)) 2 _ rfl
  have qp2_3 := ST8.out.cell (List.mem_cons_of_mem _ (List.mem_cons_self ..)) 3 _ rfl
  have qp2_4 := ST8.out.cell (List.mem_cons_of_mem _ (List.mem_cons_self ..)) 4 _ rfl
  have qp1_0 := ST8.out.cell (List.mem_cons_of_mem _ (List.mem_cons_of_mem _ (List.mem_cons_self ..))) 0 _ rfl
  have qp1_1 := ST8.out.cell (List.mem_cons_of_mem _ (List.mem_cons_of_mem _ (List.mem_cons_self ..))) 1 _ rfl
  have qp1_2 := ST8.out.cell (List.mem_cons_of_mem _ (List.mem_cons_of_mem _ (List.mem_cons_self ..))) 2 _ rfl
  have qp1_3 := ST8.out.cell (List.mem_cons_of_mem _ (List.mem_cons_of_mem _ (List.mem_cons_self ..))) 3 _ rfl
  have qp1_4 := ST8.out.cell (List.mem_cons_of_mem _ (List.mem_cons_of_mem _ (List.mem_cons_self ..))) 4 _ rfl
  go_wp2_with fail
  exact finK3 rfl (show BoxK W7 bo _ _ _ _ _ _ _ from (ST8.out.boxes _ (List.mem_cons_self ..)).1) ST8.out.below (ST8.out.boxes _ (List.mem_cons_self ..)).2 (intC_zero _) rfl rfl rfl

set_option maxRecDepth 100000 in
set_option maxHeartbeats 3200000 in
theorem reckon_lt {w : World} {k1 : Int} {g1 : Bool} {a1 : Option Addr} {n1 c1 : Nat} {s1 : ByteArray} {t1 : Bool} {z1 : List Nat} {x1 : Int} {k2 : Int} {g2 : Bool} {a2 : Option Addr} {n2 c2 : Nat} {s2 : ByteArray} {t2 : Bool} {z2 : List Nat} {x2 : Int} (h1 : IntV w (.agg #[.bool g1, .slice a1 n1 c1]) g1 z1) (hx1 : valI g1 z1 = x1) (h2 : IntV w (.agg #[.bool g2, .slice a2 n2 c2]) g2 z2) (hx2 : valI g2 z2 = x2) (hk1 : k1 = 1) :
    Calls Tryd.prog 42 #[.string ⟨#[60]⟩, .agg #[.int .i64 k1, .bool g1, .slice a1 n1 c1, .string s1, .bool t1], .agg #[.int .i64 k2, .bool g2, .slice a2 n2 c2, .string s2, .bool t2]] w fun e w' => Kon3 w' e 0 0 ⟨#[]⟩ false 0 false ∧ Below w.heap.size w w' := by
  have ST0 := Lib.hid (Sk.start w)
  have Hx1 := Lib.hid hx1
  have ST1 := Lib.hid (ST0.out.num h1)
  clear h1 hx1
  have Hx2 := Lib.hid hx2
  have ST2 := Lib.hid (ST1.out.num h2)
  clear h2 hx2
  subst hk1
  go_enter Tryd.func42, Tryd.ntmps42
  go_upto_region 1 with fail
  obtain ⟨W3, HW3⟩ : ∃ W', Hid (W' = w.alloc (.cells #[(.int .i64 1), (.bool g1), (.slice a1 n1 c1), (.string s1), (.bool t1)] 26)) := ⟨_, Lib.hid rfl⟩
  obtain ⟨p1, Hp1⟩ : ∃ b, Hid (b = w.heap.size) := ⟨_, Lib.hid rfl⟩
  have ST4 := Lib.hid (ST2.out.box Hp1.out HW3.out)
  obtain ⟨W5, HW5⟩ : ∃ W', Hid (W' = W3.alloc (.cells #[(.int .i64 k2), (.bool g2), (.slice a2 n2 c2), (.string s2), (.bool t2)] 26)) := ⟨_, Lib.hid rfl⟩
  obtain ⟨p2, Hp2⟩ : ∃ b, Hid (b = W3.heap.size) := ⟨_, Lib.hid rfl⟩
  have Op2 := Lib.hid (ST4.out.old Hp2.out)
  have ST6 := Lib.hid (ST4.out.box Hp2.out HW5.out)
  obtain ⟨W7, HW7⟩ : ∃ W', Hid (W' = W5.alloc (.cells #[(.int .i64 0), (.bool false), (.slice none 0 0), (.string ⟨#[]⟩), (.bool false)] 26)) := ⟨_, Lib.hid rfl⟩
  obtain ⟨bo, Hbo⟩ : ∃ b, Hid (b = W5.heap.size) := ⟨_, Lib.hid rfl⟩
  have Obo := Lib.hid (ST6.out.old Hbo.out)
  have ST8 := Lib.hid (ST6.out.box Hbo.out HW7.out)
  have hz2 : w.heap.size + 2 = bo := by rw [Hbo.out, HW5.out, World.size_alloc, HW3.out, World.size_alloc]
  have hz1 : w.heap.size + 1 = p2 := by rw [Hp2.out, HW3.out, World.size_alloc]
  rw [← HW3.out, ← HW5.out, ← HW7.out]
  try rw [hz2]
  try rw [hz1]
  try rw [← Hp1.out]
  clear hz1 hz2
  have qbo_0 := ST8.out.cell (List.mem_cons_self ..) 0 _ rfl
  have fbo_0 := ST8.out.thaw (List.mem_cons_self ..) 0
  have qbo_1 := ST8.out.cell (List.mem_cons_self ..) 1 _ rfl
  have fbo_1 := ST8.out.thaw (List.mem_cons_self ..) 1
  have qbo_2 := ST8.out.cell (List.mem_cons_self ..) 2 _ rfl
  have fbo_2 := ST8.out.thaw (List.mem_cons_self ..) 2
  have qbo_3 := ST8.out.cell (List.mem_cons_self ..) 3 _ rfl
  have fbo_3 := ST8.out.thaw (List.mem_cons_self ..) 3
  have qbo_4 := ST8.out.cell (List.mem_cons_self ..) 4 _ rfl
  have fbo_4 := ST8.out.thaw (List.mem_cons_self ..) 4
  have qp2_0 := ST8.out.cell (List.mem_cons_of_mem _ (List.mem_cons_self ..)) 0 _ rfl
  have qp2_1 := ST8.out.cell (List.mem_cons_of_mem _ (List.mem_cons_self ..)) 1 _ rfl
  have qp2_2 := ST8.out.cell (List.mem_cons_of_mem _ (List.mem_cons_self ..)) 2 _ rfl
  have qp2_3 := ST8.out.cell (List.mem_cons_of_mem _ (List.mem_cons_self ..)) 3 _ rfl
  have qp2_4 := ST8.out.cell (List.mem_cons_of_mem _ (List.mem_cons_self ..)) 4 _ rfl
  have qp1_0 := ST8.out.cell (List.mem_cons_of_mem _ (List.mem_cons_of_mem _ (List.mem_cons_self ..))) 0 _ rfl
  have qp1_1 := ST8.out.cell (List.mem_cons_of_mem _ (List.mem_cons_of_mem _ (List.mem_cons_self ..))) 1 _ rfl
  have qp1_2 := ST8.out.cell (List.mem_cons_of_mem _ (List.mem_cons_of_mem _ (List.mem_cons_self ..))) 2 _ rfl
  have qp1_3 := ST8.out.cell (List.mem_cons_of_mem _ (List.mem_cons_of_mem _ (List.mem_cons_self ..))) 3 _ rfl
  have qp1_4 := ST8.out.cell (List.mem_cons_of_mem _ (List.mem_cons_of_mem _ (List.mem_cons_self ..))) 4 _ rfl
  go_wp2_with fail
  exact finK3 rfl (show BoxK W7 bo _ _ _ _ _ _ _ from (ST8.out.boxes _ (List.mem_cons_self ..)).1) ST8.out.below (ST8.out.boxes _ (List.mem_cons_self ..)).2 (intC_zero _) rfl rfl rfl

set_option maxRecDepth 100000 in
set_option maxHeartbeats 3200000 in
theorem reckon_gt {w : World} {k1 : Int} {g1 : Bool} {a1 : Option Addr} {n1 c1 : Nat} {s1 : ByteArray} {t1 : Bool} {z1 : List Nat} {x1 : Int} {k2 : Int} {g2 : Bool} {a2 : Option Addr} {n2 c2 : Nat} {s2 : ByteArray} {t2 : Bool} {z2 : List Nat} {x2 : Int} (h1 : IntV w (.agg #[.bool g1, .slice a1 n1 c1]) g1 z1) (hx1 : valI g1 z1 = x1) (h2 : IntV w (.agg #[.bool g2, .slice a2 n2 c2]) g2 z2) (hx2 : valI g2 z2 = x2) (hk1 : k1 = 1) :
    Calls Tryd.prog 42 #[.string ⟨#[62]⟩, .agg #[.int .i64 k1, .bool g1, .slice a1 n1 c1, .string s1, .bool t1], .agg #[.int .i64 k2, .bool g2, .slice a2 n2 c2, .string s2, .bool t2]] w fun e w' => Kon3 w' e 0 0 ⟨#[]⟩ false 0 false ∧ Below w.heap.size w w' := by
  have ST0 := Lib.hid (Sk.start w)
  have Hx1 := Lib.hid hx1
  have ST1 := Lib.hid (ST0.out.num h1)
  clear h1 hx1
  have Hx2 := Lib.hid hx2
  have ST2 := Lib.hid (ST1.out.num h2)
  clear h2 hx2
  subst hk1
  go_enter Tryd.func42, Tryd.ntmps42
  go_upto_region 1 with fail
  obtain ⟨W3, HW3⟩ : ∃ W', Hid (W' = w.alloc (.cells #[(.int .i64 1), (.bool g1), (.slice a1 n1 c1), (.string s1), (.bool t1)] 26)) := ⟨_, Lib.hid rfl⟩
  obtain ⟨p1, Hp1⟩ : ∃ b, Hid (b = w.heap.size) := ⟨_, Lib.hid rfl⟩
  have ST4 := Lib.hid (ST2.out.box Hp1.out HW3.out)
  obtain ⟨W5, HW5⟩ : ∃ W', Hid (W' = W3.alloc (.cells #[(.int .i64 k2), (.bool g2), (.slice a2 n2 c2), (.string s2), (.bool t2)] 26)) := ⟨_, Lib.hid rfl⟩
  obtain ⟨p2, Hp2⟩ : ∃ b, Hid (b = W3.heap.size) := ⟨_, Lib.hid rfl⟩
  have Op2 := Lib.hid (ST4.out.old Hp2.out)
  have ST6 := Lib.hid (ST4.out.box Hp2.out HW5.out)
  obtain ⟨W7, HW7⟩ : ∃ W', Hid (W' = W5.alloc (.cells #[(.int .i64 0), (.bool false), (.slice none 0 0), (.string ⟨#[]⟩), (.bool false)] 26)) := ⟨_, Lib.hid rfl⟩
  obtain ⟨bo, Hbo⟩ : ∃ b, Hid (b = W5.heap.size) := ⟨_, Lib.hid rfl⟩
  have Obo := Lib.hid (ST6.out.old Hbo.out)
  have ST8 := Lib.hid (ST6.out.box Hbo.out HW7.out)
  have hz2 : w.heap.size + 2 = bo := by rw [Hbo.out, HW5.out, World.size_alloc, HW3.out, World.size_alloc]
  have hz1 : w.heap.size + 1 = p2 := by rw [Hp2.out, HW3.out, World.size_alloc]
  rw [← HW3.out, ← HW5.out, ← HW7.out]
  try rw [hz2]
  try rw [hz1]
  try rw [← Hp1.out]
  clear hz1 hz2
  have qbo_0 := ST8.out.cell (List.mem_cons_self ..) 0 _ rfl
  have fbo_0 := ST8.out.thaw (List.mem_cons_self ..) 0
  have qbo_1 := ST8.out.cell (List.mem_cons_self ..) 1 _ rfl
  have fbo_1 := ST8.out.thaw (List.mem_cons_self ..) 1
  have qbo_2 := ST8.out.cell (List.mem_cons_self ..) 2 _ rfl
  have fbo_2 := ST8.out.thaw (List.mem_cons_self ..) 2
  have qbo_3 := ST8.out.cell (List.mem_cons_self ..) 3 _ rfl
  have fbo_3 := ST8.out.thaw (List.mem_cons_self ..) 3
  have qbo_4 := ST8.out.cell (List.mem_cons_self ..) 4 _ rfl
  have fbo_4 := ST8.out.thaw (List.mem_cons_self ..) 4
  have qp2_0 := ST8.out.cell (List.mem_cons_of_mem _ (List.mem_cons_self ..)) 0 _ rfl
  have qp2_1 := ST8.out.cell (List.mem_cons_of_mem _ (List.mem_cons_self ..)) 1 _ rfl
  have qp2_2 := ST8.out.cell (List.mem_cons_of_mem _ (List.mem_cons_self ..)) 2 _ rfl
  have qp2_3 := ST8.out.cell (List.mem_cons_of_mem _ (List.mem_cons_self ..)) 3 _ rfl
  have qp2_4 := ST8.out.cell (List.mem_cons_of_mem _ (List.mem_cons_self ..)) 4 _ rfl
  have qp1_0 := ST8.out.cell (List.mem_cons_of_mem _ (List.mem_cons_of_mem _ (List.mem_cons_self ..))) 0 _ rfl
  have qp1_1 := ST8.out.cell (List.mem_cons_of_mem _ (List.mem_cons_of_mem _ (List.mem_cons_self ..))) 1 _ rfl
  have qp1_2 := ST8.out.cell (List.mem_cons_of_mem _ (List.mem_cons_of_mem _ (List.mem_cons_self ..))) 2 _ rfl
  have qp1_3 := ST8.out.cell (List.mem_cons_of_mem _ (List.mem_cons_of_mem _ (List.mem_cons_self ..))) 3 _ rfl
  have qp1_4 := ST8.out.cell (List.mem_cons_of_mem _ (List.mem_cons_of_mem _ (List.mem_cons_self ..))) 4 _ rfl
  go_wp2_with fail
  exact finK3 rfl (show BoxK W7 bo _ _ _ _ _ _ _ from (ST8.out.boxes _ (List.mem_cons_self ..)).1) ST8.out.below (ST8.out.boxes _ (List.mem_cons_self ..)).2 (intC_zero _) rfl rfl rfl

set_option maxRecDepth 100000 in
set_option maxHeartbeats 3200000 in
theorem other_eq {w : World} {k1 : Int} {g1 : Bool} {a1 : Option Addr} {n1 c1 : Nat} {s1 : ByteArray} {t1 : Bool} {z1 : List Nat} {x1 : Int} {k2 : Int} {g2 : Bool} {a2 : Option Addr} {n2 c2 : Nat} {s2 : ByteArray} {t2 : Bool} {z2 : List Nat} {x2 : Int} (h1 : IntV w (.agg #[.bool g1, .slice a1 n1 c1]) g1 z1) (hx1 : valI g1 z1 = x1) (h2 : IntV w (.agg #[.bool g2, .slice a2 n2 c2]) g2 z2) (hx2 : valI g2 z2 = x2)  :
    Calls Tryd.prog 44 #[.string ⟨#[61, 61]⟩, .agg #[.int .i64 k1, .bool g1, .slice a1 n1 c1, .string s1, .bool t1], .agg #[.int .i64 k2, .bool g2, .slice a2 n2 c2, .string s2, .bool t2]] w fun e w' => Kon3 w' e 0 0 ⟨#[]⟩ false 0 false ∧ Below w.heap.size w w' := by
  have ST0 := Lib.hid (Sk.start w)
  have Hx1 := Lib.hid hx1
  have ST1 := Lib.hid (ST0.out.num h1)
  clear h1 hx1
  have Hx2 := Lib.hid hx2
  have ST2 := Lib.hid (ST1.out.num h2)
  clear h2 hx2
  go_enter Tryd.func44, Tryd.ntmps44
  go_upto_region 1 with fail
  obtain ⟨W3, HW3⟩ : ∃ W', Hid (W' = w.alloc (.cells #[(.int .i64 k1), (.bool g1), (.slice a1 n1 c1), (.string s1), (.bool t1)] 26)) := ⟨_, Lib.hid rfl⟩
  obtain ⟨p1, Hp1⟩ : ∃ b, Hid (b = w.heap.size) := ⟨_, Lib.hid rfl⟩
  have ST4 := Lib.hid (ST2.out.box Hp1.out HW3.out)
  obtain ⟨W5, HW5⟩ : ∃ W', Hid (W' = W3.alloc (.cells #[(.int .i64 k2), (.bool g2), (.slice a2 n2 c2), (.string s2), (.bool t2)] 26)) := ⟨_, Lib.hid rfl⟩
  obtain ⟨p2, Hp2⟩ : ∃ b, Hid (b = W3.heap.size) := ⟨_, Lib.hid rfl⟩
  have Op2 := Lib.hid (ST4.out.old Hp2.out)
  have ST6 := Lib.hid (ST4.out.box Hp2.out HW5.out)
  obtain ⟨W7, HW7⟩ : ∃ W', Hid (W' = W5.alloc (.cells #[(.int .i64 0), (.bool false), (.slice none 0 0), (.string ⟨#[]⟩), (.bool false)] 26)) := ⟨_, Lib.hid rfl⟩
  obtain ⟨bo, Hbo⟩ : ∃ b, Hid (b = W5.heap.size) := ⟨_, Lib.hid rfl⟩
  have Obo := Lib.hid (ST6.out.old Hbo.out)
  have ST8 := Lib.hid (ST6.out.box Hbo.out HW7.out)
  have hz2 : w.heap.size + 2 = bo := by rw [Hbo.out, HW5.out, World.size_alloc, HW3.out, World.size_alloc]
  have hz1 : w.heap.size + 1 = p2 := by rw [Hp2.out, HW3.out, World.size_alloc]
  rw [← HW3.out, ← HW5.out, ← HW7.out]
  try rw [hz2]
  try rw [hz1]
  try rw [← Hp1.out]
  clear hz1 hz2
  have qbo_0 := ST8.out.cell (List.mem_cons_self ..) 0 _ rfl
  have fbo_0 := ST8.out.thaw (List.mem_cons_self ..) 0
  have qbo_1 := ST8.out.cell (List.mem_cons_self ..) 1 _ rfl
  have fbo_1 := ST8.out.thaw (List.mem_cons_self ..) 1
  have qbo_2 := ST8.out.cell (List.mem_cons_self ..) 2 _ rfl
  have fbo_2 := ST8.out.thaw (List.mem_cons_self ..) 2
  have qbo_3 := ST8.out.cell (List.mem_cons_self ..) 3 _ rfl
  have fbo_3 := ST8.out.thaw (List.mem_cons_self ..) 3
  have qbo_4 := ST8.out.cell (List.mem_cons_self ..) 4 _ rfl
  have fbo_4 := ST8.out.thaw (List.mem_cons_self ..) 4
  have qp2_0 := ST8.out.cell (List.mem_cons_of_mem _ (List.mem_cons_self ..)) 0 _ rfl
  have qp2_1 := ST8.out.cell (List.mem_cons_of_mem _ (List.mem_cons_self ..)) 1 _ rfl
  have qp2_2 := ST8.out.cell (List.mem_cons_of_mem _ (List.mem_cons_self ..)) 2 _ rfl
  have qp2_3 := ST8.out.cell (List.mem_cons_of_mem _ (List.mem_cons_self ..)) 3 _ rfl
  have qp2_4 := ST8.out.cell (List.mem_cons_of_mem _ (List.mem_cons_self ..)) 4 _ rfl
  have qp1_0 := ST8.out.cell (List.mem_cons_of_mem _ (List.mem_cons_of_mem _ (List.mem_cons_self ..))) 0 _ rfl
  have qp1_1 := ST8.out.cell (List.mem_cons_of_mem _ (List.mem_cons_of_mem _ (List.mem_cons_self ..))) 1 _ rfl
  have qp1_2 := ST8.out.cell (List.mem_cons_of_mem _ (List.mem_cons_of_mem _ (List.mem_cons_self ..))) 2 _ rfl
  have qp1_3 := ST8.out.cell (List.mem_cons_of_mem _ (List.mem_cons_of_mem _ (List.mem_cons_self ..))) 3 _ rfl
  have qp1_4 := ST8.out.cell (List.mem_cons_of_mem _ (List.mem_cons_of_mem _ (List.mem_cons_self ..))) 4 _ rfl
  cases d2 : (k1 == 2)
  · cases d3 : (k1 == 3)
    · go_wp2_with fail
      exact finK3 rfl (show BoxK W7 bo _ _ _ _ _ _ _ from (ST8.out.boxes _ (List.mem_cons_self ..)).1) ST8.out.below (ST8.out.boxes _ (List.mem_cons_self ..)).2 (intC_zero _) rfl rfl rfl
    · go_wp2_with fail
      exact finK3 rfl (show BoxK W7 bo _ _ _ _ _ _ _ from (ST8.out.boxes _ (List.mem_cons_self ..)).1) ST8.out.below (ST8.out.boxes _ (List.mem_cons_self ..)).2 (intC_zero _) rfl rfl rfl
  · cases d3 : (k1 == 3)
    · go_wp2_with fail
      exact finK3 rfl (show BoxK W7 bo _ _ _ _ _ _ _ from (ST8.out.boxes _ (List.mem_cons_self ..)).1) ST8.out.below (ST8.out.boxes _ (List.mem_cons_self ..)).2 (intC_zero _) rfl rfl rfl
    · go_wp2_with fail
      exact finK3 rfl (show BoxK W7 bo _ _ _ _ _ _ _ from (ST8.out.boxes _ (List.mem_cons_self ..)).1) ST8.out.below (ST8.out.boxes _ (List.mem_cons_self ..)).2 (intC_zero _) rfl rfl rfl

set_option maxRecDepth 100000 in
set_option maxHeartbeats 3200000 in
theorem other_ne {w : World} {k1 : Int} {g1 : Bool} {a1 : Option Addr} {n1 c1 : Nat} {s1 : ByteArray} {t1 : Bool} {z1 : List Nat} {x1 : Int} {k2 : Int} {g2 : Bool} {a2 : Option Addr} {n2 c2 : Nat} {s2 : ByteArray} {t2 : Bool} {z2 : List Nat} {x2 : Int} (h1 : IntV w (.agg #[.bool g1, .slice a1 n1 c1]) g1 z1) (hx1 : valI g1 z1 = x1) (h2 : IntV w (.agg #[.bool g2, .slice a2 n2 c2]) g2 z2) (hx2 : valI g2 z2 = x2)  :
    Calls Tryd.prog 44 #[.string ⟨#[33, 61]⟩, .agg #[.int .i64 k1, .bool g1, .slice a1 n1 c1, .string s1, .bool t1], .agg #[.int .i64 k2, .bool g2, .slice a2 n2 c2, .string s2, .bool t2]] w fun e w' => Kon3 w' e 0 0 ⟨#[]⟩ false 0 false ∧ Below w.heap.size w w' := by
  have ST0 := Lib.hid (Sk.start w)
  have Hx1 := Lib.hid hx1
  have ST1 := Lib.hid (ST0.out.num h1)
  clear h1 hx1
  have Hx2 := Lib.hid hx2
  have ST2 := Lib.hid (ST1.out.num h2)
  clear h2 hx2
  go_enter Tryd.func44, Tryd.ntmps44
  go_upto_region 1 with fail
  obtain ⟨W3, HW3⟩ : ∃ W', Hid (W' = w.alloc (.cells #[(.int .i64 k1), (.bool g1), (.slice a1 n1 c1), (.string s1), (.bool t1)] 26)) := ⟨_, Lib.hid rfl⟩
  obtain ⟨p1, Hp1⟩ : ∃ b, Hid (b = w.heap.size) := ⟨_, Lib.hid rfl⟩
  have ST4 := Lib.hid (ST2.out.box Hp1.out HW3.out)
  obtain ⟨W5, HW5⟩ : ∃ W', Hid (W' = W3.alloc (.cells #[(.int .i64 k2), (.bool g2), (.slice a2 n2 c2), (.string s2), (.bool t2)] 26)) := ⟨_, Lib.hid rfl⟩
  obtain ⟨p2, Hp2⟩ : ∃ b, Hid (b = W3.heap.size) := ⟨_, Lib.hid rfl⟩
  have Op2 := Lib.hid (ST4.out.old Hp2.out)
  have ST6 := Lib.hid (ST4.out.box Hp2.out HW5.out)
  obtain ⟨W7, HW7⟩ : ∃ W', Hid (W' = W5.alloc (.cells #[(.int .i64 0), (.bool false), (.slice none 0 0), (.string ⟨#[]⟩), (.bool false)] 26)) := ⟨_, Lib.hid rfl⟩
  obtain ⟨bo, Hbo⟩ : ∃ b, Hid (b = W5.heap.size) := ⟨_, Lib.hid rfl⟩
  have Obo := Lib.hid (ST6.out.old Hbo.out)
  have ST8 := Lib.hid (ST6.out.box Hbo.out HW7.out)
  have hz2 : w.heap.size + 2 = bo := by rw [Hbo.out, HW5.out, World.size_alloc, HW3.out, World.size_alloc]
  have hz1 : w.heap.size + 1 = p2 := by rw [Hp2.out, HW3.out, World.size_alloc]
  rw [← HW3.out, ← HW5.out, ← HW7.out]
  try rw [hz2]
  try rw [hz1]
  try rw [← Hp1.out]
  clear hz1 hz2
  have qbo_0 := ST8.out.cell (List.mem_cons_self ..) 0 _ rfl
  have fbo_0 := ST8.out.thaw (List.mem_cons_self ..) 0
  have qbo_1 := ST8.out.cell (List.mem_cons_self ..) 1 _ rfl
  have fbo_1 := ST8.out.thaw (List.mem_cons_self ..) 1
  have qbo_2 := ST8.out.cell (List.mem_cons_self ..) 2 _ rfl
  have fbo_2 := ST8.out.thaw (List.mem_cons_self ..) 2
  have qbo_3 := ST8.out.cell (List.mem_cons_self ..) 3 _ rfl
  have fbo_3 := ST8.out.thaw (List.mem_cons_self ..) 3
  have qbo_4 := ST8.out.cell (List.mem_cons_self ..) 4 _ rfl
  have fbo_4 := ST8.out.thaw (List.mem_cons_self ..) 4
  have qp2_0 := ST8.out.cell (List.mem_cons_of_mem _ (List.mem_cons_self ..)) 0 _ rfl
  have qp2_1 := ST8.out.cell (List.mem_cons_of_mem _ (List.mem_cons_self ..)) 1 _ rfl
  have qp2_2 := ST8.out.cell (List.mem_cons_of_mem _ (List.mem_cons_self ..)) 2 _ rfl
  have qp2_3 := ST8.out.cell (List.mem_cons_of_mem _ (List.mem_cons_self ..)) 3 _ rfl
  have qp2_4 := ST8.out.cell (List.mem_cons_of_mem _ (List.mem_cons_self ..)) 4 _ rfl
  have qp1_0 := ST8.out.cell (List.mem_cons_of_mem _ (List.mem_cons_of_mem _ (List.mem_cons_self ..))) 0 _ rfl
  have qp1_1 := ST8.out.cell (List.mem_cons_of_mem _ (List.mem_cons_of_mem _ (List.mem_cons_self ..))) 1 _ rfl
  have qp1_2 := ST8.out.cell (List.mem_cons_of_mem _ (List.mem_cons_of_mem _ (List.mem_cons_self ..))) 2 _ rfl
  have qp1_3 := ST8.out.cell (List.mem_cons_of_mem _ (List.mem_cons_of_mem _ (List.mem_cons_self ..))) 3 _ rfl
  have qp1_4 := ST8.out.cell (List.mem_cons_of_mem _ (List.mem_cons_of_mem _ (List.mem_cons_self ..))) 4 _ rfl
  cases d2 : (k1 == 2)
  · cases d3 : (k1 == 3)
    · go_wp2_with fail
      exact finK3 rfl (show BoxK W7 bo _ _ _ _ _ _ _ from (ST8.out.boxes _ (List.mem_cons_self ..)).1) ST8.out.below (ST8.out.boxes _ (List.mem_cons_self ..)).2 (intC_zero _) rfl rfl rfl
    · go_wp2_with fail
      exact finK3 rfl (show BoxK W7 bo _ _ _ _ _ _ _ from (ST8.out.boxes _ (List.mem_cons_self ..)).1) ST8.out.below (ST8.out.boxes _ (List.mem_cons_self ..)).2 (intC_zero _) rfl rfl rfl
  · cases d3 : (k1 == 3)
    · go_wp2_with fail
      exact finK3 rfl (show BoxK W7 bo _ _ _ _ _ _ _ from (ST8.out.boxes _ (List.mem_cons_self ..)).1) ST8.out.below (ST8.out.boxes _ (List.mem_cons_self ..)).2 (intC_zero _) rfl rfl rfl
    · go_wp2_with fail
      exact finK3 rfl (show BoxK W7 bo _ _ _ _ _ _ _ from (ST8.out.boxes _ (List.mem_cons_self ..)).1) ST8.out.below (ST8.out.boxes _ (List.mem_cons_self ..)).2 (intC_zero _) rfl rfl rfl

set_option maxRecDepth 100000 in
set_option maxHeartbeats 3200000 in
theorem other_lt {w : World} {k1 : Int} {g1 : Bool} {a1 : Option Addr} {n1 c1 : Nat} {s1 : ByteArray} {t1 : Bool} {z1 : List Nat} {x1 : Int} {k2 : Int} {g2 : Bool} {a2 : Option Addr} {n2 c2 : Nat} {s2 : ByteArray} {t2 : Bool} {z2 : List Nat} {x2 : Int} (h1 : IntV w (.agg #[.bool g1, .slice a1 n1 c1]) g1 z1) (hx1 : valI g1 z1 = x1) (h2 : IntV w (.agg #[.bool g2, .slice a2 n2 c2]) g2 z2) (hx2 : valI g2 z2 = x2)  :
    Calls Tryd.prog 44 #[.string ⟨#[60]⟩, .agg #[.int .i64 k1, .bool g1, .slice a1 n1 c1, .string s1, .bool t1], .agg #[.int .i64 k2, .bool g2, .slice a2 n2 c2, .string s2, .bool t2]] w fun e w' => Kon3 w' e 0 0 ⟨#[]⟩ false 0 false ∧ Below w.heap.size w w' := by
  have ST0 := Lib.hid (Sk.start w)
  have Hx1 := Lib.hid hx1
  have ST1 := Lib.hid (ST0.out.num h1)
  clear h1 hx1
  have Hx2 := Lib.hid hx2
  have ST2 := Lib.hid (ST1.out.num h2)
  clear h2 hx2
  go_enter Tryd.func44, Tryd.ntmps44
  go_upto_region 1 with fail
  obtain ⟨W3, HW3⟩ : ∃ W', Hid (W' = w.alloc (.cells #[(.int .i64 k1), (.bool g1), (.slice a1 n1 c1), (.string s1), (.bool t1)] 26)) := ⟨_, Lib.hid rfl⟩
  obtain ⟨p1, Hp1⟩ : ∃ b, Hid (b = w.heap.size) := ⟨_, Lib.hid rfl⟩
  have ST4 := Lib.hid (ST2.out.box Hp1.out HW3.out)
  obtain ⟨W5, HW5⟩ : ∃ W', Hid (W' = W3.alloc (.cells #[(.int .i64 k2), (.bool g2), (.slice a2 n2 c2), (.string s2), (.bool t2)] 26)) := ⟨_, Lib.hid rfl⟩
  obtain ⟨p2, Hp2⟩ : ∃ b, Hid (b = W3.heap.size) := ⟨_, Lib.hid rfl⟩
  have Op2 := Lib.hid (ST4.out.old Hp2.out)
  have ST6 := Lib.hid (ST4.out.box Hp2.out HW5.out)
  obtain ⟨W7, HW7⟩ : ∃ W', Hid (W' = W5.alloc (.cells #[(.int .i64 0), (.bool false), (.slice none 0 0), (.string ⟨#[]⟩), (.bool false)] 26)) := ⟨_, Lib.hid rfl⟩
  obtain ⟨bo, Hbo⟩ : ∃ b, Hid (b = W5.heap.size) := ⟨_, Lib.hid rfl⟩
  have Obo := Lib.hid (ST6.out.old Hbo.out)
  have ST8 := Lib.hid (ST6.out.box Hbo.out HW7.out)
  have hz2 : w.heap.size + 2 = bo := by rw [Hbo.out, HW5.out, World.size_alloc, HW3.out, World.size_alloc]
  have hz1 : w.heap.size + 1 = p2 := by rw [Hp2.out, HW3.out, World.size_alloc]
  rw [← HW3.out, ← HW5.out, ← HW7.out]
  try rw [hz2]
  try rw [hz1]
  try rw [← Hp1.out]
  clear hz1 hz2
  have qbo_0 := ST8.out.cell (List.mem_cons_self ..) 0 _ rfl
  have fbo_0 := ST8.out.thaw (List.mem_cons_self ..) 0
  have qbo_1 := ST8.out.cell (List.mem_cons_self ..) 1 _ rfl
  have fbo_1 := ST8.out.thaw (List.mem_cons_self ..) 1
  have qbo_2 := ST8.out.cell (List.mem_cons_self ..) 2 _ rfl
  have fbo_2 := ST8.out.thaw (List.mem_cons_self ..) 2
  have qbo_3 := ST8.out.cell (List.mem_cons_self ..) 3 _ rfl
  have fbo_3 := ST8.out.thaw (List.mem_cons_self ..) 3
  have qbo_4 := ST8.out.cell (List.mem_cons_self ..) 4 _ rfl
  have fbo_4 := ST8.out.thaw (List.mem_cons_self ..) 4
  have qp2_0 := ST8.out.cell (List.mem_cons_of_mem _ (List.mem_cons_self ..)) 0 _ rfl
  have qp2_1 := ST8.out.cell (List.mem_cons_of_mem _ (List.mem_cons_self ..)) 1 _ rfl
  have qp2_2 := ST8.out.cell (List.mem_cons_of_mem _ (List.mem_cons_self ..)) 2 _ rfl
  have qp2_3 := ST8.out.cell (List.mem_cons_of_mem _ (List.mem_cons_self ..)) 3 _ rfl
  have qp2_4 := ST8.out.cell (List.mem_cons_of_mem _ (List.mem_cons_self ..)) 4 _ rfl
  have qp1_0 := ST8.out.cell (List.mem_cons_of_mem _ (List.mem_cons_of_mem _ (List.mem_cons_self ..))) 0 _ rfl
  have qp1_1 := ST8.out.cell (List.mem_cons_of_mem _ (List.mem_cons_of_mem _ (List.mem_cons_self ..))) 1 _ rfl
  have qp1_2 := ST8.out.cell (List.mem_cons_of_mem _ (List.mem_cons_of_mem _ (List.mem_cons_self ..))) 2 _ rfl
  have qp1_3 := ST8.out.cell (List.mem_cons_of_mem _ (List.mem_cons_of_mem _ (List.mem_cons_self ..))) 3 _ rfl
  have qp1_4 := ST8.out.cell (List.mem_cons_of_mem _ (List.mem_cons_of_mem _ (List.mem_cons_self ..))) 4 _ rfl
  cases d2 : (k1 == 2)
  · cases d3 : (k1 == 3)
    · go_wp2_with fail
      exact finK3 rfl (show BoxK W7 bo _ _ _ _ _ _ _ from (ST8.out.boxes _ (List.mem_cons_self ..)).1) ST8.out.below (ST8.out.boxes _ (List.mem_cons_self ..)).2 (intC_zero _) rfl rfl rfl
    · go_wp2_with fail
      exact finK3 rfl (show BoxK W7 bo _ _ _ _ _ _ _ from (ST8.out.boxes _ (List.mem_cons_self ..)).1) ST8.out.below (ST8.out.boxes _ (List.mem_cons_self ..)).2 (intC_zero _) rfl rfl rfl
  · cases d3 : (k1 == 3)
    · go_wp2_with fail
      exact finK3 rfl (show BoxK W7 bo _ _ _ _ _ _ _ from (ST8.out.boxes _ (List.mem_cons_self ..)).1) ST8.out.below (ST8.out.boxes _ (List.mem_cons_self ..)).2 (intC_zero _) rfl rfl rfl
    · go_wp2_with fail
      exact finK3 rfl (show BoxK W7 bo _ _ _ _ _ _ _ from (ST8.out.boxes _ (List.mem_cons_self ..)).1) ST8.out.below (ST8.out.boxes _ (List.mem_cons_self ..)).2 (intC_zero _) rfl rfl rfl

set_option maxRecDepth 100000 in
set_option maxHeartbeats 3200000 in
theorem other_gt {w : World} {k1 : Int} {g1 : Bool} {a1 : Option Addr} {n1 c1 : Nat} {s1 : ByteArray} {t1 : Bool} {z1 : List Nat} {x1 : Int} {k2 : Int} {g2 : Bool} {a2 : Option Addr} {n2 c2 : Nat} {s2 : ByteArray} {t2 : Bool} {z2 : List Nat} {x2 : Int} (h1 : IntV w (.agg #[.bool g1, .slice a1 n1 c1]) g1 z1) (hx1 : valI g1 z1 = x1) (h2 : IntV w (.agg #[.bool g2, .slice a2 n2 c2]) g2 z2) (hx2 : valI g2 z2 = x2)  :
    Calls Tryd.prog 44 #[.string ⟨#[62]⟩, .agg #[.int .i64 k1, .bool g1, .slice a1 n1 c1, .string s1, .bool t1], .agg #[.int .i64 k2, .bool g2, .slice a2 n2 c2, .string s2, .bool t2]] w fun e w' => Kon3 w' e 0 0 ⟨#[]⟩ false 0 false ∧ Below w.heap.size w w' := by
  have ST0 := Lib.hid (Sk.start w)
  have Hx1 := Lib.hid hx1
  have ST1 := Lib.hid (ST0.out.num h1)
  clear h1 hx1
  have Hx2 := Lib.hid hx2
  have ST2 := Lib.hid (ST1.out.num h2)
  clear h2 hx2
  go_enter Tryd.func44, Tryd.ntmps44
  go_upto_region 1 with fail
  obtain ⟨W3, HW3⟩ : ∃ W', Hid (W' = w.alloc (.cells #[(.int .i64 k1), (.bool g1), (.slice a1 n1 c1), (.string s1), (.bool t1)] 26)) := ⟨_, Lib.hid rfl⟩
  obtain ⟨p1, Hp1⟩ : ∃ b, Hid (b = w.heap.size) := ⟨_, Lib.hid rfl⟩
  have ST4 := Lib.hid (ST2.out.box Hp1.out HW3.out)
  obtain ⟨W5, HW5⟩ : ∃ W', Hid (W' = W3.alloc (.cells #[(.int .i64 k2), (.bool g2), (.slice a2 n2 c2), (.string s2), (.bool t2)] 26)) := ⟨_, Lib.hid rfl⟩
  obtain ⟨p2, Hp2⟩ : ∃ b, Hid (b = W3.heap.size) := ⟨_, Lib.hid rfl⟩
  have Op2 := Lib.hid (ST4.out.old Hp2.out)
  have ST6 := Lib.hid (ST4.out.box Hp2.out HW5.out)
  obtain ⟨W7, HW7⟩ : ∃ W', Hid (W' = W5.alloc (.cells #[(.int .i64 0), (.bool false), (.slice none 0 0), (.string ⟨#[]⟩), (.bool false)] 26)) := ⟨_, Lib.hid rfl⟩
  obtain ⟨bo, Hbo⟩ : ∃ b, Hid (b = W5.heap.size) := ⟨_, Lib.hid rfl⟩
  have Obo := Lib.hid (ST6.out.old Hbo.out)
  have ST8 := Lib.hid (ST6.out.box Hbo.out HW7.out)
  have hz2 : w.heap.size + 2 = bo := by rw [Hbo.out, HW5.out, World.size_alloc, HW3.out, World.size_alloc]
  have hz1 : w.heap.size + 1 = p2 := by rw [Hp2.out, HW3.out, World.size_alloc]
  rw [← HW3.out, ← HW5.out, ← HW7.out]
  try rw [hz2]
  try rw [hz1]
  try rw [← Hp1.out]
  clear hz1 hz2
  have qbo_0 := ST8.out.cell (List.mem_cons_self ..) 0 _ rfl
  have fbo_0 := ST8.out.thaw (List.mem_cons_self ..) 0
  have qbo_1 := ST8.out.cell (List.mem_cons_self ..) 1 _ rfl
  have fbo_1 := ST8.out.thaw (List.mem_cons_self ..) 1
  have qbo_2 := ST8.out.cell (List.mem_cons_self ..) 2 _ rfl
  have fbo_2 := ST8.out.thaw (List.mem_cons_self ..) 2
  have qbo_3 := ST8.out.cell (List.mem_cons_self ..) 3 _ rfl
  have fbo_3 := ST8.out.thaw (List.mem_cons_self ..) 3
  have qbo_4 := ST8.out.cell (List.mem_cons_self ..) 4 _ rfl
  have fbo_4 := ST8.out.thaw (List.mem_cons_self ..) 4
  have qp2_0 := ST8.out.cell (List.mem_cons_of_mem _ (List.mem_cons_self ..)) 0 _ rfl
  have qp2_1 := ST8.out.cell (List.mem_cons_of_mem _ (List.mem_cons_self ..)) 1 _ rfl
  have qp2_2 := ST8.out.cell (List.mem_cons_of_mem _ (List.mem_cons_self ..)) 2 _ rfl
  have qp2_3 := ST8.out.cell (List.mem_cons_of_mem _ (List.mem_cons_self ..)) 3 _ rfl
  have qp2_4 := ST8.out.cell (List.mem_cons_of_mem _ (List.mem_cons_self ..)) 4 _ rfl
  have qp1_0 := ST8.out.cell (List.mem_cons_of_mem _ (List.mem_cons_of_mem _ (List.mem_cons_self ..))) 0 _ rfl
  have qp1_1 := ST8.out.cell (List.mem_cons_of_mem _ (List.mem_cons_of_mem _ (List.mem_cons_self ..))) 1 _ rfl
  have qp1_2 := ST8.out.cell (List.mem_cons_of_mem _ (List.mem_cons_of_mem _ (List.mem_cons_self ..))) 2 _ rfl
  have qp1_3 := ST8.out.cell (List.mem_cons_of_mem _ (List.mem_cons_of_mem _ (List.mem_cons_self ..))) 3 _ rfl
  have qp1_4 := ST8.out.cell (List.mem_cons_of_mem _ (List.mem_cons_of_mem _ (List.mem_cons_self ..))) 4 _ rfl
  cases d2 : (k1 == 2)
  · cases d3 : (k1 == 3)
    · go_wp2_with fail
      exact finK3 rfl (show BoxK W7 bo _ _ _ _ _ _ _ from (ST8.out.boxes _ (List.mem_cons_self ..)).1) ST8.out.below (ST8.out.boxes _ (List.mem_cons_self ..)).2 (intC_zero _) rfl rfl rfl
    · go_wp2_with fail
      exact finK3 rfl (show BoxK W7 bo _ _ _ _ _ _ _ from (ST8.out.boxes _ (List.mem_cons_self ..)).1) ST8.out.below (ST8.out.boxes _ (List.mem_cons_self ..)).2 (intC_zero _) rfl rfl rfl
  · cases d3 : (k1 == 3)
    · go_wp2_with fail
      exact finK3 rfl (show BoxK W7 bo _ _ _ _ _ _ _ from (ST8.out.boxes _ (List.mem_cons_self ..)).1) ST8.out.below (ST8.out.boxes _ (List.mem_cons_self ..)).2 (intC_zero _) rfl rfl rfl
    · go_wp2_with fail
      exact finK3 rfl (show BoxK W7 bo _ _ _ _ _ _ _ from (ST8.out.boxes _ (List.mem_cons_self ..)).1) ST8.out.below (ST8.out.boxes _ (List.mem_cons_self ..)).2 (intC_zero _) rfl rfl rfl

set_option maxRecDepth 100000 in
set_option maxHeartbeats 3200000 in
theorem other_big {w : World} {k1 : Int} {g1 : Bool} {a1 : Option Addr} {n1 c1 : Nat} {s1 : ByteArray} {t1 : Bool} {z1 : List Nat} {x1 : Int} {k2 : Int} {g2 : Bool} {a2 : Option Addr} {n2 c2 : Nat} {s2 : ByteArray} {t2 : Bool} {z2 : List Nat} {x2 : Int} (h1 : IntV w (.agg #[.bool g1, .slice a1 n1 c1]) g1 z1) (hx1 : valI g1 z1 = x1) (h2 : IntV w (.agg #[.bool g2, .slice a2 n2 c2]) g2 z2) (hx2 : valI g2 z2 = x2) (hk1 : k1 = 2) (hl : 65536 < s1.size + s2.size) (h9 : s1.size + s2.size ≤ 1000000) :
    Calls Tryd.prog 44 #[.string ⟨#[43]⟩, .agg #[.int .i64 k1, .bool g1, .slice a1 n1 c1, .string s1, .bool t1], .agg #[.int .i64 k2, .bool g2, .slice a2 n2 c2, .string s2, .bool t2]] w fun e w' => Kon3 w' e 0 0 ⟨#[]⟩ false 2 true ∧ Below w.heap.size w w' := by
  have ST0 := Lib.hid (Sk.start w)
  have Hx1 := Lib.hid hx1
  have ST1 := Lib.hid (ST0.out.num h1)
  clear h1 hx1
  have Hx2 := Lib.hid hx2
  have ST2 := Lib.hid (ST1.out.num h2)
  clear h2 hx2
  subst hk1
  go_enter Tryd.func44, Tryd.ntmps44
  go_upto_region 1 with fail
  obtain ⟨W3, HW3⟩ : ∃ W', Hid (W' = w.alloc (.cells #[(.int .i64 2), (.bool g1), (.slice a1 n1 c1), (.string s1), (.bool t1)] 26)) := ⟨_, Lib.hid rfl⟩
  obtain ⟨p1, Hp1⟩ : ∃ b, Hid (b = w.heap.size) := ⟨_, Lib.hid rfl⟩
  have ST4 := Lib.hid (ST2.out.box Hp1.out HW3.out)
  obtain ⟨W5, HW5⟩ : ∃ W', Hid (W' = W3.alloc (.cells #[(.int .i64 k2), (.bool g2), (.slice a2 n2 c2), (.string s2), (.bool t2)] 26)) := ⟨_, Lib.hid rfl⟩
  obtain ⟨p2, Hp2⟩ : ∃ b, Hid (b = W3.heap.size) := ⟨_, Lib.hid rfl⟩
  have Op2 := Lib.hid (ST4.out.old Hp2.out)
  have ST6 := Lib.hid (ST4.out.box Hp2.out HW5.out)
  obtain ⟨W7, HW7⟩ : ∃ W', Hid (W' = W5.alloc (.cells #[(.int .i64 0), (.bool false), (.slice none 0 0), (.string ⟨#[]⟩), (.bool false)] 26)) := ⟨_, Lib.hid rfl⟩
  obtain ⟨bo, Hbo⟩ : ∃ b, Hid (b = W5.heap.size) := ⟨_, Lib.hid rfl⟩
  have Obo := Lib.hid (ST6.out.old Hbo.out)
  have ST8 := Lib.hid (ST6.out.box Hbo.out HW7.out)
  have hz2 : w.heap.size + 2 = bo := by rw [Hbo.out, HW5.out, World.size_alloc, HW3.out, World.size_alloc]
  have hz1 : w.heap.size + 1 = p2 := by rw [Hp2.out, HW3.out, World.size_alloc]
  rw [← HW3.out, ← HW5.out, ← HW7.out]
  try rw [hz2]
  try rw [hz1]
  try rw [← Hp1.out]
  clear hz1 hz2
  have qbo_0 := ST8.out.cell (List.mem_cons_self ..) 0 _ rfl
  have fbo_0 := ST8.out.thaw (List.mem_cons_self ..) 0
  have qbo_1 := ST8.out.cell (List.mem_cons_self ..) 1 _ rfl
  have fbo_1 := ST8.out.thaw (List.mem_cons_self ..) 1
  have qbo_2 := ST8.out.cell (List.mem_cons_self ..) 2 _ rfl
  have fbo_2 := ST8.out.thaw (List.mem_cons_self ..) 2
  have qbo_3 := ST8.out.cell (List.mem_cons_self ..) 3 _ rfl
  have fbo_3 := ST8.out.thaw (List.mem_cons_self ..) 3
  have qbo_4 := ST8.out.cell (List.mem_cons_self ..) 4 _ rfl
  have fbo_4 := ST8.out.thaw (List.mem_cons_self ..) 4
  have qp2_0 := ST8.out.cell (List.mem_cons_of_mem _ (List.mem_cons_self ..)) 0 _ rfl
  have qp2_1 := ST8.out.cell (List.mem_cons_of_mem _ (List.mem_cons_self ..)) 1 _ rfl
  have qp2_2 := ST8.out.cell (List.mem_cons_of_mem _ (List.mem_cons_self ..)) 2 _ rfl
  have qp2_3 := ST8.out.cell (List.mem_cons_of_mem _ (List.mem_cons_self ..)) 3 _ rfl
  have qp2_4 := ST8.out.cell (List.mem_cons_of_mem _ (List.mem_cons_self ..)) 4 _ rfl
  have qp1_0 := ST8.out.cell (List.mem_cons_of_mem _ (List.mem_cons_of_mem _ (List.mem_cons_self ..))) 0 _ rfl
  have qp1_1 := ST8.out.cell (List.mem_cons_of_mem _ (List.mem_cons_of_mem _ (List.mem_cons_self ..))) 1 _ rfl
  have qp1_2 := ST8.out.cell (List.mem_cons_of_mem _ (List.mem_cons_of_mem _ (List.mem_cons_self ..))) 2 _ rfl
  have qp1_3 := ST8.out.cell (List.mem_cons_of_mem _ (List.mem_cons_of_mem _ (List.mem_cons_self ..))) 3 _ rfl
  have qp1_4 := ST8.out.cell (List.mem_cons_of_mem _ (List.mem_cons_of_mem _ (List.mem_cons_self ..))) 4 _ rfl
  go_wp2_with fail
  exact finK3 rfl (show BoxK W7 bo _ _ _ _ _ _ _ from (ST8.out.boxes _ (List.mem_cons_self ..)).1) ST8.out.below (ST8.out.boxes _ (List.mem_cons_self ..)).2 (intC_zero _) rfl rfl rfl

set_option maxRecDepth 100000 in
set_option maxHeartbeats 3200000 in
theorem other_join {w : World} {k1 : Int} {g1 : Bool} {a1 : Option Addr} {n1 c1 : Nat} {s1 : ByteArray} {t1 : Bool} {z1 : List Nat} {x1 : Int} {k2 : Int} {g2 : Bool} {a2 : Option Addr} {n2 c2 : Nat} {s2 : ByteArray} {t2 : Bool} {z2 : List Nat} {x2 : Int} (h1 : IntV w (.agg #[.bool g1, .slice a1 n1 c1]) g1 z1) (hx1 : valI g1 z1 = x1) (h2 : IntV w (.agg #[.bool g2, .slice a2 n2 c2]) g2 z2) (hx2 : valI g2 z2 = x2) (hk1 : k1 = 2) (hl : s1.size + s2.size ≤ 65536) :
    Calls Tryd.prog 44 #[.string ⟨#[43]⟩, .agg #[.int .i64 k1, .bool g1, .slice a1 n1 c1, .string s1, .bool t1], .agg #[.int .i64 k2, .bool g2, .slice a2 n2 c2, .string s2, .bool t2]] w fun e w' => Kon3 w' e 2 0 (s1 ++ s2) false 0 true ∧ Below w.heap.size w w' := by
  have ST0 := Lib.hid (Sk.start w)
  have Hx1 := Lib.hid hx1
  have ST1 := Lib.hid (ST0.out.num h1)
  clear h1 hx1
  have Hx2 := Lib.hid hx2
  have ST2 := Lib.hid (ST1.out.num h2)
  clear h2 hx2
  subst hk1
  go_enter Tryd.func44, Tryd.ntmps44
  go_upto_region 1 with fail
  obtain ⟨W3, HW3⟩ : ∃ W', Hid (W' = w.alloc (.cells #[(.int .i64 2), (.bool g1), (.slice a1 n1 c1), (.string s1), (.bool t1)] 26)) := ⟨_, Lib.hid rfl⟩
  obtain ⟨p1, Hp1⟩ : ∃ b, Hid (b = w.heap.size) := ⟨_, Lib.hid rfl⟩
  have ST4 := Lib.hid (ST2.out.box Hp1.out HW3.out)
  obtain ⟨W5, HW5⟩ : ∃ W', Hid (W' = W3.alloc (.cells #[(.int .i64 k2), (.bool g2), (.slice a2 n2 c2), (.string s2), (.bool t2)] 26)) := ⟨_, Lib.hid rfl⟩
  obtain ⟨p2, Hp2⟩ : ∃ b, Hid (b = W3.heap.size) := ⟨_, Lib.hid rfl⟩
  have Op2 := Lib.hid (ST4.out.old Hp2.out)
  have ST6 := Lib.hid (ST4.out.box Hp2.out HW5.out)
  obtain ⟨W7, HW7⟩ : ∃ W', Hid (W' = W5.alloc (.cells #[(.int .i64 0), (.bool false), (.slice none 0 0), (.string ⟨#[]⟩), (.bool false)] 26)) := ⟨_, Lib.hid rfl⟩
  obtain ⟨bo, Hbo⟩ : ∃ b, Hid (b = W5.heap.size) := ⟨_, Lib.hid rfl⟩
  have Obo := Lib.hid (ST6.out.old Hbo.out)
  have ST8 := Lib.hid (ST6.out.box Hbo.out HW7.out)
  have hz2 : w.heap.size + 2 = bo := by rw [Hbo.out, HW5.out, World.size_alloc, HW3.out, World.size_alloc]
  have hz1 : w.heap.size + 1 = p2 := by rw [Hp2.out, HW3.out, World.size_alloc]
  rw [← HW3.out, ← HW5.out, ← HW7.out]
  try rw [hz2]
  try rw [hz1]
  try rw [← Hp1.out]
  clear hz1 hz2
  have qp2_0 := ST8.out.cell (List.mem_cons_of_mem _ (List.mem_cons_self ..)) 0 _ rfl
  have qp2_1 := ST8.out.cell (List.mem_cons_of_mem _ (List.mem_cons_self ..)) 1 _ rfl
  have qp2_2 := ST8.out.cell (List.mem_cons_of_mem _ (List.mem_cons_self ..)) 2 _ rfl
  have qp2_3 := ST8.out.cell (List.mem_cons_of_mem _ (List.mem_cons_self ..)) 3 _ rfl
  have qp2_4 := ST8.out.cell (List.mem_cons_of_mem _ (List.mem_cons_self ..)) 4 _ rfl
  have qp1_0 := ST8.out.cell (List.mem_cons_of_mem _ (List.mem_cons_of_mem _ (List.mem_cons_self ..))) 0 _ rfl
  have qp1_1 := ST8.out.cell (List.mem_cons_of_mem _ (List.mem_cons_of_mem _ (List.mem_cons_self ..))) 1 _ rfl
  have qp1_2 := ST8.out.cell (List.mem_cons_of_mem _ (List.mem_cons_of_mem _ (List.mem_cons_self ..))) 2 _ rfl
  have qp1_3 := ST8.out.cell (List.mem_cons_of_mem _ (List.mem_cons_of_mem _ (List.mem_cons_self ..))) 3 _ rfl
  have qp1_4 := ST8.out.cell (List.mem_cons_of_mem _ (List.mem_cons_of_mem _ (List.mem_cons_self ..))) 4 _ rfl
  go_wp2_with (go_at_call 19; refine hold ?_)
  refine Hold.mk ?_
  have C9 := Lib.hid (str_any (w := W7) (s1 ++ s2))
  refine C9.out.mono ?_
  rintro e W9 ⟨⟨n6, a6, c6, d6, rfl, hv⟩, hb⟩
  clear qp2_0 qp2_1 qp2_2 qp2_3 qp2_4 qp1_0 qp1_1 qp1_2 qp1_3 qp1_4
  have ST10 := Lib.hid (ST8.out.next hb hv)
  clear hb hv
  have qbo_0 := ST10.out.cell (List.mem_cons_self ..) 0 _ rfl
  have fbo_0 := ST10.out.thaw (List.mem_cons_self ..) 0
  have qbo_1 := ST10.out.cell (List.mem_cons_self ..) 1 _ rfl
  have fbo_1 := ST10.out.thaw (List.mem_cons_self ..) 1
  have qbo_2 := ST10.out.cell (List.mem_cons_self ..) 2 _ rfl
  have fbo_2 := ST10.out.thaw (List.mem_cons_self ..) 2
  have qbo_3 := ST10.out.cell (List.mem_cons_self ..) 3 _ rfl
  have fbo_3 := ST10.out.thaw (List.mem_cons_self ..) 3
  have qbo_4 := ST10.out.cell (List.mem_cons_self ..) 4 _ rfl
  have fbo_4 := ST10.out.thaw (List.mem_cons_self ..) 4
  go_wp2_with fail
  exact finK3 rfl (show BoxK W9 bo _ _ _ _ _ _ _ from (ST10.out.boxes _ (List.mem_cons_self ..)).1) ST10.out.below (ST10.out.boxes _ (List.mem_cons_self ..)).2 (ST10.out.getC (v := (.agg #[.bool n6, .slice a6 c6 d6])) (i := 0) (List.mem_cons_self ..)) rfl rfl rfl

set_option maxRecDepth 100000 in
set_option maxHeartbeats 3200000 in
theorem compare_eq {w : World} {k1 : Int} {g1 : Bool} {a1 : Option Addr} {n1 c1 : Nat} {s1 : ByteArray} {t1 : Bool} {z1 : List Nat} {x1 : Int} {k2 : Int} {g2 : Bool} {a2 : Option Addr} {n2 c2 : Nat} {s2 : ByteArray} {t2 : Bool} {z2 : List Nat} {x2 : Int} (h1 : IntV w (.agg #[.bool g1, .slice a1 n1 c1]) g1 z1) (hx1 : valI g1 z1 = x1) (h2 : IntV w (.agg #[.bool g2, .slice a2 n2 c2]) g2 z2) (hx2 : valI g2 z2 = x2)  :
    Calls Tryd.prog 46 #[.string ⟨#[61, 61]⟩, .agg #[.int .i64 k1, .bool g1, .slice a1 n1 c1, .string s1, .bool t1], .agg #[.int .i64 k2, .bool g2, .slice a2 n2 c2, .string s2, .bool t2]] w fun e w' => Kon3 w' e 3 0 ⟨#[]⟩ (ordK k1 x1 x2 s1 s2 t1 t2 == 0) 0 true ∧ Below w.heap.size w w' := by
  have ST0 := Lib.hid (Sk.start w)
  have Hx1 := Lib.hid hx1
  have ST1 := Lib.hid (ST0.out.num h1)
  clear h1 hx1
  have Hx2 := Lib.hid hx2
  have ST2 := Lib.hid (ST1.out.num h2)
  clear h2 hx2
  obtain ⟨o, Ho⟩ : ∃ o, Hid (ordK k1 x1 x2 s1 s2 t1 t2 = o) := ⟨_, Lib.hid rfl⟩
  rw [Ho.out]
  go_enter Tryd.func46, Tryd.ntmps46
  go_upto_region 1 with fail
  obtain ⟨W3, HW3⟩ : ∃ W', Hid (W' = w.alloc (.cells #[(.int .i64 k1), (.bool g1), (.slice a1 n1 c1), (.string s1), (.bool t1)] 26)) := ⟨_, Lib.hid rfl⟩
  obtain ⟨p1, Hp1⟩ : ∃ b, Hid (b = w.heap.size) := ⟨_, Lib.hid rfl⟩
  have ST4 := Lib.hid (ST2.out.box Hp1.out HW3.out)
  obtain ⟨W5, HW5⟩ : ∃ W', Hid (W' = W3.alloc (.cells #[(.int .i64 k2), (.bool g2), (.slice a2 n2 c2), (.string s2), (.bool t2)] 26)) := ⟨_, Lib.hid rfl⟩
  obtain ⟨p2, Hp2⟩ : ∃ b, Hid (b = W3.heap.size) := ⟨_, Lib.hid rfl⟩
  have Op2 := Lib.hid (ST4.out.old Hp2.out)
  have ST6 := Lib.hid (ST4.out.box Hp2.out HW5.out)
  obtain ⟨W7, HW7⟩ : ∃ W', Hid (W' = W5.alloc (.cells #[(.int .i64 0), (.bool false), (.slice none 0 0), (.string ⟨#[]⟩), (.bool false)] 26)) := ⟨_, Lib.hid rfl⟩
  obtain ⟨bo, Hbo⟩ : ∃ b, Hid (b = W5.heap.size) := ⟨_, Lib.hid rfl⟩
  have Obo := Lib.hid (ST6.out.old Hbo.out)
  have ST8 := Lib.hid (ST6.out.box Hbo.out HW7.out)
  have hz2 : w.heap.size + 2 = bo := by rw [Hbo.out, HW5.out, World.size_alloc, HW3.out, World.size_alloc]
  have hz1 : w.heap.size + 1 = p2 := by rw [Hp2.out, HW3.out, World.size_alloc]
  rw [← HW3.out, ← HW5.out, ← HW7.out]
  try rw [hz2]
  try rw [hz1]
  try rw [← Hp1.out]
  clear hz1 hz2
  have qp2_0 := ST8.out.cell (List.mem_cons_of_mem _ (List.mem_cons_self ..)) 0 _ rfl
  have qp2_1 := ST8.out.cell (List.mem_cons_of_mem _ (List.mem_cons_self ..)) 1 _ rfl
  have qp2_2 := ST8.out.cell (List.mem_cons_of_mem _ (List.mem_cons_self ..)) 2 _ rfl
  have qp2_3 := ST8.out.cell (List.mem_cons_of_mem _ (List.mem_cons_self ..)) 3 _ rfl
  have qp2_4 := ST8.out.cell (List.mem_cons_of_mem _ (List.mem_cons_self ..)) 4 _ rfl
  have qp1_0 := ST8.out.cell (List.mem_cons_of_mem _ (List.mem_cons_of_mem _ (List.mem_cons_self ..))) 0 _ rfl
  have qp1_1 := ST8.out.cell (List.mem_cons_of_mem _ (List.mem_cons_of_mem _ (List.mem_cons_self ..))) 1 _ rfl
  have qp1_2 := ST8.out.cell (List.mem_cons_of_mem _ (List.mem_cons_of_mem _ (List.mem_cons_self ..))) 2 _ rfl
  have qp1_3 := ST8.out.cell (List.mem_cons_of_mem _ (List.mem_cons_of_mem _ (List.mem_cons_self ..))) 3 _ rfl
  have qp1_4 := ST8.out.cell (List.mem_cons_of_mem _ (List.mem_cons_of_mem _ (List.mem_cons_self ..))) 4 _ rfl
  go_wp2_with (go_at_call 29; refine hold ?_)
  refine Hold.mk ?_
  have C9 := Lib.hid (order_any (k1 := k1) (k2 := k2) (s1 := s1) (s2 := s2) (t1 := t1) (t2 := t2) (ST8.out.get (v := (.agg #[.bool g1, .slice a1 n1 c1])) (g := g1) (z := z1) (List.mem_cons_of_mem _ (List.mem_cons_self ..))) Hx1.out (ST8.out.get (v := (.agg #[.bool g2, .slice a2 n2 c2])) (g := g2) (z := z2) (List.mem_cons_self ..)) Hx2.out)
  rw [Ho.out] at C9
  refine C9.out.mono ?_
  rintro e W9 ⟨rfl, hb⟩
  clear qp2_0 qp2_1 qp2_2 qp2_3 qp2_4 qp1_0 qp1_1 qp1_2 qp1_3 qp1_4
  have ST10 := Lib.hid (ST8.out.go hb)
  clear hb
  have qp1_0 := ST10.out.cell (List.mem_cons_of_mem _ (List.mem_cons_of_mem _ (List.mem_cons_self ..))) 0 _ rfl
  have qp1_1 := ST10.out.cell (List.mem_cons_of_mem _ (List.mem_cons_of_mem _ (List.mem_cons_self ..))) 1 _ rfl
  have qp1_2 := ST10.out.cell (List.mem_cons_of_mem _ (List.mem_cons_of_mem _ (List.mem_cons_self ..))) 2 _ rfl
  have qp1_3 := ST10.out.cell (List.mem_cons_of_mem _ (List.mem_cons_of_mem _ (List.mem_cons_self ..))) 3 _ rfl
  have qp1_4 := ST10.out.cell (List.mem_cons_of_mem _ (List.mem_cons_of_mem _ (List.mem_cons_self ..))) 4 _ rfl
  obtain ⟨tb, Htb⟩ : ∃ b, Hid ((o == 0) = b) := ⟨_, Lib.hid rfl⟩
  have htb : (o == 0) = tb := Htb.out
  go_wp2_with (go_at_call 21; refine hold ?_)
  try rw [htb]
  refine Hold.mk ?_
  refine (bool_any (w := W9) tb).mono ?_
  rintro e W11 ⟨⟨n6, a6, c6, d6, rfl, hv⟩, hb⟩
  clear qp1_0 qp1_1 qp1_2 qp1_3 qp1_4
  have ST12 := Lib.hid (ST10.out.next hb hv)
  clear hv hb htb
  have qbo_0 := ST12.out.cell (List.mem_cons_self ..) 0 _ rfl
  have fbo_0 := ST12.out.thaw (List.mem_cons_self ..) 0
  have qbo_1 := ST12.out.cell (List.mem_cons_self ..) 1 _ rfl
  have fbo_1 := ST12.out.thaw (List.mem_cons_self ..) 1
  have qbo_2 := ST12.out.cell (List.mem_cons_self ..) 2 _ rfl
  have fbo_2 := ST12.out.thaw (List.mem_cons_self ..) 2
  have qbo_3 := ST12.out.cell (List.mem_cons_self ..) 3 _ rfl
  have fbo_3 := ST12.out.thaw (List.mem_cons_self ..) 3
  have qbo_4 := ST12.out.cell (List.mem_cons_self ..) 4 _ rfl
  have fbo_4 := ST12.out.thaw (List.mem_cons_self ..) 4
  go_wp2_with fail
  exact finE3 (⟨rfl, rfl, rfl, Htb.out, rfl, rfl⟩) rfl (show BoxK W11 bo _ _ _ _ _ _ _ from (ST12.out.boxes _ (List.mem_cons_self ..)).1) ST12.out.below (ST12.out.boxes _ (List.mem_cons_self ..)).2 (ST12.out.getC (v := (.agg #[.bool n6, .slice a6 c6 d6])) (i := 0) (List.mem_cons_self ..)) rfl rfl rfl

set_option maxRecDepth 100000 in
set_option maxHeartbeats 3200000 in
theorem compare_ne {w : World} {k1 : Int} {g1 : Bool} {a1 : Option Addr} {n1 c1 : Nat} {s1 : ByteArray} {t1 : Bool} {z1 : List Nat} {x1 : Int} {k2 : Int} {g2 : Bool} {a2 : Option Addr} {n2 c2 : Nat} {s2 : ByteArray} {t2 : Bool} {z2 : List Nat} {x2 : Int} (h1 : IntV w (.agg #[.bool g1, .slice a1 n1 c1]) g1 z1) (hx1 : valI g1 z1 = x1) (h2 : IntV w (.agg #[.bool g2, .slice a2 n2 c2]) g2 z2) (hx2 : valI g2 z2 = x2)  :
    Calls Tryd.prog 46 #[.string ⟨#[33, 61]⟩, .agg #[.int .i64 k1, .bool g1, .slice a1 n1 c1, .string s1, .bool t1], .agg #[.int .i64 k2, .bool g2, .slice a2 n2 c2, .string s2, .bool t2]] w fun e w' => Kon3 w' e 3 0 ⟨#[]⟩ (ordK k1 x1 x2 s1 s2 t1 t2 != 0) 0 true ∧ Below w.heap.size w w' := by
  have ST0 := Lib.hid (Sk.start w)
  have Hx1 := Lib.hid hx1
  have ST1 := Lib.hid (ST0.out.num h1)
  clear h1 hx1
  have Hx2 := Lib.hid hx2
  have ST2 := Lib.hid (ST1.out.num h2)
  clear h2 hx2
  obtain ⟨o, Ho⟩ : ∃ o, Hid (ordK k1 x1 x2 s1 s2 t1 t2 = o) := ⟨_, Lib.hid rfl⟩
  rw [Ho.out]
  go_enter Tryd.func46, Tryd.ntmps46
  go_upto_region 1 with fail
  obtain ⟨W3, HW3⟩ : ∃ W', Hid (W' = w.alloc (.cells #[(.int .i64 k1), (.bool g1), (.slice a1 n1 c1), (.string s1), (.bool t1)] 26)) := ⟨_, Lib.hid rfl⟩
  obtain ⟨p1, Hp1⟩ : ∃ b, Hid (b = w.heap.size) := ⟨_, Lib.hid rfl⟩
  have ST4 := Lib.hid (ST2.out.box Hp1.out HW3.out)
  obtain ⟨W5, HW5⟩ : ∃ W', Hid (W' = W3.alloc (.cells #[(.int .i64 k2), (.bool g2), (.slice a2 n2 c2), (.string s2), (.bool t2)] 26)) := ⟨_, Lib.hid rfl⟩
  obtain ⟨p2, Hp2⟩ : ∃ b, Hid (b = W3.heap.size) := ⟨_, Lib.hid rfl⟩
  have Op2 := Lib.hid (ST4.out.old Hp2.out)
  have ST6 := Lib.hid (ST4.out.box Hp2.out HW5.out)
  obtain ⟨W7, HW7⟩ : ∃ W', Hid (W' = W5.alloc (.cells #[(.int .i64 0), (.bool false), (.slice none 0 0), (.string ⟨#[]⟩), (.bool false)] 26)) := ⟨_, Lib.hid rfl⟩
  obtain ⟨bo, Hbo⟩ : ∃ b, Hid (b = W5.heap.size) := ⟨_, Lib.hid rfl⟩
  have Obo := Lib.hid (ST6.out.old Hbo.out)
  have ST8 := Lib.hid (ST6.out.box Hbo.out HW7.out)
  have hz2 : w.heap.size + 2 = bo := by rw [Hbo.out, HW5.out, World.size_alloc, HW3.out, World.size_alloc]
  have hz1 : w.heap.size + 1 = p2 := by rw [Hp2.out, HW3.out, World.size_alloc]
  rw [← HW3.out, ← HW5.out, ← HW7.out]
  try rw [hz2]
  try rw [hz1]
  try rw [← Hp1.out]
  clear hz1 hz2
  have qp2_0 := ST8.out.cell (List.mem_cons_of_mem _ (List.mem_cons_self ..)) 0 _ rfl
  have qp2_1 := ST8.out.cell (List.mem_cons_of_mem _ (List.mem_cons_self ..)) 1 _ rfl
  have qp2_2 := ST8.out.cell (List.mem_cons_of_mem _ (List.mem_cons_self ..)) 2 _ rfl
  have qp2_3 := ST8.out.cell (List.mem_cons_of_mem _ (List.mem_cons_self ..)) 3 _ rfl
  have qp2_4 := ST8.out.cell (List.mem_cons_of_mem _ (List.mem_cons_self ..)) 4 _ rfl
  have qp1_0 := ST8.out.cell (List.mem_cons_of_mem _ (List.mem_cons_of_mem _ (List.mem_cons_self ..))) 0 _ rfl
  have qp1_1 := ST8.out.cell (List.mem_cons_of_mem _ (List.mem_cons_of_mem _ (List.mem_cons_self ..))) 1 _ rfl
  have qp1_2 := ST8.out.cell (List.mem_cons_of_mem _ (List.mem_cons_of_mem _ (List.mem_cons_self ..))) 2 _ rfl
  have qp1_3 := ST8.out.cell (List.mem_cons_of_mem _ (List.mem_cons_of_mem _ (List.mem_cons_self ..))) 3 _ rfl
  have qp1_4 := ST8.out.cell (List.mem_cons_of_mem _ (List.mem_cons_of_mem _ (List.mem_cons_self ..))) 4 _ rfl
  go_wp2_with (go_at_call 29; refine hold ?_)
  refine Hold.mk ?_
  have C9 := Lib.hid (order_any (k1 := k1) (k2 := k2) (s1 := s1) (s2 := s2) (t1 := t1) (t2 := t2) (ST8.out.get (v := (.agg #[.bool g1, .slice a1 n1 c1])) (g := g1) (z := z1) (List.mem_cons_of_mem _ (List.mem_cons_self ..))) Hx1.out (ST8.out.get (v := (.agg #[.bool g2, .slice a2 n2 c2])) (g := g2) (z := z2) (List.mem_cons_self ..)) Hx2.out)
  rw [Ho.out] at C9
  refine C9.out.mono ?_
  rintro e W9 ⟨rfl, hb⟩
  clear qp2_0 qp2_1 qp2_2 qp2_3 qp2_4 qp1_0 qp1_1 qp1_2 qp1_3 qp1_4
  have ST10 := Lib.hid (ST8.out.go hb)
  clear hb
  have qp1_0 := ST10.out.cell (List.mem_cons_of_mem _ (List.mem_cons_of_mem _ (List.mem_cons_self ..))) 0 _ rfl
  have qp1_1 := ST10.out.cell (List.mem_cons_of_mem _ (List.mem_cons_of_mem _ (List.mem_cons_self ..))) 1 _ rfl
  have qp1_2 := ST10.out.cell (List.mem_cons_of_mem _ (List.mem_cons_of_mem _ (List.mem_cons_self ..))) 2 _ rfl
  have qp1_3 := ST10.out.cell (List.mem_cons_of_mem _ (List.mem_cons_of_mem _ (List.mem_cons_self ..))) 3 _ rfl
  have qp1_4 := ST10.out.cell (List.mem_cons_of_mem _ (List.mem_cons_of_mem _ (List.mem_cons_self ..))) 4 _ rfl
  obtain ⟨tb, Htb⟩ : ∃ b, Hid ((o != 0) = b) := ⟨_, Lib.hid rfl⟩
  have htb : (o != 0) = tb := Htb.out
  go_wp2_with (go_at_call 21; refine hold ?_)
  try rw [htb]
  refine Hold.mk ?_
  refine (bool_any (w := W9) tb).mono ?_
  rintro e W11 ⟨⟨n6, a6, c6, d6, rfl, hv⟩, hb⟩
  clear qp1_0 qp1_1 qp1_2 qp1_3 qp1_4
  have ST12 := Lib.hid (ST10.out.next hb hv)
  clear hv hb htb
  have qbo_0 := ST12.out.cell (List.mem_cons_self ..) 0 _ rfl
  have fbo_0 := ST12.out.thaw (List.mem_cons_self ..) 0
  have qbo_1 := ST12.out.cell (List.mem_cons_self ..) 1 _ rfl
  have fbo_1 := ST12.out.thaw (List.mem_cons_self ..) 1
  have qbo_2 := ST12.out.cell (List.mem_cons_self ..) 2 _ rfl
  have fbo_2 := ST12.out.thaw (List.mem_cons_self ..) 2
  have qbo_3 := ST12.out.cell (List.mem_cons_self ..) 3 _ rfl
  have fbo_3 := ST12.out.thaw (List.mem_cons_self ..) 3
  have qbo_4 := ST12.out.cell (List.mem_cons_self ..) 4 _ rfl
  have fbo_4 := ST12.out.thaw (List.mem_cons_self ..) 4
  go_wp2_with fail
  exact finE3 (⟨rfl, rfl, rfl, Htb.out, rfl, rfl⟩) rfl (show BoxK W11 bo _ _ _ _ _ _ _ from (ST12.out.boxes _ (List.mem_cons_self ..)).1) ST12.out.below (ST12.out.boxes _ (List.mem_cons_self ..)).2 (ST12.out.getC (v := (.agg #[.bool n6, .slice a6 c6 d6])) (i := 0) (List.mem_cons_self ..)) rfl rfl rfl

set_option maxRecDepth 100000 in
set_option maxHeartbeats 3200000 in
theorem compare_lt {w : World} {k1 : Int} {g1 : Bool} {a1 : Option Addr} {n1 c1 : Nat} {s1 : ByteArray} {t1 : Bool} {z1 : List Nat} {x1 : Int} {k2 : Int} {g2 : Bool} {a2 : Option Addr} {n2 c2 : Nat} {s2 : ByteArray} {t2 : Bool} {z2 : List Nat} {x2 : Int} (h1 : IntV w (.agg #[.bool g1, .slice a1 n1 c1]) g1 z1) (hx1 : valI g1 z1 = x1) (h2 : IntV w (.agg #[.bool g2, .slice a2 n2 c2]) g2 z2) (hx2 : valI g2 z2 = x2) (hk3 : k1 ≠ 3) :
    Calls Tryd.prog 46 #[.string ⟨#[60]⟩, .agg #[.int .i64 k1, .bool g1, .slice a1 n1 c1, .string s1, .bool t1], .agg #[.int .i64 k2, .bool g2, .slice a2 n2 c2, .string s2, .bool t2]] w fun e w' => Kon3 w' e 3 0 ⟨#[]⟩ (decide (ordK k1 x1 x2 s1 s2 t1 t2 < 0)) 0 true ∧ Below w.heap.size w w' := by
  have ST0 := Lib.hid (Sk.start w)
  have Hx1 := Lib.hid hx1
  have ST1 := Lib.hid (ST0.out.num h1)
  clear h1 hx1
  have Hx2 := Lib.hid hx2
  have ST2 := Lib.hid (ST1.out.num h2)
  clear h2 hx2
  obtain ⟨o, Ho⟩ : ∃ o, Hid (ordK k1 x1 x2 s1 s2 t1 t2 = o) := ⟨_, Lib.hid rfl⟩
  rw [Ho.out]
  have hk : (k1 == 3) = false := by simpa using hk3
  clear hk3
  go_enter Tryd.func46, Tryd.ntmps46
  go_upto_region 1 with fail
  obtain ⟨W3, HW3⟩ : ∃ W', Hid (W' = w.alloc (.cells #[(.int .i64 k1), (.bool g1), (.slice a1 n1 c1), (.string s1), (.bool t1)] 26)) := ⟨_, Lib.hid rfl⟩
  obtain ⟨p1, Hp1⟩ : ∃ b, Hid (b = w.heap.size) := ⟨_, Lib.hid rfl⟩
  have ST4 := Lib.hid (ST2.out.box Hp1.out HW3.out)
  obtain ⟨W5, HW5⟩ : ∃ W', Hid (W' = W3.alloc (.cells #[(.int .i64 k2), (.bool g2), (.slice a2 n2 c2), (.string s2), (.bool t2)] 26)) := ⟨_, Lib.hid rfl⟩
  obtain ⟨p2, Hp2⟩ : ∃ b, Hid (b = W3.heap.size) := ⟨_, Lib.hid rfl⟩
  have Op2 := Lib.hid (ST4.out.old Hp2.out)
  have ST6 := Lib.hid (ST4.out.box Hp2.out HW5.out)
  obtain ⟨W7, HW7⟩ : ∃ W', Hid (W' = W5.alloc (.cells #[(.int .i64 0), (.bool false), (.slice none 0 0), (.string ⟨#[]⟩), (.bool false)] 26)) := ⟨_, Lib.hid rfl⟩
  obtain ⟨bo, Hbo⟩ : ∃ b, Hid (b = W5.heap.size) := ⟨_, Lib.hid rfl⟩
  have Obo := Lib.hid (ST6.out.old Hbo.out)
  have ST8 := Lib.hid (ST6.out.box Hbo.out HW7.out)
  have hz2 : w.heap.size + 2 = bo := by rw [Hbo.out, HW5.out, World.size_alloc, HW3.out, World.size_alloc]
  have hz1 : w.heap.size + 1 = p2 := by rw [Hp2.out, HW3.out, World.size_alloc]
  rw [← HW3.out, ← HW5.out, ← HW7.out]
  try rw [hz2]
  try rw [hz1]
  try rw [← Hp1.out]
  clear hz1 hz2
  have qp2_0 := ST8.out.cell (List.mem_cons_of_mem _ (List.mem_cons_self ..)) 0 _ rfl
  have qp2_1 := ST8.out.cell (List.mem_cons_of_mem _ (List.mem_cons_self ..)) 1 _ rfl
  have qp2_2 := ST8.out.cell (List.mem_cons_of_mem _ (List.mem_cons_self ..)) 2 _ rfl
  have qp2_3 := ST8.out.cell (List.mem_cons_of_mem _ (List.mem_cons_self ..)) 3 _ rfl
  have qp2_4 := ST8.out.cell (List.mem_cons_of_mem _ (List.mem_cons_self ..)) 4 _ rfl
  have qp1_0 := ST8.out.cell (List.mem_cons_of_mem _ (List.mem_cons_of_mem _ (List.mem_cons_self ..))) 0 _ rfl
  have qp1_1 := ST8.out.cell (List.mem_cons_of_mem _ (List.mem_cons_of_mem _ (List.mem_cons_self ..))) 1 _ rfl
  have qp1_2 := ST8.out.cell (List.mem_cons_of_mem _ (List.mem_cons_of_mem _ (List.mem_cons_self ..))) 2 _ rfl
  have qp1_3 := ST8.out.cell (List.mem_cons_of_mem _ (List.mem_cons_of_mem _ (List.mem_cons_self ..))) 3 _ rfl
  have qp1_4 := ST8.out.cell (List.mem_cons_of_mem _ (List.mem_cons_of_mem _ (List.mem_cons_self ..))) 4 _ rfl
  go_wp2_with (go_at_call 29; refine hold ?_)
  refine Hold.mk ?_
  have C9 := Lib.hid (order_any (k1 := k1) (k2 := k2) (s1 := s1) (s2 := s2) (t1 := t1) (t2 := t2) (ST8.out.get (v := (.agg #[.bool g1, .slice a1 n1 c1])) (g := g1) (z := z1) (List.mem_cons_of_mem _ (List.mem_cons_self ..))) Hx1.out (ST8.out.get (v := (.agg #[.bool g2, .slice a2 n2 c2])) (g := g2) (z := z2) (List.mem_cons_self ..)) Hx2.out)
  rw [Ho.out] at C9
  refine C9.out.mono ?_
  rintro e W9 ⟨rfl, hb⟩
  clear qp2_0 qp2_1 qp2_2 qp2_3 qp2_4 qp1_0 qp1_1 qp1_2 qp1_3 qp1_4
  have ST10 := Lib.hid (ST8.out.go hb)
  clear hb
  have qp1_0 := ST10.out.cell (List.mem_cons_of_mem _ (List.mem_cons_of_mem _ (List.mem_cons_self ..))) 0 _ rfl
  have qp1_1 := ST10.out.cell (List.mem_cons_of_mem _ (List.mem_cons_of_mem _ (List.mem_cons_self ..))) 1 _ rfl
  have qp1_2 := ST10.out.cell (List.mem_cons_of_mem _ (List.mem_cons_of_mem _ (List.mem_cons_self ..))) 2 _ rfl
  have qp1_3 := ST10.out.cell (List.mem_cons_of_mem _ (List.mem_cons_of_mem _ (List.mem_cons_self ..))) 3 _ rfl
  have qp1_4 := ST10.out.cell (List.mem_cons_of_mem _ (List.mem_cons_of_mem _ (List.mem_cons_self ..))) 4 _ rfl
  obtain ⟨tb, Htb⟩ : ∃ b, Hid (decide (o < 0) = b) := ⟨_, Lib.hid rfl⟩
  have htb : decide (o < 0) = tb := Htb.out
  go_wp2_with (go_at_call 21; refine hold ?_)
  try rw [htb]
  refine Hold.mk ?_
  refine (bool_any (w := W9) tb).mono ?_
  rintro e W11 ⟨⟨n6, a6, c6, d6, rfl, hv⟩, hb⟩
  clear qp1_0 qp1_1 qp1_2 qp1_3 qp1_4
  have ST12 := Lib.hid (ST10.out.next hb hv)
  clear hv hb htb
  have qbo_0 := ST12.out.cell (List.mem_cons_self ..) 0 _ rfl
  have fbo_0 := ST12.out.thaw (List.mem_cons_self ..) 0
  have qbo_1 := ST12.out.cell (List.mem_cons_self ..) 1 _ rfl
  have fbo_1 := ST12.out.thaw (List.mem_cons_self ..) 1
  have qbo_2 := ST12.out.cell (List.mem_cons_self ..) 2 _ rfl
  have fbo_2 := ST12.out.thaw (List.mem_cons_self ..) 2
  have qbo_3 := ST12.out.cell (List.mem_cons_self ..) 3 _ rfl
  have fbo_3 := ST12.out.thaw (List.mem_cons_self ..) 3
  have qbo_4 := ST12.out.cell (List.mem_cons_self ..) 4 _ rfl
  have fbo_4 := ST12.out.thaw (List.mem_cons_self ..) 4
  go_wp2_with fail
  exact finE3 (⟨rfl, rfl, rfl, Htb.out, rfl, rfl⟩) rfl (show BoxK W11 bo _ _ _ _ _ _ _ from (ST12.out.boxes _ (List.mem_cons_self ..)).1) ST12.out.below (ST12.out.boxes _ (List.mem_cons_self ..)).2 (ST12.out.getC (v := (.agg #[.bool n6, .slice a6 c6 d6])) (i := 0) (List.mem_cons_self ..)) rfl rfl rfl

set_option maxRecDepth 100000 in
set_option maxHeartbeats 3200000 in
theorem compare_gt {w : World} {k1 : Int} {g1 : Bool} {a1 : Option Addr} {n1 c1 : Nat} {s1 : ByteArray} {t1 : Bool} {z1 : List Nat} {x1 : Int} {k2 : Int} {g2 : Bool} {a2 : Option Addr} {n2 c2 : Nat} {s2 : ByteArray} {t2 : Bool} {z2 : List Nat} {x2 : Int} (h1 : IntV w (.agg #[.bool g1, .slice a1 n1 c1]) g1 z1) (hx1 : valI g1 z1 = x1) (h2 : IntV w (.agg #[.bool g2, .slice a2 n2 c2]) g2 z2) (hx2 : valI g2 z2 = x2) (hk3 : k1 ≠ 3) :
    Calls Tryd.prog 46 #[.string ⟨#[62]⟩, .agg #[.int .i64 k1, .bool g1, .slice a1 n1 c1, .string s1, .bool t1], .agg #[.int .i64 k2, .bool g2, .slice a2 n2 c2, .string s2, .bool t2]] w fun e w' => Kon3 w' e 3 0 ⟨#[]⟩ (decide (0 < ordK k1 x1 x2 s1 s2 t1 t2)) 0 true ∧ Below w.heap.size w w' := by
  have ST0 := Lib.hid (Sk.start w)
  have Hx1 := Lib.hid hx1
  have ST1 := Lib.hid (ST0.out.num h1)
  clear h1 hx1
  have Hx2 := Lib.hid hx2
  have ST2 := Lib.hid (ST1.out.num h2)
  clear h2 hx2
  obtain ⟨o, Ho⟩ : ∃ o, Hid (ordK k1 x1 x2 s1 s2 t1 t2 = o) := ⟨_, Lib.hid rfl⟩
  rw [Ho.out]
  have hk : (k1 == 3) = false := by simpa using hk3
  clear hk3
  go_enter Tryd.func46, Tryd.ntmps46
  go_upto_region 1 with fail
  obtain ⟨W3, HW3⟩ : ∃ W', Hid (W' = w.alloc (.cells #[(.int .i64 k1), (.bool g1), (.slice a1 n1 c1), (.string s1), (.bool t1)] 26)) := ⟨_, Lib.hid rfl⟩
  obtain ⟨p1, Hp1⟩ : ∃ b, Hid (b = w.heap.size) := ⟨_, Lib.hid rfl⟩
  have ST4 := Lib.hid (ST2.out.box Hp1.out HW3.out)
  obtain ⟨W5, HW5⟩ : ∃ W', Hid (W' = W3.alloc (.cells #[(.int .i64 k2), (.bool g2), (.slice a2 n2 c2), (.string s2), (.bool t2)] 26)) := ⟨_, Lib.hid rfl⟩
  obtain ⟨p2, Hp2⟩ : ∃ b, Hid (b = W3.heap.size) := ⟨_, Lib.hid rfl⟩
  have Op2 := Lib.hid (ST4.out.old Hp2.out)
  have ST6 := Lib.hid (ST4.out.box Hp2.out HW5.out)
  obtain ⟨W7, HW7⟩ : ∃ W', Hid (W' = W5.alloc (.cells #[(.int .i64 0), (.bool false), (.slice none 0 0), (.string ⟨#[]⟩), (.bool false)] 26)) := ⟨_, Lib.hid rfl⟩
  obtain ⟨bo, Hbo⟩ : ∃ b, Hid (b = W5.heap.size) := ⟨_, Lib.hid rfl⟩
  have Obo := Lib.hid (ST6.out.old Hbo.out)
  have ST8 := Lib.hid (ST6.out.box Hbo.out HW7.out)
  have hz2 : w.heap.size + 2 = bo := by rw [Hbo.out, HW5.out, World.size_alloc, HW3.out, World.size_alloc]
  have hz1 : w.heap.size + 1 = p2 := by rw [Hp2.out, HW3.out, World.size_alloc]
  rw [← HW3.out, ← HW5.out, ← HW7.out]
  try rw [hz2]
  try rw [hz1]
  try rw [← Hp1.out]
  clear hz1 hz2
  have qp2_0 := ST8.out.cell (List.mem_cons_of_mem _ (List.mem_cons_self ..)) 0 _ rfl
  have qp2_1 := ST8.out.cell (List.mem_cons_of_mem _ (List.mem_cons_self ..)) 1 _ rfl
  have qp2_2 := ST8.out.cell (List.mem_cons_of_mem _ (List.mem_cons_self ..)) 2 _ rfl
  have qp2_3 := ST8.out.cell (List.mem_cons_of_mem _ (List.mem_cons_self ..)) 3 _ rfl
  have qp2_4 := ST8.out.cell (List.mem_cons_of_mem _ (List.mem_cons_self ..)) 4 _ rfl
  have qp1_0 := ST8.out.cell (List.mem_cons_of_mem _ (List.mem_cons_of_mem _ (List.mem_cons_self ..))) 0 _ rfl
  have qp1_1 := ST8.out.cell (List.mem_cons_of_mem _ (List.mem_cons_of_mem _ (List.mem_cons_self ..))) 1 _ rfl
  have qp1_2 := ST8.out.cell (List.mem_cons_of_mem _ (List.mem_cons_of_mem _ (List.mem_cons_self ..))) 2 _ rfl
  have qp1_3 := ST8.out.cell (List.mem_cons_of_mem _ (List.mem_cons_of_mem _ (List.mem_cons_self ..))) 3 _ rfl
  have qp1_4 := ST8.out.cell (List.mem_cons_of_mem _ (List.mem_cons_of_mem _ (List.mem_cons_self ..))) 4 _ rfl
  go_wp2_with (go_at_call 29; refine hold ?_)
  refine Hold.mk ?_
  have C9 := Lib.hid (order_any (k1 := k1) (k2 := k2) (s1 := s1) (s2 := s2) (t1 := t1) (t2 := t2) (ST8.out.get (v := (.agg #[.bool g1, .slice a1 n1 c1])) (g := g1) (z := z1) (List.mem_cons_of_mem _ (List.mem_cons_self ..))) Hx1.out (ST8.out.get (v := (.agg #[.bool g2, .slice a2 n2 c2])) (g := g2) (z := z2) (List.mem_cons_self ..)) Hx2.out)
  rw [Ho.out] at C9
  refine C9.out.mono ?_
  rintro e W9 ⟨rfl, hb⟩
  clear qp2_0 qp2_1 qp2_2 qp2_3 qp2_4 qp1_0 qp1_1 qp1_2 qp1_3 qp1_4
  have ST10 := Lib.hid (ST8.out.go hb)
  clear hb
  have qp1_0 := ST10.out.cell (List.mem_cons_of_mem _ (List.mem_cons_of_mem _ (List.mem_cons_self ..))) 0 _ rfl
  have qp1_1 := ST10.out.cell (List.mem_cons_of_mem _ (List.mem_cons_of_mem _ (List.mem_cons_self ..))) 1 _ rfl
  have qp1_2 := ST10.out.cell (List.mem_cons_of_mem _ (List.mem_cons_of_mem _ (List.mem_cons_self ..))) 2 _ rfl
  have qp1_3 := ST10.out.cell (List.mem_cons_of_mem _ (List.mem_cons_of_mem _ (List.mem_cons_self ..))) 3 _ rfl
  have qp1_4 := ST10.out.cell (List.mem_cons_of_mem _ (List.mem_cons_of_mem _ (List.mem_cons_self ..))) 4 _ rfl
  obtain ⟨tb, Htb⟩ : ∃ b, Hid (decide (0 < o) = b) := ⟨_, Lib.hid rfl⟩
  have htb : decide (0 < o) = tb := Htb.out
  go_wp2_with (go_at_call 21; refine hold ?_)
  try rw [htb]
  refine Hold.mk ?_
  refine (bool_any (w := W9) tb).mono ?_
  rintro e W11 ⟨⟨n6, a6, c6, d6, rfl, hv⟩, hb⟩
  clear qp1_0 qp1_1 qp1_2 qp1_3 qp1_4
  have ST12 := Lib.hid (ST10.out.next hb hv)
  clear hv hb htb
  have qbo_0 := ST12.out.cell (List.mem_cons_self ..) 0 _ rfl
  have fbo_0 := ST12.out.thaw (List.mem_cons_self ..) 0
  have qbo_1 := ST12.out.cell (List.mem_cons_self ..) 1 _ rfl
  have fbo_1 := ST12.out.thaw (List.mem_cons_self ..) 1
  have qbo_2 := ST12.out.cell (List.mem_cons_self ..) 2 _ rfl
  have fbo_2 := ST12.out.thaw (List.mem_cons_self ..) 2
  have qbo_3 := ST12.out.cell (List.mem_cons_self ..) 3 _ rfl
  have fbo_3 := ST12.out.thaw (List.mem_cons_self ..) 3
  have qbo_4 := ST12.out.cell (List.mem_cons_self ..) 4 _ rfl
  have fbo_4 := ST12.out.thaw (List.mem_cons_self ..) 4
  go_wp2_with fail
  exact finE3 (⟨rfl, rfl, rfl, Htb.out, rfl, rfl⟩) rfl (show BoxK W11 bo _ _ _ _ _ _ _ from (ST12.out.boxes _ (List.mem_cons_self ..)).1) ST12.out.below (ST12.out.boxes _ (List.mem_cons_self ..)).2 (ST12.out.getC (v := (.agg #[.bool n6, .slice a6 c6 d6])) (i := 0) (List.mem_cons_self ..)) rfl rfl rfl

set_option maxRecDepth 100000 in
set_option maxHeartbeats 3200000 in
theorem compare_lt_no {w : World} {k1 : Int} {g1 : Bool} {a1 : Option Addr} {n1 c1 : Nat} {s1 : ByteArray} {t1 : Bool} {z1 : List Nat} {x1 : Int} {k2 : Int} {g2 : Bool} {a2 : Option Addr} {n2 c2 : Nat} {s2 : ByteArray} {t2 : Bool} {z2 : List Nat} {x2 : Int} (h1 : IntV w (.agg #[.bool g1, .slice a1 n1 c1]) g1 z1) (hx1 : valI g1 z1 = x1) (h2 : IntV w (.agg #[.bool g2, .slice a2 n2 c2]) g2 z2) (hx2 : valI g2 z2 = x2) (hk3 : k1 = 3) :
    Calls Tryd.prog 46 #[.string ⟨#[60]⟩, .agg #[.int .i64 k1, .bool g1, .slice a1 n1 c1, .string s1, .bool t1], .agg #[.int .i64 k2, .bool g2, .slice a2 n2 c2, .string s2, .bool t2]] w fun e w' => Kon3 w' e 0 0 ⟨#[]⟩ false 0 false ∧ Below w.heap.size w w' := by
  have ST0 := Lib.hid (Sk.start w)
  have Hx1 := Lib.hid hx1
  have ST1 := Lib.hid (ST0.out.num h1)
  clear h1 hx1
  have Hx2 := Lib.hid hx2
  have ST2 := Lib.hid (ST1.out.num h2)
  clear h2 hx2
  subst hk3
  go_enter Tryd.func46, Tryd.ntmps46
  go_upto_region 1 with fail
  obtain ⟨W3, HW3⟩ : ∃ W', Hid (W' = w.alloc (.cells #[(.int .i64 3), (.bool g1), (.slice a1 n1 c1), (.string s1), (.bool t1)] 26)) := ⟨_, Lib.hid rfl⟩
  obtain ⟨p1, Hp1⟩ : ∃ b, Hid (b = w.heap.size) := ⟨_, Lib.hid rfl⟩
  have ST4 := Lib.hid (ST2.out.box Hp1.out HW3.out)
  obtain ⟨W5, HW5⟩ : ∃ W', Hid (W' = W3.alloc (.cells #[(.int .i64 k2), (.bool g2), (.slice a2 n2 c2), (.string s2), (.bool t2)] 26)) := ⟨_, Lib.hid rfl⟩
  obtain ⟨p2, Hp2⟩ : ∃ b, Hid (b = W3.heap.size) := ⟨_, Lib.hid rfl⟩
  have Op2 := Lib.hid (ST4.out.old Hp2.out)
  have ST6 := Lib.hid (ST4.out.box Hp2.out HW5.out)
  obtain ⟨W7, HW7⟩ : ∃ W', Hid (W' = W5.alloc (.cells #[(.int .i64 0), (.bool false), (.slice none 0 0), (.string ⟨#[]⟩), (.bool false)] 26)) := ⟨_, Lib.hid rfl⟩
  obtain ⟨bo, Hbo⟩ : ∃ b, Hid (b = W5.heap.size) := ⟨_, Lib.hid rfl⟩
  have Obo := Lib.hid (ST6.out.old Hbo.out)
  have ST8 := Lib.hid (ST6.out.box Hbo.out HW7.out)
  have hz2 : w.heap.size + 2 = bo := by rw [Hbo.out, HW5.out, World.size_alloc, HW3.out, World.size_alloc]
  have hz1 : w.heap.size + 1 = p2 := by rw [Hp2.out, HW3.out, World.size_alloc]
  rw [← HW3.out, ← HW5.out, ← HW7.out]
  try rw [hz2]
  try rw [hz1]
  try rw [← Hp1.out]
  clear hz1 hz2
  have qp2_0 := ST8.out.cell (List.mem_cons_of_mem _ (List.mem_cons_self ..)) 0 _ rfl
  have qp2_1 := ST8.out.cell (List.mem_cons_of_mem _ (List.mem_cons_self ..)) 1 _ rfl
  have qp2_2 := ST8.out.cell (List.mem_cons_of_mem _ (List.mem_cons_self ..)) 2 _ rfl
  have qp2_3 := ST8.out.cell (List.mem_cons_of_mem _ (List.mem_cons_self ..)) 3 _ rfl
  have qp2_4 := ST8.out.cell (List.mem_cons_of_mem _ (List.mem_cons_self ..)) 4 _ rfl
  have qp1_0 := ST8.out.cell (List.mem_cons_of_mem _ (List.mem_cons_of_mem _ (List.mem_cons_self ..))) 0 _ rfl
  have qp1_1 := ST8.out.cell (List.mem_cons_of_mem _ (List.mem_cons_of_mem _ (List.mem_cons_self ..))) 1 _ rfl
  have qp1_2 := ST8.out.cell (List.mem_cons_of_mem _ (List.mem_cons_of_mem _ (List.mem_cons_self ..))) 2 _ rfl
  have qp1_3 := ST8.out.cell (List.mem_cons_of_mem _ (List.mem_cons_of_mem _ (List.mem_cons_self ..))) 3 _ rfl
  have qp1_4 := ST8.out.cell (List.mem_cons_of_mem _ (List.mem_cons_of_mem _ (List.mem_cons_self ..))) 4 _ rfl
  obtain ⟨o, Ho⟩ : ∃ o, Hid (ordK 3 x1 x2 s1 s2 t1 t2 = o) := ⟨_, Lib.hid rfl⟩
  go_wp2_with (go_at_call 29; refine hold ?_)
  refine Hold.mk ?_
  have C9 := Lib.hid (order_any (k1 := 3) (k2 := k2) (s1 := s1) (s2 := s2) (t1 := t1) (t2 := t2) (ST8.out.get (v := (.agg #[.bool g1, .slice a1 n1 c1])) (g := g1) (z := z1) (List.mem_cons_of_mem _ (List.mem_cons_self ..))) Hx1.out (ST8.out.get (v := (.agg #[.bool g2, .slice a2 n2 c2])) (g := g2) (z := z2) (List.mem_cons_self ..)) Hx2.out)
  rw [Ho.out] at C9
  refine C9.out.mono ?_
  rintro e W9 ⟨rfl, hb⟩
  clear qp2_0 qp2_1 qp2_2 qp2_3 qp2_4 qp1_0 qp1_1 qp1_2 qp1_3 qp1_4
  have ST10 := Lib.hid (ST8.out.go hb)
  clear hb
  have qbo_0 := ST10.out.cell (List.mem_cons_self ..) 0 _ rfl
  have fbo_0 := ST10.out.thaw (List.mem_cons_self ..) 0
  have qbo_1 := ST10.out.cell (List.mem_cons_self ..) 1 _ rfl
  have fbo_1 := ST10.out.thaw (List.mem_cons_self ..) 1
  have qbo_2 := ST10.out.cell (List.mem_cons_self ..) 2 _ rfl
  have fbo_2 := ST10.out.thaw (List.mem_cons_self ..) 2
  have qbo_3 := ST10.out.cell (List.mem_cons_self ..) 3 _ rfl
  have fbo_3 := ST10.out.thaw (List.mem_cons_self ..) 3
  have qbo_4 := ST10.out.cell (List.mem_cons_self ..) 4 _ rfl
  have fbo_4 := ST10.out.thaw (List.mem_cons_self ..) 4
  have qp1_0 := ST10.out.cell (List.mem_cons_of_mem _ (List.mem_cons_of_mem _ (List.mem_cons_self ..))) 0 _ rfl
  have qp1_1 := ST10.out.cell (List.mem_cons_of_mem _ (List.mem_cons_of_mem _ (List.mem_cons_self ..))) 1 _ rfl
  have qp1_2 := ST10.out.cell (List.mem_cons_of_mem _ (List.mem_cons_of_mem _ (List.mem_cons_self ..))) 2 _ rfl
  have qp1_3 := ST10.out.cell (List.mem_cons_of_mem _ (List.mem_cons_of_mem _ (List.mem_cons_self ..))) 3 _ rfl
  have qp1_4 := ST10.out.cell (List.mem_cons_of_mem _ (List.mem_cons_of_mem _ (List.mem_cons_self ..))) 4 _ rfl
  go_wp2_with fail
  exact finK3 rfl (show BoxK W9 bo _ _ _ _ _ _ _ from (ST10.out.boxes _ (List.mem_cons_self ..)).1) ST10.out.below (ST10.out.boxes _ (List.mem_cons_self ..)).2 (intC_zero _) rfl rfl rfl

set_option maxRecDepth 100000 in
set_option maxHeartbeats 3200000 in
theorem compare_gt_no {w : World} {k1 : Int} {g1 : Bool} {a1 : Option Addr} {n1 c1 : Nat} {s1 : ByteArray} {t1 : Bool} {z1 : List Nat} {x1 : Int} {k2 : Int} {g2 : Bool} {a2 : Option Addr} {n2 c2 : Nat} {s2 : ByteArray} {t2 : Bool} {z2 : List Nat} {x2 : Int} (h1 : IntV w (.agg #[.bool g1, .slice a1 n1 c1]) g1 z1) (hx1 : valI g1 z1 = x1) (h2 : IntV w (.agg #[.bool g2, .slice a2 n2 c2]) g2 z2) (hx2 : valI g2 z2 = x2) (hk3 : k1 = 3) :
    Calls Tryd.prog 46 #[.string ⟨#[62]⟩, .agg #[.int .i64 k1, .bool g1, .slice a1 n1 c1, .string s1, .bool t1], .agg #[.int .i64 k2, .bool g2, .slice a2 n2 c2, .string s2, .bool t2]] w fun e w' => Kon3 w' e 0 0 ⟨#[]⟩ false 0 false ∧ Below w.heap.size w w' := by
  have ST0 := Lib.hid (Sk.start w)
  have Hx1 := Lib.hid hx1
  have ST1 := Lib.hid (ST0.out.num h1)
  clear h1 hx1
  have Hx2 := Lib.hid hx2
  have ST2 := Lib.hid (ST1.out.num h2)
  clear h2 hx2
  subst hk3
  go_enter Tryd.func46, Tryd.ntmps46
  go_upto_region 1 with fail
  obtain ⟨W3, HW3⟩ : ∃ W', Hid (W' = w.alloc (.cells #[(.int .i64 3), (.bool g1), (.slice a1 n1 c1), (.string s1), (.bool t1)] 26)) := ⟨_, Lib.hid rfl⟩
  obtain ⟨p1, Hp1⟩ : ∃ b, Hid (b = w.heap.size) := ⟨_, Lib.hid rfl⟩
  have ST4 := Lib.hid (ST2.out.box Hp1.out HW3.out)
  obtain ⟨W5, HW5⟩ : ∃ W', Hid (W' = W3.alloc (.cells #[(.int .i64 k2), (.bool g2), (.slice a2 n2 c2), (.string s2), (.bool t2)] 26)) := ⟨_, Lib.hid rfl⟩
  obtain ⟨p2, Hp2⟩ : ∃ b, Hid (b = W3.heap.size) := ⟨_, Lib.hid rfl⟩
  have Op2 := Lib.hid (ST4.out.old Hp2.out)
  have ST6 := Lib.hid (ST4.out.box Hp2.out HW5.out)
  obtain ⟨W7, HW7⟩ : ∃ W', Hid (W' = W5.alloc (.cells #[(.int .i64 0), (.bool false), (.slice none 0 0), (.string ⟨#[]⟩), (.bool false)] 26)) := ⟨_, Lib.hid rfl⟩
  obtain ⟨bo, Hbo⟩ : ∃ b, Hid (b = W5.heap.size) := ⟨_, Lib.hid rfl⟩
  have Obo := Lib.hid (ST6.out.old Hbo.out)
  have ST8 := Lib.hid (ST6.out.box Hbo.out HW7.out)
  have hz2 : w.heap.size + 2 = bo := by rw [Hbo.out, HW5.out, World.size_alloc, HW3.out, World.size_alloc]
  have hz1 : w.heap.size + 1 = p2 := by rw [Hp2.out, HW3.out, World.size_alloc]
  rw [← HW3.out, ← HW5.out, ← HW7.out]
  try rw [hz2]
  try rw [hz1]
  try rw [← Hp1.out]
  clear hz1 hz2
  have qp2_0 := ST8.out.cell (List.mem_cons_of_mem _ (List.mem_cons_self ..)) 0 _ rfl
  have qp2_1 := ST8.out.cell (List.mem_cons_of_mem _ (List.mem_cons_self ..)) 1 _ rfl
  have qp2_2 := ST8.out.cell (List.mem_cons_of_mem _ (List.mem_cons_self ..)) 2 _ rfl
  have qp2_3 := ST8.out.cell (List.mem_cons_of_mem _ (List.mem_cons_self ..)) 3 _ rfl
  have qp2_4 := ST8.out.cell (List.mem_cons_of_mem _ (List.mem_cons_self ..)) 4 _ rfl
  have qp1_0 := ST8.out.cell (List.mem_cons_of_mem _ (List.mem_cons_of_mem _ (List.mem_cons_self ..))) 0 _ rfl
  have qp1_1 := ST8.out.cell (List.mem_cons_of_mem _ (List.mem_cons_of_mem _ (List.mem_cons_self ..))) 1 _ rfl
  have qp1_2 := ST8.out.cell (List.mem_cons_of_mem _ (List.mem_cons_of_mem _ (List.mem_cons_self ..))) 2 _ rfl
  have qp1_3 := ST8.out.cell (List.mem_cons_of_mem _ (List.mem_cons_of_mem _ (List.mem_cons_self ..))) 3 _ rfl
  have qp1_4 := ST8.out.cell (List.mem_cons_of_mem _ (List.mem_cons_of_mem _ (List.mem_cons_self ..))) 4 _ rfl
  obtain ⟨o, Ho⟩ : ∃ o, Hid (ordK 3 x1 x2 s1 s2 t1 t2 = o) := ⟨_, Lib.hid rfl⟩
  go_wp2_with (go_at_call 29; refine hold ?_)
  refine Hold.mk ?_
  have C9 := Lib.hid (order_any (k1 := 3) (k2 := k2) (s1 := s1) (s2 := s2) (t1 := t1) (t2 := t2) (ST8.out.get (v := (.agg #[.bool g1, .slice a1 n1 c1])) (g := g1) (z := z1) (List.mem_cons_of_mem _ (List.mem_cons_self ..))) Hx1.out (ST8.out.get (v := (.agg #[.bool g2, .slice a2 n2 c2])) (g := g2) (z := z2) (List.mem_cons_self ..)) Hx2.out)
  rw [Ho.out] at C9
  refine C9.out.mono ?_
  rintro e W9 ⟨rfl, hb⟩
  clear qp2_0 qp2_1 qp2_2 qp2_3 qp2_4 qp1_0 qp1_1 qp1_2 qp1_3 qp1_4
  have ST10 := Lib.hid (ST8.out.go hb)
  clear hb
  have qbo_0 := ST10.out.cell (List.mem_cons_self ..) 0 _ rfl
  have fbo_0 := ST10.out.thaw (List.mem_cons_self ..) 0
  have qbo_1 := ST10.out.cell (List.mem_cons_self ..) 1 _ rfl
  have fbo_1 := ST10.out.thaw (List.mem_cons_self ..) 1
  have qbo_2 := ST10.out.cell (List.mem_cons_self ..) 2 _ rfl
  have fbo_2 := ST10.out.thaw (List.mem_cons_self ..) 2
  have qbo_3 := ST10.out.cell (List.mem_cons_self ..) 3 _ rfl
  have fbo_3 := ST10.out.thaw (List.mem_cons_self ..) 3
  have qbo_4 := ST10.out.cell (List.mem_cons_self ..) 4 _ rfl
  have fbo_4 := ST10.out.thaw (List.mem_cons_self ..) 4
  have qp1_0 := ST10.out.cell (List.mem_cons_of_mem _ (List.mem_cons_of_mem _ (List.mem_cons_self ..))) 0 _ rfl
  have qp1_1 := ST10.out.cell (List.mem_cons_of_mem _ (List.mem_cons_of_mem _ (List.mem_cons_self ..))) 1 _ rfl
  have qp1_2 := ST10.out.cell (List.mem_cons_of_mem _ (List.mem_cons_of_mem _ (List.mem_cons_self ..))) 2 _ rfl
  have qp1_3 := ST10.out.cell (List.mem_cons_of_mem _ (List.mem_cons_of_mem _ (List.mem_cons_self ..))) 3 _ rfl
  have qp1_4 := ST10.out.cell (List.mem_cons_of_mem _ (List.mem_cons_of_mem _ (List.mem_cons_self ..))) 4 _ rfl
  go_wp2_with fail
  exact finK3 rfl (show BoxK W9 bo _ _ _ _ _ _ _ from (ST10.out.boxes _ (List.mem_cons_self ..)).1) ST10.out.below (ST10.out.boxes _ (List.mem_cons_self ..)).2 (intC_zero _) rfl rfl rfl

end Go.Proofs.YtahgbbnpbhfaeaaDoor
