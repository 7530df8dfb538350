/- konst.Text of ints and bools; what the document fixes (recastlaw10.awake). No condition. -/
import Derived.Test.YtahgbbnpbhfaeaaDoorKnOps
import Derived.Test.YtahgbbnpbhfaeaaDoorExText
namespace Go.Proofs.YtahgbbnpbhfaeaaDoor
open Go.RowKit

theorem IntC.flag {w : World} {b : Bool} {a : Option Addr} {n c : Nat} {i : Int} (h : IntC w (.agg #[.bool b, .slice a n c]) i) : IntV w (.agg #[.bool b, .slice a n c]) b (canW i.natAbs) ∧ valI b (canW i.natAbs) = i := by
  have h2 : IntV w (.agg #[.bool b, .slice a n c]) (decide (i < 0)) (canW i.natAbs) := h
  have hb : b = decide (i < 0) := by
    obtain ⟨a', n', c', e, _⟩ := h2
    simp only [Value.agg.injEq, Array.mk.injEq, List.cons.injEq, Value.bool.injEq] at e
    exact e.1
  rw [← hb] at h2
  refine ⟨h2, ?_⟩
  rw [hb]
  exact valI_can i
theorem quo72 : quoK (-7) 2 = 0 ∧ quoV (-7) 2 = -3 := by
  have h7 : big (-7) = false := decide_eq_false (lt512 (by decide))
  have h2 : big 2 = false := decide_eq_false (lt512 (by decide))
  have hk : quoK (-7) 2 = 0 := by unfold quoK; rw [h7, h2]; rfl
  refine ⟨hk, ?_⟩
  unfold quoV
  rw [if_pos hk]
  rfl
theorem strL_m3 : strL (decI (-3)) = ⟨#[45, 51]⟩ := by unfold decI; rw [if_pos (by decide), show (-3 : Int).natAbs = 3 from rfl, decN_small (by decide)]; rfl
/-- A truth value, written. -/
def boolS (t : Bool) : ByteArray := if t then ⟨#[116, 114, 117, 101]⟩ else ⟨#[102, 97, 108, 115, 101]⟩

set_option maxRecDepth 100000 in
set_option maxHeartbeats 3200000 in
theorem ktext_int {w : World} {k1 : Int} {g1 : Bool} {a1 : Option Addr} {n1 c1 : Nat} {s1 : ByteArray} {t1 : Bool} {z1 : List Nat} {x1 : Int} (h1 : IntV w (.agg #[.bool g1, .slice a1 n1 c1]) g1 z1) (hx1 : valI g1 z1 = x1) (hk1 : k1 = 1) :
    Calls Tryd.prog 12 #[.agg #[.int .i64 k1, .bool g1, .slice a1 n1 c1, .string s1, .bool t1]] w fun e w' => e = .returned (.string (strL (decI x1))) ∧ Below w.heap.size w w' := by
  have ST0 := Lib.hid (Sk.start w)
  have Hx1 := Lib.hid hx1
  have ST1 := Lib.hid (ST0.out.num h1)
  clear h1 hx1
  subst hk1
  go_enter Tryd.func12, Tryd.ntmps12
  go_upto_region 1 with fail
  obtain ⟨W2, HW2⟩ : ∃ W', Hid (W' = w.alloc (.cells #[(.int .i64 1), (.bool g1), (.slice a1 n1 c1), (.string s1), (.bool t1)] 26)) := ⟨_, Lib.hid rfl⟩
  obtain ⟨p1, Hp1⟩ : ∃ b, Hid (b = w.heap.size) := ⟨_, Lib.hid rfl⟩
  have ST3 := Lib.hid (ST1.out.box Hp1.out HW2.out)
  rw [← HW2.out]
  try rw [← Hp1.out]
  have qp1_0 := ST3.out.cell (List.mem_cons_self ..) 0 _ rfl
  have qp1_1 := ST3.out.cell (List.mem_cons_self ..) 1 _ rfl
  have qp1_2 := ST3.out.cell (List.mem_cons_self ..) 2 _ rfl
  have qp1_3 := ST3.out.cell (List.mem_cons_self ..) 3 _ rfl
  have qp1_4 := ST3.out.cell (List.mem_cons_self ..) 4 _ rfl
  go_wp2_with (go_at_call 31; refine hold ?_)
  refine Hold.mk ?_
  have C4 := Lib.hid ((show Calls Tryd.prog 31 #[.agg #[.bool g1, .slice a1 n1 c1]] W2 fun e w' => e = .returned (.string (strL (decI x1))) ∧ Below W2.heap.size W2 w' from by have h := text_any _ _ _ _ (ST3.out.get (v := (.agg #[.bool g1, .slice a1 n1 c1])) (g := g1) (z := z1) (List.mem_cons_self ..)); rw [Hx1.out] at h; exact h))
  refine C4.out.mono ?_
  rintro e W4 ⟨rfl, hb⟩
  clear qp1_0 qp1_1 qp1_2 qp1_3 qp1_4
  have ST5 := Lib.hid (ST3.out.go hb)
  clear hb
  go_wp2_with fail
  go_ret
  exact ⟨rfl, ST5.out.below⟩

set_option maxRecDepth 100000 in
set_option maxHeartbeats 3200000 in
theorem ktext_bool {w : World} {k1 : Int} {g1 : Bool} {a1 : Option Addr} {n1 c1 : Nat} {s1 : ByteArray} {t1 : Bool} {z1 : List Nat} {x1 : Int} (h1 : IntV w (.agg #[.bool g1, .slice a1 n1 c1]) g1 z1) (hx1 : valI g1 z1 = x1) (hk1 : k1 = 3) :
    Calls Tryd.prog 12 #[.agg #[.int .i64 k1, .bool g1, .slice a1 n1 c1, .string s1, .bool t1]] w fun e w' => e = .returned (.string (boolS t1)) ∧ Below w.heap.size w w' := by
  have ST0 := Lib.hid (Sk.start w)
  have Hx1 := Lib.hid hx1
  have ST1 := Lib.hid (ST0.out.num h1)
  clear h1 hx1
  subst hk1
  go_enter Tryd.func12, Tryd.ntmps12
  go_upto_region 1 with fail
  obtain ⟨W2, HW2⟩ : ∃ W', Hid (W' = w.alloc (.cells #[(.int .i64 3), (.bool g1), (.slice a1 n1 c1), (.string s1), (.bool t1)] 26)) := ⟨_, Lib.hid rfl⟩
  obtain ⟨p1, Hp1⟩ : ∃ b, Hid (b = w.heap.size) := ⟨_, Lib.hid rfl⟩
  have ST3 := Lib.hid (ST1.out.box Hp1.out HW2.out)
  rw [← HW2.out]
  try rw [← Hp1.out]
  have qp1_0 := ST3.out.cell (List.mem_cons_self ..) 0 _ rfl
  have qp1_1 := ST3.out.cell (List.mem_cons_self ..) 1 _ rfl
  have qp1_2 := ST3.out.cell (List.mem_cons_self ..) 2 _ rfl
  have qp1_3 := ST3.out.cell (List.mem_cons_self ..) 3 _ rfl
  have qp1_4 := ST3.out.cell (List.mem_cons_self ..) 4 _ rfl
  cases t1 with
  | true =>
    go_wp2_with fail
    go_ret
    exact ⟨rfl, ST3.out.below⟩
  | false =>
    go_wp2_with fail
    go_ret
    exact ⟨rfl, ST3.out.below⟩

set_option maxRecDepth 100000 in
set_option maxHeartbeats 3200000 in
theorem kawake_any {w : World}    :
    Calls Tryd.prog 6 #[] w fun e w' => e = .returned (.bool true) ∧ Below w.heap.size w w' := by
  have ST0 := Lib.hid (Sk.start w)
  go_enter Tryd.func6, Tryd.ntmps6
  go_wp2_with (go_at_call 17; refine hold ?_)
  refine Hold.mk ?_
  have C1 := Lib.hid (int_any (w := w) (-7) (by decide) (by decide))
  refine C1.out.mono ?_
  rintro e W1 ⟨⟨n1, a1, c1, d1, rfl, hv⟩, hb⟩
  have ST2 := Lib.hid (ST0.out.next hb hv)
  clear hb hv
  go_wp2_with (go_at_call 17; refine hold ?_)
  refine Hold.mk ?_
  have C3 := Lib.hid (int_any (w := W1) (2) (by decide) (by decide))
  refine C3.out.mono ?_
  rintro e W3 ⟨⟨n2, a2, c2, d2, rfl, hv⟩, hb⟩
  have ST4 := Lib.hid (ST2.out.next hb hv)
  clear hb hv
  go_wp2_with (go_at_call 23; refine hold ?_)
  refine Hold.mk ?_
  have C5 := Lib.hid (b_quo (s1 := ⟨#[]⟩) (s2 := ⟨#[]⟩) (t1 := false) (t2 := false) (IntC.flag (ST4.out.getC (v := (.agg #[.bool n1, .slice a1 c1 d1])) (i := (-7 : Int)) (List.mem_cons_of_mem _ (List.mem_cons_self ..)))).1 (IntC.flag (ST4.out.getC (v := (.agg #[.bool n1, .slice a1 c1 d1])) (i := (-7 : Int)) (List.mem_cons_of_mem _ (List.mem_cons_self ..)))).2 (IntC.flag (ST4.out.getC (v := (.agg #[.bool n2, .slice a2 c2 d2])) (i := (2 : Int)) (List.mem_cons_self ..))).1 (IntC.flag (ST4.out.getC (v := (.agg #[.bool n2, .slice a2 c2 d2])) (i := (2 : Int)) (List.mem_cons_self ..))).2 rfl rfl)
  rw [quo72.1, quo72.2, show kindK 0 = 1 from rfl] at C5
  refine C5.out.mono ?_
  rintro e W5 ⟨⟨n3, a3, c3, d3, rfl, hv⟩, hb⟩
  have ST6 := Lib.hid (ST4.out.next hb hv)
  clear hb hv
  go_upto_region 2 with fail
  obtain ⟨W7, HW7⟩ : ∃ W', Hid (W' = W5.alloc (.cells #[(.int .i64 1), (.bool n3), (.slice a3 c3 d3), (.string ⟨#[]⟩), (.bool false)] 26)) := ⟨_, Lib.hid rfl⟩
  obtain ⟨b1, Hb1⟩ : ∃ b, Hid (b = W5.heap.size) := ⟨_, Lib.hid rfl⟩
  have ST8 := Lib.hid (ST6.out.box Hb1.out HW7.out)
  rw [← HW7.out]
  try rw [← Hb1.out]
  go_wp2_with (go_at_call 19; refine hold ?_)
  refine Hold.mk ?_
  have C9 := Lib.hid (str_any (w := W7) ⟨#[97]⟩)
  refine C9.out.mono ?_
  rintro e W9 ⟨⟨n4, a4, c4, d4, rfl, hv⟩, hb⟩
  have ST10 := Lib.hid (ST8.out.next hb hv)
  clear hb hv
  go_wp2_with (go_at_call 19; refine hold ?_)
  refine Hold.mk ?_
  have C11 := Lib.hid (str_any (w := W9) ⟨#[98]⟩)
  refine C11.out.mono ?_
  rintro e W11 ⟨⟨n5, a5, c5, d5, rfl, hv⟩, hb⟩
  have ST12 := Lib.hid (ST10.out.next hb hv)
  clear hb hv
  go_wp2_with (go_at_call 23; refine hold ?_)
  refine Hold.mk ?_
  have C13 := Lib.hid (b_lt (k1 := 2) (k2 := 2) (s1 := ⟨#[97]⟩) (s2 := ⟨#[98]⟩) (t1 := false) (t2 := false) (IntC.flag (ST12.out.getC (v := (.agg #[.bool n4, .slice a4 c4 d4])) (i := (0 : Int)) (List.mem_cons_of_mem _ (List.mem_cons_self ..)))).1 (IntC.flag (ST12.out.getC (v := (.agg #[.bool n4, .slice a4 c4 d4])) (i := (0 : Int)) (List.mem_cons_of_mem _ (List.mem_cons_self ..)))).2 (IntC.flag (ST12.out.getC (v := (.agg #[.bool n5, .slice a5 c5 d5])) (i := (0 : Int)) (List.mem_cons_self ..))).1 (IntC.flag (ST12.out.getC (v := (.agg #[.bool n5, .slice a5 c5 d5])) (i := (0 : Int)) (List.mem_cons_self ..))).2)
  rw [show okL 2 2 = true from rfl, show kE true = 3 from rfl, show fE true = 0 from rfl, show (true && decide (ordK 2 0 0 ⟨#[97]⟩ ⟨#[98]⟩ false false < 0)) = true from rfl] at C13
  refine C13.out.mono ?_
  rintro e W13 ⟨⟨n6, a6, c6, d6, rfl, hv⟩, hb⟩
  have ST14 := Lib.hid (ST12.out.next hb hv)
  clear hb hv
  go_upto_region 3 with fail
  obtain ⟨W15, HW15⟩ : ∃ W', Hid (W' = W13.alloc (.cells #[(.int .i64 3), (.bool n6), (.slice a6 c6 d6), (.string ⟨#[]⟩), (.bool true)] 26)) := ⟨_, Lib.hid rfl⟩
  obtain ⟨b2, Hb2⟩ : ∃ b, Hid (b = W13.heap.size) := ⟨_, Lib.hid rfl⟩
  have Ob2 := Lib.hid (ST14.out.old Hb2.out)
  have ST16 := Lib.hid (ST14.out.box Hb2.out HW15.out)
  rw [← HW15.out]
  try rw [← Hb2.out]
  have qb2_0 := ST16.out.cell (List.mem_cons_self ..) 0 _ rfl
  have qb2_1 := ST16.out.cell (List.mem_cons_self ..) 1 _ rfl
  have qb2_2 := ST16.out.cell (List.mem_cons_self ..) 2 _ rfl
  have qb2_3 := ST16.out.cell (List.mem_cons_self ..) 3 _ rfl
  have qb2_4 := ST16.out.cell (List.mem_cons_self ..) 4 _ rfl
  have qb1_0 := ST16.out.cell (List.mem_cons_of_mem _ (List.mem_cons_self ..)) 0 _ rfl
  have qb1_1 := ST16.out.cell (List.mem_cons_of_mem _ (List.mem_cons_self ..)) 1 _ rfl
  have qb1_2 := ST16.out.cell (List.mem_cons_of_mem _ (List.mem_cons_self ..)) 2 _ rfl
  have qb1_3 := ST16.out.cell (List.mem_cons_of_mem _ (List.mem_cons_self ..)) 3 _ rfl
  have qb1_4 := ST16.out.cell (List.mem_cons_of_mem _ (List.mem_cons_self ..)) 4 _ rfl
  go_wp2_with (go_at_call 12; refine hold ?_)
  refine Hold.mk ?_
  have C17 := Lib.hid (ktext_int (s1 := ⟨#[]⟩) (t1 := false) (IntC.flag (ST16.out.getC (v := (.agg #[.bool n3, .slice a3 c3 d3])) (i := (-3 : Int)) (List.mem_cons_of_mem _ (List.mem_cons_of_mem _ (List.mem_cons_of_mem _ (List.mem_cons_self ..)))))).1 (IntC.flag (ST16.out.getC (v := (.agg #[.bool n3, .slice a3 c3 d3])) (i := (-3 : Int)) (List.mem_cons_of_mem _ (List.mem_cons_of_mem _ (List.mem_cons_of_mem _ (List.mem_cons_self ..)))))).2 rfl)
  rw [strL_m3] at C17
  refine C17.out.mono ?_
  rintro e W17 ⟨rfl, hb⟩
  clear qb2_0 qb2_1 qb2_2 qb2_3 qb2_4 qb1_0 qb1_1 qb1_2 qb1_3 qb1_4
  have ST18 := Lib.hid (ST16.out.go hb)
  clear hb
  have qb2_0 := ST18.out.cell (List.mem_cons_self ..) 0 _ rfl
  have qb2_1 := ST18.out.cell (List.mem_cons_self ..) 1 _ rfl
  have qb2_2 := ST18.out.cell (List.mem_cons_self ..) 2 _ rfl
  have qb2_3 := ST18.out.cell (List.mem_cons_self ..) 3 _ rfl
  have qb2_4 := ST18.out.cell (List.mem_cons_self ..) 4 _ rfl
  go_wp2_with (go_at_call 12; refine hold ?_)
  refine Hold.mk ?_
  have C19 := Lib.hid (ktext_bool (k1 := 3) (s1 := ⟨#[]⟩) (t1 := true) (IntC.flag (ST18.out.getC (v := (.agg #[.bool n6, .slice a6 c6 d6])) (i := (0 : Int)) (List.mem_cons_self ..))).1 (IntC.flag (ST18.out.getC (v := (.agg #[.bool n6, .slice a6 c6 d6])) (i := (0 : Int)) (List.mem_cons_self ..))).2 rfl)
  rw [show boolS true = ⟨#[116, 114, 117, 101]⟩ from rfl] at C19
  refine C19.out.mono ?_
  rintro e W19 ⟨rfl, hb⟩
  clear qb2_0 qb2_1 qb2_2 qb2_3 qb2_4
  have ST20 := Lib.hid (ST18.out.go hb)
  clear hb
  go_wp2_with fail
  go_ret
  exact ⟨rfl, ST20.out.below⟩

end Go.Proofs.YtahgbbnpbhfaeaaDoor
