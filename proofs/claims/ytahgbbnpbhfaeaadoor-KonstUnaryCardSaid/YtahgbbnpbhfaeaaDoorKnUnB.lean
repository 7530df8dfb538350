/- Unary, the program's and the document's; recastlaw10.in. No condition. -/
import Derived.Test.YtahgbbnpbhfaeaaDoorKnUnA
namespace Go.Proofs.YtahgbbnpbhfaeaaDoor
open Go.RowKit

/-- Is a constant looked at? -/
def inK (k : Int) (n : Nat) (s : ByteArray) : Bool := decide (n ≤ 20) && (decide (s.size ≤ 300) && knownB k)


set_option maxRecDepth 100000 in
set_option maxHeartbeats 3200000 in
theorem kin_any {w : World} (k1 : Int) (g1 : Bool) (a1 : Option Addr) (n1 c1 : Nat) (s1 : ByteArray) (t1 : Bool)   :
    Calls Tryd.prog 5 #[.agg #[.int .i64 k1, .bool g1, .slice a1 n1 c1, .string s1, .bool t1]] w fun e w' => e = .returned (.bool (inK k1 n1 s1)) ∧ Below w.heap.size w w' := by
  have ST0 := Lib.hid (Sk.start w)
  obtain ⟨r, Hr⟩ : ∃ r, Hid (inK k1 n1 s1 = r) := ⟨_, Lib.hid rfl⟩
  rw [Hr.out]
  go_enter Tryd.func5, Tryd.ntmps5
  go_upto_region 1 with fail
  obtain ⟨W1, HW1⟩ : ∃ W', Hid (W' = w.alloc (.cells #[(.int .i64 k1), (.bool g1), (.slice a1 n1 c1), (.string s1), (.bool t1)] 26)) := ⟨_, Lib.hid rfl⟩
  obtain ⟨p1, Hp1⟩ : ∃ b, Hid (b = w.heap.size) := ⟨_, Lib.hid rfl⟩
  have ST2 := Lib.hid (ST0.out.box Hp1.out HW1.out)
  rw [← HW1.out]
  try rw [← Hp1.out]
  have qp1_0 := ST2.out.cell (List.mem_cons_self ..) 0 _ rfl
  have qp1_1 := ST2.out.cell (List.mem_cons_self ..) 1 _ rfl
  have qp1_2 := ST2.out.cell (List.mem_cons_self ..) 2 _ rfl
  have qp1_3 := ST2.out.cell (List.mem_cons_self ..) 3 _ rfl
  have qp1_4 := ST2.out.cell (List.mem_cons_self ..) 4 _ rfl
  by_cases h1 : n1 ≤ 20
  · by_cases h2 : s1.size ≤ 300
    · cases d1 : (k1 == 1) with
      | true =>
        have hr : r = true := by rw [← Hr.out]; unfold inK; unfold knownB; rw [decide_eq_true h1, decide_eq_true h2, d1]; rfl
        subst hr
        go_wp2_with fail
        go_ret
        exact ⟨rfl, ST2.out.below⟩
      | false =>
        cases d2 : (k1 == 2) with
        | true =>
          have hr : r = true := by rw [← Hr.out]; unfold inK; unfold knownB; rw [decide_eq_true h1, decide_eq_true h2, d1, d2]; rfl
          subst hr
          go_wp2_with fail
          go_ret
          exact ⟨rfl, ST2.out.below⟩
        | false =>
          cases d3 : (k1 == 3) with
          | true =>
            have hr : r = true := by rw [← Hr.out]; unfold inK; unfold knownB; rw [decide_eq_true h1, decide_eq_true h2, d1, d2, d3]; rfl
            subst hr
            go_wp2_with fail
            go_ret
            exact ⟨rfl, ST2.out.below⟩
          | false =>
            have hr : r = false := by rw [← Hr.out]; unfold inK; unfold knownB; rw [decide_eq_true h1, decide_eq_true h2, d1, d2, d3]; rfl
            subst hr
            go_wp2_with fail
            go_ret
            exact ⟨rfl, ST2.out.below⟩
    · skip
      have hr : r = false := by rw [← Hr.out]; unfold inK; rw [decide_eq_false h2]; simp
      subst hr
      go_wp2_with fail
      go_ret
      exact ⟨rfl, ST2.out.below⟩
  · skip
    have hr : r = false := by rw [← Hr.out]; unfold inK; rw [decide_eq_false h1]; rfl
    subst hr
    go_wp2_with fail
    go_ret
    exact ⟨rfl, ST2.out.below⟩


theorem inK_parts {k : Int} {n : Nat} {s : ByteArray} (h : inK k n s = true) : n ≤ 20 ∧ s.size ≤ 300 ∧ knownB k = true := by
  unfold inK at h
  simp only [Bool.and_eq_true, decide_eq_true_eq] at h
  exact h


theorem op_ne {op : ByteArray} {l : List UInt8} (h : op ≠ ⟨l.toArray⟩) : (op.toList == l) = false := by
  cases hb : (op.toList == l) with
  | false => rfl
  | true =>
    refine absurd ?_ h
    have e := eq_of_beq hb
    rw [Lib.toList_data] at e
    cases op with
    | mk d => simp at e; rw [← e]

set_option maxRecDepth 100000 in
set_option maxHeartbeats 3200000 in
theorem un_minus {w : World} {k1 : Int} {g1 : Bool} {a1 : Option Addr} {n1 c1 : Nat} {s1 : ByteArray} {t1 : Bool} {z1 : List Nat} {x1 : Int} (h1 : IntV w (.agg #[.bool g1, .slice a1 n1 c1]) g1 z1) (hx1 : valI g1 z1 = x1) (hk1 : k1 = 1) :
    Calls Tryd.prog 7 #[.string ⟨#[45]⟩, .agg #[.int .i64 k1, .bool g1, .slice a1 n1 c1, .string s1, .bool t1]] w fun e w' => Kon2 w' e 1 (-x1) ⟨#[]⟩ false 0 ∧ Below w.heap.size w w' := by
  have ST0 := Lib.hid (Sk.start w)
  have Hx1 := Lib.hid hx1
  have ST1 := Lib.hid (ST0.out.num h1)
  clear h1 hx1
  subst hk1
  go_enter Tryd.func7, Tryd.ntmps7
  go_upto_region 1 with fail
  obtain ⟨W2, HW2⟩ : ∃ W', Hid (W' = w.alloc (.cells #[(.int .i64 1), (.bool g1), (.slice a1 n1 c1), (.string s1), (.bool t1)] 26)) := ⟨_, Lib.hid rfl⟩
  obtain ⟨p1, Hp1⟩ : ∃ b, Hid (b = w.heap.size) := ⟨_, Lib.hid rfl⟩
  have ST3 := Lib.hid (ST1.out.box Hp1.out HW2.out)
  obtain ⟨W4, HW4⟩ : ∃ W', Hid (W' = W2.alloc (.cells #[(.int .i64 0), (.bool false), (.slice none 0 0), (.string ⟨#[]⟩), (.bool false)] 26)) := ⟨_, Lib.hid rfl⟩
  obtain ⟨bo, Hbo⟩ : ∃ b, Hid (b = W2.heap.size) := ⟨_, Lib.hid rfl⟩
  have Obo := Lib.hid (ST3.out.old Hbo.out)
  have ST5 := Lib.hid (ST3.out.box Hbo.out HW4.out)
  have hz1 : w.heap.size + 1 = bo := by rw [Hbo.out, HW2.out, World.size_alloc]
  rw [← HW2.out, ← HW4.out]
  try rw [hz1]
  try rw [← Hp1.out]
  clear hz1
  have qbo_0 := ST5.out.cell (List.mem_cons_self ..) 0 _ rfl
  have fbo_0 := ST5.out.thaw (List.mem_cons_self ..) 0
  have qbo_1 := ST5.out.cell (List.mem_cons_self ..) 1 _ rfl
  have fbo_1 := ST5.out.thaw (List.mem_cons_self ..) 1
  have qbo_2 := ST5.out.cell (List.mem_cons_self ..) 2 _ rfl
  have fbo_2 := ST5.out.thaw (List.mem_cons_self ..) 2
  have qbo_3 := ST5.out.cell (List.mem_cons_self ..) 3 _ rfl
  have fbo_3 := ST5.out.thaw (List.mem_cons_self ..) 3
  have qbo_4 := ST5.out.cell (List.mem_cons_self ..) 4 _ rfl
  have fbo_4 := ST5.out.thaw (List.mem_cons_self ..) 4
  have qp1_0 := ST5.out.cell (List.mem_cons_of_mem _ (List.mem_cons_self ..)) 0 _ rfl
  have qp1_1 := ST5.out.cell (List.mem_cons_of_mem _ (List.mem_cons_self ..)) 1 _ rfl
  have qp1_2 := ST5.out.cell (List.mem_cons_of_mem _ (List.mem_cons_self ..)) 2 _ rfl
  have qp1_3 := ST5.out.cell (List.mem_cons_of_mem _ (List.mem_cons_self ..)) 3 _ rfl
  have qp1_4 := ST5.out.cell (List.mem_cons_of_mem _ (List.mem_cons_self ..)) 4 _ rfl
  go_wp2_with (go_at_call 25; refine hold ?_)
  refine Hold.mk ?_
  have C6 := Lib.hid (neg_k (ST5.out.get (v := (.agg #[.bool g1, .slice a1 n1 c1])) (g := g1) (z := z1) (List.mem_cons_self ..)) Hx1.out)
  refine C6.out.mono ?_
  rintro e W6 ⟨⟨n3, a3, c3, d3, rfl, hv⟩, hb⟩
  clear qbo_0 fbo_0 qbo_1 fbo_1 qbo_2 fbo_2 qbo_3 fbo_3 qbo_4 fbo_4 qp1_0 qp1_1 qp1_2 qp1_3 qp1_4
  have ST7 := Lib.hid (ST5.out.next hb hv)
  clear hb hv
  go_wp2_with (go_at_call 24; refine hold ?_)
  refine Hold.mk ?_
  have C8 := Lib.hid (number_ok (ST7.out.getC (v := (.agg #[.bool n3, .slice a3 c3 d3])) (i := -x1) (List.mem_cons_self ..)))
  refine C8.out.mono ?_
  rintro e W8 ⟨⟨n4, a4, c4, d4, rfl, hv⟩, hb⟩
  have ST9 := Lib.hid (ST7.out.next hb hv)
  clear hb hv
  have qbo_0 := ST9.out.cell (List.mem_cons_self ..) 0 _ rfl
  have fbo_0 := ST9.out.thaw (List.mem_cons_self ..) 0
  have qbo_1 := ST9.out.cell (List.mem_cons_self ..) 1 _ rfl
  have fbo_1 := ST9.out.thaw (List.mem_cons_self ..) 1
  have qbo_2 := ST9.out.cell (List.mem_cons_self ..) 2 _ rfl
  have fbo_2 := ST9.out.thaw (List.mem_cons_self ..) 2
  have qbo_3 := ST9.out.cell (List.mem_cons_self ..) 3 _ rfl
  have fbo_3 := ST9.out.thaw (List.mem_cons_self ..) 3
  have qbo_4 := ST9.out.cell (List.mem_cons_self ..) 4 _ rfl
  have fbo_4 := ST9.out.thaw (List.mem_cons_self ..) 4
  go_wp2_with fail
  exact finK2 rfl (show BoxK W8 bo _ _ _ _ _ _ _ from (ST9.out.boxes _ (List.mem_cons_self ..)).1) ST9.out.below (ST9.out.boxes _ (List.mem_cons_self ..)).2 (ST9.out.getC (v := (.agg #[.bool n4, .slice a4 c4 d4])) (i := -x1) (List.mem_cons_self ..)) rfl rfl

set_option maxRecDepth 100000 in
set_option maxHeartbeats 3200000 in
theorem un_not {w : World} {k1 : Int} {g1 : Bool} {a1 : Option Addr} {n1 c1 : Nat} {s1 : ByteArray} {t1 : Bool} {z1 : List Nat} {x1 : Int} (h1 : IntV w (.agg #[.bool g1, .slice a1 n1 c1]) g1 z1) (hx1 : valI g1 z1 = x1) (hk1 : k1 = 3) :
    Calls Tryd.prog 7 #[.string ⟨#[33]⟩, .agg #[.int .i64 k1, .bool g1, .slice a1 n1 c1, .string s1, .bool t1]] w fun e w' => Kon2 w' e 3 0 ⟨#[]⟩ (!t1) 0 ∧ Below w.heap.size w w' := by
  have ST0 := Lib.hid (Sk.start w)
  have Hx1 := Lib.hid hx1
  have ST1 := Lib.hid (ST0.out.num h1)
  clear h1 hx1
  subst hk1
  go_enter Tryd.func7, Tryd.ntmps7
  go_upto_region 1 with fail
  obtain ⟨W2, HW2⟩ : ∃ W', Hid (W' = w.alloc (.cells #[(.int .i64 3), (.bool g1), (.slice a1 n1 c1), (.string s1), (.bool t1)] 26)) := ⟨_, Lib.hid rfl⟩
  obtain ⟨p1, Hp1⟩ : ∃ b, Hid (b = w.heap.size) := ⟨_, Lib.hid rfl⟩
  have ST3 := Lib.hid (ST1.out.box Hp1.out HW2.out)
  obtain ⟨W4, HW4⟩ : ∃ W', Hid (W' = W2.alloc (.cells #[(.int .i64 0), (.bool false), (.slice none 0 0), (.string ⟨#[]⟩), (.bool false)] 26)) := ⟨_, Lib.hid rfl⟩
  obtain ⟨bo, Hbo⟩ : ∃ b, Hid (b = W2.heap.size) := ⟨_, Lib.hid rfl⟩
  have Obo := Lib.hid (ST3.out.old Hbo.out)
  have ST5 := Lib.hid (ST3.out.box Hbo.out HW4.out)
  have hz1 : w.heap.size + 1 = bo := by rw [Hbo.out, HW2.out, World.size_alloc]
  rw [← HW2.out, ← HW4.out]
  try rw [hz1]
  try rw [← Hp1.out]
  clear hz1
  have qbo_0 := ST5.out.cell (List.mem_cons_self ..) 0 _ rfl
  have fbo_0 := ST5.out.thaw (List.mem_cons_self ..) 0
  have qbo_1 := ST5.out.cell (List.mem_cons_self ..) 1 _ rfl
  have fbo_1 := ST5.out.thaw (List.mem_cons_self ..) 1
  have qbo_2 := ST5.out.cell (List.mem_cons_self ..) 2 _ rfl
  have fbo_2 := ST5.out.thaw (List.mem_cons_self ..) 2
  have qbo_3 := ST5.out.cell (List.mem_cons_self ..) 3 _ rfl
  have fbo_3 := ST5.out.thaw (List.mem_cons_self ..) 3
  have qbo_4 := ST5.out.cell (List.mem_cons_self ..) 4 _ rfl
  have fbo_4 := ST5.out.thaw (List.mem_cons_self ..) 4
  have qp1_0 := ST5.out.cell (List.mem_cons_of_mem _ (List.mem_cons_self ..)) 0 _ rfl
  have qp1_1 := ST5.out.cell (List.mem_cons_of_mem _ (List.mem_cons_self ..)) 1 _ rfl
  have qp1_2 := ST5.out.cell (List.mem_cons_of_mem _ (List.mem_cons_self ..)) 2 _ rfl
  have qp1_3 := ST5.out.cell (List.mem_cons_of_mem _ (List.mem_cons_self ..)) 3 _ rfl
  have qp1_4 := ST5.out.cell (List.mem_cons_of_mem _ (List.mem_cons_self ..)) 4 _ rfl
  go_wp2_with (go_at_call 21; refine hold ?_)
  refine Hold.mk ?_
  have C6 := Lib.hid (bool_any (w := W4) (!t1))
  refine C6.out.mono ?_
  rintro e W6 ⟨⟨n3, a3, c3, d3, rfl, hv⟩, hb⟩
  clear qbo_0 fbo_0 qbo_1 fbo_1 qbo_2 fbo_2 qbo_3 fbo_3 qbo_4 fbo_4 qp1_0 qp1_1 qp1_2 qp1_3 qp1_4
  have ST7 := Lib.hid (ST5.out.next hb hv)
  clear hb hv
  have qbo_0 := ST7.out.cell (List.mem_cons_self ..) 0 _ rfl
  have fbo_0 := ST7.out.thaw (List.mem_cons_self ..) 0
  have qbo_1 := ST7.out.cell (List.mem_cons_self ..) 1 _ rfl
  have fbo_1 := ST7.out.thaw (List.mem_cons_self ..) 1
  have qbo_2 := ST7.out.cell (List.mem_cons_self ..) 2 _ rfl
  have fbo_2 := ST7.out.thaw (List.mem_cons_self ..) 2
  have qbo_3 := ST7.out.cell (List.mem_cons_self ..) 3 _ rfl
  have fbo_3 := ST7.out.thaw (List.mem_cons_self ..) 3
  have qbo_4 := ST7.out.cell (List.mem_cons_self ..) 4 _ rfl
  have fbo_4 := ST7.out.thaw (List.mem_cons_self ..) 4
  go_wp2_with fail
  exact finK2 rfl (show BoxK W6 bo _ _ _ _ _ _ _ from (ST7.out.boxes _ (List.mem_cons_self ..)).1) ST7.out.below (ST7.out.boxes _ (List.mem_cons_self ..)).2 (ST7.out.getC (v := (.agg #[.bool n3, .slice a3 c3 d3])) (i := 0) (List.mem_cons_self ..)) rfl rfl

set_option maxRecDepth 100000 in
set_option maxHeartbeats 3200000 in
theorem un_n1 {w : World} {k1 : Int} {g1 : Bool} {a1 : Option Addr} {n1 c1 : Nat} {s1 : ByteArray} {t1 : Bool} {z1 : List Nat} {x1 : Int} (h1 : IntV w (.agg #[.bool g1, .slice a1 n1 c1]) g1 z1) (hx1 : valI g1 z1 = x1) (hk : k1 ≠ 1) :
    Calls Tryd.prog 7 #[.string ⟨#[45]⟩, .agg #[.int .i64 k1, .bool g1, .slice a1 n1 c1, .string s1, .bool t1]] w fun e w' => Kon2 w' e 0 0 ⟨#[]⟩ false 6 ∧ Below w.heap.size w w' := by
  have ST0 := Lib.hid (Sk.start w)
  have Hx1 := Lib.hid hx1
  have ST1 := Lib.hid (ST0.out.num h1)
  clear h1 hx1
  have d1 : (k1 == 1) = false := by simpa using hk
  clear hk
  go_enter Tryd.func7, Tryd.ntmps7
  go_upto_region 1 with fail
  obtain ⟨W2, HW2⟩ : ∃ W', Hid (W' = w.alloc (.cells #[(.int .i64 k1), (.bool g1), (.slice a1 n1 c1), (.string s1), (.bool t1)] 26)) := ⟨_, Lib.hid rfl⟩
  obtain ⟨p1, Hp1⟩ : ∃ b, Hid (b = w.heap.size) := ⟨_, Lib.hid rfl⟩
  have ST3 := Lib.hid (ST1.out.box Hp1.out HW2.out)
  obtain ⟨W4, HW4⟩ : ∃ W', Hid (W' = W2.alloc (.cells #[(.int .i64 0), (.bool false), (.slice none 0 0), (.string ⟨#[]⟩), (.bool false)] 26)) := ⟨_, Lib.hid rfl⟩
  obtain ⟨bo, Hbo⟩ : ∃ b, Hid (b = W2.heap.size) := ⟨_, Lib.hid rfl⟩
  have Obo := Lib.hid (ST3.out.old Hbo.out)
  have ST5 := Lib.hid (ST3.out.box Hbo.out HW4.out)
  have hz1 : w.heap.size + 1 = bo := by rw [Hbo.out, HW2.out, World.size_alloc]
  rw [← HW2.out, ← HW4.out]
  try rw [hz1]
  try rw [← Hp1.out]
  clear hz1
  have qbo_0 := ST5.out.cell (List.mem_cons_self ..) 0 _ rfl
  have fbo_0 := ST5.out.thaw (List.mem_cons_self ..) 0
  have qbo_1 := ST5.out.cell (List.mem_cons_self ..) 1 _ rfl
  have fbo_1 := ST5.out.thaw (List.mem_cons_self ..) 1
  have qbo_2 := ST5.out.cell (List.mem_cons_self ..) 2 _ rfl
  have fbo_2 := ST5.out.thaw (List.mem_cons_self ..) 2
  have qbo_3 := ST5.out.cell (List.mem_cons_self ..) 3 _ rfl
  have fbo_3 := ST5.out.thaw (List.mem_cons_self ..) 3
  have qbo_4 := ST5.out.cell (List.mem_cons_self ..) 4 _ rfl
  have fbo_4 := ST5.out.thaw (List.mem_cons_self ..) 4
  have qp1_0 := ST5.out.cell (List.mem_cons_of_mem _ (List.mem_cons_self ..)) 0 _ rfl
  have qp1_1 := ST5.out.cell (List.mem_cons_of_mem _ (List.mem_cons_self ..)) 1 _ rfl
  have qp1_2 := ST5.out.cell (List.mem_cons_of_mem _ (List.mem_cons_self ..)) 2 _ rfl
  have qp1_3 := ST5.out.cell (List.mem_cons_of_mem _ (List.mem_cons_self ..)) 3 _ rfl
  have qp1_4 := ST5.out.cell (List.mem_cons_of_mem _ (List.mem_cons_self ..)) 4 _ rfl
  go_wp2_with fail
  exact finK2 rfl (show BoxK W4 bo _ _ _ _ _ _ _ from (ST5.out.boxes _ (List.mem_cons_self ..)).1) ST5.out.below (ST5.out.boxes _ (List.mem_cons_self ..)).2 (intC_zero _) rfl rfl

set_option maxRecDepth 100000 in
set_option maxHeartbeats 3200000 in
theorem un_n2 {w : World} {k1 : Int} {g1 : Bool} {a1 : Option Addr} {n1 c1 : Nat} {s1 : ByteArray} {t1 : Bool} {z1 : List Nat} {x1 : Int} (h1 : IntV w (.agg #[.bool g1, .slice a1 n1 c1]) g1 z1) (hx1 : valI g1 z1 = x1) (hk : k1 ≠ 3) :
    Calls Tryd.prog 7 #[.string ⟨#[33]⟩, .agg #[.int .i64 k1, .bool g1, .slice a1 n1 c1, .string s1, .bool t1]] w fun e w' => Kon2 w' e 0 0 ⟨#[]⟩ false 6 ∧ Below w.heap.size w w' := by
  have ST0 := Lib.hid (Sk.start w)
  have Hx1 := Lib.hid hx1
  have ST1 := Lib.hid (ST0.out.num h1)
  clear h1 hx1
  have d1 : (k1 == 3) = false := by simpa using hk
  clear hk
  go_enter Tryd.func7, Tryd.ntmps7
  go_upto_region 1 with fail
  obtain ⟨W2, HW2⟩ : ∃ W', Hid (W' = w.alloc (.cells #[(.int .i64 k1), (.bool g1), (.slice a1 n1 c1), (.string s1), (.bool t1)] 26)) := ⟨_, Lib.hid rfl⟩
  obtain ⟨p1, Hp1⟩ : ∃ b, Hid (b = w.heap.size) := ⟨_, Lib.hid rfl⟩
  have ST3 := Lib.hid (ST1.out.box Hp1.out HW2.out)
  obtain ⟨W4, HW4⟩ : ∃ W', Hid (W' = W2.alloc (.cells #[(.int .i64 0), (.bool false), (.slice none 0 0), (.string ⟨#[]⟩), (.bool false)] 26)) := ⟨_, Lib.hid rfl⟩
  obtain ⟨bo, Hbo⟩ : ∃ b, Hid (b = W2.heap.size) := ⟨_, Lib.hid rfl⟩
  have Obo := Lib.hid (ST3.out.old Hbo.out)
  have ST5 := Lib.hid (ST3.out.box Hbo.out HW4.out)
  have hz1 : w.heap.size + 1 = bo := by rw [Hbo.out, HW2.out, World.size_alloc]
  rw [← HW2.out, ← HW4.out]
  try rw [hz1]
  try rw [← Hp1.out]
  clear hz1
  have qbo_0 := ST5.out.cell (List.mem_cons_self ..) 0 _ rfl
  have fbo_0 := ST5.out.thaw (List.mem_cons_self ..) 0
  have qbo_1 := ST5.out.cell (List.mem_cons_self ..) 1 _ rfl
  have fbo_1 := ST5.out.thaw (List.mem_cons_self ..) 1
  have qbo_2 := ST5.out.cell (List.mem_cons_self ..) 2 _ rfl
  have fbo_2 := ST5.out.thaw (List.mem_cons_self ..) 2
  have qbo_3 := ST5.out.cell (List.mem_cons_self ..) 3 _ rfl
  have fbo_3 := ST5.out.thaw (List.mem_cons_self ..) 3
  have qbo_4 := ST5.out.cell (List.mem_cons_self ..) 4 _ rfl
  have fbo_4 := ST5.out.thaw (List.mem_cons_self ..) 4
  have qp1_0 := ST5.out.cell (List.mem_cons_of_mem _ (List.mem_cons_self ..)) 0 _ rfl
  have qp1_1 := ST5.out.cell (List.mem_cons_of_mem _ (List.mem_cons_self ..)) 1 _ rfl
  have qp1_2 := ST5.out.cell (List.mem_cons_of_mem _ (List.mem_cons_self ..)) 2 _ rfl
  have qp1_3 := ST5.out.cell (List.mem_cons_of_mem _ (List.mem_cons_self ..)) 3 _ rfl
  have qp1_4 := ST5.out.cell (List.mem_cons_of_mem _ (List.mem_cons_self ..)) 4 _ rfl
  go_wp2_with fail
  exact finK2 rfl (show BoxK W4 bo _ _ _ _ _ _ _ from (ST5.out.boxes _ (List.mem_cons_self ..)).1) ST5.out.below (ST5.out.boxes _ (List.mem_cons_self ..)).2 (intC_zero _) rfl rfl

set_option maxRecDepth 100000 in
set_option maxHeartbeats 3200000 in
theorem un_n3 {w : World} (op : ByteArray) {k1 : Int} {g1 : Bool} {a1 : Option Addr} {n1 c1 : Nat} {s1 : ByteArray} {t1 : Bool} {z1 : List Nat} {x1 : Int} (h1 : IntV w (.agg #[.bool g1, .slice a1 n1 c1]) g1 z1) (hx1 : valI g1 z1 = x1) (ho1 : op ≠ ⟨#[45]⟩) (ho2 : op ≠ ⟨#[33]⟩) :
    Calls Tryd.prog 7 #[.string op, .agg #[.int .i64 k1, .bool g1, .slice a1 n1 c1, .string s1, .bool t1]] w fun e w' => Kon2 w' e 0 0 ⟨#[]⟩ false 6 ∧ Below w.heap.size w w' := by
  have ST0 := Lib.hid (Sk.start w)
  have Hx1 := Lib.hid hx1
  have ST1 := Lib.hid (ST0.out.num h1)
  clear h1 hx1
  have d1 : (op.toList == [45]) = false := op_ne ho1
  have d2 : (op.toList == [33]) = false := op_ne ho2
  clear ho1 ho2
  go_enter Tryd.func7, Tryd.ntmps7
  go_upto_region 1 with fail
  obtain ⟨W2, HW2⟩ : ∃ W', Hid (W' = w.alloc (.cells #[(.int .i64 k1), (.bool g1), (.slice a1 n1 c1), (.string s1), (.bool t1)] 26)) := ⟨_, Lib.hid rfl⟩
  obtain ⟨p1, Hp1⟩ : ∃ b, Hid (b = w.heap.size) := ⟨_, Lib.hid rfl⟩
  have ST3 := Lib.hid (ST1.out.box Hp1.out HW2.out)
  obtain ⟨W4, HW4⟩ : ∃ W', Hid (W' = W2.alloc (.cells #[(.int .i64 0), (.bool false), (.slice none 0 0), (.string ⟨#[]⟩), (.bool false)] 26)) := ⟨_, Lib.hid rfl⟩
  obtain ⟨bo, Hbo⟩ : ∃ b, Hid (b = W2.heap.size) := ⟨_, Lib.hid rfl⟩
  have Obo := Lib.hid (ST3.out.old Hbo.out)
  have ST5 := Lib.hid (ST3.out.box Hbo.out HW4.out)
  have hz1 : w.heap.size + 1 = bo := by rw [Hbo.out, HW2.out, World.size_alloc]
  rw [← HW2.out, ← HW4.out]
  try rw [hz1]
  try rw [← Hp1.out]
  clear hz1
  have qbo_0 := ST5.out.cell (List.mem_cons_self ..) 0 _ rfl
  have fbo_0 := ST5.out.thaw (List.mem_cons_self ..) 0
  have qbo_1 := ST5.out.cell (List.mem_cons_self ..) 1 _ rfl
  have fbo_1 := ST5.out.thaw (List.mem_cons_self ..) 1
  have qbo_2 := ST5.out.cell (List.mem_cons_self ..) 2 _ rfl
  have fbo_2 := ST5.out.thaw (List.mem_cons_self ..) 2
  have qbo_3 := ST5.out.cell (List.mem_cons_self ..) 3 _ rfl
  have fbo_3 := ST5.out.thaw (List.mem_cons_self ..) 3
  have qbo_4 := ST5.out.cell (List.mem_cons_self ..) 4 _ rfl
  have fbo_4 := ST5.out.thaw (List.mem_cons_self ..) 4
  have qp1_0 := ST5.out.cell (List.mem_cons_of_mem _ (List.mem_cons_self ..)) 0 _ rfl
  have qp1_1 := ST5.out.cell (List.mem_cons_of_mem _ (List.mem_cons_self ..)) 1 _ rfl
  have qp1_2 := ST5.out.cell (List.mem_cons_of_mem _ (List.mem_cons_self ..)) 2 _ rfl
  have qp1_3 := ST5.out.cell (List.mem_cons_of_mem _ (List.mem_cons_self ..)) 3 _ rfl
  have qp1_4 := ST5.out.cell (List.mem_cons_of_mem _ (List.mem_cons_self ..)) 4 _ rfl
  go_wp2_with fail
  exact finK2 rfl (show BoxK W4 bo _ _ _ _ _ _ _ from (ST5.out.boxes _ (List.mem_cons_self ..)).1) ST5.out.below (ST5.out.boxes _ (List.mem_cons_self ..)).2 (intC_zero _) rfl rfl

set_option maxRecDepth 100000 in
set_option maxHeartbeats 3200000 in
theorem run_minus {w : World} {k1 : Int} {g1 : Bool} {a1 : Option Addr} {n1 c1 : Nat} {s1 : ByteArray} {t1 : Bool} {z1 : List Nat} {x1 : Int} (h1 : IntV w (.agg #[.bool g1, .slice a1 n1 c1]) g1 z1) (hx1 : valI g1 z1 = x1) (hk1 : k1 = 1) :
    Calls Tryd.prog 8 #[.string ⟨#[45]⟩, .agg #[.int .i64 k1, .bool g1, .slice a1 n1 c1, .string s1, .bool t1]] w fun e w' => Kon2 w' e 1 (-x1) ⟨#[]⟩ false 0 ∧ Below w.heap.size w w' := by
  have ST0 := Lib.hid (Sk.start w)
  have Hx1 := Lib.hid hx1
  have ST1 := Lib.hid (ST0.out.num h1)
  clear h1 hx1
  subst hk1
  go_enter Tryd.func8, Tryd.ntmps8
  go_upto_region 1 with fail
  obtain ⟨W2, HW2⟩ : ∃ W', Hid (W' = w.alloc (.cells #[(.int .i64 1), (.bool g1), (.slice a1 n1 c1), (.string s1), (.bool t1)] 26)) := ⟨_, Lib.hid rfl⟩
  obtain ⟨p1, Hp1⟩ : ∃ b, Hid (b = w.heap.size) := ⟨_, Lib.hid rfl⟩
  have ST3 := Lib.hid (ST1.out.box Hp1.out HW2.out)
  obtain ⟨W4, HW4⟩ : ∃ W', Hid (W' = W2.alloc (.cells #[(.int .i64 0), (.bool false), (.slice none 0 0), (.string ⟨#[]⟩), (.bool false)] 26)) := ⟨_, Lib.hid rfl⟩
  obtain ⟨bo, Hbo⟩ : ∃ b, Hid (b = W2.heap.size) := ⟨_, Lib.hid rfl⟩
  have Obo := Lib.hid (ST3.out.old Hbo.out)
  have ST5 := Lib.hid (ST3.out.box Hbo.out HW4.out)
  have hz1 : w.heap.size + 1 = bo := by rw [Hbo.out, HW2.out, World.size_alloc]
  rw [← HW2.out, ← HW4.out]
  try rw [hz1]
  try rw [← Hp1.out]
  clear hz1
  have qbo_0 := ST5.out.cell (List.mem_cons_self ..) 0 _ rfl
  have fbo_0 := ST5.out.thaw (List.mem_cons_self ..) 0
  have qbo_1 := ST5.out.cell (List.mem_cons_self ..) 1 _ rfl
  have fbo_1 := ST5.out.thaw (List.mem_cons_self ..) 1
  have qbo_2 := ST5.out.cell (List.mem_cons_self ..) 2 _ rfl
  have fbo_2 := ST5.out.thaw (List.mem_cons_self ..) 2
  have qbo_3 := ST5.out.cell (List.mem_cons_self ..) 3 _ rfl
  have fbo_3 := ST5.out.thaw (List.mem_cons_self ..) 3
  have qbo_4 := ST5.out.cell (List.mem_cons_self ..) 4 _ rfl
  have fbo_4 := ST5.out.thaw (List.mem_cons_self ..) 4
  have qp1_0 := ST5.out.cell (List.mem_cons_of_mem _ (List.mem_cons_self ..)) 0 _ rfl
  have qp1_1 := ST5.out.cell (List.mem_cons_of_mem _ (List.mem_cons_self ..)) 1 _ rfl
  have qp1_2 := ST5.out.cell (List.mem_cons_of_mem _ (List.mem_cons_self ..)) 2 _ rfl
  have qp1_3 := ST5.out.cell (List.mem_cons_of_mem _ (List.mem_cons_self ..)) 3 _ rfl
  have qp1_4 := ST5.out.cell (List.mem_cons_of_mem _ (List.mem_cons_self ..)) 4 _ rfl
  go_wp2_with (go_at_call 26; refine hold ?_)
  refine Hold.mk ?_
  have C6 := Lib.hid (rneg_k (ST5.out.get (v := (.agg #[.bool g1, .slice a1 n1 c1])) (g := g1) (z := z1) (List.mem_cons_self ..)) Hx1.out)
  refine C6.out.mono ?_
  rintro e W6 ⟨⟨n3, a3, c3, d3, rfl, hv⟩, hb⟩
  clear qbo_0 fbo_0 qbo_1 fbo_1 qbo_2 fbo_2 qbo_3 fbo_3 qbo_4 fbo_4 qp1_0 qp1_1 qp1_2 qp1_3 qp1_4
  have ST7 := Lib.hid (ST5.out.next hb hv)
  clear hb hv
  have qbo_0 := ST7.out.cell (List.mem_cons_self ..) 0 _ rfl
  have fbo_0 := ST7.out.thaw (List.mem_cons_self ..) 0
  have qbo_1 := ST7.out.cell (List.mem_cons_self ..) 1 _ rfl
  have fbo_1 := ST7.out.thaw (List.mem_cons_self ..) 1
  have qbo_2 := ST7.out.cell (List.mem_cons_self ..) 2 _ rfl
  have fbo_2 := ST7.out.thaw (List.mem_cons_self ..) 2
  have qbo_3 := ST7.out.cell (List.mem_cons_self ..) 3 _ rfl
  have fbo_3 := ST7.out.thaw (List.mem_cons_self ..) 3
  have qbo_4 := ST7.out.cell (List.mem_cons_self ..) 4 _ rfl
  have fbo_4 := ST7.out.thaw (List.mem_cons_self ..) 4
  go_wp2_with fail
  exact finK2 rfl (show BoxK W6 bo _ _ _ _ _ _ _ from (ST7.out.boxes _ (List.mem_cons_self ..)).1) ST7.out.below (ST7.out.boxes _ (List.mem_cons_self ..)).2 (ST7.out.getC (v := (.agg #[.bool n3, .slice a3 c3 d3])) (i := -x1) (List.mem_cons_self ..)) rfl rfl

set_option maxRecDepth 100000 in
set_option maxHeartbeats 3200000 in
theorem run_not {w : World} {k1 : Int} {g1 : Bool} {a1 : Option Addr} {n1 c1 : Nat} {s1 : ByteArray} {t1 : Bool} {z1 : List Nat} {x1 : Int} (h1 : IntV w (.agg #[.bool g1, .slice a1 n1 c1]) g1 z1) (hx1 : valI g1 z1 = x1) (hk1 : k1 = 3) :
    Calls Tryd.prog 8 #[.string ⟨#[33]⟩, .agg #[.int .i64 k1, .bool g1, .slice a1 n1 c1, .string s1, .bool t1]] w fun e w' => Kon2 w' e 3 0 ⟨#[]⟩ (!t1) 0 ∧ Below w.heap.size w w' := by
  have ST0 := Lib.hid (Sk.start w)
  have Hx1 := Lib.hid hx1
  have ST1 := Lib.hid (ST0.out.num h1)
  clear h1 hx1
  subst hk1
  go_enter Tryd.func8, Tryd.ntmps8
  go_upto_region 1 with fail
  obtain ⟨W2, HW2⟩ : ∃ W', Hid (W' = w.alloc (.cells #[(.int .i64 3), (.bool g1), (.slice a1 n1 c1), (.string s1), (.bool t1)] 26)) := ⟨_, Lib.hid rfl⟩
  obtain ⟨p1, Hp1⟩ : ∃ b, Hid (b = w.heap.size) := ⟨_, Lib.hid rfl⟩
  have ST3 := Lib.hid (ST1.out.box Hp1.out HW2.out)
  obtain ⟨W4, HW4⟩ : ∃ W', Hid (W' = W2.alloc (.cells #[(.int .i64 0), (.bool false), (.slice none 0 0), (.string ⟨#[]⟩), (.bool false)] 26)) := ⟨_, Lib.hid rfl⟩
  obtain ⟨bo, Hbo⟩ : ∃ b, Hid (b = W2.heap.size) := ⟨_, Lib.hid rfl⟩
  have Obo := Lib.hid (ST3.out.old Hbo.out)
  have ST5 := Lib.hid (ST3.out.box Hbo.out HW4.out)
  have hz1 : w.heap.size + 1 = bo := by rw [Hbo.out, HW2.out, World.size_alloc]
  rw [← HW2.out, ← HW4.out]
  try rw [hz1]
  try rw [← Hp1.out]
  clear hz1
  have qbo_0 := ST5.out.cell (List.mem_cons_self ..) 0 _ rfl
  have fbo_0 := ST5.out.thaw (List.mem_cons_self ..) 0
  have qbo_1 := ST5.out.cell (List.mem_cons_self ..) 1 _ rfl
  have fbo_1 := ST5.out.thaw (List.mem_cons_self ..) 1
  have qbo_2 := ST5.out.cell (List.mem_cons_self ..) 2 _ rfl
  have fbo_2 := ST5.out.thaw (List.mem_cons_self ..) 2
  have qbo_3 := ST5.out.cell (List.mem_cons_self ..) 3 _ rfl
  have fbo_3 := ST5.out.thaw (List.mem_cons_self ..) 3
  have qbo_4 := ST5.out.cell (List.mem_cons_self ..) 4 _ rfl
  have fbo_4 := ST5.out.thaw (List.mem_cons_self ..) 4
  have qp1_0 := ST5.out.cell (List.mem_cons_of_mem _ (List.mem_cons_self ..)) 0 _ rfl
  have qp1_1 := ST5.out.cell (List.mem_cons_of_mem _ (List.mem_cons_self ..)) 1 _ rfl
  have qp1_2 := ST5.out.cell (List.mem_cons_of_mem _ (List.mem_cons_self ..)) 2 _ rfl
  have qp1_3 := ST5.out.cell (List.mem_cons_of_mem _ (List.mem_cons_self ..)) 3 _ rfl
  have qp1_4 := ST5.out.cell (List.mem_cons_of_mem _ (List.mem_cons_self ..)) 4 _ rfl
  go_wp2_with (go_at_call 22; refine hold ?_)
  refine Hold.mk ?_
  have C6 := Lib.hid (rbool_any (w := W4) (!t1))
  refine C6.out.mono ?_
  rintro e W6 ⟨⟨n3, a3, c3, d3, rfl, hv⟩, hb⟩
  clear qbo_0 fbo_0 qbo_1 fbo_1 qbo_2 fbo_2 qbo_3 fbo_3 qbo_4 fbo_4 qp1_0 qp1_1 qp1_2 qp1_3 qp1_4
  have ST7 := Lib.hid (ST5.out.next hb hv)
  clear hb hv
  have qbo_0 := ST7.out.cell (List.mem_cons_self ..) 0 _ rfl
  have fbo_0 := ST7.out.thaw (List.mem_cons_self ..) 0
  have qbo_1 := ST7.out.cell (List.mem_cons_self ..) 1 _ rfl
  have fbo_1 := ST7.out.thaw (List.mem_cons_self ..) 1
  have qbo_2 := ST7.out.cell (List.mem_cons_self ..) 2 _ rfl
  have fbo_2 := ST7.out.thaw (List.mem_cons_self ..) 2
  have qbo_3 := ST7.out.cell (List.mem_cons_self ..) 3 _ rfl
  have fbo_3 := ST7.out.thaw (List.mem_cons_self ..) 3
  have qbo_4 := ST7.out.cell (List.mem_cons_self ..) 4 _ rfl
  have fbo_4 := ST7.out.thaw (List.mem_cons_self ..) 4
  go_wp2_with fail
  exact finK2 rfl (show BoxK W6 bo _ _ _ _ _ _ _ from (ST7.out.boxes _ (List.mem_cons_self ..)).1) ST7.out.below (ST7.out.boxes _ (List.mem_cons_self ..)).2 (ST7.out.getC (v := (.agg #[.bool n3, .slice a3 c3 d3])) (i := 0) (List.mem_cons_self ..)) rfl rfl

set_option maxRecDepth 100000 in
set_option maxHeartbeats 3200000 in
theorem run_n1 {w : World} {k1 : Int} {g1 : Bool} {a1 : Option Addr} {n1 c1 : Nat} {s1 : ByteArray} {t1 : Bool} {z1 : List Nat} {x1 : Int} (h1 : IntV w (.agg #[.bool g1, .slice a1 n1 c1]) g1 z1) (hx1 : valI g1 z1 = x1) (hk : k1 ≠ 1) :
    Calls Tryd.prog 8 #[.string ⟨#[45]⟩, .agg #[.int .i64 k1, .bool g1, .slice a1 n1 c1, .string s1, .bool t1]] w fun e w' => Kon2 w' e 0 0 ⟨#[]⟩ false 6 ∧ Below w.heap.size w w' := by
  have ST0 := Lib.hid (Sk.start w)
  have Hx1 := Lib.hid hx1
  have ST1 := Lib.hid (ST0.out.num h1)
  clear h1 hx1
  have d1 : (k1 == 1) = false := by simpa using hk
  clear hk
  go_enter Tryd.func8, Tryd.ntmps8
  go_upto_region 1 with fail
  obtain ⟨W2, HW2⟩ : ∃ W', Hid (W' = w.alloc (.cells #[(.int .i64 k1), (.bool g1), (.slice a1 n1 c1), (.string s1), (.bool t1)] 26)) := ⟨_, Lib.hid rfl⟩
  obtain ⟨p1, Hp1⟩ : ∃ b, Hid (b = w.heap.size) := ⟨_, Lib.hid rfl⟩
  have ST3 := Lib.hid (ST1.out.box Hp1.out HW2.out)
  obtain ⟨W4, HW4⟩ : ∃ W', Hid (W' = W2.alloc (.cells #[(.int .i64 0), (.bool false), (.slice none 0 0), (.string ⟨#[]⟩), (.bool false)] 26)) := ⟨_, Lib.hid rfl⟩
  obtain ⟨bo, Hbo⟩ : ∃ b, Hid (b = W2.heap.size) := ⟨_, Lib.hid rfl⟩
  have Obo := Lib.hid (ST3.out.old Hbo.out)
  have ST5 := Lib.hid (ST3.out.box Hbo.out HW4.out)
  have hz1 : w.heap.size + 1 = bo := by rw [Hbo.out, HW2.out, World.size_alloc]
  rw [← HW2.out, ← HW4.out]
  try rw [hz1]
  try rw [← Hp1.out]
  clear hz1
  have qbo_0 := ST5.out.cell (List.mem_cons_self ..) 0 _ rfl
  have fbo_0 := ST5.out.thaw (List.mem_cons_self ..) 0
  have qbo_1 := ST5.out.cell (List.mem_cons_self ..) 1 _ rfl
  have fbo_1 := ST5.out.thaw (List.mem_cons_self ..) 1
  have qbo_2 := ST5.out.cell (List.mem_cons_self ..) 2 _ rfl
  have fbo_2 := ST5.out.thaw (List.mem_cons_self ..) 2
  have qbo_3 := ST5.out.cell (List.mem_cons_self ..) 3 _ rfl
  have fbo_3 := ST5.out.thaw (List.mem_cons_self ..) 3
  have qbo_4 := ST5.out.cell (List.mem_cons_self ..) 4 _ rfl
  have fbo_4 := ST5.out.thaw (List.mem_cons_self ..) 4
  have qp1_0 := ST5.out.cell (List.mem_cons_of_mem _ (List.mem_cons_self ..)) 0 _ rfl
  have qp1_1 := ST5.out.cell (List.mem_cons_of_mem _ (List.mem_cons_self ..)) 1 _ rfl
  have qp1_2 := ST5.out.cell (List.mem_cons_of_mem _ (List.mem_cons_self ..)) 2 _ rfl
  have qp1_3 := ST5.out.cell (List.mem_cons_of_mem _ (List.mem_cons_self ..)) 3 _ rfl
  have qp1_4 := ST5.out.cell (List.mem_cons_of_mem _ (List.mem_cons_self ..)) 4 _ rfl
  go_wp2_with fail
  exact finK2 rfl (show BoxK W4 bo _ _ _ _ _ _ _ from (ST5.out.boxes _ (List.mem_cons_self ..)).1) ST5.out.below (ST5.out.boxes _ (List.mem_cons_self ..)).2 (intC_zero _) rfl rfl

set_option maxRecDepth 100000 in
set_option maxHeartbeats 3200000 in
theorem run_n2 {w : World} {k1 : Int} {g1 : Bool} {a1 : Option Addr} {n1 c1 : Nat} {s1 : ByteArray} {t1 : Bool} {z1 : List Nat} {x1 : Int} (h1 : IntV w (.agg #[.bool g1, .slice a1 n1 c1]) g1 z1) (hx1 : valI g1 z1 = x1) (hk : k1 ≠ 3) :
    Calls Tryd.prog 8 #[.string ⟨#[33]⟩, .agg #[.int .i64 k1, .bool g1, .slice a1 n1 c1, .string s1, .bool t1]] w fun e w' => Kon2 w' e 0 0 ⟨#[]⟩ false 6 ∧ Below w.heap.size w w' := by
  have ST0 := Lib.hid (Sk.start w)
  have Hx1 := Lib.hid hx1
  have ST1 := Lib.hid (ST0.out.num h1)
  clear h1 hx1
  have d1 : (k1 == 3) = false := by simpa using hk
  clear hk
  go_enter Tryd.func8, Tryd.ntmps8
  go_upto_region 1 with fail
  obtain ⟨W2, HW2⟩ : ∃ W', Hid (W' = w.alloc (.cells #[(.int .i64 k1), (.bool g1), (.slice a1 n1 c1), (.string s1), (.bool t1)] 26)) := ⟨_, Lib.hid rfl⟩
  obtain ⟨p1, Hp1⟩ : ∃ b, Hid (b = w.heap.size) := ⟨_, Lib.hid rfl⟩
  have ST3 := Lib.hid (ST1.out.box Hp1.out HW2.out)
  obtain ⟨W4, HW4⟩ : ∃ W', Hid (W' = W2.alloc (.cells #[(.int .i64 0), (.bool false), (.slice none 0 0), (.string ⟨#[]⟩), (.bool false)] 26)) := ⟨_, Lib.hid rfl⟩
  obtain ⟨bo, Hbo⟩ : ∃ b, Hid (b = W2.heap.size) := ⟨_, Lib.hid rfl⟩
  have Obo := Lib.hid (ST3.out.old Hbo.out)
  have ST5 := Lib.hid (ST3.out.box Hbo.out HW4.out)
  have hz1 : w.heap.size + 1 = bo := by rw [Hbo.out, HW2.out, World.size_alloc]
  rw [← HW2.out, ← HW4.out]
  try rw [hz1]
  try rw [← Hp1.out]
  clear hz1
  have qbo_0 := ST5.out.cell (List.mem_cons_self ..) 0 _ rfl
  have fbo_0 := ST5.out.thaw (List.mem_cons_self ..) 0
  have qbo_1 := ST5.out.cell (List.mem_cons_self ..) 1 _ rfl
  have fbo_1 := ST5.out.thaw (List.mem_cons_self ..) 1
  have qbo_2 := ST5.out.cell (List.mem_cons_self ..) 2 _ rfl
  have fbo_2 := ST5.out.thaw (List.mem_cons_self ..) 2
  have qbo_3 := ST5.out.cell (List.mem_cons_self ..) 3 _ rfl
  have fbo_3 := ST5.out.thaw (List.mem_cons_self ..) 3
  have qbo_4 := ST5.out.cell (List.mem_cons_self ..) 4 _ rfl
  have fbo_4 := ST5.out.thaw (List.mem_cons_self ..) 4
  have qp1_0 := ST5.out.cell (List.mem_cons_of_mem _ (List.mem_cons_self ..)) 0 _ rfl
  have qp1_1 := ST5.out.cell (List.mem_cons_of_mem _ (List.mem_cons_self ..)) 1 _ rfl
  have qp1_2 := ST5.out.cell (List.mem_cons_of_mem _ (List.mem_cons_self ..)) 2 _ rfl
  have qp1_3 := ST5.out.cell (List.mem_cons_of_mem _ (List.mem_cons_self ..)) 3 _ rfl
  have qp1_4 := ST5.out.cell (List.mem_cons_of_mem _ (List.mem_cons_self ..)) 4 _ rfl
  go_wp2_with fail
  exact finK2 rfl (show BoxK W4 bo _ _ _ _ _ _ _ from (ST5.out.boxes _ (List.mem_cons_self ..)).1) ST5.out.below (ST5.out.boxes _ (List.mem_cons_self ..)).2 (intC_zero _) rfl rfl

set_option maxRecDepth 100000 in
set_option maxHeartbeats 3200000 in
theorem run_n3 {w : World} (op : ByteArray) {k1 : Int} {g1 : Bool} {a1 : Option Addr} {n1 c1 : Nat} {s1 : ByteArray} {t1 : Bool} {z1 : List Nat} {x1 : Int} (h1 : IntV w (.agg #[.bool g1, .slice a1 n1 c1]) g1 z1) (hx1 : valI g1 z1 = x1) (ho1 : op ≠ ⟨#[45]⟩) (ho2 : op ≠ ⟨#[33]⟩) :
    Calls Tryd.prog 8 #[.string op, .agg #[.int .i64 k1, .bool g1, .slice a1 n1 c1, .string s1, .bool t1]] w fun e w' => Kon2 w' e 0 0 ⟨#[]⟩ false 6 ∧ Below w.heap.size w w' := by
  have ST0 := Lib.hid (Sk.start w)
  have Hx1 := Lib.hid hx1
  have ST1 := Lib.hid (ST0.out.num h1)
  clear h1 hx1
  have d1 : (op.toList == [45]) = false := op_ne ho1
  have d2 : (op.toList == [33]) = false := op_ne ho2
  clear ho1 ho2
  go_enter Tryd.func8, Tryd.ntmps8
  go_upto_region 1 with fail
  obtain ⟨W2, HW2⟩ : ∃ W', Hid (W' = w.alloc (.cells #[(.int .i64 k1), (.bool g1), (.slice a1 n1 c1), (.string s1), (.bool t1)] 26)) := ⟨_, Lib.hid rfl⟩
  obtain ⟨p1, Hp1⟩ : ∃ b, Hid (b = w.heap.size) := ⟨_, Lib.hid rfl⟩
  have ST3 := Lib.hid (ST1.out.box Hp1.out HW2.out)
  obtain ⟨W4, HW4⟩ : ∃ W', Hid (W' = W2.alloc (.cells #[(.int .i64 0), (.bool false), (.slice none 0 0), (.string ⟨#[]⟩), (.bool false)] 26)) := ⟨_, Lib.hid rfl⟩
  obtain ⟨bo, Hbo⟩ : ∃ b, Hid (b = W2.heap.size) := ⟨_, Lib.hid rfl⟩
  have Obo := Lib.hid (ST3.out.old Hbo.out)
  have ST5 := Lib.hid (ST3.out.box Hbo.out HW4.out)
  have hz1 : w.heap.size + 1 = bo := by rw [Hbo.out, HW2.out, World.size_alloc]
  rw [← HW2.out, ← HW4.out]
  try rw [hz1]
  try rw [← Hp1.out]
  clear hz1
  have qbo_0 := ST5.out.cell (List.mem_cons_self ..) 0 _ rfl
  have fbo_0 := ST5.out.thaw (List.mem_cons_self ..) 0
  have qbo_1 := ST5.out.cell (List.mem_cons_self ..) 1 _ rfl
  have fbo_1 := ST5.out.thaw (List.mem_cons_self ..) 1
  have qbo_2 := ST5.out.cell (List.mem_cons_self ..) 2 _ rfl
  have fbo_2 := ST5.out.thaw (List.mem_cons_self ..) 2
  have qbo_3 := ST5.out.cell (List.mem_cons_self ..) 3 _ rfl
  have fbo_3 := ST5.out.thaw (List.mem_cons_self ..) 3
  have qbo_4 := ST5.out.cell (List.mem_cons_self ..) 4 _ rfl
  have fbo_4 := ST5.out.thaw (List.mem_cons_self ..) 4
  have qp1_0 := ST5.out.cell (List.mem_cons_of_mem _ (List.mem_cons_self ..)) 0 _ rfl
  have qp1_1 := ST5.out.cell (List.mem_cons_of_mem _ (List.mem_cons_self ..)) 1 _ rfl
  have qp1_2 := ST5.out.cell (List.mem_cons_of_mem _ (List.mem_cons_self ..)) 2 _ rfl
  have qp1_3 := ST5.out.cell (List.mem_cons_of_mem _ (List.mem_cons_self ..)) 3 _ rfl
  have qp1_4 := ST5.out.cell (List.mem_cons_of_mem _ (List.mem_cons_self ..)) 4 _ rfl
  go_wp2_with fail
  exact finK2 rfl (show BoxK W4 bo _ _ _ _ _ _ _ from (ST5.out.boxes _ (List.mem_cons_self ..)).1) ST5.out.below (ST5.out.boxes _ (List.mem_cons_self ..)).2 (intC_zero _) rfl rfl

/-- What a sign and a constant give: kind, number, truth, error. -/
def unK (op : ByteArray) (k x : Int) (t : Bool) : Int × Int × Bool × Int := if op = ⟨#[45]⟩ ∧ k = 1 then (1, -x, false, 0) else if op = ⟨#[33]⟩ ∧ k = 3 then (3, 0, !t, 0) else (0, 0, false, 6)

theorem unary_any {w : World} (op : ByteArray) {k1 : Int} {g1 : Bool} {a1 : Option Addr} {n1 c1 : Nat} {s1 : ByteArray} {t1 : Bool} {z1 : List Nat} {x1 : Int} (h1 : IntV w (.agg #[.bool g1, .slice a1 n1 c1]) g1 z1) (hx1 : valI g1 z1 = x1) :
    Calls Tryd.prog 7 #[.string op, .agg #[.int .i64 k1, .bool g1, .slice a1 n1 c1, .string s1, .bool t1]] w fun e w' => Kon2 w' e (unK op k1 x1 t1).1 (unK op k1 x1 t1).2.1 ⟨#[]⟩ (unK op k1 x1 t1).2.2.1 (unK op k1 x1 t1).2.2.2 ∧ Below w.heap.size w w' := by
  by_cases e1 : op = ⟨#[45]⟩
  · subst e1
    by_cases e2 : k1 = 1
    · rw [show unK ⟨#[45]⟩ k1 x1 t1 = (1, -x1, false, 0) from if_pos ⟨rfl, e2⟩]
      exact un_minus h1 hx1 e2
    · rw [show unK ⟨#[45]⟩ k1 x1 t1 = (0, 0, false, 6) from by unfold unK; rw [if_neg (fun h => e2 h.2), if_neg (fun h => absurd h.1 (by decide))]]
      exact un_n1 h1 hx1 e2
  · by_cases e3 : op = ⟨#[33]⟩
    · subst e3
      by_cases e2 : k1 = 3
      · rw [show unK ⟨#[33]⟩ k1 x1 t1 = (3, 0, !t1, 0) from by unfold unK; rw [if_neg (fun h => e1 h.1), if_pos ⟨rfl, e2⟩]]
        exact un_not h1 hx1 e2
      · rw [show unK ⟨#[33]⟩ k1 x1 t1 = (0, 0, false, 6) from by unfold unK; rw [if_neg (fun h => e1 h.1), if_neg (fun h => e2 h.2)]]
        exact un_n2 h1 hx1 e2
    · rw [show unK op k1 x1 t1 = (0, 0, false, 6) from by unfold unK; rw [if_neg (fun h => e1 h.1), if_neg (fun h => e3 h.1)]]
      exact un_n3 op h1 hx1 e1 e3

theorem runary_any {w : World} (op : ByteArray) {k1 : Int} {g1 : Bool} {a1 : Option Addr} {n1 c1 : Nat} {s1 : ByteArray} {t1 : Bool} {z1 : List Nat} {x1 : Int} (h1 : IntV w (.agg #[.bool g1, .slice a1 n1 c1]) g1 z1) (hx1 : valI g1 z1 = x1) :
    Calls Tryd.prog 8 #[.string op, .agg #[.int .i64 k1, .bool g1, .slice a1 n1 c1, .string s1, .bool t1]] w fun e w' => Kon2 w' e (unK op k1 x1 t1).1 (unK op k1 x1 t1).2.1 ⟨#[]⟩ (unK op k1 x1 t1).2.2.1 (unK op k1 x1 t1).2.2.2 ∧ Below w.heap.size w w' := by
  by_cases e1 : op = ⟨#[45]⟩
  · subst e1
    by_cases e2 : k1 = 1
    · rw [show unK ⟨#[45]⟩ k1 x1 t1 = (1, -x1, false, 0) from if_pos ⟨rfl, e2⟩]
      exact run_minus h1 hx1 e2
    · rw [show unK ⟨#[45]⟩ k1 x1 t1 = (0, 0, false, 6) from by unfold unK; rw [if_neg (fun h => e2 h.2), if_neg (fun h => absurd h.1 (by decide))]]
      exact run_n1 h1 hx1 e2
  · by_cases e3 : op = ⟨#[33]⟩
    · subst e3
      by_cases e2 : k1 = 3
      · rw [show unK ⟨#[33]⟩ k1 x1 t1 = (3, 0, !t1, 0) from by unfold unK; rw [if_neg (fun h => e1 h.1), if_pos ⟨rfl, e2⟩]]
        exact run_not h1 hx1 e2
      · rw [show unK ⟨#[33]⟩ k1 x1 t1 = (0, 0, false, 6) from by unfold unK; rw [if_neg (fun h => e1 h.1), if_neg (fun h => e2 h.2)]]
        exact run_n2 h1 hx1 e2
    · rw [show unK op k1 x1 t1 = (0, 0, false, 6) from by unfold unK; rw [if_neg (fun h => e1 h.1), if_neg (fun h => e3 h.1)]]
      exact run_n3 op h1 hx1 e1 e3

end Go.Proofs.YtahgbbnpbhfaeaaDoor
