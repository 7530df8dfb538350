/- konst.Binary: its ways, the first that tells. No condition. -/
import Derived.Test.YtahgbbnpbhfaeaaDoorKnRec2
namespace Go.Proofs.YtahgbbnpbhfaeaaDoor
open Go.RowKit

/-- A way that tells: in every world behind w. -/
def Way (w : World) (f : FuncId) (args : Array Value) (k x : Int) (s : ByteArray) (t : Bool) (K : Int) (ok : Bool) : Prop := ∀ W, Below w.heap.size w W → Calls Tryd.prog f args W fun e W' => Kon3 W' e k x s t K ok ∧ Below W.heap.size W W'
theorem Way.go {w W : World} {f : FuncId} {args : Array Value} {k x K : Int} {s : ByteArray} {t ok : Bool} (h : Way w f args k x s t K ok) (hb : Below w.heap.size w W) : Way W f args k x s t K ok := fun W' h' => h W' (hb.trans (Below.mono h' hb.size))
/-- The row of the three ways. -/
def Ways (w : World) (g : Nat) (l : List Addr) : Prop := g < w.heap.size ∧ ∀ W, Below w.heap.size w W → W.cell? ⟨g, 0, none⟩ = some (.func (.func 41) #[] (l.map fun a => Value.pointer (some a)).toArray) ∧ W.cell? ⟨g, 1, none⟩ = some (.func (.func 43) #[] (l.map fun a => Value.pointer (some a)).toArray) ∧ W.cell? ⟨g, 2, none⟩ = some (.func (.func 45) #[] (l.map fun a => Value.pointer (some a)).toArray)

set_option maxRecDepth 100000 in
set_option maxHeartbeats 3200000 in
theorem first_a {w : World} {g p1 p2 p3 : Nat} {k x K : Int} {s : ByteArray} {t : Bool} (hg : Ways w g [⟨p1, 0, none⟩, ⟨p2, 0, none⟩, ⟨p3, 0, none⟩]) (h0 : Way w 41 #[.pointer (some ⟨p1, 0, none⟩), .pointer (some ⟨p2, 0, none⟩), .pointer (some ⟨p3, 0, none⟩)] k x s t K true) :
    Calls Tryd.prog 40 #[.slice (some ⟨g, 0, none⟩) 3 3] w fun e w' => Kon2 w' e k x s t K ∧ Below w.heap.size w w' := by
  have ST0 := Lib.hid (Sk.start w)
  have HG := Lib.hid hg.2
  clear hg
  have HY0 := Lib.hid h0
  clear h0
  go_enter Tryd.func40, Tryd.ntmps40
  go_upto_region 1 with fail
  obtain ⟨W1, HW1⟩ : ∃ W', Hid (W' = w.alloc (.cells #[(.int .i64 0), (.bool false), (.slice none 0 0), (.string ⟨#[]⟩), (.bool false)] 26)) := ⟨_, Lib.hid rfl⟩
  obtain ⟨bo, Hbo⟩ : ∃ b, Hid (b = w.heap.size) := ⟨_, Lib.hid rfl⟩
  have ST2 := Lib.hid (ST0.out.box Hbo.out HW1.out)
  rw [← HW1.out]
  try rw [← Hbo.out]
  go_wp2_with fail
  refine wp_loop_rounds 4 ?_
  obtain ⟨c0, c1, c2⟩ := HG.out _ ST2.out.below
  rw [rounds_succ]
  simp only [List.map, List.toArray] at c0 c1 c2
  go_wp2_with (go_at_call 41; refine hold ?_)
  refine Hold.mk ?_
  refine (HY0.out _ ST2.out.below).mono ?_
  rintro e W3 ⟨⟨n0, a0, m0, d0, rfl, hv⟩, hb⟩
  have ST4 := Lib.hid (ST2.out.next hb hv)
  clear hv hb c0 c1 c2
  go_upto_region 5 with fail
  obtain ⟨W5, HW5⟩ : ∃ W', Hid (W' = W3.alloc (.cells #[(.int .i64 k), (.bool n0), (.slice a0 m0 d0), (.string s), (.bool t)] 26)) := ⟨_, Lib.hid rfl⟩
  obtain ⟨b0, Hb0⟩ : ∃ b, Hid (b = W3.heap.size) := ⟨_, Lib.hid rfl⟩
  have Ob0 := Lib.hid (ST4.out.old Hb0.out)
  have ST6 := Lib.hid (ST4.out.box Hb0.out HW5.out)
  rw [← HW5.out]
  try rw [← Hb0.out]
  have qb0_0 := ST6.out.cell (List.mem_cons_self ..) 0 _ rfl
  have qb0_1 := ST6.out.cell (List.mem_cons_self ..) 1 _ rfl
  have qb0_2 := ST6.out.cell (List.mem_cons_self ..) 2 _ rfl
  have qb0_3 := ST6.out.cell (List.mem_cons_self ..) 3 _ rfl
  have qb0_4 := ST6.out.cell (List.mem_cons_self ..) 4 _ rfl
  have qbo_0 := ST6.out.cell (List.mem_cons_of_mem _ (List.mem_cons_self ..)) 0 _ rfl
  have fbo_0 := ST6.out.thaw (List.mem_cons_of_mem _ (List.mem_cons_self ..)) 0
  have qbo_1 := ST6.out.cell (List.mem_cons_of_mem _ (List.mem_cons_self ..)) 1 _ rfl
  have fbo_1 := ST6.out.thaw (List.mem_cons_of_mem _ (List.mem_cons_self ..)) 1
  have qbo_2 := ST6.out.cell (List.mem_cons_of_mem _ (List.mem_cons_self ..)) 2 _ rfl
  have fbo_2 := ST6.out.thaw (List.mem_cons_of_mem _ (List.mem_cons_self ..)) 2
  have qbo_3 := ST6.out.cell (List.mem_cons_of_mem _ (List.mem_cons_self ..)) 3 _ rfl
  have fbo_3 := ST6.out.thaw (List.mem_cons_of_mem _ (List.mem_cons_self ..)) 3
  have qbo_4 := ST6.out.cell (List.mem_cons_of_mem _ (List.mem_cons_self ..)) 4 _ rfl
  have fbo_4 := ST6.out.thaw (List.mem_cons_of_mem _ (List.mem_cons_self ..)) 4
  go_wp2_with fail
  exact finK2 rfl (show BoxK W5 bo _ _ _ _ _ _ _ from (ST6.out.boxes _ (List.mem_cons_of_mem _ (List.mem_cons_self ..))).1) ST6.out.below (ST6.out.boxes _ (List.mem_cons_of_mem _ (List.mem_cons_self ..))).2 (ST6.out.getC (v := (.agg #[.bool n0, .slice a0 m0 d0])) (i := x) (List.mem_cons_self ..)) rfl rfl

set_option maxRecDepth 100000 in
set_option maxHeartbeats 3200000 in
theorem first_b {w : World} {g p1 p2 p3 : Nat} {k x K : Int} {s : ByteArray} {t : Bool} (hg : Ways w g [⟨p1, 0, none⟩, ⟨p2, 0, none⟩, ⟨p3, 0, none⟩]) (h0 : Way w 41 #[.pointer (some ⟨p1, 0, none⟩), .pointer (some ⟨p2, 0, none⟩), .pointer (some ⟨p3, 0, none⟩)] 0 0 ⟨#[]⟩ false 0 false) (h1 : Way w 43 #[.pointer (some ⟨p1, 0, none⟩), .pointer (some ⟨p2, 0, none⟩), .pointer (some ⟨p3, 0, none⟩)] k x s t K true) :
    Calls Tryd.prog 40 #[.slice (some ⟨g, 0, none⟩) 3 3] w fun e w' => Kon2 w' e k x s t K ∧ Below w.heap.size w w' := by
  have ST0 := Lib.hid (Sk.start w)
  have HG := Lib.hid hg.2
  clear hg
  have HY0 := Lib.hid h0
  clear h0
  have HY1 := Lib.hid h1
  clear h1
  go_enter Tryd.func40, Tryd.ntmps40
  go_upto_region 1 with fail
  obtain ⟨W1, HW1⟩ : ∃ W', Hid (W' = w.alloc (.cells #[(.int .i64 0), (.bool false), (.slice none 0 0), (.string ⟨#[]⟩), (.bool false)] 26)) := ⟨_, Lib.hid rfl⟩
  obtain ⟨bo, Hbo⟩ : ∃ b, Hid (b = w.heap.size) := ⟨_, Lib.hid rfl⟩
  have ST2 := Lib.hid (ST0.out.box Hbo.out HW1.out)
  rw [← HW1.out]
  try rw [← Hbo.out]
  go_wp2_with fail
  refine wp_loop_rounds 4 ?_
  obtain ⟨c0, c1, c2⟩ := HG.out _ ST2.out.below
  rw [rounds_succ]
  simp only [List.map, List.toArray] at c0 c1 c2
  go_wp2_with (go_at_call 41; refine hold ?_)
  refine Hold.mk ?_
  refine (HY0.out _ ST2.out.below).mono ?_
  rintro e W3 ⟨⟨n0, a0, m0, d0, rfl, hv⟩, hb⟩
  have ST4 := Lib.hid (ST2.out.next hb hv)
  clear hv hb c0 c1 c2
  go_upto_region 5 with fail
  obtain ⟨W5, HW5⟩ : ∃ W', Hid (W' = W3.alloc (.cells #[(.int .i64 0), (.bool n0), (.slice a0 m0 d0), (.string ⟨#[]⟩), (.bool false)] 26)) := ⟨_, Lib.hid rfl⟩
  obtain ⟨b0, Hb0⟩ : ∃ b, Hid (b = W3.heap.size) := ⟨_, Lib.hid rfl⟩
  have Ob0 := Lib.hid (ST4.out.old Hb0.out)
  have ST6 := Lib.hid (ST4.out.box Hb0.out HW5.out)
  rw [← HW5.out]
  try rw [← Hb0.out]
  go_wp2_with fail
  obtain ⟨c0, c1, c2⟩ := HG.out _ ST6.out.below
  rw [rounds_succ]
  simp only [List.map, List.toArray] at c0 c1 c2
  go_wp2_with (go_at_call 43; refine hold ?_)
  refine Hold.mk ?_
  refine (HY1.out _ ST6.out.below).mono ?_
  rintro e W7 ⟨⟨n1, a1, m1, d1, rfl, hv⟩, hb⟩
  have ST8 := Lib.hid (ST6.out.next hb hv)
  clear hv hb c0 c1 c2
  go_upto_region 5 with fail
  obtain ⟨W9, HW9⟩ : ∃ W', Hid (W' = W7.alloc (.cells #[(.int .i64 k), (.bool n1), (.slice a1 m1 d1), (.string s), (.bool t)] 26)) := ⟨_, Lib.hid rfl⟩
  obtain ⟨b1, Hb1⟩ : ∃ b, Hid (b = W7.heap.size) := ⟨_, Lib.hid rfl⟩
  have Ob1 := Lib.hid (ST8.out.old Hb1.out)
  have ST10 := Lib.hid (ST8.out.box Hb1.out HW9.out)
  rw [← HW9.out]
  try rw [← Hb1.out]
  have qb1_0 := ST10.out.cell (List.mem_cons_self ..) 0 _ rfl
  have qb1_1 := ST10.out.cell (List.mem_cons_self ..) 1 _ rfl
  have qb1_2 := ST10.out.cell (List.mem_cons_self ..) 2 _ rfl
  have qb1_3 := ST10.out.cell (List.mem_cons_self ..) 3 _ rfl
  have qb1_4 := ST10.out.cell (List.mem_cons_self ..) 4 _ rfl
  have qbo_0 := ST10.out.cell (List.mem_cons_of_mem _ (List.mem_cons_of_mem _ (List.mem_cons_self ..))) 0 _ rfl
  have fbo_0 := ST10.out.thaw (List.mem_cons_of_mem _ (List.mem_cons_of_mem _ (List.mem_cons_self ..))) 0
  have qbo_1 := ST10.out.cell (List.mem_cons_of_mem _ (List.mem_cons_of_mem _ (List.mem_cons_self ..))) 1 _ rfl
  have fbo_1 := ST10.out.thaw (List.mem_cons_of_mem _ (List.mem_cons_of_mem _ (List.mem_cons_self ..))) 1
  have qbo_2 := ST10.out.cell (List.mem_cons_of_mem _ (List.mem_cons_of_mem _ (List.mem_cons_self ..))) 2 _ rfl
  have fbo_2 := ST10.out.thaw (List.mem_cons_of_mem _ (List.mem_cons_of_mem _ (List.mem_cons_self ..))) 2
  have qbo_3 := ST10.out.cell (List.mem_cons_of_mem _ (List.mem_cons_of_mem _ (List.mem_cons_self ..))) 3 _ rfl
  have fbo_3 := ST10.out.thaw (List.mem_cons_of_mem _ (List.mem_cons_of_mem _ (List.mem_cons_self ..))) 3
  have qbo_4 := ST10.out.cell (List.mem_cons_of_mem _ (List.mem_cons_of_mem _ (List.mem_cons_self ..))) 4 _ rfl
  have fbo_4 := ST10.out.thaw (List.mem_cons_of_mem _ (List.mem_cons_of_mem _ (List.mem_cons_self ..))) 4
  go_wp2_with fail
  exact finK2 rfl (show BoxK W9 bo _ _ _ _ _ _ _ from (ST10.out.boxes _ (List.mem_cons_of_mem _ (List.mem_cons_of_mem _ (List.mem_cons_self ..)))).1) ST10.out.below (ST10.out.boxes _ (List.mem_cons_of_mem _ (List.mem_cons_of_mem _ (List.mem_cons_self ..)))).2 (ST10.out.getC (v := (.agg #[.bool n1, .slice a1 m1 d1])) (i := x) (List.mem_cons_self ..)) rfl rfl

set_option maxRecDepth 100000 in
set_option maxHeartbeats 3200000 in
theorem first_c {w : World} {g p1 p2 p3 : Nat} {k x K : Int} {s : ByteArray} {t : Bool} (hg : Ways w g [⟨p1, 0, none⟩, ⟨p2, 0, none⟩, ⟨p3, 0, none⟩]) (h0 : Way w 41 #[.pointer (some ⟨p1, 0, none⟩), .pointer (some ⟨p2, 0, none⟩), .pointer (some ⟨p3, 0, none⟩)] 0 0 ⟨#[]⟩ false 0 false) (h1 : Way w 43 #[.pointer (some ⟨p1, 0, none⟩), .pointer (some ⟨p2, 0, none⟩), .pointer (some ⟨p3, 0, none⟩)] 0 0 ⟨#[]⟩ false 0 false) (h2 : Way w 45 #[.pointer (some ⟨p1, 0, none⟩), .pointer (some ⟨p2, 0, none⟩), .pointer (some ⟨p3, 0, none⟩)] k x s t K true) :
    Calls Tryd.prog 40 #[.slice (some ⟨g, 0, none⟩) 3 3] w fun e w' => Kon2 w' e k x s t K ∧ Below w.heap.size w w' := by
  have ST0 := Lib.hid (Sk.start w)
  have HG := Lib.hid hg.2
  clear hg
  have HY0 := Lib.hid h0
  clear h0
  have HY1 := Lib.hid h1
  clear h1
  have HY2 := Lib.hid h2
  clear h2
  go_enter Tryd.func40, Tryd.ntmps40
  go_upto_region 1 with fail
  obtain ⟨W1, HW1⟩ : ∃ W', Hid (W' = w.alloc (.cells #[(.int .i64 0), (.bool false), (.slice none 0 0), (.string ⟨#[]⟩), (.bool false)] 26)) := ⟨_, Lib.hid rfl⟩
  obtain ⟨bo, Hbo⟩ : ∃ b, Hid (b = w.heap.size) := ⟨_, Lib.hid rfl⟩
  have ST2 := Lib.hid (ST0.out.box Hbo.out HW1.out)
  rw [← HW1.out]
  try rw [← Hbo.out]
  go_wp2_with fail
  refine wp_loop_rounds 4 ?_
  obtain ⟨c0, c1, c2⟩ := HG.out _ ST2.out.below
  rw [rounds_succ]
  simp only [List.map, List.toArray] at c0 c1 c2
  go_wp2_with (go_at_call 41; refine hold ?_)
  refine Hold.mk ?_
  refine (HY0.out _ ST2.out.below).mono ?_
  rintro e W3 ⟨⟨n0, a0, m0, d0, rfl, hv⟩, hb⟩
  have ST4 := Lib.hid (ST2.out.next hb hv)
  clear hv hb c0 c1 c2
  go_upto_region 5 with fail
  obtain ⟨W5, HW5⟩ : ∃ W', Hid (W' = W3.alloc (.cells #[(.int .i64 0), (.bool n0), (.slice a0 m0 d0), (.string ⟨#[]⟩), (.bool false)] 26)) := ⟨_, Lib.hid rfl⟩
  obtain ⟨b0, Hb0⟩ : ∃ b, Hid (b = W3.heap.size) := ⟨_, Lib.hid rfl⟩
  have Ob0 := Lib.hid (ST4.out.old Hb0.out)
  have ST6 := Lib.hid (ST4.out.box Hb0.out HW5.out)
  rw [← HW5.out]
  try rw [← Hb0.out]
  go_wp2_with fail
  obtain ⟨c0, c1, c2⟩ := HG.out _ ST6.out.below
  rw [rounds_succ]
  simp only [List.map, List.toArray] at c0 c1 c2
  go_wp2_with (go_at_call 43; refine hold ?_)
  refine Hold.mk ?_
  refine (HY1.out _ ST6.out.below).mono ?_
  rintro e W7 ⟨⟨n1, a1, m1, d1, rfl, hv⟩, hb⟩
  have ST8 := Lib.hid (ST6.out.next hb hv)
  clear hv hb c0 c1 c2
  go_upto_region 5 with fail
  obtain ⟨W9, HW9⟩ : ∃ W', Hid (W' = W7.alloc (.cells #[(.int .i64 0), (.bool n1), (.slice a1 m1 d1), (.string ⟨#[]⟩), (.bool false)] 26)) := ⟨_, Lib.hid rfl⟩
  obtain ⟨b1, Hb1⟩ : ∃ b, Hid (b = W7.heap.size) := ⟨_, Lib.hid rfl⟩
  have Ob1 := Lib.hid (ST8.out.old Hb1.out)
  have ST10 := Lib.hid (ST8.out.box Hb1.out HW9.out)
  rw [← HW9.out]
  try rw [← Hb1.out]
  go_wp2_with fail
  obtain ⟨c0, c1, c2⟩ := HG.out _ ST10.out.below
  rw [rounds_succ]
  simp only [List.map, List.toArray] at c0 c1 c2
  go_wp2_with (go_at_call 45; refine hold ?_)
  refine Hold.mk ?_
  refine (HY2.out _ ST10.out.below).mono ?_
  rintro e W11 ⟨⟨n2, a2, m2, d2, rfl, hv⟩, hb⟩
  have ST12 := Lib.hid (ST10.out.next hb hv)
  clear hv hb c0 c1 c2
  go_upto_region 5 with fail
  obtain ⟨W13, HW13⟩ : ∃ W', Hid (W' = W11.alloc (.cells #[(.int .i64 k), (.bool n2), (.slice a2 m2 d2), (.string s), (.bool t)] 26)) := ⟨_, Lib.hid rfl⟩
  obtain ⟨b2, Hb2⟩ : ∃ b, Hid (b = W11.heap.size) := ⟨_, Lib.hid rfl⟩
  have Ob2 := Lib.hid (ST12.out.old Hb2.out)
  have ST14 := Lib.hid (ST12.out.box Hb2.out HW13.out)
  rw [← HW13.out]
  try rw [← Hb2.out]
  have qb2_0 := ST14.out.cell (List.mem_cons_self ..) 0 _ rfl
  have qb2_1 := ST14.out.cell (List.mem_cons_self ..) 1 _ rfl
  have qb2_2 := ST14.out.cell (List.mem_cons_self ..) 2 _ rfl
  have qb2_3 := ST14.out.cell (List.mem_cons_self ..) 3 _ rfl
  have qb2_4 := ST14.out.cell (List.mem_cons_self ..) 4 _ rfl
  have qbo_0 := ST14.out.cell (List.mem_cons_of_mem _ (List.mem_cons_of_mem _ (List.mem_cons_of_mem _ (List.mem_cons_self ..)))) 0 _ rfl
  have fbo_0 := ST14.out.thaw (List.mem_cons_of_mem _ (List.mem_cons_of_mem _ (List.mem_cons_of_mem _ (List.mem_cons_self ..)))) 0
  have qbo_1 := ST14.out.cell (List.mem_cons_of_mem _ (List.mem_cons_of_mem _ (List.mem_cons_of_mem _ (List.mem_cons_self ..)))) 1 _ rfl
  have fbo_1 := ST14.out.thaw (List.mem_cons_of_mem _ (List.mem_cons_of_mem _ (List.mem_cons_of_mem _ (List.mem_cons_self ..)))) 1
  have qbo_2 := ST14.out.cell (List.mem_cons_of_mem _ (List.mem_cons_of_mem _ (List.mem_cons_of_mem _ (List.mem_cons_self ..)))) 2 _ rfl
  have fbo_2 := ST14.out.thaw (List.mem_cons_of_mem _ (List.mem_cons_of_mem _ (List.mem_cons_of_mem _ (List.mem_cons_self ..)))) 2
  have qbo_3 := ST14.out.cell (List.mem_cons_of_mem _ (List.mem_cons_of_mem _ (List.mem_cons_of_mem _ (List.mem_cons_self ..)))) 3 _ rfl
  have fbo_3 := ST14.out.thaw (List.mem_cons_of_mem _ (List.mem_cons_of_mem _ (List.mem_cons_of_mem _ (List.mem_cons_self ..)))) 3
  have qbo_4 := ST14.out.cell (List.mem_cons_of_mem _ (List.mem_cons_of_mem _ (List.mem_cons_of_mem _ (List.mem_cons_self ..)))) 4 _ rfl
  have fbo_4 := ST14.out.thaw (List.mem_cons_of_mem _ (List.mem_cons_of_mem _ (List.mem_cons_of_mem _ (List.mem_cons_self ..)))) 4
  go_wp2_with fail
  exact finK2 rfl (show BoxK W13 bo _ _ _ _ _ _ _ from (ST14.out.boxes _ (List.mem_cons_of_mem _ (List.mem_cons_of_mem _ (List.mem_cons_of_mem _ (List.mem_cons_self ..))))).1) ST14.out.below (ST14.out.boxes _ (List.mem_cons_of_mem _ (List.mem_cons_of_mem _ (List.mem_cons_of_mem _ (List.mem_cons_self ..))))).2 (ST14.out.getC (v := (.agg #[.bool n2, .slice a2 m2 d2])) (i := x) (List.mem_cons_self ..)) rfl rfl

set_option maxRecDepth 100000 in
set_option maxHeartbeats 3200000 in
theorem first_none {w : World} {g p1 p2 p3 : Nat} {k x K : Int} {s : ByteArray} {t : Bool} (hg : Ways w g [⟨p1, 0, none⟩, ⟨p2, 0, none⟩, ⟨p3, 0, none⟩]) (h0 : Way w 41 #[.pointer (some ⟨p1, 0, none⟩), .pointer (some ⟨p2, 0, none⟩), .pointer (some ⟨p3, 0, none⟩)] 0 0 ⟨#[]⟩ false 0 false) (h1 : Way w 43 #[.pointer (some ⟨p1, 0, none⟩), .pointer (some ⟨p2, 0, none⟩), .pointer (some ⟨p3, 0, none⟩)] 0 0 ⟨#[]⟩ false 0 false) (h2 : Way w 45 #[.pointer (some ⟨p1, 0, none⟩), .pointer (some ⟨p2, 0, none⟩), .pointer (some ⟨p3, 0, none⟩)] 0 0 ⟨#[]⟩ false 0 false) :
    Calls Tryd.prog 40 #[.slice (some ⟨g, 0, none⟩) 3 3] w fun e w' => Kon2 w' e 0 0 ⟨#[]⟩ false 6 ∧ Below w.heap.size w w' := by
  have ST0 := Lib.hid (Sk.start w)
  have HG := Lib.hid hg.2
  clear hg
  have HY0 := Lib.hid h0
  clear h0
  have HY1 := Lib.hid h1
  clear h1
  have HY2 := Lib.hid h2
  clear h2
  go_enter Tryd.func40, Tryd.ntmps40
  go_upto_region 1 with fail
  obtain ⟨W1, HW1⟩ : ∃ W', Hid (W' = w.alloc (.cells #[(.int .i64 0), (.bool false), (.slice none 0 0), (.string ⟨#[]⟩), (.bool false)] 26)) := ⟨_, Lib.hid rfl⟩
  obtain ⟨bo, Hbo⟩ : ∃ b, Hid (b = w.heap.size) := ⟨_, Lib.hid rfl⟩
  have ST2 := Lib.hid (ST0.out.box Hbo.out HW1.out)
  rw [← HW1.out]
  try rw [← Hbo.out]
  go_wp2_with fail
  refine wp_loop_rounds 4 ?_
  obtain ⟨c0, c1, c2⟩ := HG.out _ ST2.out.below
  rw [rounds_succ]
  simp only [List.map, List.toArray] at c0 c1 c2
  go_wp2_with (go_at_call 41; refine hold ?_)
  refine Hold.mk ?_
  refine (HY0.out _ ST2.out.below).mono ?_
  rintro e W3 ⟨⟨n0, a0, m0, d0, rfl, hv⟩, hb⟩
  have ST4 := Lib.hid (ST2.out.next hb hv)
  clear hv hb c0 c1 c2
  go_upto_region 5 with fail
  obtain ⟨W5, HW5⟩ : ∃ W', Hid (W' = W3.alloc (.cells #[(.int .i64 0), (.bool n0), (.slice a0 m0 d0), (.string ⟨#[]⟩), (.bool false)] 26)) := ⟨_, Lib.hid rfl⟩
  obtain ⟨b0, Hb0⟩ : ∃ b, Hid (b = W3.heap.size) := ⟨_, Lib.hid rfl⟩
  have Ob0 := Lib.hid (ST4.out.old Hb0.out)
  have ST6 := Lib.hid (ST4.out.box Hb0.out HW5.out)
  rw [← HW5.out]
  try rw [← Hb0.out]
  go_wp2_with fail
  obtain ⟨c0, c1, c2⟩ := HG.out _ ST6.out.below
  rw [rounds_succ]
  simp only [List.map, List.toArray] at c0 c1 c2
  go_wp2_with (go_at_call 43; refine hold ?_)
  refine Hold.mk ?_
  refine (HY1.out _ ST6.out.below).mono ?_
  rintro e W7 ⟨⟨n1, a1, m1, d1, rfl, hv⟩, hb⟩
  have ST8 := Lib.hid (ST6.out.next hb hv)
  clear hv hb c0 c1 c2
  go_upto_region 5 with fail
  obtain ⟨W9, HW9⟩ : ∃ W', Hid (W' = W7.alloc (.cells #[(.int .i64 0), (.bool n1), (.slice a1 m1 d1), (.string ⟨#[]⟩), (.bool false)] 26)) := ⟨_, Lib.hid rfl⟩
  obtain ⟨b1, Hb1⟩ : ∃ b, Hid (b = W7.heap.size) := ⟨_, Lib.hid rfl⟩
  have Ob1 := Lib.hid (ST8.out.old Hb1.out)
  have ST10 := Lib.hid (ST8.out.box Hb1.out HW9.out)
  rw [← HW9.out]
  try rw [← Hb1.out]
  go_wp2_with fail
  obtain ⟨c0, c1, c2⟩ := HG.out _ ST10.out.below
  rw [rounds_succ]
  simp only [List.map, List.toArray] at c0 c1 c2
  go_wp2_with (go_at_call 45; refine hold ?_)
  refine Hold.mk ?_
  refine (HY2.out _ ST10.out.below).mono ?_
  rintro e W11 ⟨⟨n2, a2, m2, d2, rfl, hv⟩, hb⟩
  have ST12 := Lib.hid (ST10.out.next hb hv)
  clear hv hb c0 c1 c2
  go_upto_region 5 with fail
  obtain ⟨W13, HW13⟩ : ∃ W', Hid (W' = W11.alloc (.cells #[(.int .i64 0), (.bool n2), (.slice a2 m2 d2), (.string ⟨#[]⟩), (.bool false)] 26)) := ⟨_, Lib.hid rfl⟩
  obtain ⟨b2, Hb2⟩ : ∃ b, Hid (b = W11.heap.size) := ⟨_, Lib.hid rfl⟩
  have Ob2 := Lib.hid (ST12.out.old Hb2.out)
  have ST14 := Lib.hid (ST12.out.box Hb2.out HW13.out)
  rw [← HW13.out]
  try rw [← Hb2.out]
  go_wp2_with fail
  have qbo_0 := ST14.out.cell (List.mem_cons_of_mem _ (List.mem_cons_of_mem _ (List.mem_cons_of_mem _ (List.mem_cons_self ..)))) 0 _ rfl
  have fbo_0 := ST14.out.thaw (List.mem_cons_of_mem _ (List.mem_cons_of_mem _ (List.mem_cons_of_mem _ (List.mem_cons_self ..)))) 0
  have qbo_1 := ST14.out.cell (List.mem_cons_of_mem _ (List.mem_cons_of_mem _ (List.mem_cons_of_mem _ (List.mem_cons_self ..)))) 1 _ rfl
  have fbo_1 := ST14.out.thaw (List.mem_cons_of_mem _ (List.mem_cons_of_mem _ (List.mem_cons_of_mem _ (List.mem_cons_self ..)))) 1
  have qbo_2 := ST14.out.cell (List.mem_cons_of_mem _ (List.mem_cons_of_mem _ (List.mem_cons_of_mem _ (List.mem_cons_self ..)))) 2 _ rfl
  have fbo_2 := ST14.out.thaw (List.mem_cons_of_mem _ (List.mem_cons_of_mem _ (List.mem_cons_of_mem _ (List.mem_cons_self ..)))) 2
  have qbo_3 := ST14.out.cell (List.mem_cons_of_mem _ (List.mem_cons_of_mem _ (List.mem_cons_of_mem _ (List.mem_cons_self ..)))) 3 _ rfl
  have fbo_3 := ST14.out.thaw (List.mem_cons_of_mem _ (List.mem_cons_of_mem _ (List.mem_cons_of_mem _ (List.mem_cons_self ..)))) 3
  have qbo_4 := ST14.out.cell (List.mem_cons_of_mem _ (List.mem_cons_of_mem _ (List.mem_cons_of_mem _ (List.mem_cons_self ..)))) 4 _ rfl
  have fbo_4 := ST14.out.thaw (List.mem_cons_of_mem _ (List.mem_cons_of_mem _ (List.mem_cons_of_mem _ (List.mem_cons_self ..)))) 4
  rw [rounds_succ]
  go_wp2_with fail
  exact finK2 rfl (show BoxK W13 bo _ _ _ _ _ _ _ from (ST14.out.boxes _ (List.mem_cons_of_mem _ (List.mem_cons_of_mem _ (List.mem_cons_of_mem _ (List.mem_cons_self ..))))).1) ST14.out.below (ST14.out.boxes _ (List.mem_cons_of_mem _ (List.mem_cons_of_mem _ (List.mem_cons_of_mem _ (List.mem_cons_self ..))))).2 (intC_zero _) rfl rfl

set_option maxRecDepth 100000 in
set_option maxHeartbeats 3200000 in
theorem clo_1 {w : World} {p1 p2 p3 : Nat} {op : ByteArray} {k1 k2 : Int} {g1 g2 t1 t2 : Bool} {a1 a2 : Option Addr} {n1 c1 n2 c2 : Nat} {s1 s2 : ByteArray} {k x K : Int} {s : ByteArray} {t ok : Bool}
    (h1 : w.cell? ⟨p1, 0, none⟩ = some (.string op)) (h2 : BoxK w p2 k1 g1 a1 n1 c1 s1 t1) (h3 : BoxK w p3 k2 g2 a2 n2 c2 s2 t2) (h : Way w 42 #[.string op, .agg #[.int .i64 k1, .bool g1, .slice a1 n1 c1, .string s1, .bool t1], .agg #[.int .i64 k2, .bool g2, .slice a2 n2 c2, .string s2, .bool t2]] k x s t K ok) :
    Calls Tryd.prog 41 #[.pointer (some ⟨p1, 0, none⟩), .pointer (some ⟨p2, 0, none⟩), .pointer (some ⟨p3, 0, none⟩)] w fun e w' => Kon3 w' e k x s t K ok ∧ Below w.heap.size w w' := by
  have ST0 := Lib.hid (Sk.start w)
  have HH := Lib.hid h
  clear h
  obtain ⟨q0, q1, q2, q3, q4⟩ := h2.cells
  obtain ⟨r0, r1, r2, r3, r4⟩ := h3.cells
  clear h2 h3
  have e1 := cell_alloc (o := .cells #[.int .i64 0, .bool false, .slice none 0 0, .string ⟨#[]⟩, .bool false] 26) h1
  have eq0 := cell_alloc (o := .cells #[.int .i64 0, .bool false, .slice none 0 0, .string ⟨#[]⟩, .bool false] 26) q0
  have eq1 := cell_alloc (o := .cells #[.int .i64 0, .bool false, .slice none 0 0, .string ⟨#[]⟩, .bool false] 26) q1
  have eq2 := cell_alloc (o := .cells #[.int .i64 0, .bool false, .slice none 0 0, .string ⟨#[]⟩, .bool false] 26) q2
  have eq3 := cell_alloc (o := .cells #[.int .i64 0, .bool false, .slice none 0 0, .string ⟨#[]⟩, .bool false] 26) q3
  have eq4 := cell_alloc (o := .cells #[.int .i64 0, .bool false, .slice none 0 0, .string ⟨#[]⟩, .bool false] 26) q4
  have er0 := cell_alloc (o := .cells #[.int .i64 0, .bool false, .slice none 0 0, .string ⟨#[]⟩, .bool false] 26) r0
  have er1 := cell_alloc (o := .cells #[.int .i64 0, .bool false, .slice none 0 0, .string ⟨#[]⟩, .bool false] 26) r1
  have er2 := cell_alloc (o := .cells #[.int .i64 0, .bool false, .slice none 0 0, .string ⟨#[]⟩, .bool false] 26) r2
  have er3 := cell_alloc (o := .cells #[.int .i64 0, .bool false, .slice none 0 0, .string ⟨#[]⟩, .bool false] 26) r3
  have er4 := cell_alloc (o := .cells #[.int .i64 0, .bool false, .slice none 0 0, .string ⟨#[]⟩, .bool false] 26) r4
  clear h1 q0 q1 q2 q3 q4 r0 r1 r2 r3 r4
  go_enter Tryd.func41, Tryd.ntmps41
  go_upto_region 1 with fail
  obtain ⟨W1, HW1⟩ : ∃ W', Hid (W' = w.alloc (.cells #[(.int .i64 0), (.bool false), (.slice none 0 0), (.string ⟨#[]⟩), (.bool false)] 26)) := ⟨_, Lib.hid rfl⟩
  obtain ⟨bo, Hbo⟩ : ∃ b, Hid (b = w.heap.size) := ⟨_, Lib.hid rfl⟩
  have ST2 := Lib.hid (ST0.out.box Hbo.out HW1.out)
  rw [← HW1.out]
  try rw [← Hbo.out]
  rw [← HW1.out] at e1 eq0 eq1 eq2 eq3 eq4 er0 er1 er2 er3 er4
  go_wp2_with (go_at_call 42; refine hold ?_)
  refine Hold.mk ?_
  have C3 := Lib.hid (HH.out _ ST2.out.below)
  refine C3.out.mono ?_
  rintro e W3 ⟨⟨n6, a6, c6, d6, rfl, hv⟩, hb⟩
  have ST4 := Lib.hid (ST2.out.next hb hv)
  clear hb hv
  clear e1 eq0 eq1 eq2 eq3 eq4 er0 er1 er2 er3 er4
  have qbo_0 := ST4.out.cell (List.mem_cons_self ..) 0 _ rfl
  have fbo_0 := ST4.out.thaw (List.mem_cons_self ..) 0
  have qbo_1 := ST4.out.cell (List.mem_cons_self ..) 1 _ rfl
  have fbo_1 := ST4.out.thaw (List.mem_cons_self ..) 1
  have qbo_2 := ST4.out.cell (List.mem_cons_self ..) 2 _ rfl
  have fbo_2 := ST4.out.thaw (List.mem_cons_self ..) 2
  have qbo_3 := ST4.out.cell (List.mem_cons_self ..) 3 _ rfl
  have fbo_3 := ST4.out.thaw (List.mem_cons_self ..) 3
  have qbo_4 := ST4.out.cell (List.mem_cons_self ..) 4 _ rfl
  have fbo_4 := ST4.out.thaw (List.mem_cons_self ..) 4
  go_wp2_with fail
  exact finK3 rfl (show BoxK W3 bo _ _ _ _ _ _ _ from (ST4.out.boxes _ (List.mem_cons_self ..)).1) ST4.out.below (ST4.out.boxes _ (List.mem_cons_self ..)).2 (ST4.out.getC (v := (.agg #[.bool n6, .slice a6 c6 d6])) (i := x) (List.mem_cons_self ..)) rfl rfl rfl

set_option maxRecDepth 100000 in
set_option maxHeartbeats 3200000 in
theorem clo_2 {w : World} {p1 p2 p3 : Nat} {op : ByteArray} {k1 k2 : Int} {g1 g2 t1 t2 : Bool} {a1 a2 : Option Addr} {n1 c1 n2 c2 : Nat} {s1 s2 : ByteArray} {k x K : Int} {s : ByteArray} {t ok : Bool}
    (h1 : w.cell? ⟨p1, 0, none⟩ = some (.string op)) (h2 : BoxK w p2 k1 g1 a1 n1 c1 s1 t1) (h3 : BoxK w p3 k2 g2 a2 n2 c2 s2 t2) (h : Way w 44 #[.string op, .agg #[.int .i64 k1, .bool g1, .slice a1 n1 c1, .string s1, .bool t1], .agg #[.int .i64 k2, .bool g2, .slice a2 n2 c2, .string s2, .bool t2]] k x s t K ok) :
    Calls Tryd.prog 43 #[.pointer (some ⟨p1, 0, none⟩), .pointer (some ⟨p2, 0, none⟩), .pointer (some ⟨p3, 0, none⟩)] w fun e w' => Kon3 w' e k x s t K ok ∧ Below w.heap.size w w' := by
  have ST0 := Lib.hid (Sk.start w)
  have HH := Lib.hid h
  clear h
  obtain ⟨q0, q1, q2, q3, q4⟩ := h2.cells
  obtain ⟨r0, r1, r2, r3, r4⟩ := h3.cells
  clear h2 h3
  have e1 := cell_alloc (o := .cells #[.int .i64 0, .bool false, .slice none 0 0, .string ⟨#[]⟩, .bool false] 26) h1
  have eq0 := cell_alloc (o := .cells #[.int .i64 0, .bool false, .slice none 0 0, .string ⟨#[]⟩, .bool false] 26) q0
  have eq1 := cell_alloc (o := .cells #[.int .i64 0, .bool false, .slice none 0 0, .string ⟨#[]⟩, .bool false] 26) q1
  have eq2 := cell_alloc (o := .cells #[.int .i64 0, .bool false, .slice none 0 0, .string ⟨#[]⟩, .bool false] 26) q2
  have eq3 := cell_alloc (o := .cells #[.int .i64 0, .bool false, .slice none 0 0, .string ⟨#[]⟩, .bool false] 26) q3
  have eq4 := cell_alloc (o := .cells #[.int .i64 0, .bool false, .slice none 0 0, .string ⟨#[]⟩, .bool false] 26) q4
  have er0 := cell_alloc (o := .cells #[.int .i64 0, .bool false, .slice none 0 0, .string ⟨#[]⟩, .bool false] 26) r0
  have er1 := cell_alloc (o := .cells #[.int .i64 0, .bool false, .slice none 0 0, .string ⟨#[]⟩, .bool false] 26) r1
  have er2 := cell_alloc (o := .cells #[.int .i64 0, .bool false, .slice none 0 0, .string ⟨#[]⟩, .bool false] 26) r2
  have er3 := cell_alloc (o := .cells #[.int .i64 0, .bool false, .slice none 0 0, .string ⟨#[]⟩, .bool false] 26) r3
  have er4 := cell_alloc (o := .cells #[.int .i64 0, .bool false, .slice none 0 0, .string ⟨#[]⟩, .bool false] 26) r4
  clear h1 q0 q1 q2 q3 q4 r0 r1 r2 r3 r4
  go_enter Tryd.func43, Tryd.ntmps43
  go_upto_region 1 with fail
  obtain ⟨W1, HW1⟩ : ∃ W', Hid (W' = w.alloc (.cells #[(.int .i64 0), (.bool false), (.slice none 0 0), (.string ⟨#[]⟩), (.bool false)] 26)) := ⟨_, Lib.hid rfl⟩
  obtain ⟨bo, Hbo⟩ : ∃ b, Hid (b = w.heap.size) := ⟨_, Lib.hid rfl⟩
  have ST2 := Lib.hid (ST0.out.box Hbo.out HW1.out)
  rw [← HW1.out]
  try rw [← Hbo.out]
  rw [← HW1.out] at e1 eq0 eq1 eq2 eq3 eq4 er0 er1 er2 er3 er4
  go_wp2_with (go_at_call 44; refine hold ?_)
  refine Hold.mk ?_
  have C3 := Lib.hid (HH.out _ ST2.out.below)
  refine C3.out.mono ?_
  rintro e W3 ⟨⟨n6, a6, c6, d6, rfl, hv⟩, hb⟩
  have ST4 := Lib.hid (ST2.out.next hb hv)
  clear hb hv
  clear e1 eq0 eq1 eq2 eq3 eq4 er0 er1 er2 er3 er4
  have qbo_0 := ST4.out.cell (List.mem_cons_self ..) 0 _ rfl
  have fbo_0 := ST4.out.thaw (List.mem_cons_self ..) 0
  have qbo_1 := ST4.out.cell (List.mem_cons_self ..) 1 _ rfl
  have fbo_1 := ST4.out.thaw (List.mem_cons_self ..) 1
  have qbo_2 := ST4.out.cell (List.mem_cons_self ..) 2 _ rfl
  have fbo_2 := ST4.out.thaw (List.mem_cons_self ..) 2
  have qbo_3 := ST4.out.cell (List.mem_cons_self ..) 3 _ rfl
  have fbo_3 := ST4.out.thaw (List.mem_cons_self ..) 3
  have qbo_4 := ST4.out.cell (List.mem_cons_self ..) 4 _ rfl
  have fbo_4 := ST4.out.thaw (List.mem_cons_self ..) 4
  go_wp2_with fail
  exact finK3 rfl (show BoxK W3 bo _ _ _ _ _ _ _ from (ST4.out.boxes _ (List.mem_cons_self ..)).1) ST4.out.below (ST4.out.boxes _ (List.mem_cons_self ..)).2 (ST4.out.getC (v := (.agg #[.bool n6, .slice a6 c6 d6])) (i := x) (List.mem_cons_self ..)) rfl rfl rfl

set_option maxRecDepth 100000 in
set_option maxHeartbeats 3200000 in
theorem clo_3 {w : World} {p1 p2 p3 : Nat} {op : ByteArray} {k1 k2 : Int} {g1 g2 t1 t2 : Bool} {a1 a2 : Option Addr} {n1 c1 n2 c2 : Nat} {s1 s2 : ByteArray} {k x K : Int} {s : ByteArray} {t ok : Bool}
    (h1 : w.cell? ⟨p1, 0, none⟩ = some (.string op)) (h2 : BoxK w p2 k1 g1 a1 n1 c1 s1 t1) (h3 : BoxK w p3 k2 g2 a2 n2 c2 s2 t2) (h : Way w 46 #[.string op, .agg #[.int .i64 k1, .bool g1, .slice a1 n1 c1, .string s1, .bool t1], .agg #[.int .i64 k2, .bool g2, .slice a2 n2 c2, .string s2, .bool t2]] k x s t K ok) :
    Calls Tryd.prog 45 #[.pointer (some ⟨p1, 0, none⟩), .pointer (some ⟨p2, 0, none⟩), .pointer (some ⟨p3, 0, none⟩)] w fun e w' => Kon3 w' e k x s t K ok ∧ Below w.heap.size w w' := by
  have ST0 := Lib.hid (Sk.start w)
  have HH := Lib.hid h
  clear h
  obtain ⟨q0, q1, q2, q3, q4⟩ := h2.cells
  obtain ⟨r0, r1, r2, r3, r4⟩ := h3.cells
  clear h2 h3
  have e1 := cell_alloc (o := .cells #[.int .i64 0, .bool false, .slice none 0 0, .string ⟨#[]⟩, .bool false] 26) h1
  have eq0 := cell_alloc (o := .cells #[.int .i64 0, .bool false, .slice none 0 0, .string ⟨#[]⟩, .bool false] 26) q0
  have eq1 := cell_alloc (o := .cells #[.int .i64 0, .bool false, .slice none 0 0, .string ⟨#[]⟩, .bool false] 26) q1
  have eq2 := cell_alloc (o := .cells #[.int .i64 0, .bool false, .slice none 0 0, .string ⟨#[]⟩, .bool false] 26) q2
  have eq3 := cell_alloc (o := .cells #[.int .i64 0, .bool false, .slice none 0 0, .string ⟨#[]⟩, .bool false] 26) q3
  have eq4 := cell_alloc (o := .cells #[.int .i64 0, .bool false, .slice none 0 0, .string ⟨#[]⟩, .bool false] 26) q4
  have er0 := cell_alloc (o := .cells #[.int .i64 0, .bool false, .slice none 0 0, .string ⟨#[]⟩, .bool false] 26) r0
  have er1 := cell_alloc (o := .cells #[.int .i64 0, .bool false, .slice none 0 0, .string ⟨#[]⟩, .bool false] 26) r1
  have er2 := cell_alloc (o := .cells #[.int .i64 0, .bool false, .slice none 0 0, .string ⟨#[]⟩, .bool false] 26) r2
  have er3 := cell_alloc (o := .cells #[.int .i64 0, .bool false, .slice none 0 0, .string ⟨#[]⟩, .bool false] 26) r3
  have er4 := cell_alloc (o := .cells #[.int .i64 0, .bool false, .slice none 0 0, .string ⟨#[]⟩, .bool false] 26) r4
  clear h1 q0 q1 q2 q3 q4 r0 r1 r2 r3 r4
  go_enter Tryd.func45, Tryd.ntmps45
  go_upto_region 1 with fail
  obtain ⟨W1, HW1⟩ : ∃ W', Hid (W' = w.alloc (.cells #[(.int .i64 0), (.bool false), (.slice none 0 0), (.string ⟨#[]⟩), (.bool false)] 26)) := ⟨_, Lib.hid rfl⟩
  obtain ⟨bo, Hbo⟩ : ∃ b, Hid (b = w.heap.size) := ⟨_, Lib.hid rfl⟩
  have ST2 := Lib.hid (ST0.out.box Hbo.out HW1.out)
  rw [← HW1.out]
  try rw [← Hbo.out]
  rw [← HW1.out] at e1 eq0 eq1 eq2 eq3 eq4 er0 er1 er2 er3 er4
  go_wp2_with (go_at_call 46; refine hold ?_)
  refine Hold.mk ?_
  have C3 := Lib.hid (HH.out _ ST2.out.below)
  refine C3.out.mono ?_
  rintro e W3 ⟨⟨n6, a6, c6, d6, rfl, hv⟩, hb⟩
  have ST4 := Lib.hid (ST2.out.next hb hv)
  clear hb hv
  clear e1 eq0 eq1 eq2 eq3 eq4 er0 er1 er2 er3 er4
  have qbo_0 := ST4.out.cell (List.mem_cons_self ..) 0 _ rfl
  have fbo_0 := ST4.out.thaw (List.mem_cons_self ..) 0
  have qbo_1 := ST4.out.cell (List.mem_cons_self ..) 1 _ rfl
  have fbo_1 := ST4.out.thaw (List.mem_cons_self ..) 1
  have qbo_2 := ST4.out.cell (List.mem_cons_self ..) 2 _ rfl
  have fbo_2 := ST4.out.thaw (List.mem_cons_self ..) 2
  have qbo_3 := ST4.out.cell (List.mem_cons_self ..) 3 _ rfl
  have fbo_3 := ST4.out.thaw (List.mem_cons_self ..) 3
  have qbo_4 := ST4.out.cell (List.mem_cons_self ..) 4 _ rfl
  have fbo_4 := ST4.out.thaw (List.mem_cons_self ..) 4
  go_wp2_with fail
  exact finK3 rfl (show BoxK W3 bo _ _ _ _ _ _ _ from (ST4.out.boxes _ (List.mem_cons_self ..)).1) ST4.out.below (ST4.out.boxes _ (List.mem_cons_self ..)).2 (ST4.out.getC (v := (.agg #[.bool n6, .slice a6 c6 d6])) (i := x) (List.mem_cons_self ..)) rfl rfl rfl

end Go.Proofs.YtahgbbnpbhfaeaaDoor
