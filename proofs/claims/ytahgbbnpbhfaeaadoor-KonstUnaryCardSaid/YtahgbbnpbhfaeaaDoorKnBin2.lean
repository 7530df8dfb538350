/- konst.Binary out of its ways. No condition. -/
import Derived.Test.YtahgbbnpbhfaeaaDoorKnBin
namespace Go.Proofs.YtahgbbnpbhfaeaaDoor
open Go.RowKit

theorem BoxK.of {w W : World} {LB : List (Nat × Array Value × TypeId)} {LN : List (Value × Bool × List Nat)} (h : Sk w W LB LN) {p n c : Nat} {k : Int} {b t : Bool} {a : Option Addr} {s : ByteArray} (hm : (p, #[.int .i64 k, .bool b, .slice a n c, .string s, .bool t], 26) ∈ LB) : BoxK W p k b a n c s t := (h.boxes _ hm).1
theorem Ways.of {w W : World} {LB : List (Nat × Array Value × TypeId)} {LN : List (Value × Bool × List Nat)} (h : Sk w W LB LN) {g : Nat} {l : List Addr} {t : TypeId}
    (hm : (g, #[.func (.func 41) #[] (l.map fun a => Value.pointer (some a)).toArray, .func (.func 43) #[] (l.map fun a => Value.pointer (some a)).toArray, .func (.func 45) #[] (l.map fun a => Value.pointer (some a)).toArray], t) ∈ LB) : Ways W g l :=
  ⟨(Array.getElem?_eq_some_iff.1 (h.boxes _ hm).1).1, fun W' hW => ⟨(h.go hW).cell hm 0 _ rfl, (h.go hW).cell hm 1 _ rfl, (h.go hW).cell hm 2 _ rfl⟩⟩

set_option maxRecDepth 100000 in
set_option maxHeartbeats 3200000 in
theorem bin_a {w : World} (op : ByteArray) {k1 : Int} {g1 : Bool} {a1 : Option Addr} {n1 c1 : Nat} {s1 : ByteArray} {t1 : Bool} {z1 : List Nat} {x1 : Int} {k2 : Int} {g2 : Bool} {a2 : Option Addr} {n2 c2 : Nat} {s2 : ByteArray} {t2 : Bool} {z2 : List Nat} {x2 : Int} (h1 : IntV w (.agg #[.bool g1, .slice a1 n1 c1]) g1 z1) (hx1 : valI g1 z1 = x1) (h2 : IntV w (.agg #[.bool g2, .slice a2 n2 c2]) g2 z2) (hx2 : valI g2 z2 = x2) {k x K : Int} {s : ByteArray} {t : Bool} (hk : k1 = k2) (hn : knownB k1 = true) (H0 : Way w 42 #[.string op, .agg #[.int .i64 k1, .bool g1, .slice a1 n1 c1, .string s1, .bool t1], .agg #[.int .i64 k2, .bool g2, .slice a2 n2 c2, .string s2, .bool t2]] k x s t K true) :
    Calls Tryd.prog 23 #[.string op, .agg #[.int .i64 k1, .bool g1, .slice a1 n1 c1, .string s1, .bool t1], .agg #[.int .i64 k2, .bool g2, .slice a2 n2 c2, .string s2, .bool t2]] w fun e w' => Kon2 w' e k x s t K ∧ Below w.heap.size w w' := by
  have ST0 := Lib.hid (Sk.start w)
  have Hx1 := Lib.hid hx1
  have ST1 := Lib.hid (ST0.out.num h1)
  clear h1 hx1
  have Hx2 := Lib.hid hx2
  have ST2 := Lib.hid (ST1.out.num h2)
  clear h2 hx2
  subst hk
  have HN := Lib.hid hn
  clear hn
  have HH0 := Lib.hid H0
  clear H0
  go_enter Tryd.func23, Tryd.ntmps23
  go_upto_region 1 with fail
  obtain ⟨W3, HW3⟩ : ∃ W', Hid (W' = w.alloc (.cells #[(.string op)] 9)) := ⟨_, Lib.hid rfl⟩
  obtain ⟨b0, Hb0⟩ : ∃ b, Hid (b = w.heap.size) := ⟨_, Lib.hid rfl⟩
  have ST4 := Lib.hid (ST2.out.box Hb0.out HW3.out)
  obtain ⟨W5, HW5⟩ : ∃ W', Hid (W' = W3.alloc (.cells #[(.int .i64 k1), (.bool g1), (.slice a1 n1 c1), (.string s1), (.bool t1)] 26)) := ⟨_, Lib.hid rfl⟩
  obtain ⟨p1, Hp1⟩ : ∃ b, Hid (b = W3.heap.size) := ⟨_, Lib.hid rfl⟩
  have Op1 := Lib.hid (ST4.out.old Hp1.out)
  have ST6 := Lib.hid (ST4.out.box Hp1.out HW5.out)
  obtain ⟨W7, HW7⟩ : ∃ W', Hid (W' = W5.alloc (.cells #[(.int .i64 k1), (.bool g2), (.slice a2 n2 c2), (.string s2), (.bool t2)] 26)) := ⟨_, Lib.hid rfl⟩
  obtain ⟨p2, Hp2⟩ : ∃ b, Hid (b = W5.heap.size) := ⟨_, Lib.hid rfl⟩
  have Op2 := Lib.hid (ST6.out.old Hp2.out)
  have ST8 := Lib.hid (ST6.out.box Hp2.out HW7.out)
  obtain ⟨W9, HW9⟩ : ∃ W', Hid (W' = W7.alloc (.cells #[(.int .i64 0), (.bool false), (.slice none 0 0), (.string ⟨#[]⟩), (.bool false)] 26)) := ⟨_, Lib.hid rfl⟩
  obtain ⟨bo, Hbo⟩ : ∃ b, Hid (b = W7.heap.size) := ⟨_, Lib.hid rfl⟩
  have Obo := Lib.hid (ST8.out.old Hbo.out)
  have ST10 := Lib.hid (ST8.out.box Hbo.out HW9.out)
  have hz3 : w.heap.size + 3 = bo := by rw [Hbo.out, HW7.out, World.size_alloc, HW5.out, World.size_alloc, HW3.out, World.size_alloc]
  have hz2 : w.heap.size + 2 = p2 := by rw [Hp2.out, HW5.out, World.size_alloc, HW3.out, World.size_alloc]
  have hz1 : w.heap.size + 1 = p1 := by rw [Hp1.out, HW3.out, World.size_alloc]
  rw [← HW3.out, ← HW5.out, ← HW7.out, ← HW9.out]
  try rw [hz3]
  try rw [hz2]
  try rw [hz1]
  try rw [← Hb0.out]
  clear hz1 hz2 hz3
  have qp2_0 := ST10.out.cell (List.mem_cons_of_mem _ (List.mem_cons_self ..)) 0 _ rfl
  have qp2_1 := ST10.out.cell (List.mem_cons_of_mem _ (List.mem_cons_self ..)) 1 _ rfl
  have qp2_2 := ST10.out.cell (List.mem_cons_of_mem _ (List.mem_cons_self ..)) 2 _ rfl
  have qp2_3 := ST10.out.cell (List.mem_cons_of_mem _ (List.mem_cons_self ..)) 3 _ rfl
  have qp2_4 := ST10.out.cell (List.mem_cons_of_mem _ (List.mem_cons_self ..)) 4 _ rfl
  have qp1_0 := ST10.out.cell (List.mem_cons_of_mem _ (List.mem_cons_of_mem _ (List.mem_cons_self ..))) 0 _ rfl
  have qp1_1 := ST10.out.cell (List.mem_cons_of_mem _ (List.mem_cons_of_mem _ (List.mem_cons_self ..))) 1 _ rfl
  have qp1_2 := ST10.out.cell (List.mem_cons_of_mem _ (List.mem_cons_of_mem _ (List.mem_cons_self ..))) 2 _ rfl
  have qp1_3 := ST10.out.cell (List.mem_cons_of_mem _ (List.mem_cons_of_mem _ (List.mem_cons_self ..))) 3 _ rfl
  have qp1_4 := ST10.out.cell (List.mem_cons_of_mem _ (List.mem_cons_of_mem _ (List.mem_cons_self ..))) 4 _ rfl
  have CN := Lib.hid (known_any k1 W9)
  rw [HN.out] at CN
  go_upto_region 3 with (go_at_call 28; refine CN.out.mono ?_; rintro e w9 ⟨rfl, rfl⟩)
  clear qp2_0 qp2_1 qp2_2 qp2_3 qp2_4 qp1_0 qp1_1 qp1_2 qp1_3 qp1_4
  go_wp2_with (go_at_call 40; refine hold ?_)
  obtain ⟨W11, HW11⟩ : ∃ W', Hid (W' = W9.alloc (.cells #[(.func (.func 41) #[] #[.pointer (some ⟨b0, 0, none⟩), .pointer (some ⟨p1, 0, none⟩), .pointer (some ⟨p2, 0, none⟩)]), (.func (.func 43) #[] #[.pointer (some ⟨b0, 0, none⟩), .pointer (some ⟨p1, 0, none⟩), .pointer (some ⟨p2, 0, none⟩)]), (.func (.func 45) #[] #[.pointer (some ⟨b0, 0, none⟩), .pointer (some ⟨p1, 0, none⟩), .pointer (some ⟨p2, 0, none⟩)])] 65)) := ⟨_, Lib.hid rfl⟩
  obtain ⟨g9, Hg9⟩ : ∃ b, Hid (b = W9.heap.size) := ⟨_, Lib.hid rfl⟩
  have Og9 := Lib.hid (ST10.out.old Hg9.out)
  have ST12 := Lib.hid (ST10.out.box Hg9.out HW11.out)
  rw [← HW11.out]
  try rw [← Hg9.out]
  have Y0 := Lib.hid (show Way W11 41 #[.pointer (some ⟨b0, 0, none⟩), .pointer (some ⟨p1, 0, none⟩), .pointer (some ⟨p2, 0, none⟩)] k x s t K true from fun W hW => clo_1 ((ST12.out.go hW).cell (List.mem_cons_of_mem _ (List.mem_cons_of_mem _ (List.mem_cons_of_mem _ (List.mem_cons_of_mem _ (List.mem_cons_self ..))))) 0 _ rfl) (BoxK.of (ST12.out.go hW) (List.mem_cons_of_mem _ (List.mem_cons_of_mem _ (List.mem_cons_of_mem _ (List.mem_cons_self ..))))) (BoxK.of (ST12.out.go hW) (List.mem_cons_of_mem _ (List.mem_cons_of_mem _ (List.mem_cons_self ..)))) (HH0.out.go (ST12.out.go hW).below))
  refine Hold.mk ?_
  refine (first_a (Ways.of (l := [⟨b0, 0, none⟩, ⟨p1, 0, none⟩, ⟨p2, 0, none⟩]) ST12.out (List.mem_cons_self ..)) Y0.out).mono ?_
  rintro e W13 ⟨⟨n6, a6, c6, d6, rfl, hv⟩, hb⟩
  have ST14 := Lib.hid (ST12.out.next hb hv)
  clear hv hb
  have qbo_0 := ST14.out.cell (List.mem_cons_of_mem _ (List.mem_cons_self ..)) 0 _ rfl
  have fbo_0 := ST14.out.thaw (List.mem_cons_of_mem _ (List.mem_cons_self ..)) 0
  have qbo_1 := ST14.out.cell (List.mem_cons_of_mem _ (List.mem_cons_self ..)) 1 _ rfl
  have fbo_1 := ST14.out.thaw (List.mem_cons_of_mem _ (List.mem_cons_self ..)) 1
  have qbo_2 := ST14.out.cell (List.mem_cons_of_mem _ (List.mem_cons_self ..)) 2 _ rfl
  have fbo_2 := ST14.out.thaw (List.mem_cons_of_mem _ (List.mem_cons_self ..)) 2
  have qbo_3 := ST14.out.cell (List.mem_cons_of_mem _ (List.mem_cons_self ..)) 3 _ rfl
  have fbo_3 := ST14.out.thaw (List.mem_cons_of_mem _ (List.mem_cons_self ..)) 3
  have qbo_4 := ST14.out.cell (List.mem_cons_of_mem _ (List.mem_cons_self ..)) 4 _ rfl
  have fbo_4 := ST14.out.thaw (List.mem_cons_of_mem _ (List.mem_cons_self ..)) 4
  go_wp2_with fail
  exact finK2 rfl (show BoxK W13 bo _ _ _ _ _ _ _ from (ST14.out.boxes _ (List.mem_cons_of_mem _ (List.mem_cons_self ..))).1) ST14.out.below (ST14.out.boxes _ (List.mem_cons_of_mem _ (List.mem_cons_self ..))).2 (ST14.out.getC (v := (.agg #[.bool n6, .slice a6 c6 d6])) (i := x) (List.mem_cons_self ..)) rfl rfl

set_option maxRecDepth 100000 in
set_option maxHeartbeats 3200000 in
theorem bin_b {w : World} (op : ByteArray) {k1 : Int} {g1 : Bool} {a1 : Option Addr} {n1 c1 : Nat} {s1 : ByteArray} {t1 : Bool} {z1 : List Nat} {x1 : Int} {k2 : Int} {g2 : Bool} {a2 : Option Addr} {n2 c2 : Nat} {s2 : ByteArray} {t2 : Bool} {z2 : List Nat} {x2 : Int} (h1 : IntV w (.agg #[.bool g1, .slice a1 n1 c1]) g1 z1) (hx1 : valI g1 z1 = x1) (h2 : IntV w (.agg #[.bool g2, .slice a2 n2 c2]) g2 z2) (hx2 : valI g2 z2 = x2) {k x K : Int} {s : ByteArray} {t : Bool} (hk : k1 = k2) (hn : knownB k1 = true) (H0 : Way w 42 #[.string op, .agg #[.int .i64 k1, .bool g1, .slice a1 n1 c1, .string s1, .bool t1], .agg #[.int .i64 k2, .bool g2, .slice a2 n2 c2, .string s2, .bool t2]] 0 0 ⟨#[]⟩ false 0 false) (H1 : Way w 44 #[.string op, .agg #[.int .i64 k1, .bool g1, .slice a1 n1 c1, .string s1, .bool t1], .agg #[.int .i64 k2, .bool g2, .slice a2 n2 c2, .string s2, .bool t2]] k x s t K true) :
    Calls Tryd.prog 23 #[.string op, .agg #[.int .i64 k1, .bool g1, .slice a1 n1 c1, .string s1, .bool t1], .agg #[.int .i64 k2, .bool g2, .slice a2 n2 c2, .string s2, .bool t2]] w fun e w' => Kon2 w' e k x s t K ∧ Below w.heap.size w w' := by
  have ST0 := Lib.hid (Sk.start w)
  have Hx1 := Lib.hid hx1
  have ST1 := Lib.hid (ST0.out.num h1)
  clear h1 hx1
  have Hx2 := Lib.hid hx2
  have ST2 := Lib.hid (ST1.out.num h2)
  clear h2 hx2
  subst hk
  have HN := Lib.hid hn
  clear hn
  have HH0 := Lib.hid H0
  clear H0
  have HH1 := Lib.hid H1
  clear H1
  go_enter Tryd.func23, Tryd.ntmps23
  go_upto_region 1 with fail
  obtain ⟨W3, HW3⟩ : ∃ W', Hid (W' = w.alloc (.cells #[(.string op)] 9)) := ⟨_, Lib.hid rfl⟩
  obtain ⟨b0, Hb0⟩ : ∃ b, Hid (b = w.heap.size) := ⟨_, Lib.hid rfl⟩
  have ST4 := Lib.hid (ST2.out.box Hb0.out HW3.out)
  obtain ⟨W5, HW5⟩ : ∃ W', Hid (W' = W3.alloc (.cells #[(.int .i64 k1), (.bool g1), (.slice a1 n1 c1), (.string s1), (.bool t1)] 26)) := ⟨_, Lib.hid rfl⟩
  obtain ⟨p1, Hp1⟩ : ∃ b, Hid (b = W3.heap.size) := ⟨_, Lib.hid rfl⟩
  have Op1 := Lib.hid (ST4.out.old Hp1.out)
  have ST6 := Lib.hid (ST4.out.box Hp1.out HW5.out)
  obtain ⟨W7, HW7⟩ : ∃ W', Hid (W' = W5.alloc (.cells #[(.int .i64 k1), (.bool g2), (.slice a2 n2 c2), (.string s2), (.bool t2)] 26)) := ⟨_, Lib.hid rfl⟩
  obtain ⟨p2, Hp2⟩ : ∃ b, Hid (b = W5.heap.size) := ⟨_, Lib.hid rfl⟩
  have Op2 := Lib.hid (ST6.out.old Hp2.out)
  have ST8 := Lib.hid (ST6.out.box Hp2.out HW7.out)
  obtain ⟨W9, HW9⟩ : ∃ W', Hid (W' = W7.alloc (.cells #[(.int .i64 0), (.bool false), (.slice none 0 0), (.string ⟨#[]⟩), (.bool false)] 26)) := ⟨_, Lib.hid rfl⟩
  obtain ⟨bo, Hbo⟩ : ∃ b, Hid (b = W7.heap.size) := ⟨_, Lib.hid rfl⟩
  have Obo := Lib.hid (ST8.out.old Hbo.out)
  have ST10 := Lib.hid (ST8.out.box Hbo.out HW9.out)
  have hz3 : w.heap.size + 3 = bo := by rw [Hbo.out, HW7.out, World.size_alloc, HW5.out, World.size_alloc, HW3.out, World.size_alloc]
  have hz2 : w.heap.size + 2 = p2 := by rw [Hp2.out, HW5.out, World.size_alloc, HW3.out, World.size_alloc]
  have hz1 : w.heap.size + 1 = p1 := by rw [Hp1.out, HW3.out, World.size_alloc]
  rw [← HW3.out, ← HW5.out, ← HW7.out, ← HW9.out]
  try rw [hz3]
  try rw [hz2]
  try rw [hz1]
  try rw [← Hb0.out]
  clear hz1 hz2 hz3
  have qp2_0 := ST10.out.cell (List.mem_cons_of_mem _ (List.mem_cons_self ..)) 0 _ rfl
  have qp2_1 := ST10.out.cell (List.mem_cons_of_mem _ (List.mem_cons_self ..)) 1 _ rfl
  have qp2_2 := ST10.out.cell (List.mem_cons_of_mem _ (List.mem_cons_self ..)) 2 _ rfl
  have qp2_3 := ST10.out.cell (List.mem_cons_of_mem _ (List.mem_cons_self ..)) 3 _ rfl
  have qp2_4 := ST10.out.cell (List.mem_cons_of_mem _ (List.mem_cons_self ..)) 4 _ rfl
  have qp1_0 := ST10.out.cell (List.mem_cons_of_mem _ (List.mem_cons_of_mem _ (List.mem_cons_self ..))) 0 _ rfl
  have qp1_1 := ST10.out.cell (List.mem_cons_of_mem _ (List.mem_cons_of_mem _ (List.mem_cons_self ..))) 1 _ rfl
  have qp1_2 := ST10.out.cell (List.mem_cons_of_mem _ (List.mem_cons_of_mem _ (List.mem_cons_self ..))) 2 _ rfl
  have qp1_3 := ST10.out.cell (List.mem_cons_of_mem _ (List.mem_cons_of_mem _ (List.mem_cons_self ..))) 3 _ rfl
  have qp1_4 := ST10.out.cell (List.mem_cons_of_mem _ (List.mem_cons_of_mem _ (List.mem_cons_self ..))) 4 _ rfl
  have CN := Lib.hid (known_any k1 W9)
  rw [HN.out] at CN
  go_upto_region 3 with (go_at_call 28; refine CN.out.mono ?_; rintro e w9 ⟨rfl, rfl⟩)
  clear qp2_0 qp2_1 qp2_2 qp2_3 qp2_4 qp1_0 qp1_1 qp1_2 qp1_3 qp1_4
  go_wp2_with (go_at_call 40; refine hold ?_)
  obtain ⟨W11, HW11⟩ : ∃ W', Hid (W' = W9.alloc (.cells #[(.func (.func 41) #[] #[.pointer (some ⟨b0, 0, none⟩), .pointer (some ⟨p1, 0, none⟩), .pointer (some ⟨p2, 0, none⟩)]), (.func (.func 43) #[] #[.pointer (some ⟨b0, 0, none⟩), .pointer (some ⟨p1, 0, none⟩), .pointer (some ⟨p2, 0, none⟩)]), (.func (.func 45) #[] #[.pointer (some ⟨b0, 0, none⟩), .pointer (some ⟨p1, 0, none⟩), .pointer (some ⟨p2, 0, none⟩)])] 65)) := ⟨_, Lib.hid rfl⟩
  obtain ⟨g9, Hg9⟩ : ∃ b, Hid (b = W9.heap.size) := ⟨_, Lib.hid rfl⟩
  have Og9 := Lib.hid (ST10.out.old Hg9.out)
  have ST12 := Lib.hid (ST10.out.box Hg9.out HW11.out)
  rw [← HW11.out]
  try rw [← Hg9.out]
  have Y0 := Lib.hid (show Way W11 41 #[.pointer (some ⟨b0, 0, none⟩), .pointer (some ⟨p1, 0, none⟩), .pointer (some ⟨p2, 0, none⟩)] 0 0 ⟨#[]⟩ false 0 false from fun W hW => clo_1 ((ST12.out.go hW).cell (List.mem_cons_of_mem _ (List.mem_cons_of_mem _ (List.mem_cons_of_mem _ (List.mem_cons_of_mem _ (List.mem_cons_self ..))))) 0 _ rfl) (BoxK.of (ST12.out.go hW) (List.mem_cons_of_mem _ (List.mem_cons_of_mem _ (List.mem_cons_of_mem _ (List.mem_cons_self ..))))) (BoxK.of (ST12.out.go hW) (List.mem_cons_of_mem _ (List.mem_cons_of_mem _ (List.mem_cons_self ..)))) (HH0.out.go (ST12.out.go hW).below))
  have Y1 := Lib.hid (show Way W11 43 #[.pointer (some ⟨b0, 0, none⟩), .pointer (some ⟨p1, 0, none⟩), .pointer (some ⟨p2, 0, none⟩)] k x s t K true from fun W hW => clo_2 ((ST12.out.go hW).cell (List.mem_cons_of_mem _ (List.mem_cons_of_mem _ (List.mem_cons_of_mem _ (List.mem_cons_of_mem _ (List.mem_cons_self ..))))) 0 _ rfl) (BoxK.of (ST12.out.go hW) (List.mem_cons_of_mem _ (List.mem_cons_of_mem _ (List.mem_cons_of_mem _ (List.mem_cons_self ..))))) (BoxK.of (ST12.out.go hW) (List.mem_cons_of_mem _ (List.mem_cons_of_mem _ (List.mem_cons_self ..)))) (HH1.out.go (ST12.out.go hW).below))
  refine Hold.mk ?_
  refine (first_b (Ways.of (l := [⟨b0, 0, none⟩, ⟨p1, 0, none⟩, ⟨p2, 0, none⟩]) ST12.out (List.mem_cons_self ..)) Y0.out Y1.out).mono ?_
  rintro e W13 ⟨⟨n6, a6, c6, d6, rfl, hv⟩, hb⟩
  have ST14 := Lib.hid (ST12.out.next hb hv)
  clear hv hb
  have qbo_0 := ST14.out.cell (List.mem_cons_of_mem _ (List.mem_cons_self ..)) 0 _ rfl
  have fbo_0 := ST14.out.thaw (List.mem_cons_of_mem _ (List.mem_cons_self ..)) 0
  have qbo_1 := ST14.out.cell (List.mem_cons_of_mem _ (List.mem_cons_self ..)) 1 _ rfl
  have fbo_1 := ST14.out.thaw (List.mem_cons_of_mem _ (List.mem_cons_self ..)) 1
  have qbo_2 := ST14.out.cell (List.mem_cons_of_mem _ (List.mem_cons_self ..)) 2 _ rfl
  have fbo_2 := ST14.out.thaw (List.mem_cons_of_mem _ (List.mem_cons_self ..)) 2
  have qbo_3 := ST14.out.cell (List.mem_cons_of_mem _ (List.mem_cons_self ..)) 3 _ rfl
  have fbo_3 := ST14.out.thaw (List.mem_cons_of_mem _ (List.mem_cons_self ..)) 3
  have qbo_4 := ST14.out.cell (List.mem_cons_of_mem _ (List.mem_cons_self ..)) 4 _ rfl
  have fbo_4 := ST14.out.thaw (List.mem_cons_of_mem _ (List.mem_cons_self ..)) 4
  go_wp2_with fail
  exact finK2 rfl (show BoxK W13 bo _ _ _ _ _ _ _ from (ST14.out.boxes _ (List.mem_cons_of_mem _ (List.mem_cons_self ..))).1) ST14.out.below (ST14.out.boxes _ (List.mem_cons_of_mem _ (List.mem_cons_self ..))).2 (ST14.out.getC (v := (.agg #[.bool n6, .slice a6 c6 d6])) (i := x) (List.mem_cons_self ..)) rfl rfl

set_option maxRecDepth 100000 in
set_option maxHeartbeats 3200000 in
theorem bin_c {w : World} (op : ByteArray) {k1 : Int} {g1 : Bool} {a1 : Option Addr} {n1 c1 : Nat} {s1 : ByteArray} {t1 : Bool} {z1 : List Nat} {x1 : Int} {k2 : Int} {g2 : Bool} {a2 : Option Addr} {n2 c2 : Nat} {s2 : ByteArray} {t2 : Bool} {z2 : List Nat} {x2 : Int} (h1 : IntV w (.agg #[.bool g1, .slice a1 n1 c1]) g1 z1) (hx1 : valI g1 z1 = x1) (h2 : IntV w (.agg #[.bool g2, .slice a2 n2 c2]) g2 z2) (hx2 : valI g2 z2 = x2) {k x K : Int} {s : ByteArray} {t : Bool} (hk : k1 = k2) (hn : knownB k1 = true) (H0 : Way w 42 #[.string op, .agg #[.int .i64 k1, .bool g1, .slice a1 n1 c1, .string s1, .bool t1], .agg #[.int .i64 k2, .bool g2, .slice a2 n2 c2, .string s2, .bool t2]] 0 0 ⟨#[]⟩ false 0 false) (H1 : Way w 44 #[.string op, .agg #[.int .i64 k1, .bool g1, .slice a1 n1 c1, .string s1, .bool t1], .agg #[.int .i64 k2, .bool g2, .slice a2 n2 c2, .string s2, .bool t2]] 0 0 ⟨#[]⟩ false 0 false) (H2 : Way w 46 #[.string op, .agg #[.int .i64 k1, .bool g1, .slice a1 n1 c1, .string s1, .bool t1], .agg #[.int .i64 k2, .bool g2, .slice a2 n2 c2, .string s2, .bool t2]] k x s t K true) :
    Calls Tryd.prog 23 #[.string op, .agg #[.int .i64 k1, .bool g1, .slice a1 n1 c1, .string s1, .bool t1], .agg #[.int .i64 k2, .bool g2, .slice a2 n2 c2, .string s2, .bool t2]] w fun e w' => Kon2 w' e k x s t K ∧ Below w.heap.size w w' := by
  have ST0 := Lib.hid (Sk.start w)
  have Hx1 := Lib.hid hx1
  have ST1 := Lib.hid (ST0.out.num h1)
  clear h1 hx1
  have Hx2 := Lib.hid hx2
  have ST2 := Lib.hid (ST1.out.num h2)
  clear h2 hx2
  subst hk
  have HN := Lib.hid hn
  clear hn
  have HH0 := Lib.hid H0
  clear H0
  have HH1 := Lib.hid H1
  clear H1
  have HH2 := Lib.hid H2
  clear H2
  go_enter Tryd.func23, Tryd.ntmps23
  go_upto_region 1 with fail
  obtain ⟨W3, HW3⟩ : ∃ W', Hid (W' = w.alloc (.cells #[(.string op)] 9)) := ⟨_, Lib.hid rfl⟩
  obtain ⟨b0, Hb0⟩ : ∃ b, Hid (b = w.heap.size) := ⟨_, Lib.hid rfl⟩
  have ST4 := Lib.hid (ST2.out.box Hb0.out HW3.out)
  obtain ⟨W5, HW5⟩ : ∃ W', Hid (W' = W3.alloc (.cells #[(.int .i64 k1), (.bool g1), (.slice a1 n1 c1), (.string s1), (.bool t1)] 26)) := ⟨_, Lib.hid rfl⟩
  obtain ⟨p1, Hp1⟩ : ∃ b, Hid (b = W3.heap.size) := ⟨_, Lib.hid rfl⟩
  have Op1 := Lib.hid (ST4.out.old Hp1.out)
  have ST6 := Lib.hid (ST4.out.box Hp1.out HW5.out)
  obtain ⟨W7, HW7⟩ : ∃ W', Hid (W' = W5.alloc (.cells #[(.int .i64 k1), (.bool g2), (.slice a2 n2 c2), (.string s2), (.bool t2)] 26)) := ⟨_, Lib.hid rfl⟩
  obtain ⟨p2, Hp2⟩ : ∃ b, Hid (b = W5.heap.size) := ⟨_, Lib.hid rfl⟩
  have Op2 := Lib.hid (ST6.out.old Hp2.out)
  have ST8 := Lib.hid (ST6.out.box Hp2.out HW7.out)
  obtain ⟨W9, HW9⟩ : ∃ W', Hid (W' = W7.alloc (.cells #[(.int .i64 0), (.bool false), (.slice none 0 0), (.string ⟨#[]⟩), (.bool false)] 26)) := ⟨_, Lib.hid rfl⟩
  obtain ⟨bo, Hbo⟩ : ∃ b, Hid (b = W7.heap.size) := ⟨_, Lib.hid rfl⟩
  have Obo := Lib.hid (ST8.out.old Hbo.out)
  have ST10 := Lib.hid (ST8.out.box Hbo.out HW9.out)
  have hz3 : w.heap.size + 3 = bo := by rw [Hbo.out, HW7.out, World.size_alloc, HW5.out, World.size_alloc, HW3.out, World.size_alloc]
  have hz2 : w.heap.size + 2 = p2 := by rw [Hp2.out, HW5.out, World.size_alloc, HW3.out, World.size_alloc]
  have hz1 : w.heap.size + 1 = p1 := by rw [Hp1.out, HW3.out, World.size_alloc]
  rw [← HW3.out, ← HW5.out, ← HW7.out, ← HW9.out]
  try rw [hz3]
  try rw [hz2]
  try rw [hz1]
  try rw [← Hb0.out]
  clear hz1 hz2 hz3
  have qp2_0 := ST10.out.cell (List.mem_cons_of_mem _ (List.mem_cons_self ..)) 0 _ rfl
  have qp2_1 := ST10.out.cell (List.mem_cons_of_mem _ (List.mem_cons_self ..)) 1 _ rfl
  have qp2_2 := ST10.out.cell (List.mem_cons_of_mem _ (List.mem_cons_self ..)) 2 _ rfl
  have qp2_3 := ST10.out.cell (List.mem_cons_of_mem _ (List.mem_cons_self ..)) 3 _ rfl
  have qp2_4 := ST10.out.cell (List.mem_cons_of_mem _ (List.mem_cons_self ..)) 4 _ rfl
  have qp1_0 := ST10.out.cell (List.mem_cons_of_mem _ (List.mem_cons_of_mem _ (List.mem_cons_self ..))) 0 _ rfl
  have qp1_1 := ST10.out.cell (List.mem_cons_of_mem _ (List.mem_cons_of_mem _ (List.mem_cons_self ..))) 1 _ rfl
  have qp1_2 := ST10.out.cell (List.mem_cons_of_mem _ (List.mem_cons_of_mem _ (List.mem_cons_self ..))) 2 _ rfl
  have qp1_3 := ST10.out.cell (List.mem_cons_of_mem _ (List.mem_cons_of_mem _ (List.mem_cons_self ..))) 3 _ rfl
  have qp1_4 := ST10.out.cell (List.mem_cons_of_mem _ (List.mem_cons_of_mem _ (List.mem_cons_self ..))) 4 _ rfl
  have CN := Lib.hid (known_any k1 W9)
  rw [HN.out] at CN
  go_upto_region 3 with (go_at_call 28; refine CN.out.mono ?_; rintro e w9 ⟨rfl, rfl⟩)
  clear qp2_0 qp2_1 qp2_2 qp2_3 qp2_4 qp1_0 qp1_1 qp1_2 qp1_3 qp1_4
  go_wp2_with (go_at_call 40; refine hold ?_)
  obtain ⟨W11, HW11⟩ : ∃ W', Hid (W' = W9.alloc (.cells #[(.func (.func 41) #[] #[.pointer (some ⟨b0, 0, none⟩), .pointer (some ⟨p1, 0, none⟩), .pointer (some ⟨p2, 0, none⟩)]), (.func (.func 43) #[] #[.pointer (some ⟨b0, 0, none⟩), .pointer (some ⟨p1, 0, none⟩), .pointer (some ⟨p2, 0, none⟩)]), (.func (.func 45) #[] #[.pointer (some ⟨b0, 0, none⟩), .pointer (some ⟨p1, 0, none⟩), .pointer (some ⟨p2, 0, none⟩)])] 65)) := ⟨_, Lib.hid rfl⟩
  obtain ⟨g9, Hg9⟩ : ∃ b, Hid (b = W9.heap.size) := ⟨_, Lib.hid rfl⟩
  have Og9 := Lib.hid (ST10.out.old Hg9.out)
  have ST12 := Lib.hid (ST10.out.box Hg9.out HW11.out)
  rw [← HW11.out]
  try rw [← Hg9.out]
  have Y0 := Lib.hid (show Way W11 41 #[.pointer (some ⟨b0, 0, none⟩), .pointer (some ⟨p1, 0, none⟩), .pointer (some ⟨p2, 0, none⟩)] 0 0 ⟨#[]⟩ false 0 false from fun W hW => clo_1 ((ST12.out.go hW).cell (List.mem_cons_of_mem _ (List.mem_cons_of_mem _ (List.mem_cons_of_mem _ (List.mem_cons_of_mem _ (List.mem_cons_self ..))))) 0 _ rfl) (BoxK.of (ST12.out.go hW) (List.mem_cons_of_mem _ (List.mem_cons_of_mem _ (List.mem_cons_of_mem _ (List.mem_cons_self ..))))) (BoxK.of (ST12.out.go hW) (List.mem_cons_of_mem _ (List.mem_cons_of_mem _ (List.mem_cons_self ..)))) (HH0.out.go (ST12.out.go hW).below))
  have Y1 := Lib.hid (show Way W11 43 #[.pointer (some ⟨b0, 0, none⟩), .pointer (some ⟨p1, 0, none⟩), .pointer (some ⟨p2, 0, none⟩)] 0 0 ⟨#[]⟩ false 0 false from fun W hW => clo_2 ((ST12.out.go hW).cell (List.mem_cons_of_mem _ (List.mem_cons_of_mem _ (List.mem_cons_of_mem _ (List.mem_cons_of_mem _ (List.mem_cons_self ..))))) 0 _ rfl) (BoxK.of (ST12.out.go hW) (List.mem_cons_of_mem _ (List.mem_cons_of_mem _ (List.mem_cons_of_mem _ (List.mem_cons_self ..))))) (BoxK.of (ST12.out.go hW) (List.mem_cons_of_mem _ (List.mem_cons_of_mem _ (List.mem_cons_self ..)))) (HH1.out.go (ST12.out.go hW).below))
  have Y2 := Lib.hid (show Way W11 45 #[.pointer (some ⟨b0, 0, none⟩), .pointer (some ⟨p1, 0, none⟩), .pointer (some ⟨p2, 0, none⟩)] k x s t K true from fun W hW => clo_3 ((ST12.out.go hW).cell (List.mem_cons_of_mem _ (List.mem_cons_of_mem _ (List.mem_cons_of_mem _ (List.mem_cons_of_mem _ (List.mem_cons_self ..))))) 0 _ rfl) (BoxK.of (ST12.out.go hW) (List.mem_cons_of_mem _ (List.mem_cons_of_mem _ (List.mem_cons_of_mem _ (List.mem_cons_self ..))))) (BoxK.of (ST12.out.go hW) (List.mem_cons_of_mem _ (List.mem_cons_of_mem _ (List.mem_cons_self ..)))) (HH2.out.go (ST12.out.go hW).below))
  refine Hold.mk ?_
  refine (first_c (Ways.of (l := [⟨b0, 0, none⟩, ⟨p1, 0, none⟩, ⟨p2, 0, none⟩]) ST12.out (List.mem_cons_self ..)) Y0.out Y1.out Y2.out).mono ?_
  rintro e W13 ⟨⟨n6, a6, c6, d6, rfl, hv⟩, hb⟩
  have ST14 := Lib.hid (ST12.out.next hb hv)
  clear hv hb
  have qbo_0 := ST14.out.cell (List.mem_cons_of_mem _ (List.mem_cons_self ..)) 0 _ rfl
  have fbo_0 := ST14.out.thaw (List.mem_cons_of_mem _ (List.mem_cons_self ..)) 0
  have qbo_1 := ST14.out.cell (List.mem_cons_of_mem _ (List.mem_cons_self ..)) 1 _ rfl
  have fbo_1 := ST14.out.thaw (List.mem_cons_of_mem _ (List.mem_cons_self ..)) 1
  have qbo_2 := ST14.out.cell (List.mem_cons_of_mem _ (List.mem_cons_self ..)) 2 _ rfl
  have fbo_2 := ST14.out.thaw (List.mem_cons_of_mem _ (List.mem_cons_self ..)) 2
  have qbo_3 := ST14.out.cell (List.mem_cons_of_mem _ (List.mem_cons_self ..)) 3 _ rfl
  have fbo_3 := ST14.out.thaw (List.mem_cons_of_mem _ (List.mem_cons_self ..)) 3
  have qbo_4 := ST14.out.cell (List.mem_cons_of_mem _ (List.mem_cons_self ..)) 4 _ rfl
  have fbo_4 := ST14.out.thaw (List.mem_cons_of_mem _ (List.mem_cons_self ..)) 4
  go_wp2_with fail
  exact finK2 rfl (show BoxK W13 bo _ _ _ _ _ _ _ from (ST14.out.boxes _ (List.mem_cons_of_mem _ (List.mem_cons_self ..))).1) ST14.out.below (ST14.out.boxes _ (List.mem_cons_of_mem _ (List.mem_cons_self ..))).2 (ST14.out.getC (v := (.agg #[.bool n6, .slice a6 c6 d6])) (i := x) (List.mem_cons_self ..)) rfl rfl

set_option maxRecDepth 100000 in
set_option maxHeartbeats 3200000 in
theorem bin_none {w : World} (op : ByteArray) {k1 : Int} {g1 : Bool} {a1 : Option Addr} {n1 c1 : Nat} {s1 : ByteArray} {t1 : Bool} {z1 : List Nat} {x1 : Int} {k2 : Int} {g2 : Bool} {a2 : Option Addr} {n2 c2 : Nat} {s2 : ByteArray} {t2 : Bool} {z2 : List Nat} {x2 : Int} (h1 : IntV w (.agg #[.bool g1, .slice a1 n1 c1]) g1 z1) (hx1 : valI g1 z1 = x1) (h2 : IntV w (.agg #[.bool g2, .slice a2 n2 c2]) g2 z2) (hx2 : valI g2 z2 = x2) (hk : k1 = k2) (hn : knownB k1 = true) (H0 : Way w 42 #[.string op, .agg #[.int .i64 k1, .bool g1, .slice a1 n1 c1, .string s1, .bool t1], .agg #[.int .i64 k2, .bool g2, .slice a2 n2 c2, .string s2, .bool t2]] 0 0 ⟨#[]⟩ false 0 false) (H1 : Way w 44 #[.string op, .agg #[.int .i64 k1, .bool g1, .slice a1 n1 c1, .string s1, .bool t1], .agg #[.int .i64 k2, .bool g2, .slice a2 n2 c2, .string s2, .bool t2]] 0 0 ⟨#[]⟩ false 0 false) (H2 : Way w 46 #[.string op, .agg #[.int .i64 k1, .bool g1, .slice a1 n1 c1, .string s1, .bool t1], .agg #[.int .i64 k2, .bool g2, .slice a2 n2 c2, .string s2, .bool t2]] 0 0 ⟨#[]⟩ false 0 false) :
    Calls Tryd.prog 23 #[.string op, .agg #[.int .i64 k1, .bool g1, .slice a1 n1 c1, .string s1, .bool t1], .agg #[.int .i64 k2, .bool g2, .slice a2 n2 c2, .string s2, .bool t2]] w fun e w' => Kon2 w' e 0 0 ⟨#[]⟩ false 6 ∧ Below w.heap.size w w' := by
  have ST0 := Lib.hid (Sk.start w)
  have Hx1 := Lib.hid hx1
  have ST1 := Lib.hid (ST0.out.num h1)
  clear h1 hx1
  have Hx2 := Lib.hid hx2
  have ST2 := Lib.hid (ST1.out.num h2)
  clear h2 hx2
  subst hk
  have HN := Lib.hid hn
  clear hn
  have HH0 := Lib.hid H0
  clear H0
  have HH1 := Lib.hid H1
  clear H1
  have HH2 := Lib.hid H2
  clear H2
  go_enter Tryd.func23, Tryd.ntmps23
  go_upto_region 1 with fail
  obtain ⟨W3, HW3⟩ : ∃ W', Hid (W' = w.alloc (.cells #[(.string op)] 9)) := ⟨_, Lib.hid rfl⟩
  obtain ⟨b0, Hb0⟩ : ∃ b, Hid (b = w.heap.size) := ⟨_, Lib.hid rfl⟩
  have ST4 := Lib.hid (ST2.out.box Hb0.out HW3.out)
  obtain ⟨W5, HW5⟩ : ∃ W', Hid (W' = W3.alloc (.cells #[(.int .i64 k1), (.bool g1), (.slice a1 n1 c1), (.string s1), (.bool t1)] 26)) := ⟨_, Lib.hid rfl⟩
  obtain ⟨p1, Hp1⟩ : ∃ b, Hid (b = W3.heap.size) := ⟨_, Lib.hid rfl⟩
  have Op1 := Lib.hid (ST4.out.old Hp1.out)
  have ST6 := Lib.hid (ST4.out.box Hp1.out HW5.out)
  obtain ⟨W7, HW7⟩ : ∃ W', Hid (W' = W5.alloc (.cells #[(.int .i64 k1), (.bool g2), (.slice a2 n2 c2), (.string s2), (.bool t2)] 26)) := ⟨_, Lib.hid rfl⟩
  obtain ⟨p2, Hp2⟩ : ∃ b, Hid (b = W5.heap.size) := ⟨_, Lib.hid rfl⟩
  have Op2 := Lib.hid (ST6.out.old Hp2.out)
  have ST8 := Lib.hid (ST6.out.box Hp2.out HW7.out)
  obtain ⟨W9, HW9⟩ : ∃ W', Hid (W' = W7.alloc (.cells #[(.int .i64 0), (.bool false), (.slice none 0 0), (.string ⟨#[]⟩), (.bool false)] 26)) := ⟨_, Lib.hid rfl⟩
  obtain ⟨bo, Hbo⟩ : ∃ b, Hid (b = W7.heap.size) := ⟨_, Lib.hid rfl⟩
  have Obo := Lib.hid (ST8.out.old Hbo.out)
  have ST10 := Lib.hid (ST8.out.box Hbo.out HW9.out)
  have hz3 : w.heap.size + 3 = bo := by rw [Hbo.out, HW7.out, World.size_alloc, HW5.out, World.size_alloc, HW3.out, World.size_alloc]
  have hz2 : w.heap.size + 2 = p2 := by rw [Hp2.out, HW5.out, World.size_alloc, HW3.out, World.size_alloc]
  have hz1 : w.heap.size + 1 = p1 := by rw [Hp1.out, HW3.out, World.size_alloc]
  rw [← HW3.out, ← HW5.out, ← HW7.out, ← HW9.out]
  try rw [hz3]
  try rw [hz2]
  try rw [hz1]
  try rw [← Hb0.out]
  clear hz1 hz2 hz3
  have qp2_0 := ST10.out.cell (List.mem_cons_of_mem _ (List.mem_cons_self ..)) 0 _ rfl
  have qp2_1 := ST10.out.cell (List.mem_cons_of_mem _ (List.mem_cons_self ..)) 1 _ rfl
  have qp2_2 := ST10.out.cell (List.mem_cons_of_mem _ (List.mem_cons_self ..)) 2 _ rfl
  have qp2_3 := ST10.out.cell (List.mem_cons_of_mem _ (List.mem_cons_self ..)) 3 _ rfl
  have qp2_4 := ST10.out.cell (List.mem_cons_of_mem _ (List.mem_cons_self ..)) 4 _ rfl
  have qp1_0 := ST10.out.cell (List.mem_cons_of_mem _ (List.mem_cons_of_mem _ (List.mem_cons_self ..))) 0 _ rfl
  have qp1_1 := ST10.out.cell (List.mem_cons_of_mem _ (List.mem_cons_of_mem _ (List.mem_cons_self ..))) 1 _ rfl
  have qp1_2 := ST10.out.cell (List.mem_cons_of_mem _ (List.mem_cons_of_mem _ (List.mem_cons_self ..))) 2 _ rfl
  have qp1_3 := ST10.out.cell (List.mem_cons_of_mem _ (List.mem_cons_of_mem _ (List.mem_cons_self ..))) 3 _ rfl
  have qp1_4 := ST10.out.cell (List.mem_cons_of_mem _ (List.mem_cons_of_mem _ (List.mem_cons_self ..))) 4 _ rfl
  have CN := Lib.hid (known_any k1 W9)
  rw [HN.out] at CN
  go_upto_region 3 with (go_at_call 28; refine CN.out.mono ?_; rintro e w9 ⟨rfl, rfl⟩)
  clear qp2_0 qp2_1 qp2_2 qp2_3 qp2_4 qp1_0 qp1_1 qp1_2 qp1_3 qp1_4
  go_wp2_with (go_at_call 40; refine hold ?_)
  obtain ⟨W11, HW11⟩ : ∃ W', Hid (W' = W9.alloc (.cells #[(.func (.func 41) #[] #[.pointer (some ⟨b0, 0, none⟩), .pointer (some ⟨p1, 0, none⟩), .pointer (some ⟨p2, 0, none⟩)]), (.func (.func 43) #[] #[.pointer (some ⟨b0, 0, none⟩), .pointer (some ⟨p1, 0, none⟩), .pointer (some ⟨p2, 0, none⟩)]), (.func (.func 45) #[] #[.pointer (some ⟨b0, 0, none⟩), .pointer (some ⟨p1, 0, none⟩), .pointer (some ⟨p2, 0, none⟩)])] 65)) := ⟨_, Lib.hid rfl⟩
  obtain ⟨g9, Hg9⟩ : ∃ b, Hid (b = W9.heap.size) := ⟨_, Lib.hid rfl⟩
  have Og9 := Lib.hid (ST10.out.old Hg9.out)
  have ST12 := Lib.hid (ST10.out.box Hg9.out HW11.out)
  rw [← HW11.out]
  try rw [← Hg9.out]
  have Y0 := Lib.hid (show Way W11 41 #[.pointer (some ⟨b0, 0, none⟩), .pointer (some ⟨p1, 0, none⟩), .pointer (some ⟨p2, 0, none⟩)] 0 0 ⟨#[]⟩ false 0 false from fun W hW => clo_1 ((ST12.out.go hW).cell (List.mem_cons_of_mem _ (List.mem_cons_of_mem _ (List.mem_cons_of_mem _ (List.mem_cons_of_mem _ (List.mem_cons_self ..))))) 0 _ rfl) (BoxK.of (ST12.out.go hW) (List.mem_cons_of_mem _ (List.mem_cons_of_mem _ (List.mem_cons_of_mem _ (List.mem_cons_self ..))))) (BoxK.of (ST12.out.go hW) (List.mem_cons_of_mem _ (List.mem_cons_of_mem _ (List.mem_cons_self ..)))) (HH0.out.go (ST12.out.go hW).below))
  have Y1 := Lib.hid (show Way W11 43 #[.pointer (some ⟨b0, 0, none⟩), .pointer (some ⟨p1, 0, none⟩), .pointer (some ⟨p2, 0, none⟩)] 0 0 ⟨#[]⟩ false 0 false from fun W hW => clo_2 ((ST12.out.go hW).cell (List.mem_cons_of_mem _ (List.mem_cons_of_mem _ (List.mem_cons_of_mem _ (List.mem_cons_of_mem _ (List.mem_cons_self ..))))) 0 _ rfl) (BoxK.of (ST12.out.go hW) (List.mem_cons_of_mem _ (List.mem_cons_of_mem _ (List.mem_cons_of_mem _ (List.mem_cons_self ..))))) (BoxK.of (ST12.out.go hW) (List.mem_cons_of_mem _ (List.mem_cons_of_mem _ (List.mem_cons_self ..)))) (HH1.out.go (ST12.out.go hW).below))
  have Y2 := Lib.hid (show Way W11 45 #[.pointer (some ⟨b0, 0, none⟩), .pointer (some ⟨p1, 0, none⟩), .pointer (some ⟨p2, 0, none⟩)] 0 0 ⟨#[]⟩ false 0 false from fun W hW => clo_3 ((ST12.out.go hW).cell (List.mem_cons_of_mem _ (List.mem_cons_of_mem _ (List.mem_cons_of_mem _ (List.mem_cons_of_mem _ (List.mem_cons_self ..))))) 0 _ rfl) (BoxK.of (ST12.out.go hW) (List.mem_cons_of_mem _ (List.mem_cons_of_mem _ (List.mem_cons_of_mem _ (List.mem_cons_self ..))))) (BoxK.of (ST12.out.go hW) (List.mem_cons_of_mem _ (List.mem_cons_of_mem _ (List.mem_cons_self ..)))) (HH2.out.go (ST12.out.go hW).below))
  refine Hold.mk ?_
  refine (first_none (k := 0) (x := 0) (K := 0) (s := ⟨#[]⟩) (t := false) (Ways.of (l := [⟨b0, 0, none⟩, ⟨p1, 0, none⟩, ⟨p2, 0, none⟩]) ST12.out (List.mem_cons_self ..)) Y0.out Y1.out Y2.out).mono ?_
  rintro e W13 ⟨⟨n6, a6, c6, d6, rfl, hv⟩, hb⟩
  have ST14 := Lib.hid (ST12.out.next hb hv)
  clear hv hb
  have qbo_0 := ST14.out.cell (List.mem_cons_of_mem _ (List.mem_cons_self ..)) 0 _ rfl
  have fbo_0 := ST14.out.thaw (List.mem_cons_of_mem _ (List.mem_cons_self ..)) 0
  have qbo_1 := ST14.out.cell (List.mem_cons_of_mem _ (List.mem_cons_self ..)) 1 _ rfl
  have fbo_1 := ST14.out.thaw (List.mem_cons_of_mem _ (List.mem_cons_self ..)) 1
  have qbo_2 := ST14.out.cell (List.mem_cons_of_mem _ (List.mem_cons_self ..)) 2 _ rfl
  have fbo_2 := ST14.out.thaw (List.mem_cons_of_mem _ (List.mem_cons_self ..)) 2
  have qbo_3 := ST14.out.cell (List.mem_cons_of_mem _ (List.mem_cons_self ..)) 3 _ rfl
  have fbo_3 := ST14.out.thaw (List.mem_cons_of_mem _ (List.mem_cons_self ..)) 3
  have qbo_4 := ST14.out.cell (List.mem_cons_of_mem _ (List.mem_cons_self ..)) 4 _ rfl
  have fbo_4 := ST14.out.thaw (List.mem_cons_of_mem _ (List.mem_cons_self ..)) 4
  go_wp2_with fail
  exact finK2 rfl (show BoxK W13 bo _ _ _ _ _ _ _ from (ST14.out.boxes _ (List.mem_cons_of_mem _ (List.mem_cons_self ..))).1) ST14.out.below (ST14.out.boxes _ (List.mem_cons_of_mem _ (List.mem_cons_self ..))).2 (ST14.out.getC (v := (.agg #[.bool n6, .slice a6 c6 d6])) (i := 0) (List.mem_cons_self ..)) rfl rfl

set_option maxRecDepth 100000 in
set_option maxHeartbeats 3200000 in
theorem bin_other {w : World} (op : ByteArray) {k1 : Int} {g1 : Bool} {a1 : Option Addr} {n1 c1 : Nat} {s1 : ByteArray} {t1 : Bool} {z1 : List Nat} {x1 : Int} {k2 : Int} {g2 : Bool} {a2 : Option Addr} {n2 c2 : Nat} {s2 : ByteArray} {t2 : Bool} {z2 : List Nat} {x2 : Int} (h1 : IntV w (.agg #[.bool g1, .slice a1 n1 c1]) g1 z1) (hx1 : valI g1 z1 = x1) (h2 : IntV w (.agg #[.bool g2, .slice a2 n2 c2]) g2 z2) (hx2 : valI g2 z2 = x2) (hk : k1 ≠ k2) :
    Calls Tryd.prog 23 #[.string op, .agg #[.int .i64 k1, .bool g1, .slice a1 n1 c1, .string s1, .bool t1], .agg #[.int .i64 k2, .bool g2, .slice a2 n2 c2, .string s2, .bool t2]] w fun e w' => Kon2 w' e 0 0 ⟨#[]⟩ false 6 ∧ Below w.heap.size w w' := by
  have ST0 := Lib.hid (Sk.start w)
  have Hx1 := Lib.hid hx1
  have ST1 := Lib.hid (ST0.out.num h1)
  clear h1 hx1
  have Hx2 := Lib.hid hx2
  have ST2 := Lib.hid (ST1.out.num h2)
  clear h2 hx2
  have hkb : (k1 != k2) = true := by simpa using hk
  clear hk
  go_enter Tryd.func23, Tryd.ntmps23
  go_upto_region 1 with fail
  obtain ⟨W3, HW3⟩ : ∃ W', Hid (W' = w.alloc (.cells #[(.string op)] 9)) := ⟨_, Lib.hid rfl⟩
  obtain ⟨b0, Hb0⟩ : ∃ b, Hid (b = w.heap.size) := ⟨_, Lib.hid rfl⟩
  have ST4 := Lib.hid (ST2.out.box Hb0.out HW3.out)
  obtain ⟨W5, HW5⟩ : ∃ W', Hid (W' = W3.alloc (.cells #[(.int .i64 k1), (.bool g1), (.slice a1 n1 c1), (.string s1), (.bool t1)] 26)) := ⟨_, Lib.hid rfl⟩
  obtain ⟨p1, Hp1⟩ : ∃ b, Hid (b = W3.heap.size) := ⟨_, Lib.hid rfl⟩
  have Op1 := Lib.hid (ST4.out.old Hp1.out)
  have ST6 := Lib.hid (ST4.out.box Hp1.out HW5.out)
  obtain ⟨W7, HW7⟩ : ∃ W', Hid (W' = W5.alloc (.cells #[(.int .i64 k2), (.bool g2), (.slice a2 n2 c2), (.string s2), (.bool t2)] 26)) := ⟨_, Lib.hid rfl⟩
  obtain ⟨p2, Hp2⟩ : ∃ b, Hid (b = W5.heap.size) := ⟨_, Lib.hid rfl⟩
  have Op2 := Lib.hid (ST6.out.old Hp2.out)
  have ST8 := Lib.hid (ST6.out.box Hp2.out HW7.out)
  obtain ⟨W9, HW9⟩ : ∃ W', Hid (W' = W7.alloc (.cells #[(.int .i64 0), (.bool false), (.slice none 0 0), (.string ⟨#[]⟩), (.bool false)] 26)) := ⟨_, Lib.hid rfl⟩
  obtain ⟨bo, Hbo⟩ : ∃ b, Hid (b = W7.heap.size) := ⟨_, Lib.hid rfl⟩
  have Obo := Lib.hid (ST8.out.old Hbo.out)
  have ST10 := Lib.hid (ST8.out.box Hbo.out HW9.out)
  have hz3 : w.heap.size + 3 = bo := by rw [Hbo.out, HW7.out, World.size_alloc, HW5.out, World.size_alloc, HW3.out, World.size_alloc]
  have hz2 : w.heap.size + 2 = p2 := by rw [Hp2.out, HW5.out, World.size_alloc, HW3.out, World.size_alloc]
  have hz1 : w.heap.size + 1 = p1 := by rw [Hp1.out, HW3.out, World.size_alloc]
  rw [← HW3.out, ← HW5.out, ← HW7.out, ← HW9.out]
  try rw [hz3]
  try rw [hz2]
  try rw [hz1]
  try rw [← Hb0.out]
  clear hz1 hz2 hz3
  have qp2_0 := ST10.out.cell (List.mem_cons_of_mem _ (List.mem_cons_self ..)) 0 _ rfl
  have qp2_1 := ST10.out.cell (List.mem_cons_of_mem _ (List.mem_cons_self ..)) 1 _ rfl
  have qp2_2 := ST10.out.cell (List.mem_cons_of_mem _ (List.mem_cons_self ..)) 2 _ rfl
  have qp2_3 := ST10.out.cell (List.mem_cons_of_mem _ (List.mem_cons_self ..)) 3 _ rfl
  have qp2_4 := ST10.out.cell (List.mem_cons_of_mem _ (List.mem_cons_self ..)) 4 _ rfl
  have qp1_0 := ST10.out.cell (List.mem_cons_of_mem _ (List.mem_cons_of_mem _ (List.mem_cons_self ..))) 0 _ rfl
  have qp1_1 := ST10.out.cell (List.mem_cons_of_mem _ (List.mem_cons_of_mem _ (List.mem_cons_self ..))) 1 _ rfl
  have qp1_2 := ST10.out.cell (List.mem_cons_of_mem _ (List.mem_cons_of_mem _ (List.mem_cons_self ..))) 2 _ rfl
  have qp1_3 := ST10.out.cell (List.mem_cons_of_mem _ (List.mem_cons_of_mem _ (List.mem_cons_self ..))) 3 _ rfl
  have qp1_4 := ST10.out.cell (List.mem_cons_of_mem _ (List.mem_cons_of_mem _ (List.mem_cons_self ..))) 4 _ rfl
  have qbo_0 := ST10.out.cell (List.mem_cons_self ..) 0 _ rfl
  have fbo_0 := ST10.out.thaw (List.mem_cons_self ..) 0
  have qbo_1 := ST10.out.cell (List.mem_cons_self ..) 1 _ rfl
  have fbo_1 := ST10.out.thaw (List.mem_cons_self ..) 1
  have qbo_2 := ST10.out.cell (List.mem_cons_self ..) 2 _ rfl
  have fbo_2 := ST10.out.thaw (List.mem_cons_self ..) 2
  have qbo_3 := ST10.out.cell (List.mem_cons_self ..) 3 _ rfl
  have fbo_3 := ST10.out.thaw (List.mem_cons_self ..) 3
  have qbo_4 := ST10.out.cell (List.mem_cons_self ..) 4 _ rfl
  have fbo_4 := ST10.out.thaw (List.mem_cons_self ..) 4
  go_wp2_with fail
  exact finK2 rfl (show BoxK W9 bo _ _ _ _ _ _ _ from (ST10.out.boxes _ (List.mem_cons_self ..)).1) ST10.out.below (ST10.out.boxes _ (List.mem_cons_self ..)).2 (intC_zero _) rfl rfl

set_option maxRecDepth 100000 in
set_option maxHeartbeats 3200000 in
theorem bin_unknown {w : World} (op : ByteArray) {k1 : Int} {g1 : Bool} {a1 : Option Addr} {n1 c1 : Nat} {s1 : ByteArray} {t1 : Bool} {z1 : List Nat} {x1 : Int} {k2 : Int} {g2 : Bool} {a2 : Option Addr} {n2 c2 : Nat} {s2 : ByteArray} {t2 : Bool} {z2 : List Nat} {x2 : Int} (h1 : IntV w (.agg #[.bool g1, .slice a1 n1 c1]) g1 z1) (hx1 : valI g1 z1 = x1) (h2 : IntV w (.agg #[.bool g2, .slice a2 n2 c2]) g2 z2) (hx2 : valI g2 z2 = x2) (hk : k1 = k2) (hn : knownB k1 = false) :
    Calls Tryd.prog 23 #[.string op, .agg #[.int .i64 k1, .bool g1, .slice a1 n1 c1, .string s1, .bool t1], .agg #[.int .i64 k2, .bool g2, .slice a2 n2 c2, .string s2, .bool t2]] w fun e w' => Kon2 w' e 0 0 ⟨#[]⟩ false 6 ∧ Below w.heap.size w w' := by
  have ST0 := Lib.hid (Sk.start w)
  have Hx1 := Lib.hid hx1
  have ST1 := Lib.hid (ST0.out.num h1)
  clear h1 hx1
  have Hx2 := Lib.hid hx2
  have ST2 := Lib.hid (ST1.out.num h2)
  clear h2 hx2
  subst hk
  have HN := Lib.hid hn
  clear hn
  go_enter Tryd.func23, Tryd.ntmps23
  go_upto_region 1 with fail
  obtain ⟨W3, HW3⟩ : ∃ W', Hid (W' = w.alloc (.cells #[(.string op)] 9)) := ⟨_, Lib.hid rfl⟩
  obtain ⟨b0, Hb0⟩ : ∃ b, Hid (b = w.heap.size) := ⟨_, Lib.hid rfl⟩
  have ST4 := Lib.hid (ST2.out.box Hb0.out HW3.out)
  obtain ⟨W5, HW5⟩ : ∃ W', Hid (W' = W3.alloc (.cells #[(.int .i64 k1), (.bool g1), (.slice a1 n1 c1), (.string s1), (.bool t1)] 26)) := ⟨_, Lib.hid rfl⟩
  obtain ⟨p1, Hp1⟩ : ∃ b, Hid (b = W3.heap.size) := ⟨_, Lib.hid rfl⟩
  have Op1 := Lib.hid (ST4.out.old Hp1.out)
  have ST6 := Lib.hid (ST4.out.box Hp1.out HW5.out)
  obtain ⟨W7, HW7⟩ : ∃ W', Hid (W' = W5.alloc (.cells #[(.int .i64 k1), (.bool g2), (.slice a2 n2 c2), (.string s2), (.bool t2)] 26)) := ⟨_, Lib.hid rfl⟩
  obtain ⟨p2, Hp2⟩ : ∃ b, Hid (b = W5.heap.size) := ⟨_, Lib.hid rfl⟩
  have Op2 := Lib.hid (ST6.out.old Hp2.out)
  have ST8 := Lib.hid (ST6.out.box Hp2.out HW7.out)
  obtain ⟨W9, HW9⟩ : ∃ W', Hid (W' = W7.alloc (.cells #[(.int .i64 0), (.bool false), (.slice none 0 0), (.string ⟨#[]⟩), (.bool false)] 26)) := ⟨_, Lib.hid rfl⟩
  obtain ⟨bo, Hbo⟩ : ∃ b, Hid (b = W7.heap.size) := ⟨_, Lib.hid rfl⟩
  have Obo := Lib.hid (ST8.out.old Hbo.out)
  have ST10 := Lib.hid (ST8.out.box Hbo.out HW9.out)
  have hz3 : w.heap.size + 3 = bo := by rw [Hbo.out, HW7.out, World.size_alloc, HW5.out, World.size_alloc, HW3.out, World.size_alloc]
  have hz2 : w.heap.size + 2 = p2 := by rw [Hp2.out, HW5.out, World.size_alloc, HW3.out, World.size_alloc]
  have hz1 : w.heap.size + 1 = p1 := by rw [Hp1.out, HW3.out, World.size_alloc]
  rw [← HW3.out, ← HW5.out, ← HW7.out, ← HW9.out]
  try rw [hz3]
  try rw [hz2]
  try rw [hz1]
  try rw [← Hb0.out]
  clear hz1 hz2 hz3
  have qp2_0 := ST10.out.cell (List.mem_cons_of_mem _ (List.mem_cons_self ..)) 0 _ rfl
  have qp2_1 := ST10.out.cell (List.mem_cons_of_mem _ (List.mem_cons_self ..)) 1 _ rfl
  have qp2_2 := ST10.out.cell (List.mem_cons_of_mem _ (List.mem_cons_self ..)) 2 _ rfl
  have qp2_3 := ST10.out.cell (List.mem_cons_of_mem _ (List.mem_cons_self ..)) 3 _ rfl
  have qp2_4 := ST10.out.cell (List.mem_cons_of_mem _ (List.mem_cons_self ..)) 4 _ rfl
  have qp1_0 := ST10.out.cell (List.mem_cons_of_mem _ (List.mem_cons_of_mem _ (List.mem_cons_self ..))) 0 _ rfl
  have qp1_1 := ST10.out.cell (List.mem_cons_of_mem _ (List.mem_cons_of_mem _ (List.mem_cons_self ..))) 1 _ rfl
  have qp1_2 := ST10.out.cell (List.mem_cons_of_mem _ (List.mem_cons_of_mem _ (List.mem_cons_self ..))) 2 _ rfl
  have qp1_3 := ST10.out.cell (List.mem_cons_of_mem _ (List.mem_cons_of_mem _ (List.mem_cons_self ..))) 3 _ rfl
  have qp1_4 := ST10.out.cell (List.mem_cons_of_mem _ (List.mem_cons_of_mem _ (List.mem_cons_self ..))) 4 _ rfl
  have CN := Lib.hid (known_any k1 W9)
  rw [HN.out] at CN
  go_upto_region 2 with (go_at_call 28; refine CN.out.mono ?_; rintro e w9 ⟨rfl, rfl⟩)
  have qbo_0 := ST10.out.cell (List.mem_cons_self ..) 0 _ rfl
  have fbo_0 := ST10.out.thaw (List.mem_cons_self ..) 0
  have qbo_1 := ST10.out.cell (List.mem_cons_self ..) 1 _ rfl
  have fbo_1 := ST10.out.thaw (List.mem_cons_self ..) 1
  have qbo_2 := ST10.out.cell (List.mem_cons_self ..) 2 _ rfl
  have fbo_2 := ST10.out.thaw (List.mem_cons_self ..) 2
  have qbo_3 := ST10.out.cell (List.mem_cons_self ..) 3 _ rfl
  have fbo_3 := ST10.out.thaw (List.mem_cons_self ..) 3
  have qbo_4 := ST10.out.cell (List.mem_cons_self ..) 4 _ rfl
  have fbo_4 := ST10.out.thaw (List.mem_cons_self ..) 4
  go_wp2_with fail
  exact finK2 rfl (show BoxK W9 bo _ _ _ _ _ _ _ from (ST10.out.boxes _ (List.mem_cons_self ..)).1) ST10.out.below (ST10.out.boxes _ (List.mem_cons_self ..)).2 (intC_zero _) rfl rfl

end Go.Proofs.YtahgbbnpbhfaeaaDoor
