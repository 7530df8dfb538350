/- The document's Str, Bool, Int; Consts; Text, the program's and the document's. Conditions: a kind; the text fits. -/
import Derived.Test.YtahgbbnpbhfaeaaDoorKnAwake
import Derived.Test.YtahgbbnpbhfaeaaDoorKnRef
import Derived.Test.YtahgbbnpbhfaeaaDoorRfText
import Derived.Test.YtahgbbnpbhfaeaaDoorKnQuote
namespace Go.Proofs.YtahgbbnpbhfaeaaDoor
open Go.RowKit

set_option maxRecDepth 100000 in
set_option maxHeartbeats 3200000 in
theorem rstr_any {w : World} (s : ByteArray)   :
    Calls Tryd.prog 20 #[.string s] w fun e w' => Kon1 w' e 2 0 s false ∧ Below w.heap.size w w' := by
  have ST0 := Lib.hid (Sk.start w)
  go_enter Tryd.func20, Tryd.ntmps20
  go_upto_region 1 with fail
  obtain ⟨W1, HW1⟩ : ∃ W', Hid (W' = w.alloc (.cells #[(.int .i64 0), (.bool false), (.slice none 0 0), (.string ⟨#[]⟩), (.bool false)] 26)) := ⟨_, Lib.hid rfl⟩
  obtain ⟨bo, Hbo⟩ : ∃ b, Hid (b = w.heap.size) := ⟨_, Lib.hid rfl⟩
  have ST2 := Lib.hid (ST0.out.box Hbo.out HW1.out)
  rw [← HW1.out]
  try rw [← Hbo.out]
  have qbo_0 := ST2.out.cell (List.mem_cons_self ..) 0 _ rfl
  have fbo_0 := ST2.out.thaw (List.mem_cons_self ..) 0
  have qbo_1 := ST2.out.cell (List.mem_cons_self ..) 1 _ rfl
  have fbo_1 := ST2.out.thaw (List.mem_cons_self ..) 1
  have qbo_2 := ST2.out.cell (List.mem_cons_self ..) 2 _ rfl
  have fbo_2 := ST2.out.thaw (List.mem_cons_self ..) 2
  have qbo_3 := ST2.out.cell (List.mem_cons_self ..) 3 _ rfl
  have fbo_3 := ST2.out.thaw (List.mem_cons_self ..) 3
  have qbo_4 := ST2.out.cell (List.mem_cons_self ..) 4 _ rfl
  have fbo_4 := ST2.out.thaw (List.mem_cons_self ..) 4
  go_wp2_with fail
  exact finK1 rfl (show BoxK W1 bo _ _ _ _ _ _ _ from (ST2.out.boxes _ (List.mem_cons_self ..)).1) ST2.out.below (ST2.out.boxes _ (List.mem_cons_self ..)).2 (intC_zero _) rfl


set_option maxRecDepth 100000 in
set_option maxHeartbeats 3200000 in
theorem rbool_any {w : World} (t : Bool)   :
    Calls Tryd.prog 22 #[.bool t] w fun e w' => Kon1 w' e 3 0 ⟨#[]⟩ t ∧ Below w.heap.size w w' := by
  have ST0 := Lib.hid (Sk.start w)
  go_enter Tryd.func22, Tryd.ntmps22
  go_upto_region 1 with fail
  obtain ⟨W1, HW1⟩ : ∃ W', Hid (W' = w.alloc (.cells #[(.int .i64 0), (.bool false), (.slice none 0 0), (.string ⟨#[]⟩), (.bool false)] 26)) := ⟨_, Lib.hid rfl⟩
  obtain ⟨bo, Hbo⟩ : ∃ b, Hid (b = w.heap.size) := ⟨_, Lib.hid rfl⟩
  have ST2 := Lib.hid (ST0.out.box Hbo.out HW1.out)
  rw [← HW1.out]
  try rw [← Hbo.out]
  have qbo_0 := ST2.out.cell (List.mem_cons_self ..) 0 _ rfl
  have fbo_0 := ST2.out.thaw (List.mem_cons_self ..) 0
  have qbo_1 := ST2.out.cell (List.mem_cons_self ..) 1 _ rfl
  have fbo_1 := ST2.out.thaw (List.mem_cons_self ..) 1
  have qbo_2 := ST2.out.cell (List.mem_cons_self ..) 2 _ rfl
  have fbo_2 := ST2.out.thaw (List.mem_cons_self ..) 2
  have qbo_3 := ST2.out.cell (List.mem_cons_self ..) 3 _ rfl
  have fbo_3 := ST2.out.thaw (List.mem_cons_self ..) 3
  have qbo_4 := ST2.out.cell (List.mem_cons_self ..) 4 _ rfl
  have fbo_4 := ST2.out.thaw (List.mem_cons_self ..) 4
  go_wp2_with fail
  exact finK1 rfl (show BoxK W1 bo _ _ _ _ _ _ _ from (ST2.out.boxes _ (List.mem_cons_self ..)).1) ST2.out.below (ST2.out.boxes _ (List.mem_cons_self ..)).2 (intC_zero _) rfl


set_option maxRecDepth 100000 in
set_option maxHeartbeats 3200000 in
theorem rint_any {w : World} (i : Int)  (h0 : -9223372036854775808 ≤ i) (h1 : i ≤ 9223372036854775807) :
    Calls Tryd.prog 18 #[.int .i64 i] w fun e w' => Kon1 w' e 1 i ⟨#[]⟩ false ∧ Below w.heap.size w w' := by
  have ST0 := Lib.hid (Sk.start w)
  go_enter Tryd.func18, Tryd.ntmps18
  go_wp2_with (go_at_call 39; refine hold ?_)
  obtain ⟨W1, HW1⟩ : ∃ W', Hid (W' = w.alloc (.cells #[(.int .i64 0), (.bool false), (.slice none 0 0), (.string ⟨#[]⟩), (.bool false)] 26)) := ⟨_, Lib.hid rfl⟩
  obtain ⟨bo, Hbo⟩ : ∃ b, Hid (b = w.heap.size) := ⟨_, Lib.hid rfl⟩
  have ST2 := Lib.hid (ST0.out.box Hbo.out HW1.out)
  rw [← HW1.out]
  try rw [← Hbo.out]
  refine Hold.mk ?_
  refine (rof_any i W1 h0 h1).mono ?_
  rintro e W3 ⟨v, rfl, hv, hb⟩
  obtain ⟨b3, a3, n3, c3, rfl, hv⟩ := hv.parts
  have ST4 := Lib.hid (ST2.out.next hb hv)
  clear hv hb
  have qbo_0 := ST4.out.cell (List.mem_cons_self ..) 0 _ rfl
  have fbo_0 := ST4.out.thaw (List.mem_cons_self ..) 0
  have qbo_1 := ST4.out.cell (List.mem_cons_self ..) 1 _ rfl
  have fbo_1 := ST4.out.thaw (List.mem_cons_self ..) 1
  have qbo_2 := ST4.out.cell (List.mem_cons_self ..) 2 _ rfl
  have fbo_2 := ST4.out.thaw (List.mem_cons_self ..) 2
  have qbo_3 := ST4.out.cell (List.mem_cons_self ..) 3 _ rfl
  have fbo_3 := ST4.out.thaw (List.mem_cons_self ..) 3
  have qbo_4 := ST4.out.cell (List.mem_cons_self ..) 4 _ rfl
  have fbo_4 := ST4.out.thaw (List.mem_cons_self ..) 4
  go_wp2_with fail
  exact finK1 rfl (show BoxK W3 bo _ _ _ _ _ _ _ from (ST4.out.boxes _ (List.mem_cons_self ..)).1) ST4.out.below (ST4.out.boxes _ (List.mem_cons_self ..)).2 (ST4.out.getC (v := (.agg #[.bool b3, .slice a3 n3 c3])) (i := i) (List.mem_cons_self ..)) rfl


set_option maxRecDepth 100000 in
set_option maxHeartbeats 3200000 in
theorem consts_any {w : World} (k : Int) (g1 : Bool) (a1 : Option Addr) (n1 c1 : Nat) (s : ByteArray) (t : Bool) (g2 : Bool) (a2 : Option Addr) (n2 c2 : Nat) (x : Int)  (h1 : IntC w (.agg #[.bool g1, .slice a1 n1 c1]) x) (h2 : IntC w (.agg #[.bool g2, .slice a2 n2 c2]) x) :
    Calls Tryd.prog 9 #[.agg #[.int .i64 k, .bool g1, .slice a1 n1 c1, .string s, .bool t], .agg #[.int .i64 k, .bool g2, .slice a2 n2 c2, .string s, .bool t]] w fun e w' => e = .returned (.bool true) ∧ Below w.heap.size w w' := by
  have ST0 := Lib.hid (Sk.start w)
  have ST1 := Lib.hid ((ST0.out.num h1))
  have ST2 := Lib.hid ((ST1.out.num h2))
  clear h1 h2
  go_enter Tryd.func9, Tryd.ntmps9
  go_upto_region 1 with fail
  obtain ⟨W3, HW3⟩ : ∃ W', Hid (W' = w.alloc (.cells #[(.int .i64 k), (.bool g1), (.slice a1 n1 c1), (.string s), (.bool t)] 26)) := ⟨_, Lib.hid rfl⟩
  obtain ⟨p1, Hp1⟩ : ∃ b, Hid (b = w.heap.size) := ⟨_, Lib.hid rfl⟩
  have ST4 := Lib.hid (ST2.out.box Hp1.out HW3.out)
  obtain ⟨W5, HW5⟩ : ∃ W', Hid (W' = W3.alloc (.cells #[(.int .i64 k), (.bool g2), (.slice a2 n2 c2), (.string s), (.bool t)] 26)) := ⟨_, Lib.hid rfl⟩
  obtain ⟨p2, Hp2⟩ : ∃ b, Hid (b = W3.heap.size) := ⟨_, Lib.hid rfl⟩
  have Op2 := Lib.hid (ST4.out.old Hp2.out)
  have ST6 := Lib.hid (ST4.out.box Hp2.out HW5.out)
  have hz1 : w.heap.size + 1 = p2 := by rw [Hp2.out, HW3.out, World.size_alloc]
  rw [← HW3.out, ← HW5.out]
  try rw [hz1]
  try rw [← Hp1.out]
  clear hz1
  have qp2_0 := ST6.out.cell (List.mem_cons_self ..) 0 _ rfl
  have qp2_1 := ST6.out.cell (List.mem_cons_self ..) 1 _ rfl
  have qp2_2 := ST6.out.cell (List.mem_cons_self ..) 2 _ rfl
  have qp2_3 := ST6.out.cell (List.mem_cons_self ..) 3 _ rfl
  have qp2_4 := ST6.out.cell (List.mem_cons_self ..) 4 _ rfl
  have qp1_0 := ST6.out.cell (List.mem_cons_of_mem _ (List.mem_cons_self ..)) 0 _ rfl
  have qp1_1 := ST6.out.cell (List.mem_cons_of_mem _ (List.mem_cons_self ..)) 1 _ rfl
  have qp1_2 := ST6.out.cell (List.mem_cons_of_mem _ (List.mem_cons_self ..)) 2 _ rfl
  have qp1_3 := ST6.out.cell (List.mem_cons_of_mem _ (List.mem_cons_self ..)) 3 _ rfl
  have qp1_4 := ST6.out.cell (List.mem_cons_of_mem _ (List.mem_cons_self ..)) 4 _ rfl
  cases t with
  | true =>
    go_wp2_with (go_at_call 27; refine hold ?_)
    refine Hold.mk ?_
    have C7 := Lib.hid (whole_same _ _ x W5 (ST6.out.getC (v := (.agg #[.bool g1, .slice a1 n1 c1])) (i := x) (List.mem_cons_of_mem _ (List.mem_cons_self ..))) (ST6.out.getC (v := (.agg #[.bool g2, .slice a2 n2 c2])) (i := x) (List.mem_cons_self ..)))
    refine C7.out.mono ?_
    rintro e W7 ⟨rfl, hb⟩
    clear qp2_0 qp2_1 qp2_2 qp2_3 qp2_4 qp1_0 qp1_1 qp1_2 qp1_3 qp1_4
    have ST8 := Lib.hid (ST6.out.go hb)
    clear hb
    go_wp2_with fail
    go_ret
    exact ⟨rfl, ST8.out.below⟩
  | false =>
    go_wp2_with (go_at_call 27; refine hold ?_)
    refine Hold.mk ?_
    have C9 := Lib.hid (whole_same _ _ x W5 (ST6.out.getC (v := (.agg #[.bool g1, .slice a1 n1 c1])) (i := x) (List.mem_cons_of_mem _ (List.mem_cons_self ..))) (ST6.out.getC (v := (.agg #[.bool g2, .slice a2 n2 c2])) (i := x) (List.mem_cons_self ..)))
    refine C9.out.mono ?_
    rintro e W9 ⟨rfl, hb⟩
    clear qp2_0 qp2_1 qp2_2 qp2_3 qp2_4 qp1_0 qp1_1 qp1_2 qp1_3 qp1_4
    have ST10 := Lib.hid (ST6.out.go hb)
    clear hb
    go_wp2_with fail
    go_ret
    exact ⟨rfl, ST10.out.below⟩

/-- A constant, written. -/
def textK (k x : Int) (s : ByteArray) (t : Bool) : ByteArray := if k = 1 then strL (decI x) else if k = 2 then Qt.strB (Qt.quoteL s.data.toList) else boolS t

set_option maxRecDepth 100000 in
set_option maxHeartbeats 3200000 in
theorem ktext_any {w : World} {k1 : Int} {g1 : Bool} {a1 : Option Addr} {n1 c1 : Nat} {s1 : ByteArray} {t1 : Bool} {z1 : List Nat} {x1 : Int} (h1 : IntV w (.agg #[.bool g1, .slice a1 n1 c1]) g1 z1) (hx1 : valI g1 z1 = x1) (hk : k1 = 1 ∨ k1 = 2 ∨ k1 = 3) (hs : s1.size ≤ 70000) :
    Calls Tryd.prog 12 #[.agg #[.int .i64 k1, .bool g1, .slice a1 n1 c1, .string s1, .bool t1]] w fun e w' => e = .returned (.string (textK k1 x1 s1 t1)) ∧ Below w.heap.size w w' := by
  have ST0 := Lib.hid (Sk.start w)
  have Hx1 := Lib.hid hx1
  have ST1 := Lib.hid (ST0.out.num h1)
  clear h1 hx1
  rcases hk with rfl | rfl | rfl
  · skip
    go_enter Tryd.func12, Tryd.ntmps12
    go_upto_region 1 with fail
    obtain ⟨W2, HW2⟩ : ∃ W', Hid (W' = w.alloc (.cells #[(.int .i64 1), (.bool g1), (.slice a1 n1 c1), (.string s1), (.bool t1)] 26)) := ⟨_, Lib.hid rfl⟩
    obtain ⟨p1, Hp1⟩ : ∃ b, Hid (b = w.heap.size) := ⟨_, Lib.hid rfl⟩
    have ST3 := Lib.hid (ST1.out.box Hp1.out HW2.out)
    rw [← HW2.out]
    try rw [← Hp1.out]
    have qp1_0 := ST3.out.cell (List.mem_cons_self ..) 0 _ rfl
    have qp1_1 := ST3.out.cell (List.mem_cons_self ..) 1 _ rfl
    have qp1_2 := ST3.out.cell (List.mem_cons_self ..) 2 _ rfl
    have qp1_3 := ST3.out.cell (List.mem_cons_self ..) 3 _ rfl
    have qp1_4 := ST3.out.cell (List.mem_cons_self ..) 4 _ rfl
    go_wp2_with (go_at_call 31; refine hold ?_)
    refine Hold.mk ?_
    have C4 := Lib.hid ((show Calls Tryd.prog 31 #[(.agg #[.bool g1, .slice a1 n1 c1])] W2 fun e w' => e = .returned (.string (strL (decI x1))) ∧ Below W2.heap.size W2 w' from by have h := text_any _ _ _ _ (ST3.out.get (v := (.agg #[.bool g1, .slice a1 n1 c1])) (g := g1) (z := z1) (List.mem_cons_self ..)); rw [Hx1.out] at h; exact h))
    refine C4.out.mono ?_
    rintro e W4 ⟨rfl, hb⟩
    clear qp1_0 qp1_1 qp1_2 qp1_3 qp1_4
    have ST5 := Lib.hid (ST3.out.go hb)
    clear hb
    go_wp2_with fail
    go_ret
    exact ⟨rfl, ST5.out.below⟩
  · skip
    go_enter Tryd.func12, Tryd.ntmps12
    go_upto_region 1 with fail
    obtain ⟨W6, HW6⟩ : ∃ W', Hid (W' = w.alloc (.cells #[(.int .i64 2), (.bool g1), (.slice a1 n1 c1), (.string s1), (.bool t1)] 26)) := ⟨_, Lib.hid rfl⟩
    obtain ⟨p1, Hp1⟩ : ∃ b, Hid (b = w.heap.size) := ⟨_, Lib.hid rfl⟩
    have ST7 := Lib.hid (ST1.out.box Hp1.out HW6.out)
    rw [← HW6.out]
    try rw [← Hp1.out]
    have qp1_0 := ST7.out.cell (List.mem_cons_self ..) 0 _ rfl
    have qp1_1 := ST7.out.cell (List.mem_cons_self ..) 1 _ rfl
    have qp1_2 := ST7.out.cell (List.mem_cons_self ..) 2 _ rfl
    have qp1_3 := ST7.out.cell (List.mem_cons_self ..) 3 _ rfl
    have qp1_4 := ST7.out.cell (List.mem_cons_self ..) 4 _ rfl
    obtain ⟨q, Hq⟩ : ∃ x, Hid (Qt.strB (Qt.quoteL s1.data.toList) = x) := ⟨_, Lib.hid rfl⟩
    go_wp2_with (go_at_call 32; refine hold ?_)
    refine Hold.mk ?_
    have C8 := Lib.hid (Qt.quote_any s1 W6 hs)
    rw [Hq.out] at C8
    refine C8.out.mono ?_
    rintro e W8 ⟨rfl, hb⟩
    clear qp1_0 qp1_1 qp1_2 qp1_3 qp1_4
    have ST9 := Lib.hid (ST7.out.go hb)
    clear hb
    go_wp2_with fail
    go_ret
    exact ⟨by rw [← Hq.out]; rfl, ST9.out.below⟩
  · skip
    go_enter Tryd.func12, Tryd.ntmps12
    go_upto_region 1 with fail
    obtain ⟨W10, HW10⟩ : ∃ W', Hid (W' = w.alloc (.cells #[(.int .i64 3), (.bool g1), (.slice a1 n1 c1), (.string s1), (.bool t1)] 26)) := ⟨_, Lib.hid rfl⟩
    obtain ⟨p1, Hp1⟩ : ∃ b, Hid (b = w.heap.size) := ⟨_, Lib.hid rfl⟩
    have ST11 := Lib.hid (ST1.out.box Hp1.out HW10.out)
    rw [← HW10.out]
    try rw [← Hp1.out]
    have qp1_0 := ST11.out.cell (List.mem_cons_self ..) 0 _ rfl
    have qp1_1 := ST11.out.cell (List.mem_cons_self ..) 1 _ rfl
    have qp1_2 := ST11.out.cell (List.mem_cons_self ..) 2 _ rfl
    have qp1_3 := ST11.out.cell (List.mem_cons_self ..) 3 _ rfl
    have qp1_4 := ST11.out.cell (List.mem_cons_self ..) 4 _ rfl
    cases t1 with
    | true =>
      go_wp2_with fail
      go_ret
      exact ⟨rfl, ST11.out.below⟩
    | false =>
      go_wp2_with fail
      go_ret
      exact ⟨rfl, ST11.out.below⟩

set_option maxRecDepth 100000 in
set_option maxHeartbeats 3200000 in
theorem rtext10_any {w : World} {k1 : Int} {g1 : Bool} {a1 : Option Addr} {n1 c1 : Nat} {s1 : ByteArray} {t1 : Bool} {z1 : List Nat} {x1 : Int} (h1 : IntV w (.agg #[.bool g1, .slice a1 n1 c1]) g1 z1) (hx1 : valI g1 z1 = x1) (hk : k1 = 1 ∨ k1 = 2 ∨ k1 = 3) (hs : s1.size ≤ 70000) :
    Calls Tryd.prog 13 #[.agg #[.int .i64 k1, .bool g1, .slice a1 n1 c1, .string s1, .bool t1]] w fun e w' => e = .returned (.string (textK k1 x1 s1 t1)) ∧ Below w.heap.size w w' := by
  have ST0 := Lib.hid (Sk.start w)
  have Hx1 := Lib.hid hx1
  have ST1 := Lib.hid (ST0.out.num h1)
  clear h1 hx1
  rcases hk with rfl | rfl | rfl
  · skip
    go_enter Tryd.func13, Tryd.ntmps13
    go_upto_region 1 with fail
    obtain ⟨W2, HW2⟩ : ∃ W', Hid (W' = w.alloc (.cells #[(.int .i64 1), (.bool g1), (.slice a1 n1 c1), (.string s1), (.bool t1)] 26)) := ⟨_, Lib.hid rfl⟩
    obtain ⟨p1, Hp1⟩ : ∃ b, Hid (b = w.heap.size) := ⟨_, Lib.hid rfl⟩
    have ST3 := Lib.hid (ST1.out.box Hp1.out HW2.out)
    rw [← HW2.out]
    try rw [← Hp1.out]
    have qp1_0 := ST3.out.cell (List.mem_cons_self ..) 0 _ rfl
    have qp1_1 := ST3.out.cell (List.mem_cons_self ..) 1 _ rfl
    have qp1_2 := ST3.out.cell (List.mem_cons_self ..) 2 _ rfl
    have qp1_3 := ST3.out.cell (List.mem_cons_self ..) 3 _ rfl
    have qp1_4 := ST3.out.cell (List.mem_cons_self ..) 4 _ rfl
    go_wp2_with (go_at_call 33; refine hold ?_)
    refine Hold.mk ?_
    have C4 := Lib.hid ((show Calls Tryd.prog 33 #[(.agg #[.bool g1, .slice a1 n1 c1])] W2 fun e w' => e = .returned (.string (strL (decI x1))) ∧ Below W2.heap.size W2 w' from by have h := rtext_any _ _ _ _ (ST3.out.get (v := (.agg #[.bool g1, .slice a1 n1 c1])) (g := g1) (z := z1) (List.mem_cons_self ..)); rw [Hx1.out] at h; exact h))
    refine C4.out.mono ?_
    rintro e W4 ⟨rfl, hb⟩
    clear qp1_0 qp1_1 qp1_2 qp1_3 qp1_4
    have ST5 := Lib.hid (ST3.out.go hb)
    clear hb
    go_wp2_with fail
    go_ret
    exact ⟨rfl, ST5.out.below⟩
  · skip
    go_enter Tryd.func13, Tryd.ntmps13
    go_upto_region 1 with fail
    obtain ⟨W6, HW6⟩ : ∃ W', Hid (W' = w.alloc (.cells #[(.int .i64 2), (.bool g1), (.slice a1 n1 c1), (.string s1), (.bool t1)] 26)) := ⟨_, Lib.hid rfl⟩
    obtain ⟨p1, Hp1⟩ : ∃ b, Hid (b = w.heap.size) := ⟨_, Lib.hid rfl⟩
    have ST7 := Lib.hid (ST1.out.box Hp1.out HW6.out)
    rw [← HW6.out]
    try rw [← Hp1.out]
    have qp1_0 := ST7.out.cell (List.mem_cons_self ..) 0 _ rfl
    have qp1_1 := ST7.out.cell (List.mem_cons_self ..) 1 _ rfl
    have qp1_2 := ST7.out.cell (List.mem_cons_self ..) 2 _ rfl
    have qp1_3 := ST7.out.cell (List.mem_cons_self ..) 3 _ rfl
    have qp1_4 := ST7.out.cell (List.mem_cons_self ..) 4 _ rfl
    obtain ⟨q, Hq⟩ : ∃ x, Hid (Qt.strB (Qt.quoteL s1.data.toList) = x) := ⟨_, Lib.hid rfl⟩
    go_wp2_with (go_at_call 34; refine hold ?_)
    refine Hold.mk ?_
    have C8 := Lib.hid (Qt.rquote_any s1 W6 hs)
    rw [Hq.out] at C8
    refine C8.out.mono ?_
    rintro e W8 ⟨rfl, hb⟩
    clear qp1_0 qp1_1 qp1_2 qp1_3 qp1_4
    have ST9 := Lib.hid (ST7.out.go hb)
    clear hb
    go_wp2_with fail
    go_ret
    exact ⟨by rw [← Hq.out]; rfl, ST9.out.below⟩
  · skip
    go_enter Tryd.func13, Tryd.ntmps13
    go_upto_region 1 with fail
    obtain ⟨W10, HW10⟩ : ∃ W', Hid (W' = w.alloc (.cells #[(.int .i64 3), (.bool g1), (.slice a1 n1 c1), (.string s1), (.bool t1)] 26)) := ⟨_, Lib.hid rfl⟩
    obtain ⟨p1, Hp1⟩ : ∃ b, Hid (b = w.heap.size) := ⟨_, Lib.hid rfl⟩
    have ST11 := Lib.hid (ST1.out.box Hp1.out HW10.out)
    rw [← HW10.out]
    try rw [← Hp1.out]
    have qp1_0 := ST11.out.cell (List.mem_cons_self ..) 0 _ rfl
    have qp1_1 := ST11.out.cell (List.mem_cons_self ..) 1 _ rfl
    have qp1_2 := ST11.out.cell (List.mem_cons_self ..) 2 _ rfl
    have qp1_3 := ST11.out.cell (List.mem_cons_self ..) 3 _ rfl
    have qp1_4 := ST11.out.cell (List.mem_cons_self ..) 4 _ rfl
    cases t1 with
    | true =>
      go_wp2_with fail
      go_ret
      exact ⟨rfl, ST11.out.below⟩
    | false =>
      go_wp2_with fail
      go_ret
      exact ⟨rfl, ST11.out.below⟩

end Go.Proofs.YtahgbbnpbhfaeaaDoor
