/- konst: Str, Bool, Int, known, number, order, Equal. No condition but that an int is one. -/
import Derived.Test.YtahgbbnpbhfaeaaDoorJ6
namespace Go.Proofs.YtahgbbnpbhfaeaaDoor
open Go.RowKit

/-- A kind of constants. -/
def knownB (k : Int) : Bool := (k == 1) || ((k == 2) || (k == 3))
theorem known_any (k : Int) (w : World) : Calls Tryd.prog 28 #[.int .i64 k] w fun e w' => e = .returned (.bool (knownB k)) ∧ w = w' := by
  obtain ⟨r, Hr⟩ : ∃ r, Hid (knownB k = r) := ⟨_, Lib.hid rfl⟩
  rw [Hr.out]
  cases d1 : (k == 1)
  · cases d2 : (k == 2)
    · cases d3 : (k == 3)
      · have HR := Lib.hid (show r = false from by rw [← Hr.out]; unfold knownB; rw [d1, d2, d3]; rfl)
        go_enter Tryd.func28, Tryd.ntmps28
        go_wp2_with fail
        go_ret
        exact ⟨eret_bool (by rw [HR.out]), rfl⟩
      · have HR := Lib.hid (show r = true from by rw [← Hr.out]; unfold knownB; rw [d1, d2, d3]; rfl)
        go_enter Tryd.func28, Tryd.ntmps28
        go_wp2_with fail
        go_ret
        exact ⟨eret_bool (by rw [HR.out]), rfl⟩
    · have HR := Lib.hid (show r = true from by rw [← Hr.out]; unfold knownB; rw [d1, d2]; rfl)
      go_enter Tryd.func28, Tryd.ntmps28
      go_wp2_with fail
      go_ret
      exact ⟨eret_bool (by rw [HR.out]), rfl⟩
  · have HR := Lib.hid (show r = true from by rw [← Hr.out]; unfold knownB; rw [d1]; rfl)
    go_enter Tryd.func28, Tryd.ntmps28
    go_wp2_with fail
    go_ret
    exact ⟨eret_bool (by rw [HR.out]), rfl⟩

set_option maxRecDepth 100000 in
theorem bcompare_any (a b : ByteArray) (w : World) : Calls Tryd.prog 70 #[.string a, .string b] w fun e w' => e = .returned (.int .i64 (Lib.compareBytes a.data.toList b.data.toList)) ∧ w = w' := by
  go_enter Tryd.func70, Tryd.ntmps70
  go_wp2_with fail
  rw [run_callFunc_extern Tryd.func84 (by kernel_rfl) (by kernel_rfl) (by kernel_rfl) (e := Extern.BytealgCompare.compare) (by kernel_rfl), Lib.run_compareString]
  simp only [Result.andThen]
  rw [Oper.upon_value]
  go_wp2_with fail
  go_ret
  exact ⟨rfl, rfl⟩
/-- How two texts stand. -/
def cmpS (a b : ByteArray) : Int := Lib.compareBytes a.data.toList b.data.toList
set_option maxRecDepth 100000 in
theorem scompare_any (a b : ByteArray) (w : World) : Calls Tryd.prog 51 #[.string a, .string b] w fun e w' => e = .returned (.int .i64 (cmpS a b)) ∧ w = w' := by
  have HC := Lib.hid (bcompare_any a b w)
  go_enter Tryd.func51, Tryd.ntmps51
  go_wp2_with (go_at_call 70; refine HC.out.mono ?_; rintro e w' ⟨rfl, rfl⟩)
  go_ret
  exact ⟨rfl, rfl⟩
theorem nan_any (i : Int) (w : World) : Calls Tryd.prog 71 #[.int .i64 i] w fun e w' => e = .returned (.bool false) ∧ w = w' := by
  go_enter Tryd.func71, Tryd.ntmps71
  go_wp2_with fail
  go_ret
  exact ⟨eret_bool (by simp), rfl⟩
theorem ccompare_any (i j : Int) (w : World) : Calls Tryd.prog 52 #[.int .i64 i, .int .i64 j] w fun e w' => e = .returned (.int .i64 (cmpI i j)) ∧ w = w' := by
  have HN := Lib.hid (fun i w => nan_any i w)
  obtain ⟨r, Hr⟩ : ∃ r, Hid (cmpI i j = r) := ⟨_, Lib.hid rfl⟩
  rw [Hr.out]
  rcases Int.lt_trichotomy i j with h | h | h
  · have hr := Lib.hid (show r = -1 from by rw [← Hr.out]; unfold cmpI; rw [if_pos h])
    go_enter Tryd.func52, Tryd.ntmps52
    go_wp2_with (go_at_call 71; refine (HN.out _ _).mono ?_; rintro e w' ⟨rfl, rfl⟩)
    go_ret
    exact ⟨eret_int hr.out.symm, rfl⟩
  · have hr := Lib.hid (show r = 0 from by rw [← Hr.out]; unfold cmpI; rw [h]; simp)
    go_enter Tryd.func52, Tryd.ntmps52
    go_wp2_with (go_at_call 71; refine (HN.out _ _).mono ?_; rintro e w' ⟨rfl, rfl⟩)
    go_ret
    exact ⟨eret_int hr.out.symm, rfl⟩
  · have hr := Lib.hid (show r = 1 from by rw [← Hr.out]; unfold cmpI; rw [if_neg (by omega), if_neg (by omega)])
    go_enter Tryd.func52, Tryd.ntmps52
    go_wp2_with (go_at_call 71; refine (HN.out _ _).mono ?_; rintro e w' ⟨rfl, rfl⟩)
    go_ret
    exact ⟨eret_int hr.out.symm, rfl⟩

set_option maxRecDepth 100000 in
set_option maxHeartbeats 3200000 in
theorem str_any {w : World} (s : ByteArray)   :
    Calls Tryd.prog 19 #[.string s] w fun e w' => Kon1 w' e 2 0 s false ∧ Below w.heap.size w w' := by
  have ST0 := Lib.hid (Sk.start w)
  go_enter Tryd.func19, Tryd.ntmps19
  go_upto_region 1 with fail
  obtain ⟨W1, HW1⟩ : ∃ W', Hid (W' = w.alloc (.cells #[(.int .i64 0), (.bool false), (.slice none 0 0), (.string ⟨#[]⟩), (.bool false)] 26)) := ⟨_, Lib.hid rfl⟩
  obtain ⟨bo, Hbo⟩ : ∃ b, Hid (b = w.heap.size) := ⟨_, Lib.hid rfl⟩
  have ST2 := Lib.hid (ST0.out.box Hbo.out HW1.out)
  rw [← HW1.out]
  try rw [← Hbo.out]
  have qbo_0 := ST2.out.cell (List.mem_cons_self ..) 0 _ rfl
  have fbo_0 := ST2.out.thaw (List.mem_cons_self ..) 0
  have qbo_1 := ST2.out.cell (List.mem_cons_self ..) 1 _ rfl
  have fbo_1 := ST2.out.thaw (List.mem_cons_self ..) 1
  have qbo_2 := ST2.out.cell (List.mem_cons_self ..) 2 _ rfl
  have fbo_2 := ST2.out.thaw (List.mem_cons_self ..) 2
  have qbo_3 := ST2.out.cell (List.mem_cons_self ..) 3 _ rfl
  have fbo_3 := ST2.out.thaw (List.mem_cons_self ..) 3
  have qbo_4 := ST2.out.cell (List.mem_cons_self ..) 4 _ rfl
  have fbo_4 := ST2.out.thaw (List.mem_cons_self ..) 4
  go_wp2_with fail
  exact finK1 rfl (show BoxK W1 bo _ _ _ _ _ _ _ from (ST2.out.boxes _ (List.mem_cons_self ..)).1) ST2.out.below (ST2.out.boxes _ (List.mem_cons_self ..)).2 (intC_zero _) rfl

set_option maxRecDepth 100000 in
set_option maxHeartbeats 3200000 in
theorem bool_any {w : World} (t : Bool)   :
    Calls Tryd.prog 21 #[.bool t] w fun e w' => Kon1 w' e 3 0 ⟨#[]⟩ t ∧ Below w.heap.size w w' := by
  have ST0 := Lib.hid (Sk.start w)
  go_enter Tryd.func21, Tryd.ntmps21
  go_upto_region 1 with fail
  obtain ⟨W1, HW1⟩ : ∃ W', Hid (W' = w.alloc (.cells #[(.int .i64 0), (.bool false), (.slice none 0 0), (.string ⟨#[]⟩), (.bool false)] 26)) := ⟨_, Lib.hid rfl⟩
  obtain ⟨bo, Hbo⟩ : ∃ b, Hid (b = w.heap.size) := ⟨_, Lib.hid rfl⟩
  have ST2 := Lib.hid (ST0.out.box Hbo.out HW1.out)
  rw [← HW1.out]
  try rw [← Hbo.out]
  have qbo_0 := ST2.out.cell (List.mem_cons_self ..) 0 _ rfl
  have fbo_0 := ST2.out.thaw (List.mem_cons_self ..) 0
  have qbo_1 := ST2.out.cell (List.mem_cons_self ..) 1 _ rfl
  have fbo_1 := ST2.out.thaw (List.mem_cons_self ..) 1
  have qbo_2 := ST2.out.cell (List.mem_cons_self ..) 2 _ rfl
  have fbo_2 := ST2.out.thaw (List.mem_cons_self ..) 2
  have qbo_3 := ST2.out.cell (List.mem_cons_self ..) 3 _ rfl
  have fbo_3 := ST2.out.thaw (List.mem_cons_self ..) 3
  have qbo_4 := ST2.out.cell (List.mem_cons_self ..) 4 _ rfl
  have fbo_4 := ST2.out.thaw (List.mem_cons_self ..) 4
  go_wp2_with fail
  exact finK1 rfl (show BoxK W1 bo _ _ _ _ _ _ _ from (ST2.out.boxes _ (List.mem_cons_self ..)).1) ST2.out.below (ST2.out.boxes _ (List.mem_cons_self ..)).2 (intC_zero _) rfl

set_option maxRecDepth 100000 in
set_option maxHeartbeats 3200000 in
theorem int_any {w : World} (i : Int)  (h0 : -9223372036854775808 ≤ i) (h1 : i ≤ 9223372036854775807) :
    Calls Tryd.prog 17 #[.int .i64 i] w fun e w' => Kon1 w' e 1 i ⟨#[]⟩ false ∧ Below w.heap.size w w' := by
  have ST0 := Lib.hid (Sk.start w)
  go_enter Tryd.func17, Tryd.ntmps17
  go_wp2_with (go_at_call 38; refine hold ?_)
  obtain ⟨W1, HW1⟩ : ∃ W', Hid (W' = w.alloc (.cells #[(.int .i64 0), (.bool false), (.slice none 0 0), (.string ⟨#[]⟩), (.bool false)] 26)) := ⟨_, Lib.hid rfl⟩
  obtain ⟨bo, Hbo⟩ : ∃ b, Hid (b = w.heap.size) := ⟨_, Lib.hid rfl⟩
  have ST2 := Lib.hid (ST0.out.box Hbo.out HW1.out)
  rw [← HW1.out]
  try rw [← Hbo.out]
  refine Hold.mk ?_
  refine (of_any i W1 h0 h1).mono ?_
  rintro e W3 ⟨v, rfl, hv, hb⟩
  obtain ⟨b3, a3, n3, c3, rfl, hv⟩ := hv.parts
  have ST4 := Lib.hid (ST2.out.next hb hv)
  clear hv hb
  have qbo_0 := ST4.out.cell (List.mem_cons_self ..) 0 _ rfl
  have fbo_0 := ST4.out.thaw (List.mem_cons_self ..) 0
  have qbo_1 := ST4.out.cell (List.mem_cons_self ..) 1 _ rfl
  have fbo_1 := ST4.out.thaw (List.mem_cons_self ..) 1
  have qbo_2 := ST4.out.cell (List.mem_cons_self ..) 2 _ rfl
  have fbo_2 := ST4.out.thaw (List.mem_cons_self ..) 2
  have qbo_3 := ST4.out.cell (List.mem_cons_self ..) 3 _ rfl
  have fbo_3 := ST4.out.thaw (List.mem_cons_self ..) 3
  have qbo_4 := ST4.out.cell (List.mem_cons_self ..) 4 _ rfl
  have fbo_4 := ST4.out.thaw (List.mem_cons_self ..) 4
  go_wp2_with fail
  exact finK1 rfl (show BoxK W3 bo _ _ _ _ _ _ _ from (ST4.out.boxes _ (List.mem_cons_self ..)).1) ST4.out.below (ST4.out.boxes _ (List.mem_cons_self ..)).2 (ST4.out.getC (v := (.agg #[.bool b3, .slice a3 n3 c3])) (i := i) (List.mem_cons_self ..)) rfl

set_option maxRecDepth 100000 in
set_option maxHeartbeats 3200000 in
theorem number_no {w : World} {b : Bool} {a : Option Addr} {n c : Nat} {x : Int} {K : Int} (h : IntC w (.agg #[.bool b, .slice a n c]) x) (hK : K ≠ 0) :
    Calls Tryd.prog 24 #[.agg #[.bool b, .slice a n c], .int .i64 K] w fun e w' => Kon2 w' e 0 0 ⟨#[]⟩ false K ∧ Below w.heap.size w w' := by
  have ST0 := Lib.hid ((Sk.start w).num h)
  clear h
  have hK0 : (K != 0) = true := by simpa using hK
  clear hK
  go_enter Tryd.func24, Tryd.ntmps24
  go_upto_region 1 with fail
  obtain ⟨W1, HW1⟩ : ∃ W', Hid (W' = w.alloc (.cells #[(.bool b), (.slice a n c)] 24)) := ⟨_, Lib.hid rfl⟩
  obtain ⟨p1, Hp1⟩ : ∃ b, Hid (b = w.heap.size) := ⟨_, Lib.hid rfl⟩
  have ST2 := Lib.hid (ST0.out.box Hp1.out HW1.out)
  obtain ⟨W3, HW3⟩ : ∃ W', Hid (W' = W1.alloc (.cells #[(.int .i64 0), (.bool false), (.slice none 0 0), (.string ⟨#[]⟩), (.bool false)] 26)) := ⟨_, Lib.hid rfl⟩
  obtain ⟨bo, Hbo⟩ : ∃ b, Hid (b = W1.heap.size) := ⟨_, Lib.hid rfl⟩
  have Obo := Lib.hid (ST2.out.old Hbo.out)
  have ST4 := Lib.hid (ST2.out.box Hbo.out HW3.out)
  have hz1 : w.heap.size + 1 = bo := by rw [Hbo.out, HW1.out, World.size_alloc]
  rw [← HW1.out, ← HW3.out]
  try rw [hz1]
  try rw [← Hp1.out]
  clear hz1
  have qbo_0 := ST4.out.cell (List.mem_cons_self ..) 0 _ rfl
  have fbo_0 := ST4.out.thaw (List.mem_cons_self ..) 0
  have qbo_1 := ST4.out.cell (List.mem_cons_self ..) 1 _ rfl
  have fbo_1 := ST4.out.thaw (List.mem_cons_self ..) 1
  have qbo_2 := ST4.out.cell (List.mem_cons_self ..) 2 _ rfl
  have fbo_2 := ST4.out.thaw (List.mem_cons_self ..) 2
  have qbo_3 := ST4.out.cell (List.mem_cons_self ..) 3 _ rfl
  have fbo_3 := ST4.out.thaw (List.mem_cons_self ..) 3
  have qbo_4 := ST4.out.cell (List.mem_cons_self ..) 4 _ rfl
  have fbo_4 := ST4.out.thaw (List.mem_cons_self ..) 4
  have qp1_0 := ST4.out.cell (List.mem_cons_of_mem _ (List.mem_cons_self ..)) 0 _ rfl
  have qp1_1 := ST4.out.cell (List.mem_cons_of_mem _ (List.mem_cons_self ..)) 1 _ rfl
  go_wp2_with fail
  exact finK2 rfl (show BoxK W3 bo _ _ _ _ _ _ _ from (ST4.out.boxes _ (List.mem_cons_self ..)).1) ST4.out.below (ST4.out.boxes _ (List.mem_cons_self ..)).2 (intC_zero _) rfl rfl

set_option maxRecDepth 100000 in
set_option maxHeartbeats 3200000 in
theorem number_ok {w : World} {b : Bool} {a : Option Addr} {n c : Nat} {x : Int} (h : IntC w (.agg #[.bool b, .slice a n c]) x) :
    Calls Tryd.prog 24 #[.agg #[.bool b, .slice a n c], .int .i64 0] w fun e w' => Kon2 w' e 1 x ⟨#[]⟩ false 0 ∧ Below w.heap.size w w' := by
  have ST0 := Lib.hid ((Sk.start w).num h)
  clear h
  go_enter Tryd.func24, Tryd.ntmps24
  go_upto_region 1 with fail
  obtain ⟨W1, HW1⟩ : ∃ W', Hid (W' = w.alloc (.cells #[(.bool b), (.slice a n c)] 24)) := ⟨_, Lib.hid rfl⟩
  obtain ⟨p1, Hp1⟩ : ∃ b, Hid (b = w.heap.size) := ⟨_, Lib.hid rfl⟩
  have ST2 := Lib.hid (ST0.out.box Hp1.out HW1.out)
  obtain ⟨W3, HW3⟩ : ∃ W', Hid (W' = W1.alloc (.cells #[(.int .i64 0), (.bool false), (.slice none 0 0), (.string ⟨#[]⟩), (.bool false)] 26)) := ⟨_, Lib.hid rfl⟩
  obtain ⟨bo, Hbo⟩ : ∃ b, Hid (b = W1.heap.size) := ⟨_, Lib.hid rfl⟩
  have Obo := Lib.hid (ST2.out.old Hbo.out)
  have ST4 := Lib.hid (ST2.out.box Hbo.out HW3.out)
  have hz1 : w.heap.size + 1 = bo := by rw [Hbo.out, HW1.out, World.size_alloc]
  rw [← HW1.out, ← HW3.out]
  try rw [hz1]
  try rw [← Hp1.out]
  clear hz1
  have qbo_0 := ST4.out.cell (List.mem_cons_self ..) 0 _ rfl
  have fbo_0 := ST4.out.thaw (List.mem_cons_self ..) 0
  have qbo_1 := ST4.out.cell (List.mem_cons_self ..) 1 _ rfl
  have fbo_1 := ST4.out.thaw (List.mem_cons_self ..) 1
  have qbo_2 := ST4.out.cell (List.mem_cons_self ..) 2 _ rfl
  have fbo_2 := ST4.out.thaw (List.mem_cons_self ..) 2
  have qbo_3 := ST4.out.cell (List.mem_cons_self ..) 3 _ rfl
  have fbo_3 := ST4.out.thaw (List.mem_cons_self ..) 3
  have qbo_4 := ST4.out.cell (List.mem_cons_self ..) 4 _ rfl
  have fbo_4 := ST4.out.thaw (List.mem_cons_self ..) 4
  have qp1_0 := ST4.out.cell (List.mem_cons_of_mem _ (List.mem_cons_self ..)) 0 _ rfl
  have qp1_1 := ST4.out.cell (List.mem_cons_of_mem _ (List.mem_cons_self ..)) 1 _ rfl
  go_wp2_with fail
  exact finK2 rfl (show BoxK W3 bo _ _ _ _ _ _ _ from (ST4.out.boxes _ (List.mem_cons_self ..)).1) ST4.out.below (ST4.out.boxes _ (List.mem_cons_self ..)).2 (ST4.out.getC (v := (.agg #[.bool b, .slice a n c])) (i := x) (List.mem_cons_self ..)) rfl rfl

/-- How two constants of one kind stand. -/
def ordK (k x1 x2 : Int) (s1 s2 : ByteArray) (t1 t2 : Bool) : Int := if k = 1 then cmpI x1 x2 else if k = 2 then cmpS s1 s2 else cmpI (if t1 then 1 else 0) (if t2 then 1 else 0)

set_option maxRecDepth 100000 in
set_option maxHeartbeats 3200000 in
theorem order_any {w : World} {k1 : Int} {g1 : Bool} {a1 : Option Addr} {n1 c1 : Nat} {s1 : ByteArray} {t1 : Bool} {z1 : List Nat} {x1 : Int} {k2 : Int} {g2 : Bool} {a2 : Option Addr} {n2 c2 : Nat} {s2 : ByteArray} {t2 : Bool} {z2 : List Nat} {x2 : Int} (h1 : IntV w (.agg #[.bool g1, .slice a1 n1 c1]) g1 z1) (hx1 : valI g1 z1 = x1) (h2 : IntV w (.agg #[.bool g2, .slice a2 n2 c2]) g2 z2) (hx2 : valI g2 z2 = x2)  :
    Calls Tryd.prog 29 #[.agg #[.int .i64 k1, .bool g1, .slice a1 n1 c1, .string s1, .bool t1], .agg #[.int .i64 k2, .bool g2, .slice a2 n2 c2, .string s2, .bool t2]] w fun e w' => e = .returned (.int .i64 (ordK k1 x1 x2 s1 s2 t1 t2)) ∧ Below w.heap.size w w' := by
  have ST0 := Lib.hid (Sk.start w)
  have Hx1 := Lib.hid hx1
  have ST1 := Lib.hid (ST0.out.num h1)
  clear h1 hx1
  have Hx2 := Lib.hid hx2
  have ST2 := Lib.hid (ST1.out.num h2)
  clear h2 hx2
  obtain ⟨r, Hr⟩ : ∃ r, Hid (ordK k1 x1 x2 s1 s2 t1 t2 = r) := ⟨_, Lib.hid rfl⟩
  rw [Hr.out]
  go_enter Tryd.func29, Tryd.ntmps29
  go_upto_region 1 with fail
  obtain ⟨W3, HW3⟩ : ∃ W', Hid (W' = w.alloc (.cells #[(.int .i64 k1), (.bool g1), (.slice a1 n1 c1), (.string s1), (.bool t1)] 26)) := ⟨_, Lib.hid rfl⟩
  obtain ⟨p1, Hp1⟩ : ∃ b, Hid (b = w.heap.size) := ⟨_, Lib.hid rfl⟩
  have ST4 := Lib.hid (ST2.out.box Hp1.out HW3.out)
  obtain ⟨W5, HW5⟩ : ∃ W', Hid (W' = W3.alloc (.cells #[(.int .i64 k2), (.bool g2), (.slice a2 n2 c2), (.string s2), (.bool t2)] 26)) := ⟨_, Lib.hid rfl⟩
  obtain ⟨p2, Hp2⟩ : ∃ b, Hid (b = W3.heap.size) := ⟨_, Lib.hid rfl⟩
  have Op2 := Lib.hid (ST4.out.old Hp2.out)
  have ST6 := Lib.hid (ST4.out.box Hp2.out HW5.out)
  have hz1 : w.heap.size + 1 = p2 := by rw [Hp2.out, HW3.out, World.size_alloc]
  rw [← HW3.out, ← HW5.out]
  try rw [hz1]
  try rw [← Hp1.out]
  clear hz1
  have qp2_0 := ST6.out.cell (List.mem_cons_self ..) 0 _ rfl
  have qp2_1 := ST6.out.cell (List.mem_cons_self ..) 1 _ rfl
  have qp2_2 := ST6.out.cell (List.mem_cons_self ..) 2 _ rfl
  have qp2_3 := ST6.out.cell (List.mem_cons_self ..) 3 _ rfl
  have qp2_4 := ST6.out.cell (List.mem_cons_self ..) 4 _ rfl
  have qp1_0 := ST6.out.cell (List.mem_cons_of_mem _ (List.mem_cons_self ..)) 0 _ rfl
  have qp1_1 := ST6.out.cell (List.mem_cons_of_mem _ (List.mem_cons_self ..)) 1 _ rfl
  have qp1_2 := ST6.out.cell (List.mem_cons_of_mem _ (List.mem_cons_self ..)) 2 _ rfl
  have qp1_3 := ST6.out.cell (List.mem_cons_of_mem _ (List.mem_cons_self ..)) 3 _ rfl
  have qp1_4 := ST6.out.cell (List.mem_cons_of_mem _ (List.mem_cons_self ..)) 4 _ rfl
  by_cases hk1 : k1 = 1
  · subst hk1
    go_wp2_with (go_at_call 50; refine hold ?_)
    refine Hold.mk ?_
    have HC := Lib.hid (cmp_k (ST6.out.get (v := (.agg #[.bool g1, .slice a1 n1 c1])) (g := g1) (z := z1) (List.mem_cons_of_mem _ (List.mem_cons_self ..))) (ST6.out.get (v := (.agg #[.bool g2, .slice a2 n2 c2])) (g := g2) (z := z2) (List.mem_cons_self ..)) Hx1.out Hx2.out)
    have hr : cmpI x1 x2 = r := by rw [← Hr.out]; rfl
    rw [hr] at HC
    refine HC.out.mono ?_
    rintro e w9 ⟨rfl, hb⟩
    clear qp2_0 qp2_1 qp2_2 qp2_3 qp2_4 qp1_0 qp1_1 qp1_2 qp1_3 qp1_4
    have ST7 := Lib.hid (ST6.out.go hb)
    clear hb
    go_wp2_with fail
    go_ret
    exact ⟨rfl, ST7.out.below⟩
  · have hk1b : (k1 == 1) = false := by simpa using hk1
    by_cases hk2 : k1 = 2
    · subst hk2
      go_wp2_with (go_at_call 51; refine hold ?_)
      refine Hold.mk ?_
      have HC := Lib.hid (scompare_any s1 s2 W5)
      have hr : cmpS s1 s2 = r := by rw [← Hr.out]; rfl
      rw [hr] at HC
      refine HC.out.mono ?_
      rintro e w9 ⟨rfl, rfl⟩
      go_wp2_with fail
      go_ret
      exact ⟨rfl, ST6.out.below⟩
    · have hk2b : (k1 == 2) = false := by simpa using hk2
      have HC := Lib.hid (ccompare_any (if t1 then 1 else 0) (if t2 then 1 else 0) W5)
      have hr : cmpI (if t1 then 1 else 0) (if t2 then 1 else 0) = r := by rw [← Hr.out]; unfold ordK; rw [if_neg hk1, if_neg hk2]
      rw [hr] at HC
      cases t1 with
      | true =>
        cases t2 with
        | true =>
          go_wp2_with (go_at_call 52; refine HC.out.mono ?_; rintro e w9 ⟨rfl, rfl⟩)
          go_ret
          exact ⟨rfl, ST6.out.below⟩
        | false =>
          go_wp2_with (go_at_call 52; refine HC.out.mono ?_; rintro e w9 ⟨rfl, rfl⟩)
          go_ret
          exact ⟨rfl, ST6.out.below⟩
      | false =>
        cases t2 with
        | true =>
          go_wp2_with (go_at_call 52; refine HC.out.mono ?_; rintro e w9 ⟨rfl, rfl⟩)
          go_ret
          exact ⟨rfl, ST6.out.below⟩
        | false =>
          go_wp2_with (go_at_call 52; refine HC.out.mono ?_; rintro e w9 ⟨rfl, rfl⟩)
          go_ret
          exact ⟨rfl, ST6.out.below⟩

def eqK (k1 k2 x1 x2 : Int) (s1 s2 : ByteArray) (t1 t2 : Bool) : Bool := (k1 == k2) && (knownB k1 && (ordK k1 x1 x2 s1 s2 t1 t2 == 0))

set_option maxRecDepth 100000 in
set_option maxHeartbeats 3200000 in
theorem equal_any {w : World} {k1 : Int} {g1 : Bool} {a1 : Option Addr} {n1 c1 : Nat} {s1 : ByteArray} {t1 : Bool} {z1 : List Nat} {x1 : Int} {k2 : Int} {g2 : Bool} {a2 : Option Addr} {n2 c2 : Nat} {s2 : ByteArray} {t2 : Bool} {z2 : List Nat} {x2 : Int} (h1 : IntV w (.agg #[.bool g1, .slice a1 n1 c1]) g1 z1) (hx1 : valI g1 z1 = x1) (h2 : IntV w (.agg #[.bool g2, .slice a2 n2 c2]) g2 z2) (hx2 : valI g2 z2 = x2)  :
    Calls Tryd.prog 10 #[.agg #[.int .i64 k1, .bool g1, .slice a1 n1 c1, .string s1, .bool t1], .agg #[.int .i64 k2, .bool g2, .slice a2 n2 c2, .string s2, .bool t2]] w fun e w' => e = .returned (.bool (eqK k1 k2 x1 x2 s1 s2 t1 t2)) ∧ Below w.heap.size w w' := by
  have ST0 := Lib.hid (Sk.start w)
  have Hx1 := Lib.hid hx1
  have ST1 := Lib.hid (ST0.out.num h1)
  clear h1 hx1
  have Hx2 := Lib.hid hx2
  have ST2 := Lib.hid (ST1.out.num h2)
  clear h2 hx2
  obtain ⟨r, Hr⟩ : ∃ r, Hid (eqK k1 k2 x1 x2 s1 s2 t1 t2 = r) := ⟨_, Lib.hid rfl⟩
  rw [Hr.out]
  go_enter Tryd.func10, Tryd.ntmps10
  go_upto_region 1 with fail
  obtain ⟨W3, HW3⟩ : ∃ W', Hid (W' = w.alloc (.cells #[(.int .i64 k1), (.bool g1), (.slice a1 n1 c1), (.string s1), (.bool t1)] 26)) := ⟨_, Lib.hid rfl⟩
  obtain ⟨p1, Hp1⟩ : ∃ b, Hid (b = w.heap.size) := ⟨_, Lib.hid rfl⟩
  have ST4 := Lib.hid (ST2.out.box Hp1.out HW3.out)
  obtain ⟨W5, HW5⟩ : ∃ W', Hid (W' = W3.alloc (.cells #[(.int .i64 k2), (.bool g2), (.slice a2 n2 c2), (.string s2), (.bool t2)] 26)) := ⟨_, Lib.hid rfl⟩
  obtain ⟨p2, Hp2⟩ : ∃ b, Hid (b = W3.heap.size) := ⟨_, Lib.hid rfl⟩
  have Op2 := Lib.hid (ST4.out.old Hp2.out)
  have ST6 := Lib.hid (ST4.out.box Hp2.out HW5.out)
  have hz1 : w.heap.size + 1 = p2 := by rw [Hp2.out, HW3.out, World.size_alloc]
  rw [← HW3.out, ← HW5.out]
  try rw [hz1]
  try rw [← Hp1.out]
  clear hz1
  have qp2_0 := ST6.out.cell (List.mem_cons_self ..) 0 _ rfl
  have qp2_1 := ST6.out.cell (List.mem_cons_self ..) 1 _ rfl
  have qp2_2 := ST6.out.cell (List.mem_cons_self ..) 2 _ rfl
  have qp2_3 := ST6.out.cell (List.mem_cons_self ..) 3 _ rfl
  have qp2_4 := ST6.out.cell (List.mem_cons_self ..) 4 _ rfl
  have qp1_0 := ST6.out.cell (List.mem_cons_of_mem _ (List.mem_cons_self ..)) 0 _ rfl
  have qp1_1 := ST6.out.cell (List.mem_cons_of_mem _ (List.mem_cons_self ..)) 1 _ rfl
  have qp1_2 := ST6.out.cell (List.mem_cons_of_mem _ (List.mem_cons_self ..)) 2 _ rfl
  have qp1_3 := ST6.out.cell (List.mem_cons_of_mem _ (List.mem_cons_self ..)) 3 _ rfl
  have qp1_4 := ST6.out.cell (List.mem_cons_of_mem _ (List.mem_cons_self ..)) 4 _ rfl
  cases d1 : (k1 == k2) with
  | false =>
    have hr : r = false := by rw [← Hr.out]; unfold eqK; rw [d1]; rfl
    subst hr
    go_wp2_with fail
    go_ret
    exact ⟨rfl, ST6.out.below⟩
  | true =>
    obtain ⟨kn, Hkn⟩ : ∃ b, Hid (knownB k1 = b) := ⟨_, Lib.hid rfl⟩
    have HKn := Lib.hid (known_any k1 W5)
    rw [Hkn.out] at HKn
    cases kn with
    | false =>
      have hr : r = false := by rw [← Hr.out]; unfold eqK; rw [d1, Hkn.out]; rfl
      subst hr
      go_wp2_with (go_at_call 28; refine HKn.out.mono ?_; rintro e w9 ⟨rfl, rfl⟩)
      go_ret
      exact ⟨rfl, ST6.out.below⟩
    | true =>
      go_wp2_with first
        | (go_at_call 28; refine HKn.out.mono ?_; rintro e w9 ⟨rfl, rfl⟩)
        | (go_at_call 29; refine hold ?_)
      refine Hold.mk ?_
      obtain ⟨o, Ho⟩ : ∃ o, Hid (ordK k1 x1 x2 s1 s2 t1 t2 = o) := ⟨_, Lib.hid rfl⟩
      have HC := Lib.hid (order_any (k1 := k1) (k2 := k2) (s1 := s1) (s2 := s2) (t1 := t1) (t2 := t2) (ST6.out.get (v := (.agg #[.bool g1, .slice a1 n1 c1])) (g := g1) (z := z1) (List.mem_cons_of_mem _ (List.mem_cons_self ..))) Hx1.out (ST6.out.get (v := (.agg #[.bool g2, .slice a2 n2 c2])) (g := g2) (z := z2) (List.mem_cons_self ..)) Hx2.out)
      rw [Ho.out] at HC
      have hr : r = (o == 0) := by rw [← Hr.out]; unfold eqK; rw [d1, Hkn.out, Ho.out]; rfl
      have HR := Lib.hid hr
      clear hr
      refine HC.out.mono ?_
      rintro e w9 ⟨rfl, hb⟩
      clear qp2_0 qp2_1 qp2_2 qp2_3 qp2_4 qp1_0 qp1_1 qp1_2 qp1_3 qp1_4
      have ST7 := Lib.hid (ST6.out.go hb)
      clear hb
      go_wp2_with fail
      go_ret
      exact ⟨eret_bool (by rw [HR.out]), ST7.out.below⟩

end Go.Proofs.YtahgbbnpbhfaeaaDoor
