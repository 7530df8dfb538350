/- Equal of the document. Condition: a kind. -/
import Derived.Test.YtahgbbnpbhfaeaaDoorKnUnA
namespace Go.Proofs.YtahgbbnpbhfaeaaDoor
open Go.RowKit

theorem cmpB_list : ∀ (a b : List UInt8), (Lib.compareBytes a b == 0) = (a == b)
  | [], [] => rfl
  | [], _ :: _ => rfl
  | _ :: _, [] => rfl
  | a :: la, b :: lb => by
    unfold Lib.compareBytes
    by_cases h1 : a < b
    · rw [if_pos h1]
      have hne : a ≠ b := fun e => by rw [e] at h1; exact absurd h1 (UInt8.lt_irrefl b)
      rw [show ((a :: la) == (b :: lb)) = false from by simpa using fun e => absurd e hne]
      rfl
    · rw [if_neg h1]
      by_cases h2 : b < a
      · rw [if_pos h2]
        have hne : a ≠ b := fun e => by rw [e] at h2; exact absurd h2 (UInt8.lt_irrefl b)
        rw [show ((a :: la) == (b :: lb)) = false from by simpa using fun e => absurd e hne]
        rfl
      · rw [if_neg h2]
        have e : a = b := UInt8.le_antisymm (UInt8.not_lt.1 h2) (UInt8.not_lt.1 h1)
        subst e
        rw [cmpB_list la lb]
        simp
theorem cmpS_zero (a b : ByteArray) : (cmpS a b == 0) = (a.toList == b.toList) := by
  unfold cmpS
  rw [cmpB_list, Lib.toList_data, Lib.toList_data]
theorem cmpB_zero (a b : Bool) : (cmpI (if a then 1 else 0) (if b then 1 else 0) == 0) = (a == b) := by cases a <;> cases b <;> decide

set_option maxRecDepth 100000 in
set_option maxHeartbeats 3200000 in
theorem requal_any {w : World} {k1 : Int} {g1 : Bool} {a1 : Option Addr} {n1 c1 : Nat} {s1 : ByteArray} {t1 : Bool} {z1 : List Nat} {x1 : Int} {k2 : Int} {g2 : Bool} {a2 : Option Addr} {n2 c2 : Nat} {s2 : ByteArray} {t2 : Bool} {z2 : List Nat} {x2 : Int} (h1 : IntV w (.agg #[.bool g1, .slice a1 n1 c1]) g1 z1) (hx1 : valI g1 z1 = x1) (h2 : IntV w (.agg #[.bool g2, .slice a2 n2 c2]) g2 z2) (hx2 : valI g2 z2 = x2) (hk : k1 = 1 ∨ k1 = 2 ∨ k1 = 3) :
    Calls Tryd.prog 11 #[.agg #[.int .i64 k1, .bool g1, .slice a1 n1 c1, .string s1, .bool t1], .agg #[.int .i64 k2, .bool g2, .slice a2 n2 c2, .string s2, .bool t2]] w fun e w' => e = .returned (.bool (eqK k1 k2 x1 x2 s1 s2 t1 t2)) ∧ Below w.heap.size w w' := by
  have ST0 := Lib.hid (Sk.start w)
  have Hx1 := Lib.hid hx1
  have ST1 := Lib.hid (ST0.out.num h1)
  clear h1 hx1
  have Hx2 := Lib.hid hx2
  have ST2 := Lib.hid (ST1.out.num h2)
  clear h2 hx2
  obtain ⟨r, Hr⟩ : ∃ r, Hid (eqK k1 k2 x1 x2 s1 s2 t1 t2 = r) := ⟨_, Lib.hid rfl⟩
  rw [Hr.out]
  by_cases hkk : k1 = k2
  · subst hkk
    rcases hk with rfl | rfl | rfl
    · skip
      go_enter Tryd.func11, Tryd.ntmps11
      go_upto_region 1 with fail
      obtain ⟨W3, HW3⟩ : ∃ W', Hid (W' = w.alloc (.cells #[(.int .i64 1), (.bool g1), (.slice a1 n1 c1), (.string s1), (.bool t1)] 26)) := ⟨_, Lib.hid rfl⟩
      obtain ⟨p1, Hp1⟩ : ∃ b, Hid (b = w.heap.size) := ⟨_, Lib.hid rfl⟩
      have ST4 := Lib.hid (ST2.out.box Hp1.out HW3.out)
      obtain ⟨W5, HW5⟩ : ∃ W', Hid (W' = W3.alloc (.cells #[(.int .i64 1), (.bool g2), (.slice a2 n2 c2), (.string s2), (.bool t2)] 26)) := ⟨_, Lib.hid rfl⟩
      obtain ⟨p2, Hp2⟩ : ∃ b, Hid (b = W3.heap.size) := ⟨_, Lib.hid rfl⟩
      have Op2 := Lib.hid (ST4.out.old Hp2.out)
      have ST6 := Lib.hid (ST4.out.box Hp2.out HW5.out)
      have hz1 : w.heap.size + 1 = p2 := by rw [Hp2.out, HW3.out, World.size_alloc]
      rw [← HW3.out, ← HW5.out]
      try rw [hz1]
      try rw [← Hp1.out]
      clear hz1
      have qp2_0 := ST6.out.cell (List.mem_cons_self ..) 0 _ rfl
      have qp2_1 := ST6.out.cell (List.mem_cons_self ..) 1 _ rfl
      have qp2_2 := ST6.out.cell (List.mem_cons_self ..) 2 _ rfl
      have qp2_3 := ST6.out.cell (List.mem_cons_self ..) 3 _ rfl
      have qp2_4 := ST6.out.cell (List.mem_cons_self ..) 4 _ rfl
      have qp1_0 := ST6.out.cell (List.mem_cons_of_mem _ (List.mem_cons_self ..)) 0 _ rfl
      have qp1_1 := ST6.out.cell (List.mem_cons_of_mem _ (List.mem_cons_self ..)) 1 _ rfl
      have qp1_2 := ST6.out.cell (List.mem_cons_of_mem _ (List.mem_cons_self ..)) 2 _ rfl
      have qp1_3 := ST6.out.cell (List.mem_cons_of_mem _ (List.mem_cons_self ..)) 3 _ rfl
      have qp1_4 := ST6.out.cell (List.mem_cons_of_mem _ (List.mem_cons_self ..)) 4 _ rfl
      obtain ⟨o, Ho⟩ : ∃ o, Hid (cmpI x1 x2 = o) := ⟨_, Lib.hid rfl⟩
      have hr := Lib.hid (show (o == 0) = r from by rw [← Hr.out, ← Ho.out]; rfl)
      go_wp2_with (go_at_call 30; refine hold ?_)
      refine Hold.mk ?_
      have C7 := Lib.hid (rcompare_k (ST6.out.get (v := (.agg #[.bool g1, .slice a1 n1 c1])) (g := g1) (z := z1) (List.mem_cons_of_mem _ (List.mem_cons_self ..))) (ST6.out.get (v := (.agg #[.bool g2, .slice a2 n2 c2])) (g := g2) (z := z2) (List.mem_cons_self ..)) Hx1.out Hx2.out)
      rw [Ho.out] at C7
      refine C7.out.mono ?_
      rintro e W7 ⟨rfl, hb⟩
      clear qp2_0 qp2_1 qp2_2 qp2_3 qp2_4 qp1_0 qp1_1 qp1_2 qp1_3 qp1_4
      have ST8 := Lib.hid (ST6.out.go hb)
      clear hb
      go_wp2_with fail
      go_ret
      exact ⟨eret_bool hr.out, ST8.out.below⟩
    · skip
      go_enter Tryd.func11, Tryd.ntmps11
      go_upto_region 1 with fail
      obtain ⟨W9, HW9⟩ : ∃ W', Hid (W' = w.alloc (.cells #[(.int .i64 2), (.bool g1), (.slice a1 n1 c1), (.string s1), (.bool t1)] 26)) := ⟨_, Lib.hid rfl⟩
      obtain ⟨p1, Hp1⟩ : ∃ b, Hid (b = w.heap.size) := ⟨_, Lib.hid rfl⟩
      have ST10 := Lib.hid (ST2.out.box Hp1.out HW9.out)
      obtain ⟨W11, HW11⟩ : ∃ W', Hid (W' = W9.alloc (.cells #[(.int .i64 2), (.bool g2), (.slice a2 n2 c2), (.string s2), (.bool t2)] 26)) := ⟨_, Lib.hid rfl⟩
      obtain ⟨p2, Hp2⟩ : ∃ b, Hid (b = W9.heap.size) := ⟨_, Lib.hid rfl⟩
      have Op2 := Lib.hid (ST10.out.old Hp2.out)
      have ST12 := Lib.hid (ST10.out.box Hp2.out HW11.out)
      have hz1 : w.heap.size + 1 = p2 := by rw [Hp2.out, HW9.out, World.size_alloc]
      rw [← HW9.out, ← HW11.out]
      try rw [hz1]
      try rw [← Hp1.out]
      clear hz1
      have qp2_0 := ST12.out.cell (List.mem_cons_self ..) 0 _ rfl
      have qp2_1 := ST12.out.cell (List.mem_cons_self ..) 1 _ rfl
      have qp2_2 := ST12.out.cell (List.mem_cons_self ..) 2 _ rfl
      have qp2_3 := ST12.out.cell (List.mem_cons_self ..) 3 _ rfl
      have qp2_4 := ST12.out.cell (List.mem_cons_self ..) 4 _ rfl
      have qp1_0 := ST12.out.cell (List.mem_cons_of_mem _ (List.mem_cons_self ..)) 0 _ rfl
      have qp1_1 := ST12.out.cell (List.mem_cons_of_mem _ (List.mem_cons_self ..)) 1 _ rfl
      have qp1_2 := ST12.out.cell (List.mem_cons_of_mem _ (List.mem_cons_self ..)) 2 _ rfl
      have qp1_3 := ST12.out.cell (List.mem_cons_of_mem _ (List.mem_cons_self ..)) 3 _ rfl
      have qp1_4 := ST12.out.cell (List.mem_cons_of_mem _ (List.mem_cons_self ..)) 4 _ rfl
      have hr := Lib.hid (show (s1.toList == s2.toList) = r from by rw [← Hr.out, ← cmpS_zero]; rfl)
      go_wp2_with fail
      go_ret
      exact ⟨eret_bool hr.out, ST12.out.below⟩
    · skip
      go_enter Tryd.func11, Tryd.ntmps11
      go_upto_region 1 with fail
      obtain ⟨W13, HW13⟩ : ∃ W', Hid (W' = w.alloc (.cells #[(.int .i64 3), (.bool g1), (.slice a1 n1 c1), (.string s1), (.bool t1)] 26)) := ⟨_, Lib.hid rfl⟩
      obtain ⟨p1, Hp1⟩ : ∃ b, Hid (b = w.heap.size) := ⟨_, Lib.hid rfl⟩
      have ST14 := Lib.hid (ST2.out.box Hp1.out HW13.out)
      obtain ⟨W15, HW15⟩ : ∃ W', Hid (W' = W13.alloc (.cells #[(.int .i64 3), (.bool g2), (.slice a2 n2 c2), (.string s2), (.bool t2)] 26)) := ⟨_, Lib.hid rfl⟩
      obtain ⟨p2, Hp2⟩ : ∃ b, Hid (b = W13.heap.size) := ⟨_, Lib.hid rfl⟩
      have Op2 := Lib.hid (ST14.out.old Hp2.out)
      have ST16 := Lib.hid (ST14.out.box Hp2.out HW15.out)
      have hz1 : w.heap.size + 1 = p2 := by rw [Hp2.out, HW13.out, World.size_alloc]
      rw [← HW13.out, ← HW15.out]
      try rw [hz1]
      try rw [← Hp1.out]
      clear hz1
      have qp2_0 := ST16.out.cell (List.mem_cons_self ..) 0 _ rfl
      have qp2_1 := ST16.out.cell (List.mem_cons_self ..) 1 _ rfl
      have qp2_2 := ST16.out.cell (List.mem_cons_self ..) 2 _ rfl
      have qp2_3 := ST16.out.cell (List.mem_cons_self ..) 3 _ rfl
      have qp2_4 := ST16.out.cell (List.mem_cons_self ..) 4 _ rfl
      have qp1_0 := ST16.out.cell (List.mem_cons_of_mem _ (List.mem_cons_self ..)) 0 _ rfl
      have qp1_1 := ST16.out.cell (List.mem_cons_of_mem _ (List.mem_cons_self ..)) 1 _ rfl
      have qp1_2 := ST16.out.cell (List.mem_cons_of_mem _ (List.mem_cons_self ..)) 2 _ rfl
      have qp1_3 := ST16.out.cell (List.mem_cons_of_mem _ (List.mem_cons_self ..)) 3 _ rfl
      have qp1_4 := ST16.out.cell (List.mem_cons_of_mem _ (List.mem_cons_self ..)) 4 _ rfl
      have hr := Lib.hid (show (t1 == t2) = r from by rw [← Hr.out, ← cmpB_zero]; rfl)
      go_wp2_with fail
      go_ret
      exact ⟨eret_bool hr.out, ST16.out.below⟩
  · have hr : r = false := by rw [← Hr.out]; unfold eqK; rw [show (k1 == k2) = false from by simpa using hkk]; rfl
    subst hr
    have d1 : (k1 != k2) = true := by simpa using hkk
    go_enter Tryd.func11, Tryd.ntmps11
    go_upto_region 1 with fail
    obtain ⟨W17, HW17⟩ : ∃ W', Hid (W' = w.alloc (.cells #[(.int .i64 k1), (.bool g1), (.slice a1 n1 c1), (.string s1), (.bool t1)] 26)) := ⟨_, Lib.hid rfl⟩
    obtain ⟨p1, Hp1⟩ : ∃ b, Hid (b = w.heap.size) := ⟨_, Lib.hid rfl⟩
    have ST18 := Lib.hid (ST2.out.box Hp1.out HW17.out)
    obtain ⟨W19, HW19⟩ : ∃ W', Hid (W' = W17.alloc (.cells #[(.int .i64 k2), (.bool g2), (.slice a2 n2 c2), (.string s2), (.bool t2)] 26)) := ⟨_, Lib.hid rfl⟩
    obtain ⟨p2, Hp2⟩ : ∃ b, Hid (b = W17.heap.size) := ⟨_, Lib.hid rfl⟩
    have Op2 := Lib.hid (ST18.out.old Hp2.out)
    have ST20 := Lib.hid (ST18.out.box Hp2.out HW19.out)
    have hz1 : w.heap.size + 1 = p2 := by rw [Hp2.out, HW17.out, World.size_alloc]
    rw [← HW17.out, ← HW19.out]
    try rw [hz1]
    try rw [← Hp1.out]
    clear hz1
    have qp2_0 := ST20.out.cell (List.mem_cons_self ..) 0 _ rfl
    have qp2_1 := ST20.out.cell (List.mem_cons_self ..) 1 _ rfl
    have qp2_2 := ST20.out.cell (List.mem_cons_self ..) 2 _ rfl
    have qp2_3 := ST20.out.cell (List.mem_cons_self ..) 3 _ rfl
    have qp2_4 := ST20.out.cell (List.mem_cons_self ..) 4 _ rfl
    have qp1_0 := ST20.out.cell (List.mem_cons_of_mem _ (List.mem_cons_self ..)) 0 _ rfl
    have qp1_1 := ST20.out.cell (List.mem_cons_of_mem _ (List.mem_cons_self ..)) 1 _ rfl
    have qp1_2 := ST20.out.cell (List.mem_cons_of_mem _ (List.mem_cons_self ..)) 2 _ rfl
    have qp1_3 := ST20.out.cell (List.mem_cons_of_mem _ (List.mem_cons_self ..)) 3 _ rfl
    have qp1_4 := ST20.out.cell (List.mem_cons_of_mem _ (List.mem_cons_self ..)) 4 _ rfl
    go_wp2_with fail
    go_ret
    exact ⟨rfl, ST20.out.below⟩

end Go.Proofs.YtahgbbnpbhfaeaaDoor
