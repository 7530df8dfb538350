/- The law KonstArith: the walk. No condition. -/
import Derived.Test.YtcnakbhogmnddaaDoorKnAwake
import Derived.Test.YtcnakbhogmnddaaDoorRegQ
namespace Go.Proofs.YtcnakbhogmnddaaDoor
open Go.RowKit

theorem range4 (a b : Int) : a < -1000000 ∨ (¬ a < -1000000 ∧ 1000000 < a) ∨ (¬ a < -1000000 ∧ ¬ 1000000 < a ∧ b < -1000000) ∨ (¬ a < -1000000 ∧ ¬ 1000000 < a ∧ ¬ b < -1000000 ∧ 1000000 < b) ∨ (¬ a < -1000000 ∧ ¬ 1000000 < a ∧ ¬ b < -1000000 ∧ ¬ 1000000 < b) := by omega
theorem big_no {x : Int} (h : x.natAbs ≤ 1000000000000) : big x = false := decide_eq_false (lt512 (by omega))
theorem mul_lim {a b : Int} (ha : a.natAbs ≤ 1000000) (hb : b.natAbs ≤ 1000000) : (a * b).natAbs ≤ 1000000000000 := by
  rw [Int.natAbs_mul]
  exact Nat.mul_le_mul ha hb
section
variable {a b : Int} (ha : a.natAbs ≤ 1000000) (hb : b.natAbs ≤ 1000000)
include ha hb
theorem add_small : addK a b = 0 ∧ addV a b = a + b := by
  unfold addK addV bad1
  rw [big_no (show a.natAbs ≤ _ by omega), big_no (show b.natAbs ≤ _ by omega), big_no (show (a + b).natAbs ≤ _ by omega)]
  exact ⟨rfl, rfl⟩
theorem sub_small : subK a b = 0 ∧ subV a b = a - b := by
  unfold subK subV bad1
  rw [big_no (show a.natAbs ≤ _ by omega), big_no (show b.natAbs ≤ _ by omega), big_no (show (a - b).natAbs ≤ _ by omega)]
  exact ⟨rfl, rfl⟩
theorem mul_small : mulK a b = 0 ∧ mulV a b = a * b := by
  unfold mulK mulV bad1
  rw [big_no (show a.natAbs ≤ _ by omega), big_no (show b.natAbs ≤ _ by omega), big_no (mul_lim ha hb)]
  exact ⟨rfl, rfl⟩
theorem quo_small (h0 : b ≠ 0) : quoK a b = 0 ∧ quoV a b = a.tdiv b ∧ remV a b = a.tmod b := by
  have hk : quoK a b = 0 := by
    unfold quoK
    rw [big_no (show a.natAbs ≤ _ by omega), big_no (show b.natAbs ≤ _ by omega), if_neg h0]
    rfl
  refine ⟨hk, ?_, ?_⟩
  · unfold quoV; rw [if_pos hk]
  · unfold remV; rw [if_pos hk]
theorem quo_zero (h0 : b = 0) : quoK a b = 5 ∧ quoV a b = 0 ∧ remV a b = 0 := by
  have hk : quoK a b = 5 := by
    unfold quoK
    rw [big_no (show a.natAbs ≤ _ by omega), big_no (show b.natAbs ≤ _ by omega), if_pos h0]
    rfl
  refine ⟨hk, ?_, ?_⟩
  · unfold quoV; rw [hk]; rfl
  · unfold remV; rw [hk]; rfl
end
theorem eqK_self {x y : Int} {s : ByteArray} {t : Bool} (h : y = x) : eqK 1 1 x y s s t t = true := by
  subst h
  unfold eqK ordK
  rw [if_pos rfl]
  unfold cmpI
  simp [knownB]
theorem wrap_in {x y : Int} (h : y = x) (h0 : -9223372036854775808 ≤ x) (h1 : x ≤ 9223372036854775807) : IntKind.i64.wrap x = y := by
  subst h
  rw [IntKind.wrap_i64]
  omega
theorem tdiv_lim {a b : Int} (ha : a.natAbs ≤ 1000000) : (a.tdiv b).natAbs ≤ 1000000 := by
  rw [Int.natAbs_tdiv]
  exact Nat.le_trans (Nat.div_le_self _ _) ha
theorem tmod_lim {a b : Int} (ha : a.natAbs ≤ 1000000) : (a.tmod b).natAbs ≤ 1000000 := by
  rw [Int.natAbs_tmod]
  exact Nat.le_trans (Nat.mod_le _ _) ha

set_option maxRecDepth 100000 in
set_option maxHeartbeats 3200000 in
theorem konstArith_any {w : World} (a : Int) (b : Int)   :
    Calls Tryd.prog 3 #[.int .i64 a, .int .i64 b] w fun e w' => e = .returned (.bool true) ∧ Below w.heap.size w w' := by
  have ST0 := Lib.hid (Sk.start w)
  rcases range4 a b with h0 | h0 | h0 | h0 | h0
  · skip
    go_enter Tryd.func3, Tryd.ntmps3
    go_wp2_with (go_at_call 16; refine hold ?_)
    refine Hold.mk ?_
    have C1 := Lib.hid (kawake_any (w := w))
    refine C1.out.mono ?_
    rintro e W1 ⟨rfl, hb⟩
    have ST2 := Lib.hid (ST0.out.go hb)
    clear hb
    go_wp2_with fail
    go_ret
    exact ⟨rfl, ST2.out.below⟩
  · obtain ⟨h1, h2⟩ := h0
    go_enter Tryd.func3, Tryd.ntmps3
    go_wp2_with (go_at_call 16; refine hold ?_)
    refine Hold.mk ?_
    have C3 := Lib.hid (kawake_any (w := w))
    refine C3.out.mono ?_
    rintro e W3 ⟨rfl, hb⟩
    have ST4 := Lib.hid (ST0.out.go hb)
    clear hb
    go_wp2_with fail
    go_ret
    exact ⟨rfl, ST4.out.below⟩
  · obtain ⟨h1, h2, h3⟩ := h0
    go_enter Tryd.func3, Tryd.ntmps3
    go_wp2_with (go_at_call 16; refine hold ?_)
    refine Hold.mk ?_
    have C5 := Lib.hid (kawake_any (w := w))
    refine C5.out.mono ?_
    rintro e W5 ⟨rfl, hb⟩
    have ST6 := Lib.hid (ST0.out.go hb)
    clear hb
    go_wp2_with fail
    go_ret
    exact ⟨rfl, ST6.out.below⟩
  · obtain ⟨h1, h2, h3, h4⟩ := h0
    go_enter Tryd.func3, Tryd.ntmps3
    go_wp2_with (go_at_call 16; refine hold ?_)
    refine Hold.mk ?_
    have C7 := Lib.hid (kawake_any (w := w))
    refine C7.out.mono ?_
    rintro e W7 ⟨rfl, hb⟩
    have ST8 := Lib.hid (ST0.out.go hb)
    clear hb
    go_wp2_with fail
    go_ret
    exact ⟨rfl, ST8.out.below⟩
  · obtain ⟨h1, h2, h3, h4⟩ := h0
    have HA := Lib.hid (show a.natAbs ≤ 1000000 ∧ b.natAbs ≤ 1000000 from ⟨by omega, by omega⟩)
    obtain ⟨v1, HV1⟩ : ∃ v, Hid (v = a + b ∧ -9223372036854775808 ≤ v ∧ v ≤ 9223372036854775807) := ⟨a + b, Lib.hid ⟨rfl, by have h1 := HA.out; omega, by have h1 := HA.out; omega⟩⟩
    have hw1 : IntKind.i64.wrap (a + b) = v1 := wrap_in HV1.out.1 (by rw [← HV1.out.1]; exact HV1.out.2.1) (by rw [← HV1.out.1]; exact HV1.out.2.2)
    obtain ⟨v2, HV2⟩ : ∃ v, Hid (v = a - b ∧ -9223372036854775808 ≤ v ∧ v ≤ 9223372036854775807) := ⟨a - b, Lib.hid ⟨rfl, by have h1 := HA.out; omega, by have h1 := HA.out; omega⟩⟩
    have hw2 : IntKind.i64.wrap (a - b) = v2 := wrap_in HV2.out.1 (by rw [← HV2.out.1]; exact HV2.out.2.1) (by rw [← HV2.out.1]; exact HV2.out.2.2)
    obtain ⟨v3, HV3⟩ : ∃ v, Hid (v = a * b ∧ -9223372036854775808 ≤ v ∧ v ≤ 9223372036854775807) := ⟨a * b, Lib.hid ⟨rfl, by have h1 := mul_lim HA.out.1 HA.out.2; omega, by have h1 := mul_lim HA.out.1 HA.out.2; omega⟩⟩
    have hw3 : IntKind.i64.wrap (a * b) = v3 := wrap_in HV3.out.1 (by rw [← HV3.out.1]; exact HV3.out.2.1) (by rw [← HV3.out.1]; exact HV3.out.2.2)
    have EA := Lib.hid (add_small HA.out.1 HA.out.2)
    have ES := Lib.hid (sub_small HA.out.1 HA.out.2)
    have EM := Lib.hid (mul_small HA.out.1 HA.out.2)
    go_enter Tryd.func3, Tryd.ntmps3
    go_wp2_with (go_at_call 17; refine hold ?_)
    refine Hold.mk ?_
    have C9 := Lib.hid (int_any (w := w) (a) (by omega) (by omega))
    refine C9.out.mono ?_
    rintro e W9 ⟨⟨n1, a1, c1, d1, rfl, hv⟩, hb⟩
    have ST10 := Lib.hid (ST0.out.next hb hv)
    clear hb hv
    go_upto_region 4 with fail
    obtain ⟨W11, HW11⟩ : ∃ W', Hid (W' = W9.alloc (.cells #[(.int .i64 1), (.bool n1), (.slice a1 c1 d1), (.string ⟨#[]⟩), (.bool false)] 27)) := ⟨_, Lib.hid rfl⟩
    obtain ⟨bx, Hbx⟩ : ∃ b, Hid (b = W9.heap.size) := ⟨_, Lib.hid rfl⟩
    have ST12 := Lib.hid (ST10.out.box Hbx.out HW11.out)
    rw [← HW11.out]
    try rw [← Hbx.out]
    go_wp2_with (go_at_call 17; refine hold ?_)
    refine Hold.mk ?_
    have C13 := Lib.hid (int_any (w := W11) (b) (by omega) (by omega))
    refine C13.out.mono ?_
    rintro e W13 ⟨⟨n2, a2, c2, d2, rfl, hv⟩, hb⟩
    have ST14 := Lib.hid (ST12.out.next hb hv)
    clear hb hv
    go_upto_region 5 with fail
    obtain ⟨W15, HW15⟩ : ∃ W', Hid (W' = W13.alloc (.cells #[(.int .i64 1), (.bool n2), (.slice a2 c2 d2), (.string ⟨#[]⟩), (.bool false)] 27)) := ⟨_, Lib.hid rfl⟩
    obtain ⟨bY, HbY⟩ : ∃ b, Hid (b = W13.heap.size) := ⟨_, Lib.hid rfl⟩
    have ObY := Lib.hid (ST14.out.old HbY.out)
    have ST16 := Lib.hid (ST14.out.box HbY.out HW15.out)
    rw [← HW15.out]
    try rw [← HbY.out]
    have qbY_0 := ST16.out.cell (List.mem_cons_self ..) 0 _ rfl
    have qbY_1 := ST16.out.cell (List.mem_cons_self ..) 1 _ rfl
    have qbY_2 := ST16.out.cell (List.mem_cons_self ..) 2 _ rfl
    have qbY_3 := ST16.out.cell (List.mem_cons_self ..) 3 _ rfl
    have qbY_4 := ST16.out.cell (List.mem_cons_self ..) 4 _ rfl
    have qbx_0 := ST16.out.cell (List.mem_cons_of_mem _ (List.mem_cons_self ..)) 0 _ rfl
    have qbx_1 := ST16.out.cell (List.mem_cons_of_mem _ (List.mem_cons_self ..)) 1 _ rfl
    have qbx_2 := ST16.out.cell (List.mem_cons_of_mem _ (List.mem_cons_self ..)) 2 _ rfl
    have qbx_3 := ST16.out.cell (List.mem_cons_of_mem _ (List.mem_cons_self ..)) 3 _ rfl
    have qbx_4 := ST16.out.cell (List.mem_cons_of_mem _ (List.mem_cons_self ..)) 4 _ rfl
    go_wp2_with (go_at_call 18; refine hold ?_)
    refine Hold.mk ?_
    have C17 := Lib.hid (b_add (s1 := ⟨#[]⟩) (s2 := ⟨#[]⟩) (t1 := false) (t2 := false) (IntC.flag (ST16.out.getC (v := (.agg #[.bool n1, .slice a1 c1 d1])) (i := a) (List.mem_cons_of_mem _ (List.mem_cons_self ..)))).1 (IntC.flag (ST16.out.getC (v := (.agg #[.bool n1, .slice a1 c1 d1])) (i := a) (List.mem_cons_of_mem _ (List.mem_cons_self ..)))).2 (IntC.flag (ST16.out.getC (v := (.agg #[.bool n2, .slice a2 c2 d2])) (i := b) (List.mem_cons_self ..))).1 (IntC.flag (ST16.out.getC (v := (.agg #[.bool n2, .slice a2 c2 d2])) (i := b) (List.mem_cons_self ..))).2 rfl rfl)
    rw [EA.out.1, EA.out.2, show kindK 0 = 1 from rfl] at C17
    refine C17.out.mono ?_
    rintro e W17 ⟨⟨n3, a3, c3, d3, rfl, hv⟩, hb⟩
    clear qbY_0 qbY_1 qbY_2 qbY_3 qbY_4 qbx_0 qbx_1 qbx_2 qbx_3 qbx_4
    have ST18 := Lib.hid (ST16.out.next hb hv)
    clear hb hv
    go_upto_region 6 with fail
    obtain ⟨W19, HW19⟩ : ∃ W', Hid (W' = W17.alloc (.cells #[(.int .i64 1), (.bool n3), (.slice a3 c3 d3), (.string ⟨#[]⟩), (.bool false)] 27)) := ⟨_, Lib.hid rfl⟩
    obtain ⟨bs, Hbs⟩ : ∃ b, Hid (b = W17.heap.size) := ⟨_, Lib.hid rfl⟩
    have Obs := Lib.hid (ST18.out.old Hbs.out)
    have ST20 := Lib.hid (ST18.out.box Hbs.out HW19.out)
    rw [← HW19.out]
    try rw [← Hbs.out]
    have qbY_0 := ST20.out.cell (List.mem_cons_of_mem _ (List.mem_cons_self ..)) 0 _ rfl
    have qbY_1 := ST20.out.cell (List.mem_cons_of_mem _ (List.mem_cons_self ..)) 1 _ rfl
    have qbY_2 := ST20.out.cell (List.mem_cons_of_mem _ (List.mem_cons_self ..)) 2 _ rfl
    have qbY_3 := ST20.out.cell (List.mem_cons_of_mem _ (List.mem_cons_self ..)) 3 _ rfl
    have qbY_4 := ST20.out.cell (List.mem_cons_of_mem _ (List.mem_cons_self ..)) 4 _ rfl
    have qbx_0 := ST20.out.cell (List.mem_cons_of_mem _ (List.mem_cons_of_mem _ (List.mem_cons_self ..))) 0 _ rfl
    have qbx_1 := ST20.out.cell (List.mem_cons_of_mem _ (List.mem_cons_of_mem _ (List.mem_cons_self ..))) 1 _ rfl
    have qbx_2 := ST20.out.cell (List.mem_cons_of_mem _ (List.mem_cons_of_mem _ (List.mem_cons_self ..))) 2 _ rfl
    have qbx_3 := ST20.out.cell (List.mem_cons_of_mem _ (List.mem_cons_of_mem _ (List.mem_cons_self ..))) 3 _ rfl
    have qbx_4 := ST20.out.cell (List.mem_cons_of_mem _ (List.mem_cons_of_mem _ (List.mem_cons_self ..))) 4 _ rfl
    go_wp2_with (go_at_call 18; refine hold ?_)
    refine Hold.mk ?_
    have C21 := Lib.hid (b_sub (s1 := ⟨#[]⟩) (s2 := ⟨#[]⟩) (t1 := false) (t2 := false) (IntC.flag (ST20.out.getC (v := (.agg #[.bool n1, .slice a1 c1 d1])) (i := a) (List.mem_cons_of_mem _ (List.mem_cons_of_mem _ (List.mem_cons_self ..))))).1 (IntC.flag (ST20.out.getC (v := (.agg #[.bool n1, .slice a1 c1 d1])) (i := a) (List.mem_cons_of_mem _ (List.mem_cons_of_mem _ (List.mem_cons_self ..))))).2 (IntC.flag (ST20.out.getC (v := (.agg #[.bool n2, .slice a2 c2 d2])) (i := b) (List.mem_cons_of_mem _ (List.mem_cons_self ..)))).1 (IntC.flag (ST20.out.getC (v := (.agg #[.bool n2, .slice a2 c2 d2])) (i := b) (List.mem_cons_of_mem _ (List.mem_cons_self ..)))).2 rfl rfl)
    rw [ES.out.1, ES.out.2, show kindK 0 = 1 from rfl] at C21
    refine C21.out.mono ?_
    rintro e W21 ⟨⟨n4, a4, c4, d4, rfl, hv⟩, hb⟩
    clear qbY_0 qbY_1 qbY_2 qbY_3 qbY_4 qbx_0 qbx_1 qbx_2 qbx_3 qbx_4
    have ST22 := Lib.hid (ST20.out.next hb hv)
    clear hb hv
    go_upto_region 7 with fail
    obtain ⟨W23, HW23⟩ : ∃ W', Hid (W' = W21.alloc (.cells #[(.int .i64 1), (.bool n4), (.slice a4 c4 d4), (.string ⟨#[]⟩), (.bool false)] 27)) := ⟨_, Lib.hid rfl⟩
    obtain ⟨bd, Hbd⟩ : ∃ b, Hid (b = W21.heap.size) := ⟨_, Lib.hid rfl⟩
    have Obd := Lib.hid (ST22.out.old Hbd.out)
    have ST24 := Lib.hid (ST22.out.box Hbd.out HW23.out)
    rw [← HW23.out]
    try rw [← Hbd.out]
    have qbY_0 := ST24.out.cell (List.mem_cons_of_mem _ (List.mem_cons_of_mem _ (List.mem_cons_self ..))) 0 _ rfl
    have qbY_1 := ST24.out.cell (List.mem_cons_of_mem _ (List.mem_cons_of_mem _ (List.mem_cons_self ..))) 1 _ rfl
    have qbY_2 := ST24.out.cell (List.mem_cons_of_mem _ (List.mem_cons_of_mem _ (List.mem_cons_self ..))) 2 _ rfl
    have qbY_3 := ST24.out.cell (List.mem_cons_of_mem _ (List.mem_cons_of_mem _ (List.mem_cons_self ..))) 3 _ rfl
    have qbY_4 := ST24.out.cell (List.mem_cons_of_mem _ (List.mem_cons_of_mem _ (List.mem_cons_self ..))) 4 _ rfl
    have qbx_0 := ST24.out.cell (List.mem_cons_of_mem _ (List.mem_cons_of_mem _ (List.mem_cons_of_mem _ (List.mem_cons_self ..)))) 0 _ rfl
    have qbx_1 := ST24.out.cell (List.mem_cons_of_mem _ (List.mem_cons_of_mem _ (List.mem_cons_of_mem _ (List.mem_cons_self ..)))) 1 _ rfl
    have qbx_2 := ST24.out.cell (List.mem_cons_of_mem _ (List.mem_cons_of_mem _ (List.mem_cons_of_mem _ (List.mem_cons_self ..)))) 2 _ rfl
    have qbx_3 := ST24.out.cell (List.mem_cons_of_mem _ (List.mem_cons_of_mem _ (List.mem_cons_of_mem _ (List.mem_cons_self ..)))) 3 _ rfl
    have qbx_4 := ST24.out.cell (List.mem_cons_of_mem _ (List.mem_cons_of_mem _ (List.mem_cons_of_mem _ (List.mem_cons_self ..)))) 4 _ rfl
    go_wp2_with (go_at_call 18; refine hold ?_)
    refine Hold.mk ?_
    have C25 := Lib.hid (b_mul (s1 := ⟨#[]⟩) (s2 := ⟨#[]⟩) (t1 := false) (t2 := false) (IntC.flag (ST24.out.getC (v := (.agg #[.bool n1, .slice a1 c1 d1])) (i := a) (List.mem_cons_of_mem _ (List.mem_cons_of_mem _ (List.mem_cons_of_mem _ (List.mem_cons_self ..)))))).1 (IntC.flag (ST24.out.getC (v := (.agg #[.bool n1, .slice a1 c1 d1])) (i := a) (List.mem_cons_of_mem _ (List.mem_cons_of_mem _ (List.mem_cons_of_mem _ (List.mem_cons_self ..)))))).2 (IntC.flag (ST24.out.getC (v := (.agg #[.bool n2, .slice a2 c2 d2])) (i := b) (List.mem_cons_of_mem _ (List.mem_cons_of_mem _ (List.mem_cons_self ..))))).1 (IntC.flag (ST24.out.getC (v := (.agg #[.bool n2, .slice a2 c2 d2])) (i := b) (List.mem_cons_of_mem _ (List.mem_cons_of_mem _ (List.mem_cons_self ..))))).2 rfl rfl)
    rw [EM.out.1, EM.out.2, show kindK 0 = 1 from rfl] at C25
    refine C25.out.mono ?_
    rintro e W25 ⟨⟨n5, a5, c5, d5, rfl, hv⟩, hb⟩
    clear qbY_0 qbY_1 qbY_2 qbY_3 qbY_4 qbx_0 qbx_1 qbx_2 qbx_3 qbx_4
    have ST26 := Lib.hid (ST24.out.next hb hv)
    clear hb hv
    go_upto_region 8 with fail
    obtain ⟨W27, HW27⟩ : ∃ W', Hid (W' = W25.alloc (.cells #[(.int .i64 1), (.bool n5), (.slice a5 c5 d5), (.string ⟨#[]⟩), (.bool false)] 27)) := ⟨_, Lib.hid rfl⟩
    obtain ⟨bm, Hbm⟩ : ∃ b, Hid (b = W25.heap.size) := ⟨_, Lib.hid rfl⟩
    have Obm := Lib.hid (ST26.out.old Hbm.out)
    have ST28 := Lib.hid (ST26.out.box Hbm.out HW27.out)
    rw [← HW27.out]
    try rw [← Hbm.out]
    have HC8 : Hid (∀ wx, Below W27.heap.size W27 wx → (fun w' : World => w'.cell? ⟨bm, 0, none⟩ = some (.int .i64 1) ∧ w'.cell? ⟨bm, 1, none⟩ = some (.bool n5) ∧ w'.cell? ⟨bm, 2, none⟩ = some (.slice a5 c5 d5) ∧ w'.cell? ⟨bm, 3, none⟩ = some (.string ⟨#[]⟩) ∧ w'.cell? ⟨bm, 4, none⟩ = some (.bool false) ∧ w'.cell? ⟨bd, 0, none⟩ = some (.int .i64 1) ∧ w'.cell? ⟨bd, 1, none⟩ = some (.bool n4) ∧ w'.cell? ⟨bd, 2, none⟩ = some (.slice a4 c4 d4) ∧ w'.cell? ⟨bd, 3, none⟩ = some (.string ⟨#[]⟩) ∧ w'.cell? ⟨bd, 4, none⟩ = some (.bool false) ∧ w'.cell? ⟨bs, 0, none⟩ = some (.int .i64 1) ∧ w'.cell? ⟨bs, 1, none⟩ = some (.bool n3) ∧ w'.cell? ⟨bs, 2, none⟩ = some (.slice a3 c3 d3) ∧ w'.cell? ⟨bs, 3, none⟩ = some (.string ⟨#[]⟩) ∧ w'.cell? ⟨bs, 4, none⟩ = some (.bool false)) wx) := Lib.hid fun wx hx => by
      have h := ST28.out.go hx
      exact ⟨h.cell (List.mem_cons_self ..) 0 _ rfl, h.cell (List.mem_cons_self ..) 1 _ rfl, h.cell (List.mem_cons_self ..) 2 _ rfl, h.cell (List.mem_cons_self ..) 3 _ rfl, h.cell (List.mem_cons_self ..) 4 _ rfl, h.cell (List.mem_cons_of_mem _ (List.mem_cons_self ..)) 0 _ rfl, h.cell (List.mem_cons_of_mem _ (List.mem_cons_self ..)) 1 _ rfl, h.cell (List.mem_cons_of_mem _ (List.mem_cons_self ..)) 2 _ rfl, h.cell (List.mem_cons_of_mem _ (List.mem_cons_self ..)) 3 _ rfl, h.cell (List.mem_cons_of_mem _ (List.mem_cons_self ..)) 4 _ rfl, h.cell (List.mem_cons_of_mem _ (List.mem_cons_of_mem _ (List.mem_cons_self ..))) 0 _ rfl, h.cell (List.mem_cons_of_mem _ (List.mem_cons_of_mem _ (List.mem_cons_self ..))) 1 _ rfl, h.cell (List.mem_cons_of_mem _ (List.mem_cons_of_mem _ (List.mem_cons_self ..))) 2 _ rfl, h.cell (List.mem_cons_of_mem _ (List.mem_cons_of_mem _ (List.mem_cons_self ..))) 3 _ rfl, h.cell (List.mem_cons_of_mem _ (List.mem_cons_of_mem _ (List.mem_cons_self ..))) 4 _ rfl⟩
    have hD8 := Lib.hid (Below.refl W27.heap.size W27).drew
    have ST29 := Lib.hid (ST28.out.go hD8.out)
    have HS := HC8.out W27.drew hD8.out
    refine wp_region_pi (fun w' : World => w'.cell? ⟨bm, 0, none⟩ = some (.int .i64 1) ∧ w'.cell? ⟨bm, 1, none⟩ = some (.bool n5) ∧ w'.cell? ⟨bm, 2, none⟩ = some (.slice a5 c5 d5) ∧ w'.cell? ⟨bm, 3, none⟩ = some (.string ⟨#[]⟩) ∧ w'.cell? ⟨bm, 4, none⟩ = some (.bool false) ∧ w'.cell? ⟨bd, 0, none⟩ = some (.int .i64 1) ∧ w'.cell? ⟨bd, 1, none⟩ = some (.bool n4) ∧ w'.cell? ⟨bd, 2, none⟩ = some (.slice a4 c4 d4) ∧ w'.cell? ⟨bd, 3, none⟩ = some (.string ⟨#[]⟩) ∧ w'.cell? ⟨bd, 4, none⟩ = some (.bool false) ∧ w'.cell? ⟨bs, 0, none⟩ = some (.int .i64 1) ∧ w'.cell? ⟨bs, 1, none⟩ = some (.bool n3) ∧ w'.cell? ⟨bs, 2, none⟩ = some (.slice a3 c3 d3) ∧ w'.cell? ⟨bs, 3, none⟩ = some (.string ⟨#[]⟩) ∧ w'.cell? ⟨bs, 4, none⟩ = some (.bool false)) [(0, 1), (1, 1), (2, 1), (3, 1), (4, 1), (5, 1), (6, 1), (7, 1), (8, 1), (9, 1), (10, 1), (11, 0), (12, 1), (13, 1), (14, 1), (15, 2), (16, 2), (17, 1), (18, 1), (19, 0), (20, 1), (21, 1), (22, 1), (23, 2), (24, 2), (25, 1), (26, 1), (27, 0), (28, 1), (29, 1), (30, 1), (31, 2), (32, 3), (33, 3), (34, 3)] [(32, [26, 25, 18, 16, 11]), (32, [26, 24, 19]), (32, [27]), (33, [26, 25, 18, 16, 11]), (33, [26, 24, 19]), (33, [32, 27]), (34, [11]), (34, [19]), (34, [27])] (by kernel_rfl) (by kernel_rfl) (fun _ _ _ _ _ h => h) (HS) ?_
    refine pq_pu (some 55) rfl rfl (by rfl) (fun ws => by go_simp; try with_reducible rfl) ?_; go_frame   -- 0 Op.move (Operand.tmp 8)
    refine pq_pu (some 56) rfl rfl (by rfl) (fun ws => by go_simp; try with_reducible rfl) ?_; go_frame   -- 1 Op.binOp BinOp.eql 29 (Operand.tmp 55) (Operand.const (Value.int IntKind.i64 0)) 29
    refine pq_pu (some 57) rfl rfl (by rfl) (fun ws => by go_simp; try with_reducible rfl) ?_; go_frame   -- 2 Op.move (Operand.tmp 56)
    refine pq_pu (some 58) rfl rfl (by rfl) (fun ws => by go_simp; try with_reducible rfl) ?_; go_frame   -- 3 Op.move (Operand.tmp 10)
    refine pq_pu (some 59) rfl rfl (by rfl) (fun ws => by go_simp; try with_reducible rfl) ?_; go_frame   -- 4 Op.binOp BinOp.eql 29 (Operand.tmp 58) (Operand.const (Value.int IntKind.i64 0)) 29
    refine pq_pu (some 60) rfl rfl (by rfl) (fun ws => by go_simp; try with_reducible rfl) ?_; go_frame   -- 5 Op.pick (Operand.tmp 57) (Operand.tmp 59) (Operand.const (Value.bool false))
    refine pq_pu (some 61) rfl rfl (by rfl) (fun ws => by go_simp; try with_reducible rfl) ?_; go_frame   -- 6 Op.move (Operand.tmp 60)
    refine pq_pu (some 62) rfl rfl (by rfl) (fun ws => by go_simp; try with_reducible rfl) ?_; go_frame   -- 7 Op.move (Operand.tmp 12)
    refine pq_pu (some 63) rfl rfl (by rfl) (fun ws => by go_simp; try with_reducible rfl) ?_; go_frame   -- 8 Op.binOp BinOp.eql 29 (Operand.tmp 62) (Operand.const (Value.int IntKind.i64 0)) 29
    refine pq_pu (some 64) rfl rfl (by rfl) (fun ws => by go_simp; try with_reducible rfl) ?_; go_frame   -- 9 Op.pick (Operand.tmp 61) (Operand.tmp 63) (Operand.const (Value.bool false))
    refine pq_pu (some 65) rfl rfl (by rfl) (fun ws => by go_simp; try with_reducible rfl) ?_; go_frame   -- 10 Op.move (Operand.tmp 64)
    refine pq_ld (some 66) rfl rfl (by rfl) (fun ws HS => by go_split_ands; go_simp; try with_reducible rfl) ?_; go_frame   -- 11 Op.load 27 (Operand.tmp 7)
    refine pq_pu (some 67) rfl rfl (by rfl) (fun ws => by go_simp; try with_reducible rfl) ?_; go_frame   -- 12 Op.move (Operand.tmp 0)
    refine pq_pu (some 68) rfl rfl (by rfl) (fun ws => by go_simp; try with_reducible rfl) ?_; go_frame   -- 13 Op.move (Operand.tmp 1)
    refine pq_pu (some 69) rfl rfl (by rfl) (fun ws => by go_simp; try with_reducible rfl) ?_; go_frame   -- 14 Op.binOp BinOp.add 3 (Operand.tmp 67) (Operand.tmp 68) 3
    refine pk_ke rfl (fun J hJ => ?_)   -- pi_ke 15 Op.call { callee := Callee.value (Operand.func 17), args := #[Operand.tmp 69], argTypes := #[3] }
    have C30 := Lib.hid (int_any (w := W27.drew) v1 HV1.out.2.1 HV1.out.2.2)
    go_wp2_with (go_at_call 17; refine C30.out.mono ?_; rintro e W30 ⟨⟨n6, a6, c6, d6, rfl, hv⟩, hb⟩; have ST30 := Lib.hid (ST29.out.next hb hv); have hD30 := Lib.hid (hD8.out.trans (Below.mono hb hD8.out.size)); clear hb)
    refine hJ _ _ (HC8.out W30 hD30.out) ?_
    clear hv
    refine pk_ke rfl (fun J hJ => ?_)   -- pi_ke 16 Op.call { callee := Callee.value (Operand.func 19), args := #[Operand.tmp 66, Operand.tmp 70], argTypes := #[27, 27] }
    have C31 := Lib.hid (equal_any (k1 := 1) (k2 := 1) (s1 := ⟨#[]⟩) (s2 := ⟨#[]⟩) (t1 := false) (t2 := false) (IntC.flag (ST30.out.getC (v := (.agg #[.bool n3, .slice a3 c3 d3])) (i := (a + b)) (List.mem_cons_of_mem _ (List.mem_cons_of_mem _ (List.mem_cons_of_mem _ (List.mem_cons_self ..)))))).1 (IntC.flag (ST30.out.getC (v := (.agg #[.bool n3, .slice a3 c3 d3])) (i := (a + b)) (List.mem_cons_of_mem _ (List.mem_cons_of_mem _ (List.mem_cons_of_mem _ (List.mem_cons_self ..)))))).2 (IntC.flag (ST30.out.getC (v := (.agg #[.bool n6, .slice a6 c6 d6])) (i := v1) (List.mem_cons_self ..))).1 (IntC.flag (ST30.out.getC (v := (.agg #[.bool n6, .slice a6 c6 d6])) (i := v1) (List.mem_cons_self ..))).2)
    rw [eqK_self HV1.out.1] at C31
    go_wp2_with (go_at_call 19; refine C31.out.mono ?_; rintro e W31 ⟨rfl, hb⟩; have ST31 := Lib.hid (ST30.out.go hb); have hD31 := Lib.hid (hD30.out.trans (Below.mono hb hD30.out.size)); clear hb)
    refine hJ _ _ (HC8.out W31 hD31.out) ?_
    refine pq_pu (some 72) rfl rfl (by rfl) (fun ws => by go_simp; try with_reducible rfl) ?_; go_frame   -- 17 Op.pick (Operand.tmp 65) (Operand.tmp 71) (Operand.const (Value.bool false))
    refine pq_pu (some 73) rfl rfl (by rfl) (fun ws => by go_simp; try with_reducible rfl) ?_; go_frame   -- 18 Op.move (Operand.tmp 72)
    refine pq_ld (some 74) rfl rfl (by rfl) (fun ws HS => by go_split_ands; go_simp; try with_reducible rfl) ?_; go_frame   -- 19 Op.load 27 (Operand.tmp 9)
    refine pq_pu (some 75) rfl rfl (by rfl) (fun ws => by go_simp; try with_reducible rfl) ?_; go_frame   -- 20 Op.move (Operand.tmp 0)
    refine pq_pu (some 76) rfl rfl (by rfl) (fun ws => by go_simp; try with_reducible rfl) ?_; go_frame   -- 21 Op.move (Operand.tmp 1)
    refine pq_pu (some 77) rfl rfl (by rfl) (fun ws => by go_simp; try with_reducible rfl) ?_; go_frame   -- 22 Op.binOp BinOp.sub 3 (Operand.tmp 75) (Operand.tmp 76) 3
    refine pk_ke rfl (fun J hJ => ?_)   -- pi_ke 23 Op.call { callee := Callee.value (Operand.func 17), args := #[Operand.tmp 77], argTypes := #[3] }
    have C32 := Lib.hid (int_any (w := W31) v2 HV2.out.2.1 HV2.out.2.2)
    go_wp2_with (go_at_call 17; refine C32.out.mono ?_; rintro e W32 ⟨⟨n7, a7, c7, d7, rfl, hv⟩, hb⟩; have ST32 := Lib.hid (ST31.out.next hb hv); have hD32 := Lib.hid (hD31.out.trans (Below.mono hb hD31.out.size)); clear hb)
    refine hJ _ _ (HC8.out W32 hD32.out) ?_
    clear hv
    refine pk_ke rfl (fun J hJ => ?_)   -- pi_ke 24 Op.call { callee := Callee.value (Operand.func 19), args := #[Operand.tmp 74, Operand.tmp 78], argTypes := #[27, 27] }
    have C33 := Lib.hid (equal_any (k1 := 1) (k2 := 1) (s1 := ⟨#[]⟩) (s2 := ⟨#[]⟩) (t1 := false) (t2 := false) (IntC.flag (ST32.out.getC (v := (.agg #[.bool n4, .slice a4 c4 d4])) (i := (a - b)) (List.mem_cons_of_mem _ (List.mem_cons_of_mem _ (List.mem_cons_of_mem _ (List.mem_cons_self ..)))))).1 (IntC.flag (ST32.out.getC (v := (.agg #[.bool n4, .slice a4 c4 d4])) (i := (a - b)) (List.mem_cons_of_mem _ (List.mem_cons_of_mem _ (List.mem_cons_of_mem _ (List.mem_cons_self ..)))))).2 (IntC.flag (ST32.out.getC (v := (.agg #[.bool n7, .slice a7 c7 d7])) (i := v2) (List.mem_cons_self ..))).1 (IntC.flag (ST32.out.getC (v := (.agg #[.bool n7, .slice a7 c7 d7])) (i := v2) (List.mem_cons_self ..))).2)
    rw [eqK_self HV2.out.1] at C33
    go_wp2_with (go_at_call 19; refine C33.out.mono ?_; rintro e W33 ⟨rfl, hb⟩; have ST33 := Lib.hid (ST32.out.go hb); have hD33 := Lib.hid (hD32.out.trans (Below.mono hb hD32.out.size)); clear hb)
    refine hJ _ _ (HC8.out W33 hD33.out) ?_
    refine pq_pu (some 80) rfl rfl (by rfl) (fun ws => by go_simp; try with_reducible rfl) ?_; go_frame   -- 25 Op.pick (Operand.tmp 73) (Operand.tmp 79) (Operand.const (Value.bool false))
    refine pq_pu (some 81) rfl rfl (by rfl) (fun ws => by go_simp; try with_reducible rfl) ?_; go_frame   -- 26 Op.move (Operand.tmp 80)
    refine pq_ld (some 82) rfl rfl (by rfl) (fun ws HS => by go_split_ands; go_simp; try with_reducible rfl) ?_; go_frame   -- 27 Op.load 27 (Operand.tmp 11)
    refine pq_pu (some 83) rfl rfl (by rfl) (fun ws => by go_simp; try with_reducible rfl) ?_; go_frame   -- 28 Op.move (Operand.tmp 0)
    refine pq_pu (some 84) rfl rfl (by rfl) (fun ws => by go_simp; try with_reducible rfl) ?_; go_frame   -- 29 Op.move (Operand.tmp 1)
    refine pq_pu (some 85) rfl rfl (by rfl) (fun ws => by go_simp; try with_reducible rfl) ?_; go_frame   -- 30 Op.binOp BinOp.mul 3 (Operand.tmp 83) (Operand.tmp 84) 3
    refine pk_ke rfl (fun J hJ => ?_)   -- pi_ke 31 Op.call { callee := Callee.value (Operand.func 17), args := #[Operand.tmp 85], argTypes := #[3] }
    have C34 := Lib.hid (int_any (w := W33) v3 HV3.out.2.1 HV3.out.2.2)
    go_wp2_with (go_at_call 17; refine C34.out.mono ?_; rintro e W34 ⟨⟨n8, a8, c8, d8, rfl, hv⟩, hb⟩; have ST34 := Lib.hid (ST33.out.next hb hv); have hD34 := Lib.hid (hD33.out.trans (Below.mono hb hD33.out.size)); clear hb)
    refine hJ _ _ (HC8.out W34 hD34.out) ?_
    clear hv
    refine pi_tail (by rfl) ?_; simp only [opsAt, List.getElem?_toArray, List.getElem?_cons_zero, List.getElem?_cons_succ]   -- [(32, 'Op.call { callee := Callee.value (Operand.func 19), args := #[Operand.tmp 82, Operand.tmp 86], argTypes := #[27, 27] }'), (33, 'Op.pick (Operand.tmp 81) (Operand.tmp 87) (Operand.const (Value.bool false))'), (34, 'Op.assign (Operand.tmp 88)')]
    go_wp2_with (go_at_call 19; refine hold ?_)
    refine Hold.mk ?_
    have C35 := Lib.hid (equal_any (k1 := 1) (k2 := 1) (s1 := ⟨#[]⟩) (s2 := ⟨#[]⟩) (t1 := false) (t2 := false) (IntC.flag (ST34.out.getC (v := (.agg #[.bool n5, .slice a5 c5 d5])) (i := (a * b)) (List.mem_cons_of_mem _ (List.mem_cons_of_mem _ (List.mem_cons_of_mem _ (List.mem_cons_self ..)))))).1 (IntC.flag (ST34.out.getC (v := (.agg #[.bool n5, .slice a5 c5 d5])) (i := (a * b)) (List.mem_cons_of_mem _ (List.mem_cons_of_mem _ (List.mem_cons_of_mem _ (List.mem_cons_self ..)))))).2 (IntC.flag (ST34.out.getC (v := (.agg #[.bool n8, .slice a8 c8 d8])) (i := v3) (List.mem_cons_self ..))).1 (IntC.flag (ST34.out.getC (v := (.agg #[.bool n8, .slice a8 c8 d8])) (i := v3) (List.mem_cons_self ..))).2)
    rw [eqK_self HV3.out.1] at C35
    refine C35.out.mono ?_
    rintro e W35 ⟨rfl, hb⟩
    have ST36 := Lib.hid (ST34.out.go hb)
    clear hb
    by_cases hb0 : b = 0
    · have EQ := Lib.hid (quo_zero HA.out.1 HA.out.2 hb0)
      have hb1 : (b == 0) = true := by simpa using hb0
      clear hb0
      have qbY_0 := ST36.out.cell (List.mem_cons_of_mem _ (List.mem_cons_of_mem _ (List.mem_cons_of_mem _ (List.mem_cons_self ..)))) 0 _ rfl
      have qbY_1 := ST36.out.cell (List.mem_cons_of_mem _ (List.mem_cons_of_mem _ (List.mem_cons_of_mem _ (List.mem_cons_self ..)))) 1 _ rfl
      have qbY_2 := ST36.out.cell (List.mem_cons_of_mem _ (List.mem_cons_of_mem _ (List.mem_cons_of_mem _ (List.mem_cons_self ..)))) 2 _ rfl
      have qbY_3 := ST36.out.cell (List.mem_cons_of_mem _ (List.mem_cons_of_mem _ (List.mem_cons_of_mem _ (List.mem_cons_self ..)))) 3 _ rfl
      have qbY_4 := ST36.out.cell (List.mem_cons_of_mem _ (List.mem_cons_of_mem _ (List.mem_cons_of_mem _ (List.mem_cons_self ..)))) 4 _ rfl
      have qbx_0 := ST36.out.cell (List.mem_cons_of_mem _ (List.mem_cons_of_mem _ (List.mem_cons_of_mem _ (List.mem_cons_of_mem _ (List.mem_cons_self ..))))) 0 _ rfl
      have qbx_1 := ST36.out.cell (List.mem_cons_of_mem _ (List.mem_cons_of_mem _ (List.mem_cons_of_mem _ (List.mem_cons_of_mem _ (List.mem_cons_self ..))))) 1 _ rfl
      have qbx_2 := ST36.out.cell (List.mem_cons_of_mem _ (List.mem_cons_of_mem _ (List.mem_cons_of_mem _ (List.mem_cons_of_mem _ (List.mem_cons_self ..))))) 2 _ rfl
      have qbx_3 := ST36.out.cell (List.mem_cons_of_mem _ (List.mem_cons_of_mem _ (List.mem_cons_of_mem _ (List.mem_cons_of_mem _ (List.mem_cons_self ..))))) 3 _ rfl
      have qbx_4 := ST36.out.cell (List.mem_cons_of_mem _ (List.mem_cons_of_mem _ (List.mem_cons_of_mem _ (List.mem_cons_of_mem _ (List.mem_cons_self ..))))) 4 _ rfl
      go_wp2_with (go_at_call 18; refine hold ?_)
      refine Hold.mk ?_
      have C37 := Lib.hid (b_quo (s1 := ⟨#[]⟩) (s2 := ⟨#[]⟩) (t1 := false) (t2 := false) (IntC.flag (ST36.out.getC (v := (.agg #[.bool n1, .slice a1 c1 d1])) (i := a) (List.mem_cons_of_mem _ (List.mem_cons_of_mem _ (List.mem_cons_of_mem _ (List.mem_cons_of_mem _ (List.mem_cons_of_mem _ (List.mem_cons_of_mem _ (List.mem_cons_of_mem _ (List.mem_cons_self ..)))))))))).1 (IntC.flag (ST36.out.getC (v := (.agg #[.bool n1, .slice a1 c1 d1])) (i := a) (List.mem_cons_of_mem _ (List.mem_cons_of_mem _ (List.mem_cons_of_mem _ (List.mem_cons_of_mem _ (List.mem_cons_of_mem _ (List.mem_cons_of_mem _ (List.mem_cons_of_mem _ (List.mem_cons_self ..)))))))))).2 (IntC.flag (ST36.out.getC (v := (.agg #[.bool n2, .slice a2 c2 d2])) (i := b) (List.mem_cons_of_mem _ (List.mem_cons_of_mem _ (List.mem_cons_of_mem _ (List.mem_cons_of_mem _ (List.mem_cons_of_mem _ (List.mem_cons_of_mem _ (List.mem_cons_self ..))))))))).1 (IntC.flag (ST36.out.getC (v := (.agg #[.bool n2, .slice a2 c2 d2])) (i := b) (List.mem_cons_of_mem _ (List.mem_cons_of_mem _ (List.mem_cons_of_mem _ (List.mem_cons_of_mem _ (List.mem_cons_of_mem _ (List.mem_cons_of_mem _ (List.mem_cons_self ..))))))))).2 rfl rfl)
      rw [EQ.out.1, EQ.out.2.1, show kindK 5 = 0 from rfl] at C37
      refine C37.out.mono ?_
      rintro e W37 ⟨⟨n9, a9, c9, d9, rfl, hv⟩, hb⟩
      clear qbY_0 qbY_1 qbY_2 qbY_3 qbY_4 qbx_0 qbx_1 qbx_2 qbx_3 qbx_4
      have ST38 := Lib.hid (ST36.out.next hb hv)
      clear hb hv
      go_upto_region 10 with fail
      obtain ⟨W39, HW39⟩ : ∃ W', Hid (W' = W37.alloc (.cells #[(.int .i64 0), (.bool n9), (.slice a9 c9 d9), (.string ⟨#[]⟩), (.bool false)] 27)) := ⟨_, Lib.hid rfl⟩
      obtain ⟨bq, Hbq⟩ : ∃ b, Hid (b = W37.heap.size) := ⟨_, Lib.hid rfl⟩
      have Obq := Lib.hid (ST38.out.old Hbq.out)
      have ST40 := Lib.hid (ST38.out.box Hbq.out HW39.out)
      rw [← HW39.out]
      try rw [← Hbq.out]
      have qbY_0 := ST40.out.cell (List.mem_cons_of_mem _ (List.mem_cons_of_mem _ (List.mem_cons_of_mem _ (List.mem_cons_of_mem _ (List.mem_cons_self ..))))) 0 _ rfl
      have qbY_1 := ST40.out.cell (List.mem_cons_of_mem _ (List.mem_cons_of_mem _ (List.mem_cons_of_mem _ (List.mem_cons_of_mem _ (List.mem_cons_self ..))))) 1 _ rfl
      have qbY_2 := ST40.out.cell (List.mem_cons_of_mem _ (List.mem_cons_of_mem _ (List.mem_cons_of_mem _ (List.mem_cons_of_mem _ (List.mem_cons_self ..))))) 2 _ rfl
      have qbY_3 := ST40.out.cell (List.mem_cons_of_mem _ (List.mem_cons_of_mem _ (List.mem_cons_of_mem _ (List.mem_cons_of_mem _ (List.mem_cons_self ..))))) 3 _ rfl
      have qbY_4 := ST40.out.cell (List.mem_cons_of_mem _ (List.mem_cons_of_mem _ (List.mem_cons_of_mem _ (List.mem_cons_of_mem _ (List.mem_cons_self ..))))) 4 _ rfl
      have qbx_0 := ST40.out.cell (List.mem_cons_of_mem _ (List.mem_cons_of_mem _ (List.mem_cons_of_mem _ (List.mem_cons_of_mem _ (List.mem_cons_of_mem _ (List.mem_cons_self ..)))))) 0 _ rfl
      have qbx_1 := ST40.out.cell (List.mem_cons_of_mem _ (List.mem_cons_of_mem _ (List.mem_cons_of_mem _ (List.mem_cons_of_mem _ (List.mem_cons_of_mem _ (List.mem_cons_self ..)))))) 1 _ rfl
      have qbx_2 := ST40.out.cell (List.mem_cons_of_mem _ (List.mem_cons_of_mem _ (List.mem_cons_of_mem _ (List.mem_cons_of_mem _ (List.mem_cons_of_mem _ (List.mem_cons_self ..)))))) 2 _ rfl
      have qbx_3 := ST40.out.cell (List.mem_cons_of_mem _ (List.mem_cons_of_mem _ (List.mem_cons_of_mem _ (List.mem_cons_of_mem _ (List.mem_cons_of_mem _ (List.mem_cons_self ..)))))) 3 _ rfl
      have qbx_4 := ST40.out.cell (List.mem_cons_of_mem _ (List.mem_cons_of_mem _ (List.mem_cons_of_mem _ (List.mem_cons_of_mem _ (List.mem_cons_of_mem _ (List.mem_cons_self ..)))))) 4 _ rfl
      go_wp2_with (go_at_call 18; refine hold ?_)
      refine Hold.mk ?_
      have C41 := Lib.hid (b_rem (s1 := ⟨#[]⟩) (s2 := ⟨#[]⟩) (t1 := false) (t2 := false) (IntC.flag (ST40.out.getC (v := (.agg #[.bool n1, .slice a1 c1 d1])) (i := a) (List.mem_cons_of_mem _ (List.mem_cons_of_mem _ (List.mem_cons_of_mem _ (List.mem_cons_of_mem _ (List.mem_cons_of_mem _ (List.mem_cons_of_mem _ (List.mem_cons_of_mem _ (List.mem_cons_of_mem _ (List.mem_cons_self ..))))))))))).1 (IntC.flag (ST40.out.getC (v := (.agg #[.bool n1, .slice a1 c1 d1])) (i := a) (List.mem_cons_of_mem _ (List.mem_cons_of_mem _ (List.mem_cons_of_mem _ (List.mem_cons_of_mem _ (List.mem_cons_of_mem _ (List.mem_cons_of_mem _ (List.mem_cons_of_mem _ (List.mem_cons_of_mem _ (List.mem_cons_self ..))))))))))).2 (IntC.flag (ST40.out.getC (v := (.agg #[.bool n2, .slice a2 c2 d2])) (i := b) (List.mem_cons_of_mem _ (List.mem_cons_of_mem _ (List.mem_cons_of_mem _ (List.mem_cons_of_mem _ (List.mem_cons_of_mem _ (List.mem_cons_of_mem _ (List.mem_cons_of_mem _ (List.mem_cons_self ..)))))))))).1 (IntC.flag (ST40.out.getC (v := (.agg #[.bool n2, .slice a2 c2 d2])) (i := b) (List.mem_cons_of_mem _ (List.mem_cons_of_mem _ (List.mem_cons_of_mem _ (List.mem_cons_of_mem _ (List.mem_cons_of_mem _ (List.mem_cons_of_mem _ (List.mem_cons_of_mem _ (List.mem_cons_self ..)))))))))).2 rfl rfl)
      rw [EQ.out.1, EQ.out.2.2, show kindK 5 = 0 from rfl] at C41
      refine C41.out.mono ?_
      rintro e W41 ⟨⟨n10, a10, c10, d10, rfl, hv⟩, hb⟩
      clear qbY_0 qbY_1 qbY_2 qbY_3 qbY_4 qbx_0 qbx_1 qbx_2 qbx_3 qbx_4
      have ST42 := Lib.hid (ST40.out.next hb hv)
      clear hb hv
      go_upto_region 11 with fail
      obtain ⟨W43, HW43⟩ : ∃ W', Hid (W' = W41.alloc (.cells #[(.int .i64 0), (.bool n10), (.slice a10 c10 d10), (.string ⟨#[]⟩), (.bool false)] 27)) := ⟨_, Lib.hid rfl⟩
      obtain ⟨br, Hbr⟩ : ∃ b, Hid (b = W41.heap.size) := ⟨_, Lib.hid rfl⟩
      have Obr := Lib.hid (ST42.out.old Hbr.out)
      have ST44 := Lib.hid (ST42.out.box Hbr.out HW43.out)
      rw [← HW43.out]
      try rw [← Hbr.out]
      go_wp2_with (go_at_call 16; refine hold ?_)
      refine Hold.mk ?_
      have C45 := Lib.hid (kawake_any (w := W43))
      refine C45.out.mono ?_
      rintro e W45 ⟨rfl, hb⟩
      have ST46 := Lib.hid (ST44.out.go hb)
      clear hb
      go_wp2_with fail
      go_ret
      exact ⟨rfl, ST46.out.below⟩
    · have EQ := Lib.hid (quo_small HA.out.1 HA.out.2 hb0)
      have hb1 : (b == 0) = false := by simpa using hb0
      obtain ⟨v4, HV4⟩ : ∃ v, Hid (v = a.tdiv b ∧ -9223372036854775808 ≤ v ∧ v ≤ 9223372036854775807) := ⟨a.tdiv b, Lib.hid ⟨rfl, by have h1 := tdiv_lim (b := b) HA.out.1; omega, by have h1 := tdiv_lim (b := b) HA.out.1; omega⟩⟩
      have hw4 : IntKind.i64.wrap (a.tdiv b) = v4 := wrap_in HV4.out.1 (by rw [← HV4.out.1]; exact HV4.out.2.1) (by rw [← HV4.out.1]; exact HV4.out.2.2)
      obtain ⟨v5, HV5⟩ : ∃ v, Hid (v = a.tmod b ∧ -9223372036854775808 ≤ v ∧ v ≤ 9223372036854775807) := ⟨a.tmod b, Lib.hid ⟨rfl, by have h1 := tmod_lim (b := b) HA.out.1; omega, by have h1 := tmod_lim (b := b) HA.out.1; omega⟩⟩
      have hw5 : IntKind.i64.wrap (a.tmod b) = v5 := wrap_in HV5.out.1 (by rw [← HV5.out.1]; exact HV5.out.2.1) (by rw [← HV5.out.1]; exact HV5.out.2.2)
      have hw6 : a.tmod b = v5 := HV5.out.1.symm
      have qbY_0 := ST36.out.cell (List.mem_cons_of_mem _ (List.mem_cons_of_mem _ (List.mem_cons_of_mem _ (List.mem_cons_self ..)))) 0 _ rfl
      have qbY_1 := ST36.out.cell (List.mem_cons_of_mem _ (List.mem_cons_of_mem _ (List.mem_cons_of_mem _ (List.mem_cons_self ..)))) 1 _ rfl
      have qbY_2 := ST36.out.cell (List.mem_cons_of_mem _ (List.mem_cons_of_mem _ (List.mem_cons_of_mem _ (List.mem_cons_self ..)))) 2 _ rfl
      have qbY_3 := ST36.out.cell (List.mem_cons_of_mem _ (List.mem_cons_of_mem _ (List.mem_cons_of_mem _ (List.mem_cons_self ..)))) 3 _ rfl
      have qbY_4 := ST36.out.cell (List.mem_cons_of_mem _ (List.mem_cons_of_mem _ (List.mem_cons_of_mem _ (List.mem_cons_self ..)))) 4 _ rfl
      have qbx_0 := ST36.out.cell (List.mem_cons_of_mem _ (List.mem_cons_of_mem _ (List.mem_cons_of_mem _ (List.mem_cons_of_mem _ (List.mem_cons_self ..))))) 0 _ rfl
      have qbx_1 := ST36.out.cell (List.mem_cons_of_mem _ (List.mem_cons_of_mem _ (List.mem_cons_of_mem _ (List.mem_cons_of_mem _ (List.mem_cons_self ..))))) 1 _ rfl
      have qbx_2 := ST36.out.cell (List.mem_cons_of_mem _ (List.mem_cons_of_mem _ (List.mem_cons_of_mem _ (List.mem_cons_of_mem _ (List.mem_cons_self ..))))) 2 _ rfl
      have qbx_3 := ST36.out.cell (List.mem_cons_of_mem _ (List.mem_cons_of_mem _ (List.mem_cons_of_mem _ (List.mem_cons_of_mem _ (List.mem_cons_self ..))))) 3 _ rfl
      have qbx_4 := ST36.out.cell (List.mem_cons_of_mem _ (List.mem_cons_of_mem _ (List.mem_cons_of_mem _ (List.mem_cons_of_mem _ (List.mem_cons_self ..))))) 4 _ rfl
      go_wp2_with (go_at_call 18; refine hold ?_)
      refine Hold.mk ?_
      have C47 := Lib.hid (b_quo (s1 := ⟨#[]⟩) (s2 := ⟨#[]⟩) (t1 := false) (t2 := false) (IntC.flag (ST36.out.getC (v := (.agg #[.bool n1, .slice a1 c1 d1])) (i := a) (List.mem_cons_of_mem _ (List.mem_cons_of_mem _ (List.mem_cons_of_mem _ (List.mem_cons_of_mem _ (List.mem_cons_of_mem _ (List.mem_cons_of_mem _ (List.mem_cons_of_mem _ (List.mem_cons_self ..)))))))))).1 (IntC.flag (ST36.out.getC (v := (.agg #[.bool n1, .slice a1 c1 d1])) (i := a) (List.mem_cons_of_mem _ (List.mem_cons_of_mem _ (List.mem_cons_of_mem _ (List.mem_cons_of_mem _ (List.mem_cons_of_mem _ (List.mem_cons_of_mem _ (List.mem_cons_of_mem _ (List.mem_cons_self ..)))))))))).2 (IntC.flag (ST36.out.getC (v := (.agg #[.bool n2, .slice a2 c2 d2])) (i := b) (List.mem_cons_of_mem _ (List.mem_cons_of_mem _ (List.mem_cons_of_mem _ (List.mem_cons_of_mem _ (List.mem_cons_of_mem _ (List.mem_cons_of_mem _ (List.mem_cons_self ..))))))))).1 (IntC.flag (ST36.out.getC (v := (.agg #[.bool n2, .slice a2 c2 d2])) (i := b) (List.mem_cons_of_mem _ (List.mem_cons_of_mem _ (List.mem_cons_of_mem _ (List.mem_cons_of_mem _ (List.mem_cons_of_mem _ (List.mem_cons_of_mem _ (List.mem_cons_self ..))))))))).2 rfl rfl)
      rw [EQ.out.1, EQ.out.2.1, show kindK 0 = 1 from rfl] at C47
      refine C47.out.mono ?_
      rintro e W47 ⟨⟨n9, a9, c9, d9, rfl, hv⟩, hb⟩
      clear qbY_0 qbY_1 qbY_2 qbY_3 qbY_4 qbx_0 qbx_1 qbx_2 qbx_3 qbx_4
      have ST48 := Lib.hid (ST36.out.next hb hv)
      clear hb hv
      go_upto_region 10 with fail
      obtain ⟨W49, HW49⟩ : ∃ W', Hid (W' = W47.alloc (.cells #[(.int .i64 1), (.bool n9), (.slice a9 c9 d9), (.string ⟨#[]⟩), (.bool false)] 27)) := ⟨_, Lib.hid rfl⟩
      obtain ⟨bq, Hbq⟩ : ∃ b, Hid (b = W47.heap.size) := ⟨_, Lib.hid rfl⟩
      have Obq := Lib.hid (ST48.out.old Hbq.out)
      have ST50 := Lib.hid (ST48.out.box Hbq.out HW49.out)
      rw [← HW49.out]
      try rw [← Hbq.out]
      have qbY_0 := ST50.out.cell (List.mem_cons_of_mem _ (List.mem_cons_of_mem _ (List.mem_cons_of_mem _ (List.mem_cons_of_mem _ (List.mem_cons_self ..))))) 0 _ rfl
      have qbY_1 := ST50.out.cell (List.mem_cons_of_mem _ (List.mem_cons_of_mem _ (List.mem_cons_of_mem _ (List.mem_cons_of_mem _ (List.mem_cons_self ..))))) 1 _ rfl
      have qbY_2 := ST50.out.cell (List.mem_cons_of_mem _ (List.mem_cons_of_mem _ (List.mem_cons_of_mem _ (List.mem_cons_of_mem _ (List.mem_cons_self ..))))) 2 _ rfl
      have qbY_3 := ST50.out.cell (List.mem_cons_of_mem _ (List.mem_cons_of_mem _ (List.mem_cons_of_mem _ (List.mem_cons_of_mem _ (List.mem_cons_self ..))))) 3 _ rfl
      have qbY_4 := ST50.out.cell (List.mem_cons_of_mem _ (List.mem_cons_of_mem _ (List.mem_cons_of_mem _ (List.mem_cons_of_mem _ (List.mem_cons_self ..))))) 4 _ rfl
      have qbx_0 := ST50.out.cell (List.mem_cons_of_mem _ (List.mem_cons_of_mem _ (List.mem_cons_of_mem _ (List.mem_cons_of_mem _ (List.mem_cons_of_mem _ (List.mem_cons_self ..)))))) 0 _ rfl
      have qbx_1 := ST50.out.cell (List.mem_cons_of_mem _ (List.mem_cons_of_mem _ (List.mem_cons_of_mem _ (List.mem_cons_of_mem _ (List.mem_cons_of_mem _ (List.mem_cons_self ..)))))) 1 _ rfl
      have qbx_2 := ST50.out.cell (List.mem_cons_of_mem _ (List.mem_cons_of_mem _ (List.mem_cons_of_mem _ (List.mem_cons_of_mem _ (List.mem_cons_of_mem _ (List.mem_cons_self ..)))))) 2 _ rfl
      have qbx_3 := ST50.out.cell (List.mem_cons_of_mem _ (List.mem_cons_of_mem _ (List.mem_cons_of_mem _ (List.mem_cons_of_mem _ (List.mem_cons_of_mem _ (List.mem_cons_self ..)))))) 3 _ rfl
      have qbx_4 := ST50.out.cell (List.mem_cons_of_mem _ (List.mem_cons_of_mem _ (List.mem_cons_of_mem _ (List.mem_cons_of_mem _ (List.mem_cons_of_mem _ (List.mem_cons_self ..)))))) 4 _ rfl
      go_wp2_with (go_at_call 18; refine hold ?_)
      refine Hold.mk ?_
      have C51 := Lib.hid (b_rem (s1 := ⟨#[]⟩) (s2 := ⟨#[]⟩) (t1 := false) (t2 := false) (IntC.flag (ST50.out.getC (v := (.agg #[.bool n1, .slice a1 c1 d1])) (i := a) (List.mem_cons_of_mem _ (List.mem_cons_of_mem _ (List.mem_cons_of_mem _ (List.mem_cons_of_mem _ (List.mem_cons_of_mem _ (List.mem_cons_of_mem _ (List.mem_cons_of_mem _ (List.mem_cons_of_mem _ (List.mem_cons_self ..))))))))))).1 (IntC.flag (ST50.out.getC (v := (.agg #[.bool n1, .slice a1 c1 d1])) (i := a) (List.mem_cons_of_mem _ (List.mem_cons_of_mem _ (List.mem_cons_of_mem _ (List.mem_cons_of_mem _ (List.mem_cons_of_mem _ (List.mem_cons_of_mem _ (List.mem_cons_of_mem _ (List.mem_cons_of_mem _ (List.mem_cons_self ..))))))))))).2 (IntC.flag (ST50.out.getC (v := (.agg #[.bool n2, .slice a2 c2 d2])) (i := b) (List.mem_cons_of_mem _ (List.mem_cons_of_mem _ (List.mem_cons_of_mem _ (List.mem_cons_of_mem _ (List.mem_cons_of_mem _ (List.mem_cons_of_mem _ (List.mem_cons_of_mem _ (List.mem_cons_self ..)))))))))).1 (IntC.flag (ST50.out.getC (v := (.agg #[.bool n2, .slice a2 c2 d2])) (i := b) (List.mem_cons_of_mem _ (List.mem_cons_of_mem _ (List.mem_cons_of_mem _ (List.mem_cons_of_mem _ (List.mem_cons_of_mem _ (List.mem_cons_of_mem _ (List.mem_cons_of_mem _ (List.mem_cons_self ..)))))))))).2 rfl rfl)
      rw [EQ.out.1, EQ.out.2.2, show kindK 0 = 1 from rfl] at C51
      refine C51.out.mono ?_
      rintro e W51 ⟨⟨n10, a10, c10, d10, rfl, hv⟩, hb⟩
      clear qbY_0 qbY_1 qbY_2 qbY_3 qbY_4 qbx_0 qbx_1 qbx_2 qbx_3 qbx_4
      have ST52 := Lib.hid (ST50.out.next hb hv)
      clear hb hv
      go_upto_region 11 with fail
      obtain ⟨W53, HW53⟩ : ∃ W', Hid (W' = W51.alloc (.cells #[(.int .i64 1), (.bool n10), (.slice a10 c10 d10), (.string ⟨#[]⟩), (.bool false)] 27)) := ⟨_, Lib.hid rfl⟩
      obtain ⟨br, Hbr⟩ : ∃ b, Hid (b = W51.heap.size) := ⟨_, Lib.hid rfl⟩
      have Obr := Lib.hid (ST52.out.old Hbr.out)
      have ST54 := Lib.hid (ST52.out.box Hbr.out HW53.out)
      rw [← HW53.out]
      try rw [← Hbr.out]
      go_upto_region 13 with fail
      have HC13 : Hid (∀ wx, Below W53.heap.size W53 wx → (fun w' : World => w'.cell? ⟨br, 0, none⟩ = some (.int .i64 1) ∧ w'.cell? ⟨br, 1, none⟩ = some (.bool n10) ∧ w'.cell? ⟨br, 2, none⟩ = some (.slice a10 c10 d10) ∧ w'.cell? ⟨br, 3, none⟩ = some (.string ⟨#[]⟩) ∧ w'.cell? ⟨br, 4, none⟩ = some (.bool false) ∧ w'.cell? ⟨bq, 0, none⟩ = some (.int .i64 1) ∧ w'.cell? ⟨bq, 1, none⟩ = some (.bool n9) ∧ w'.cell? ⟨bq, 2, none⟩ = some (.slice a9 c9 d9) ∧ w'.cell? ⟨bq, 3, none⟩ = some (.string ⟨#[]⟩) ∧ w'.cell? ⟨bq, 4, none⟩ = some (.bool false)) wx) := Lib.hid fun wx hx => by
        have h := ST54.out.go hx
        exact ⟨h.cell (List.mem_cons_self ..) 0 _ rfl, h.cell (List.mem_cons_self ..) 1 _ rfl, h.cell (List.mem_cons_self ..) 2 _ rfl, h.cell (List.mem_cons_self ..) 3 _ rfl, h.cell (List.mem_cons_self ..) 4 _ rfl, h.cell (List.mem_cons_of_mem _ (List.mem_cons_self ..)) 0 _ rfl, h.cell (List.mem_cons_of_mem _ (List.mem_cons_self ..)) 1 _ rfl, h.cell (List.mem_cons_of_mem _ (List.mem_cons_self ..)) 2 _ rfl, h.cell (List.mem_cons_of_mem _ (List.mem_cons_self ..)) 3 _ rfl, h.cell (List.mem_cons_of_mem _ (List.mem_cons_self ..)) 4 _ rfl⟩
      have hD13 := Lib.hid (Below.refl W53.heap.size W53).drew
      have ST55 := Lib.hid (ST54.out.go hD13.out)
      have HS := HC13.out W53.drew hD13.out
      refine wp_region_pi (fun w' : World => w'.cell? ⟨br, 0, none⟩ = some (.int .i64 1) ∧ w'.cell? ⟨br, 1, none⟩ = some (.bool n10) ∧ w'.cell? ⟨br, 2, none⟩ = some (.slice a10 c10 d10) ∧ w'.cell? ⟨br, 3, none⟩ = some (.string ⟨#[]⟩) ∧ w'.cell? ⟨br, 4, none⟩ = some (.bool false) ∧ w'.cell? ⟨bq, 0, none⟩ = some (.int .i64 1) ∧ w'.cell? ⟨bq, 1, none⟩ = some (.bool n9) ∧ w'.cell? ⟨bq, 2, none⟩ = some (.slice a9 c9 d9) ∧ w'.cell? ⟨bq, 3, none⟩ = some (.string ⟨#[]⟩) ∧ w'.cell? ⟨bq, 4, none⟩ = some (.bool false)) [(0, 1), (1, 1), (2, 1), (3, 1), (4, 1), (5, 1), (6, 1), (7, 1), (8, 1), (9, 1), (10, 0), (11, 1), (12, 1), (13, 1), (14, 2), (15, 2), (16, 1), (17, 1), (18, 0), (19, 1), (20, 1), (21, 1), (22, 2), (23, 3), (24, 3), (25, 3), (26, 3), (27, 3), (28, 3)] [(23, [17, 15, 10]), (23, [18]), (24, [17, 15, 10]), (24, [23, 18]), (25, [24, 17, 15, 10]), (25, [23, 18]), (26, [25, 24, 17, 15, 10]), (26, [25, 23, 18]), (27, [25, 24, 17, 15, 10]), (27, [25, 23, 18]), (28, [10]), (28, [18])] (by kernel_rfl) (by kernel_rfl) (fun _ _ _ _ _ h => h) (HS) ?_
      refine pq_pu (some 115) rfl rfl (by rfl) (fun ws => by go_simp; try with_reducible rfl) ?_; go_frame   -- 0 Op.move (Operand.tmp 13)
      refine pq_pu (some 116) rfl rfl (by rfl) (fun ws => by go_simp; try with_reducible rfl) ?_; go_frame   -- 1 Op.move (Operand.tmp 115)
      refine pq_pu (some 117) rfl rfl (by rfl) (fun ws => by go_simp; try with_reducible rfl) ?_; go_frame   -- 2 Op.move (Operand.tmp 15)
      refine pq_pu (some 118) rfl rfl (by rfl) (fun ws => by go_simp; try with_reducible rfl) ?_; go_frame   -- 3 Op.binOp BinOp.eql 29 (Operand.tmp 117) (Operand.const (Value.int IntKind.i64 0)) 29
      refine pq_pu (some 119) rfl rfl (by rfl) (fun ws => by go_simp; try with_reducible rfl) ?_; go_frame   -- 4 Op.pick (Operand.tmp 116) (Operand.tmp 118) (Operand.const (Value.bool false))
      refine pq_pu (some 120) rfl rfl (by rfl) (fun ws => by go_simp; try with_reducible rfl) ?_; go_frame   -- 5 Op.move (Operand.tmp 119)
      refine pq_pu (some 121) rfl rfl (by rfl) (fun ws => by go_simp; try with_reducible rfl) ?_; go_frame   -- 6 Op.move (Operand.tmp 17)
      refine pq_pu (some 122) rfl rfl (by rfl) (fun ws => by go_simp; try with_reducible rfl) ?_; go_frame   -- 7 Op.binOp BinOp.eql 29 (Operand.tmp 121) (Operand.const (Value.int IntKind.i64 0)) 29
      refine pq_pu (some 123) rfl rfl (by rfl) (fun ws => by go_simp; try with_reducible rfl) ?_; go_frame   -- 8 Op.pick (Operand.tmp 120) (Operand.tmp 122) (Operand.const (Value.bool false))
      refine pq_pu (some 124) rfl rfl (by rfl) (fun ws => by go_simp; try with_reducible rfl) ?_; go_frame   -- 9 Op.move (Operand.tmp 123)
      refine pq_ld (some 125) rfl rfl (by rfl) (fun ws HS => by go_split_ands; go_simp; try with_reducible rfl) ?_; go_frame   -- 10 Op.load 27 (Operand.tmp 14)
      refine pq_pu (some 126) rfl rfl (by rfl) (fun ws => by go_simp; try with_reducible rfl) ?_; go_frame   -- 11 Op.move (Operand.tmp 0)
      refine pq_pu (some 127) rfl rfl (by rfl) (fun ws => by go_simp; try with_reducible rfl) ?_; go_frame   -- 12 Op.move (Operand.tmp 1)
      refine pq_pu (some 128) rfl rfl (by rfl) (fun ws => by go_simp; try with_reducible rfl) ?_; go_frame   -- 13 Op.binOp BinOp.quo 3 (Operand.tmp 126) (Operand.tmp 127) 3
      refine pk_ke rfl (fun J hJ => ?_)   -- pi_ke 14 Op.call { callee := Callee.value (Operand.func 17), args := #[Operand.tmp 128], argTypes := #[3] }
      have C56 := Lib.hid (int_any (w := W53.drew) v4 HV4.out.2.1 HV4.out.2.2)
      go_wp2_with (go_at_call 17; refine C56.out.mono ?_; rintro e W56 ⟨⟨n11, a11, c11, d11, rfl, hv⟩, hb⟩; have ST56 := Lib.hid (ST55.out.next hb hv); have hD56 := Lib.hid (hD13.out.trans (Below.mono hb hD13.out.size)); clear hb)
      refine hJ _ _ (HC13.out W56 hD56.out) ?_
      clear hv
      refine pk_ke rfl (fun J hJ => ?_)   -- pi_ke 15 Op.call { callee := Callee.value (Operand.func 19), args := #[Operand.tmp 125, Operand.tmp 129], argTypes := #[27, 27] }
      have C57 := Lib.hid (equal_any (k1 := 1) (k2 := 1) (s1 := ⟨#[]⟩) (s2 := ⟨#[]⟩) (t1 := false) (t2 := false) (IntC.flag (ST56.out.getC (v := (.agg #[.bool n9, .slice a9 c9 d9])) (i := (a.tdiv b)) (List.mem_cons_of_mem _ (List.mem_cons_of_mem _ (List.mem_cons_self ..))))).1 (IntC.flag (ST56.out.getC (v := (.agg #[.bool n9, .slice a9 c9 d9])) (i := (a.tdiv b)) (List.mem_cons_of_mem _ (List.mem_cons_of_mem _ (List.mem_cons_self ..))))).2 (IntC.flag (ST56.out.getC (v := (.agg #[.bool n11, .slice a11 c11 d11])) (i := v4) (List.mem_cons_self ..))).1 (IntC.flag (ST56.out.getC (v := (.agg #[.bool n11, .slice a11 c11 d11])) (i := v4) (List.mem_cons_self ..))).2)
      rw [eqK_self HV4.out.1] at C57
      go_wp2_with (go_at_call 19; refine C57.out.mono ?_; rintro e W57 ⟨rfl, hb⟩; have ST57 := Lib.hid (ST56.out.go hb); have hD57 := Lib.hid (hD56.out.trans (Below.mono hb hD56.out.size)); clear hb)
      refine hJ _ _ (HC13.out W57 hD57.out) ?_
      refine pq_pu (some 131) rfl rfl (by rfl) (fun ws => by go_simp; try with_reducible rfl) ?_; go_frame   -- 16 Op.pick (Operand.tmp 124) (Operand.tmp 130) (Operand.const (Value.bool false))
      refine pq_pu (some 132) rfl rfl (by rfl) (fun ws => by go_simp; try with_reducible rfl) ?_; go_frame   -- 17 Op.move (Operand.tmp 131)
      refine pq_ld (some 133) rfl rfl (by rfl) (fun ws HS => by go_split_ands; go_simp; try with_reducible rfl) ?_; go_frame   -- 18 Op.load 27 (Operand.tmp 16)
      refine pq_pu (some 134) rfl rfl (by rfl) (fun ws => by go_simp; try with_reducible rfl) ?_; go_frame   -- 19 Op.move (Operand.tmp 0)
      refine pq_pu (some 135) rfl rfl (by rfl) (fun ws => by go_simp; try with_reducible rfl) ?_; go_frame   -- 20 Op.move (Operand.tmp 1)
      refine pq_pu (some 136) rfl rfl (by rfl) (fun ws => by go_simp; try with_reducible rfl) ?_; go_frame   -- 21 Op.binOp BinOp.rem 3 (Operand.tmp 134) (Operand.tmp 135) 3
      refine pk_ke rfl (fun J hJ => ?_)   -- pi_ke 22 Op.call { callee := Callee.value (Operand.func 17), args := #[Operand.tmp 136], argTypes := #[3] }
      have C58 := Lib.hid (int_any (w := W57) v5 HV5.out.2.1 HV5.out.2.2)
      go_wp2_with (go_at_call 17; refine C58.out.mono ?_; rintro e W58 ⟨⟨n12, a12, c12, d12, rfl, hv⟩, hb⟩; have ST58 := Lib.hid (ST57.out.next hb hv); have hD58 := Lib.hid (hD57.out.trans (Below.mono hb hD57.out.size)); clear hb)
      refine hJ _ _ (HC13.out W58 hD58.out) ?_
      clear hv
      refine pi_tail (by rfl) ?_; simp only [opsAt, List.getElem?_toArray, List.getElem?_cons_zero, List.getElem?_cons_succ]   -- [(23, 'Op.call { callee := Callee.value (Operand.func 19), args := #[Operand.tmp 133, Operand.tmp 137], argTypes := #[27, 27] }'), (24, 'Op.pick (Operand.tmp 132) (Operand.tmp 138) (Operand.const (Value.bool false))'), (25, 'Op.move (Operand.tmp 139)'), (26, 'Op.call { callee := Callee.value (Operand.func 16), args := #[], argTypes := #[] }'), (27, 'Op.pick (Operand.tmp 140) (Operand.tmp 141) (Operand.const (Value.bool false))'), (28, 'Op.assign (Operand.tmp 142)')]
      go_wp2_with (go_at_call 19; refine hold ?_)
      refine Hold.mk ?_
      have C59 := Lib.hid (equal_any (k1 := 1) (k2 := 1) (s1 := ⟨#[]⟩) (s2 := ⟨#[]⟩) (t1 := false) (t2 := false) (IntC.flag (ST58.out.getC (v := (.agg #[.bool n10, .slice a10 c10 d10])) (i := (a.tmod b)) (List.mem_cons_of_mem _ (List.mem_cons_of_mem _ (List.mem_cons_self ..))))).1 (IntC.flag (ST58.out.getC (v := (.agg #[.bool n10, .slice a10 c10 d10])) (i := (a.tmod b)) (List.mem_cons_of_mem _ (List.mem_cons_of_mem _ (List.mem_cons_self ..))))).2 (IntC.flag (ST58.out.getC (v := (.agg #[.bool n12, .slice a12 c12 d12])) (i := v5) (List.mem_cons_self ..))).1 (IntC.flag (ST58.out.getC (v := (.agg #[.bool n12, .slice a12 c12 d12])) (i := v5) (List.mem_cons_self ..))).2)
      rw [eqK_self HV5.out.1] at C59
      refine C59.out.mono ?_
      rintro e W59 ⟨rfl, hb⟩
      have ST60 := Lib.hid (ST58.out.go hb)
      clear hb
      go_wp2_with (go_at_call 16; refine hold ?_)
      refine Hold.mk ?_
      have C61 := Lib.hid (kawake_any (w := W59))
      refine C61.out.mono ?_
      rintro e W61 ⟨rfl, hb⟩
      have ST62 := Lib.hid (ST60.out.go hb)
      clear hb
      go_wp2_with fail
      go_ret
      exact ⟨rfl, ST62.out.below⟩

end Go.Proofs.YtcnakbhogmnddaaDoor
