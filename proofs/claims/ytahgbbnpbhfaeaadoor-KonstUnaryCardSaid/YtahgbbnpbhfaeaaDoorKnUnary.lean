/- The law KonstUnary: the walk. Condition: the int is one. -/
import Derived.Test.YtahgbbnpbhfaeaaDoorKnUnB
import Derived.Test.YtahgbbnpbhfaeaaDoorKnUnE
import Derived.Test.YtahgbbnpbhfaeaaDoorKnUnT
import Derived.Test.YtahgbbnpbhfaeaaDoorRegQ
namespace Go.Proofs.YtahgbbnpbhfaeaaDoor
open Go.RowKit

theorem knK {k : Int} (h : knownB k = true) : k = 1 ∨ k = 2 ∨ k = 3 := by
  unfold knownB at h
  simp only [Bool.or_eq_true, beq_iff_eq] at h
  omega

set_option maxRecDepth 100000 in
set_option maxHeartbeats 3200000 in
theorem konstUnary_any (op : ByteArray) (k1 : Int) (g1 : Bool) (a1 : Option Addr) (n1 c1 : Nat) (z1 : List Nat) (s1 : ByteArray) (t1 : Bool) (k2 : Int) (g2 : Bool) (a2 : Option Addr) (n2 c2 : Nat) (z2 : List Nat) (s2 : ByteArray) (t2 : Bool) (n : Int) (s : ByteArray) (w : World) (h1 : WordsAt w a1 n1 z1 ∧ n1 ≤ c1) (h2 : WordsAt w a2 n2 z2 ∧ n2 ≤ c2) (hn0 : -9223372036854775808 ≤ n) (hn1 : n ≤ 9223372036854775807) :
    Calls Tryd.prog 3 #[.string op, .agg #[.int .i64 k1, .bool g1, .slice a1 n1 c1, .string s1, .bool t1], .agg #[.int .i64 k2, .bool g2, .slice a2 n2 c2, .string s2, .bool t2], .int .i64 n, .string s] w fun e w' => e = .returned (.bool true) ∧ Below w.heap.size w w' := by
  have ST0 := Lib.hid (Sk.start w)
  have HN0 := Lib.hid (And.intro hn0 hn1)
  clear hn0 hn1
  have H1 := Lib.hid h1
  clear h1
  obtain ⟨x1, Hx1⟩ : ∃ x, Hid (valI g1 z1 = x) := ⟨_, Lib.hid rfl⟩
  have H2 := Lib.hid h2
  clear h2
  obtain ⟨x2, Hx2⟩ : ∃ x, Hid (valI g2 z2 = x) := ⟨_, Lib.hid rfl⟩
  go_enter Tryd.func3, Tryd.ntmps3
  go_upto_region 1 with fail
  obtain ⟨W1, HW1⟩ : ∃ W', Hid (W' = w.alloc (.cells #[(.int .i64 k1), (.bool g1), (.slice a1 n1 c1), (.string s1), (.bool t1)] 26)) := ⟨_, Lib.hid rfl⟩
  obtain ⟨p1, Hp1⟩ : ∃ b, Hid (b = w.heap.size) := ⟨_, Lib.hid rfl⟩
  have ST2 := Lib.hid (ST0.out.box Hp1.out HW1.out)
  obtain ⟨W3, HW3⟩ : ∃ W', Hid (W' = W1.alloc (.cells #[(.int .i64 k2), (.bool g2), (.slice a2 n2 c2), (.string s2), (.bool t2)] 26)) := ⟨_, Lib.hid rfl⟩
  obtain ⟨p2, Hp2⟩ : ∃ b, Hid (b = W1.heap.size) := ⟨_, Lib.hid rfl⟩
  have Op2 := Lib.hid (ST2.out.old Hp2.out)
  have ST4 := Lib.hid (ST2.out.box Hp2.out HW3.out)
  have hz1 : w.heap.size + 1 = p2 := by rw [Hp2.out, HW1.out, World.size_alloc]
  rw [← HW1.out, ← HW3.out]
  try rw [hz1]
  try rw [← Hp1.out]
  clear hz1
  have qp1_0 := ST4.out.cell (List.mem_cons_of_mem _ (List.mem_cons_self ..)) 0 _ rfl
  have qp1_1 := ST4.out.cell (List.mem_cons_of_mem _ (List.mem_cons_self ..)) 1 _ rfl
  have qp1_2 := ST4.out.cell (List.mem_cons_of_mem _ (List.mem_cons_self ..)) 2 _ rfl
  have qp1_3 := ST4.out.cell (List.mem_cons_of_mem _ (List.mem_cons_self ..)) 3 _ rfl
  have qp1_4 := ST4.out.cell (List.mem_cons_of_mem _ (List.mem_cons_self ..)) 4 _ rfl
  obtain ⟨u1, Hu1⟩ : ∃ u, Hid (inK k1 n1 s1 = u) := ⟨_, Lib.hid rfl⟩
  go_wp2_with (go_at_call 5; refine hold ?_)
  refine Hold.mk ?_
  have C5 := Lib.hid (kin_any (w := W3) k1 g1 a1 n1 c1 s1 t1)
  rw [Hu1.out] at C5
  refine C5.out.mono ?_
  rintro e W5 ⟨rfl, hb⟩
  clear qp1_0 qp1_1 qp1_2 qp1_3 qp1_4
  have ST6 := Lib.hid (ST4.out.go hb)
  clear hb
  cases u1 with
  | false =>
    go_wp2_with (go_at_call 6; refine hold ?_)
    refine Hold.mk ?_
    have C7 := Lib.hid (kawake_any (w := W5))
    refine C7.out.mono ?_
    rintro e W7 ⟨rfl, hb⟩
    have ST8 := Lib.hid (ST6.out.go hb)
    clear hb
    go_wp2_with fail
    go_ret
    exact ⟨rfl, ST8.out.below⟩
  | true =>
    have qp2_0 := ST6.out.cell (List.mem_cons_self ..) 0 _ rfl
    have qp2_1 := ST6.out.cell (List.mem_cons_self ..) 1 _ rfl
    have qp2_2 := ST6.out.cell (List.mem_cons_self ..) 2 _ rfl
    have qp2_3 := ST6.out.cell (List.mem_cons_self ..) 3 _ rfl
    have qp2_4 := ST6.out.cell (List.mem_cons_self ..) 4 _ rfl
    obtain ⟨u2, Hu2⟩ : ∃ u, Hid (inK k2 n2 s2 = u) := ⟨_, Lib.hid rfl⟩
    go_wp2_with (go_at_call 5; refine hold ?_)
    refine Hold.mk ?_
    have C9 := Lib.hid (kin_any (w := W5) k2 g2 a2 n2 c2 s2 t2)
    rw [Hu2.out] at C9
    refine C9.out.mono ?_
    rintro e W9 ⟨rfl, hb⟩
    clear qp2_0 qp2_1 qp2_2 qp2_3 qp2_4
    have ST10 := Lib.hid (ST6.out.go hb)
    clear hb
    cases u2 with
    | false =>
      go_wp2_with (go_at_call 6; refine hold ?_)
      refine Hold.mk ?_
      have C11 := Lib.hid (kawake_any (w := W9))
      refine C11.out.mono ?_
      rintro e W11 ⟨rfl, hb⟩
      have ST12 := Lib.hid (ST10.out.go hb)
      clear hb
      go_wp2_with fail
      go_ret
      exact ⟨rfl, ST12.out.below⟩
    | true =>
      by_cases ho : (20 : Int) < (op.size : Int)
      · skip
        go_wp2_with (go_at_call 6; refine hold ?_)
        refine Hold.mk ?_
        have C13 := Lib.hid (kawake_any (w := W9))
        refine C13.out.mono ?_
        rintro e W13 ⟨rfl, hb⟩
        have ST14 := Lib.hid (ST10.out.go hb)
        clear hb
        go_wp2_with fail
        go_ret
        exact ⟨rfl, ST14.out.below⟩
      · have ho' : decide ((20 : Int) < (op.size : Int)) = false := decide_eq_false ho
        clear ho
        by_cases hs : (300 : Int) < (s.size : Int)
        · skip
          go_wp2_with (go_at_call 6; refine hold ?_)
          refine Hold.mk ?_
          have C15 := Lib.hid (kawake_any (w := W9))
          refine C15.out.mono ?_
          rintro e W15 ⟨rfl, hb⟩
          have ST16 := Lib.hid (ST10.out.go hb)
          clear hb
          go_wp2_with fail
          go_ret
          exact ⟨rfl, ST16.out.below⟩
        · have hs' : decide ((300 : Int) < (s.size : Int)) = false := decide_eq_false hs
          clear hs
          have HI1 := Lib.hid (inK_parts Hu1.out)
          have ST17 := Lib.hid (ST10.out.num (IntV.below (⟨a1, n1, c1, rfl, H1.out.1, H1.out.2, by have := HI1.out.1; omega⟩ : IntV w (.agg #[.bool g1, .slice a1 n1 c1]) g1 z1) ST10.out.below))
          have HI2 := Lib.hid (inK_parts Hu2.out)
          have ST18 := Lib.hid (ST17.out.num (IntV.below (⟨a2, n2, c2, rfl, H2.out.1, H2.out.2, by have := HI2.out.1; omega⟩ : IntV w (.agg #[.bool g2, .slice a2 n2 c2]) g2 z2) ST17.out.below))
          have HK1 := Lib.hid (knK HI1.out.2.2)
          have HS1 := Lib.hid (show s1.size ≤ 70000 from by have := HI1.out.2.1; omega)
          obtain ⟨uk, Huk⟩ : ∃ u, Hid ((unK op k1 x1 t1).1 = u) := ⟨_, Lib.hid rfl⟩
          obtain ⟨ux, Hux⟩ : ∃ u, Hid ((unK op k1 x1 t1).2.1 = u) := ⟨_, Lib.hid rfl⟩
          obtain ⟨ut, Hut⟩ : ∃ u, Hid ((unK op k1 x1 t1).2.2.1 = u) := ⟨_, Lib.hid rfl⟩
          obtain ⟨ue, Hue⟩ : ∃ u, Hid ((unK op k1 x1 t1).2.2.2 = u) := ⟨_, Lib.hid rfl⟩
          have qp2_0 := ST18.out.cell (List.mem_cons_self ..) 0 _ rfl
          have qp2_1 := ST18.out.cell (List.mem_cons_self ..) 1 _ rfl
          have qp2_2 := ST18.out.cell (List.mem_cons_self ..) 2 _ rfl
          have qp2_3 := ST18.out.cell (List.mem_cons_self ..) 3 _ rfl
          have qp2_4 := ST18.out.cell (List.mem_cons_self ..) 4 _ rfl
          have qp1_0 := ST18.out.cell (List.mem_cons_of_mem _ (List.mem_cons_self ..)) 0 _ rfl
          have qp1_1 := ST18.out.cell (List.mem_cons_of_mem _ (List.mem_cons_self ..)) 1 _ rfl
          have qp1_2 := ST18.out.cell (List.mem_cons_of_mem _ (List.mem_cons_self ..)) 2 _ rfl
          have qp1_3 := ST18.out.cell (List.mem_cons_of_mem _ (List.mem_cons_self ..)) 3 _ rfl
          have qp1_4 := ST18.out.cell (List.mem_cons_of_mem _ (List.mem_cons_self ..)) 4 _ rfl
          go_wp2_with (go_at_call 7; refine hold ?_)
          refine Hold.mk ?_
          have C19 := Lib.hid (unary_any (w := W9) op (k1 := k1) (s1 := s1) (t1 := t1) (ST18.out.get (v := (.agg #[.bool g1, .slice a1 n1 c1])) (g := g1) (z := z1) (List.mem_cons_of_mem _ (List.mem_cons_self ..))) Hx1.out)
          rw [Huk.out, Hux.out, Hut.out, Hue.out] at C19
          refine C19.out.mono ?_
          rintro e W19 ⟨⟨n5, a5, c5, d5, rfl, hv⟩, hb⟩
          clear qp2_0 qp2_1 qp2_2 qp2_3 qp2_4 qp1_0 qp1_1 qp1_2 qp1_3 qp1_4
          have ST20 := Lib.hid (ST18.out.next hb hv)
          clear hb hv
          go_upto_region 4 with fail
          obtain ⟨W21, HW21⟩ : ∃ W', Hid (W' = W19.alloc (.cells #[(.int .i64 uk), (.bool n5), (.slice a5 c5 d5), (.string ⟨#[]⟩), (.bool ut)] 26)) := ⟨_, Lib.hid rfl⟩
          obtain ⟨b5, Hb5⟩ : ∃ b, Hid (b = W19.heap.size) := ⟨_, Lib.hid rfl⟩
          have Ob5 := Lib.hid (ST20.out.old Hb5.out)
          have ST22 := Lib.hid (ST20.out.box Hb5.out HW21.out)
          rw [← HW21.out]
          try rw [← Hb5.out]
          have qp2_0 := ST22.out.cell (List.mem_cons_of_mem _ (List.mem_cons_self ..)) 0 _ rfl
          have qp2_1 := ST22.out.cell (List.mem_cons_of_mem _ (List.mem_cons_self ..)) 1 _ rfl
          have qp2_2 := ST22.out.cell (List.mem_cons_of_mem _ (List.mem_cons_self ..)) 2 _ rfl
          have qp2_3 := ST22.out.cell (List.mem_cons_of_mem _ (List.mem_cons_self ..)) 3 _ rfl
          have qp2_4 := ST22.out.cell (List.mem_cons_of_mem _ (List.mem_cons_self ..)) 4 _ rfl
          have qp1_0 := ST22.out.cell (List.mem_cons_of_mem _ (List.mem_cons_of_mem _ (List.mem_cons_self ..))) 0 _ rfl
          have qp1_1 := ST22.out.cell (List.mem_cons_of_mem _ (List.mem_cons_of_mem _ (List.mem_cons_self ..))) 1 _ rfl
          have qp1_2 := ST22.out.cell (List.mem_cons_of_mem _ (List.mem_cons_of_mem _ (List.mem_cons_self ..))) 2 _ rfl
          have qp1_3 := ST22.out.cell (List.mem_cons_of_mem _ (List.mem_cons_of_mem _ (List.mem_cons_self ..))) 3 _ rfl
          have qp1_4 := ST22.out.cell (List.mem_cons_of_mem _ (List.mem_cons_of_mem _ (List.mem_cons_self ..))) 4 _ rfl
          go_wp2_with (go_at_call 8; refine hold ?_)
          refine Hold.mk ?_
          have C23 := Lib.hid (runary_any (w := W21) op (k1 := k1) (s1 := s1) (t1 := t1) (ST22.out.get (v := (.agg #[.bool g1, .slice a1 n1 c1])) (g := g1) (z := z1) (List.mem_cons_of_mem _ (List.mem_cons_of_mem _ (List.mem_cons_self ..)))) Hx1.out)
          rw [Huk.out, Hux.out, Hut.out, Hue.out] at C23
          refine C23.out.mono ?_
          rintro e W23 ⟨⟨n6, a6, c6, d6, rfl, hv⟩, hb⟩
          clear qp2_0 qp2_1 qp2_2 qp2_3 qp2_4 qp1_0 qp1_1 qp1_2 qp1_3 qp1_4
          have ST24 := Lib.hid (ST22.out.next hb hv)
          clear hb hv
          go_upto_region 5 with fail
          obtain ⟨W25, HW25⟩ : ∃ W', Hid (W' = W23.alloc (.cells #[(.int .i64 uk), (.bool n6), (.slice a6 c6 d6), (.string ⟨#[]⟩), (.bool ut)] 26)) := ⟨_, Lib.hid rfl⟩
          obtain ⟨b6, Hb6⟩ : ∃ b, Hid (b = W23.heap.size) := ⟨_, Lib.hid rfl⟩
          have Ob6 := Lib.hid (ST24.out.old Hb6.out)
          have ST26 := Lib.hid (ST24.out.box Hb6.out HW25.out)
          rw [← HW25.out]
          try rw [← Hb6.out]
          obtain ⟨r, Hr⟩ : ∃ r, Hid (eqK k1 k2 x1 x2 s1 s2 t1 t2 = r) := ⟨_, Lib.hid rfl⟩
          obtain ⟨q, Hq⟩ : ∃ q, Hid (textK k1 x1 s1 t1 = q) := ⟨_, Lib.hid rfl⟩
          obtain ⟨tn, Htn⟩ : ∃ b, Hid (decide ((0 : Int) < n) = b) := ⟨_, Lib.hid rfl⟩
          have htn : decide ((0 : Int) < n) = tn := Htn.out
          have HC5 : Hid (∀ wx, Below W25.heap.size W25 wx → (fun w' : World => w'.cell? ⟨b6, 0, none⟩ = some (.int .i64 uk) ∧ w'.cell? ⟨b6, 1, none⟩ = some (.bool n6) ∧ w'.cell? ⟨b6, 2, none⟩ = some (.slice a6 c6 d6) ∧ w'.cell? ⟨b6, 3, none⟩ = some (.string ⟨#[]⟩) ∧ w'.cell? ⟨b6, 4, none⟩ = some (.bool ut) ∧ w'.cell? ⟨b5, 0, none⟩ = some (.int .i64 uk) ∧ w'.cell? ⟨b5, 1, none⟩ = some (.bool n5) ∧ w'.cell? ⟨b5, 2, none⟩ = some (.slice a5 c5 d5) ∧ w'.cell? ⟨b5, 3, none⟩ = some (.string ⟨#[]⟩) ∧ w'.cell? ⟨b5, 4, none⟩ = some (.bool ut) ∧ w'.cell? ⟨p2, 0, none⟩ = some (.int .i64 k2) ∧ w'.cell? ⟨p2, 1, none⟩ = some (.bool g2) ∧ w'.cell? ⟨p2, 2, none⟩ = some (.slice a2 n2 c2) ∧ w'.cell? ⟨p2, 3, none⟩ = some (.string s2) ∧ w'.cell? ⟨p2, 4, none⟩ = some (.bool t2) ∧ w'.cell? ⟨p1, 0, none⟩ = some (.int .i64 k1) ∧ w'.cell? ⟨p1, 1, none⟩ = some (.bool g1) ∧ w'.cell? ⟨p1, 2, none⟩ = some (.slice a1 n1 c1) ∧ w'.cell? ⟨p1, 3, none⟩ = some (.string s1) ∧ w'.cell? ⟨p1, 4, none⟩ = some (.bool t1)) wx) := Lib.hid fun wx hx => by
            have h := ST26.out.go hx
            exact ⟨h.cell (List.mem_cons_self ..) 0 _ rfl, h.cell (List.mem_cons_self ..) 1 _ rfl, h.cell (List.mem_cons_self ..) 2 _ rfl, h.cell (List.mem_cons_self ..) 3 _ rfl, h.cell (List.mem_cons_self ..) 4 _ rfl, h.cell (List.mem_cons_of_mem _ (List.mem_cons_self ..)) 0 _ rfl, h.cell (List.mem_cons_of_mem _ (List.mem_cons_self ..)) 1 _ rfl, h.cell (List.mem_cons_of_mem _ (List.mem_cons_self ..)) 2 _ rfl, h.cell (List.mem_cons_of_mem _ (List.mem_cons_self ..)) 3 _ rfl, h.cell (List.mem_cons_of_mem _ (List.mem_cons_self ..)) 4 _ rfl, h.cell (List.mem_cons_of_mem _ (List.mem_cons_of_mem _ (List.mem_cons_self ..))) 0 _ rfl, h.cell (List.mem_cons_of_mem _ (List.mem_cons_of_mem _ (List.mem_cons_self ..))) 1 _ rfl, h.cell (List.mem_cons_of_mem _ (List.mem_cons_of_mem _ (List.mem_cons_self ..))) 2 _ rfl, h.cell (List.mem_cons_of_mem _ (List.mem_cons_of_mem _ (List.mem_cons_self ..))) 3 _ rfl, h.cell (List.mem_cons_of_mem _ (List.mem_cons_of_mem _ (List.mem_cons_self ..))) 4 _ rfl, h.cell (List.mem_cons_of_mem _ (List.mem_cons_of_mem _ (List.mem_cons_of_mem _ (List.mem_cons_self ..)))) 0 _ rfl, h.cell (List.mem_cons_of_mem _ (List.mem_cons_of_mem _ (List.mem_cons_of_mem _ (List.mem_cons_self ..)))) 1 _ rfl, h.cell (List.mem_cons_of_mem _ (List.mem_cons_of_mem _ (List.mem_cons_of_mem _ (List.mem_cons_self ..)))) 2 _ rfl, h.cell (List.mem_cons_of_mem _ (List.mem_cons_of_mem _ (List.mem_cons_of_mem _ (List.mem_cons_self ..)))) 3 _ rfl, h.cell (List.mem_cons_of_mem _ (List.mem_cons_of_mem _ (List.mem_cons_of_mem _ (List.mem_cons_self ..)))) 4 _ rfl⟩
          have hD5 := Lib.hid (Below.refl W25.heap.size W25).drew
          have ST27 := Lib.hid (ST26.out.go hD5.out)
          have HS := HC5.out W25.drew hD5.out
          refine wp_region_pi (fun w' : World => w'.cell? ⟨b6, 0, none⟩ = some (.int .i64 uk) ∧ w'.cell? ⟨b6, 1, none⟩ = some (.bool n6) ∧ w'.cell? ⟨b6, 2, none⟩ = some (.slice a6 c6 d6) ∧ w'.cell? ⟨b6, 3, none⟩ = some (.string ⟨#[]⟩) ∧ w'.cell? ⟨b6, 4, none⟩ = some (.bool ut) ∧ w'.cell? ⟨b5, 0, none⟩ = some (.int .i64 uk) ∧ w'.cell? ⟨b5, 1, none⟩ = some (.bool n5) ∧ w'.cell? ⟨b5, 2, none⟩ = some (.slice a5 c5 d5) ∧ w'.cell? ⟨b5, 3, none⟩ = some (.string ⟨#[]⟩) ∧ w'.cell? ⟨b5, 4, none⟩ = some (.bool ut) ∧ w'.cell? ⟨p2, 0, none⟩ = some (.int .i64 k2) ∧ w'.cell? ⟨p2, 1, none⟩ = some (.bool g2) ∧ w'.cell? ⟨p2, 2, none⟩ = some (.slice a2 n2 c2) ∧ w'.cell? ⟨p2, 3, none⟩ = some (.string s2) ∧ w'.cell? ⟨p2, 4, none⟩ = some (.bool t2) ∧ w'.cell? ⟨p1, 0, none⟩ = some (.int .i64 k1) ∧ w'.cell? ⟨p1, 1, none⟩ = some (.bool g1) ∧ w'.cell? ⟨p1, 2, none⟩ = some (.slice a1 n1 c1) ∧ w'.cell? ⟨p1, 3, none⟩ = some (.string s1) ∧ w'.cell? ⟨p1, 4, none⟩ = some (.bool t1)) [(0, 0), (1, 0), (2, 2), (3, 1), (4, 1), (5, 1), (6, 1), (7, 1), (8, 1), (9, 0), (10, 0), (12, 0), (13, 0), (11, 2), (14, 2), (15, 1), (16, 1), (17, 1), (18, 0), (20, 0), (19, 2), (21, 2), (22, 1), (23, 1), (24, 1), (25, 0), (27, 0), (26, 2), (28, 3), (29, 3), (30, 3), (31, 3), (32, 1), (34, 1), (33, 3), (35, 3), (36, 3), (37, 3), (38, 3), (39, 1), (41, 1), (40, 3), (42, 3), (43, 3), (44, 3), (45, 3), (46, 1), (47, 1), (49, 1), (50, 1), (48, 3), (51, 3), (52, 3), (53, 3), (54, 3), (55, 3), (56, 3), (57, 3)] [(28, [24, 23, 17, 16, 8, 3, 2, 0]), (28, [24, 23, 17, 16, 8, 3, 2, 1]), (28, [24, 23, 17, 14, 11, 9]), (28, [24, 23, 17, 14, 11, 10]), (28, [24, 23, 17, 14, 12]), (28, [24, 23, 17, 14, 13]), (28, [24, 21, 19, 18]), (28, [24, 21, 20]), (28, [26, 25]), (28, [27]), (29, [24, 23, 17, 16, 8, 3, 2, 0]), (29, [24, 23, 17, 16, 8, 3, 2, 1]), (29, [24, 23, 17, 14, 11, 9]), (29, [24, 23, 17, 14, 11, 10]), (29, [24, 23, 17, 14, 12]), (29, [24, 23, 17, 14, 13]), (29, [24, 21, 19, 18]), (29, [24, 21, 20]), (29, [26, 25]), (29, [28, 27]), (30, [24, 23, 17, 16, 8, 3, 2, 0]), (30, [24, 23, 17, 16, 8, 3, 2, 1]), (30, [24, 23, 17, 14, 11, 9]), (30, [24, 23, 17, 14, 11, 10]), (30, [24, 23, 17, 14, 12]), (30, [24, 23, 17, 14, 13]), (30, [24, 21, 19, 18]), (30, [24, 21, 20]), (30, [29, 26, 25]), (30, [29, 28, 27]), (31, [30, 24, 23, 17, 16, 8, 3, 2, 0]), (31, [30, 24, 23, 17, 16, 8, 3, 2, 1]), (31, [30, 24, 23, 17, 14, 11, 9]), (31, [30, 24, 23, 17, 14, 11, 10]), (31, [30, 24, 23, 17, 14, 12]), (31, [30, 24, 23, 17, 14, 13]), (31, [30, 24, 21, 19, 18]), (31, [30, 24, 21, 20]), (31, [29, 26, 25]), (31, [29, 28, 27]), (33, [31, 30, 24, 23, 17, 16, 8, 3, 2, 0]), (33, [31, 30, 24, 23, 17, 16, 8, 3, 2, 1]), (33, [31, 30, 24, 23, 17, 14, 11, 9]), (33, [31, 30, 24, 23, 17, 14, 11, 10]), (33, [31, 30, 24, 23, 17, 14, 12]), (33, [31, 30, 24, 23, 17, 14, 13]), (33, [31, 30, 24, 21, 19, 18]), (33, [31, 30, 24, 21, 20]), (33, [31, 29, 26, 25]), (33, [31, 29, 28, 27]), (35, [31, 30, 24, 23, 17, 16, 8, 3, 2, 0]), (35, [31, 30, 24, 23, 17, 16, 8, 3, 2, 1]), (35, [31, 30, 24, 23, 17, 14, 11, 9]), (35, [31, 30, 24, 23, 17, 14, 11, 10]), (35, [31, 30, 24, 23, 17, 14, 12]), (35, [31, 30, 24, 23, 17, 14, 13]), (35, [31, 30, 24, 21, 19, 18]), (35, [31, 30, 24, 21, 20]), (35, [31, 29, 26, 25]), (35, [31, 29, 28, 27]), (36, [31, 30, 24, 23, 17, 16, 8, 3, 2, 0]), (36, [31, 30, 24, 23, 17, 16, 8, 3, 2, 1]), (36, [31, 30, 24, 23, 17, 14, 11, 9]), (36, [31, 30, 24, 23, 17, 14, 11, 10]), (36, [31, 30, 24, 23, 17, 14, 12]), (36, [31, 30, 24, 23, 17, 14, 13]), (36, [31, 30, 24, 21, 19, 18]), (36, [31, 30, 24, 21, 20]), (36, [31, 29, 26, 25]), (36, [31, 29, 28, 27]), (37, [31, 30, 24, 23, 17, 16, 8, 3, 2, 0]), (37, [31, 30, 24, 23, 17, 16, 8, 3, 2, 1]), (37, [31, 30, 24, 23, 17, 14, 11, 9]), (37, [31, 30, 24, 23, 17, 14, 11, 10]), (37, [31, 30, 24, 23, 17, 14, 12]), (37, [31, 30, 24, 23, 17, 14, 13]), (37, [31, 30, 24, 21, 19, 18]), (37, [31, 30, 24, 21, 20]), (37, [31, 29, 26, 25]), (37, [31, 29, 28, 27]), (38, [37, 31, 30, 24, 23, 17, 16, 8, 3, 2, 0]), (38, [37, 31, 30, 24, 23, 17, 16, 8, 3, 2, 1]), (38, [37, 31, 30, 24, 23, 17, 14, 11, 9]), (38, [37, 31, 30, 24, 23, 17, 14, 11, 10]), (38, [37, 31, 30, 24, 23, 17, 14, 12]), (38, [37, 31, 30, 24, 23, 17, 14, 13]), (38, [37, 31, 30, 24, 21, 19, 18]), (38, [37, 31, 30, 24, 21, 20]), (38, [37, 31, 29, 26, 25]), (38, [37, 31, 29, 28, 27]), (40, [38, 37, 31, 30, 24, 23, 17, 16, 8, 3, 2, 0]), (40, [38, 37, 31, 30, 24, 23, 17, 16, 8, 3, 2, 1]), (40, [38, 37, 31, 30, 24, 23, 17, 14, 11, 9]), (40, [38, 37, 31, 30, 24, 23, 17, 14, 11, 10]), (40, [38, 37, 31, 30, 24, 23, 17, 14, 12]), (40, [38, 37, 31, 30, 24, 23, 17, 14, 13]), (40, [38, 37, 31, 30, 24, 21, 19, 18]), (40, [38, 37, 31, 30, 24, 21, 20]), (40, [38, 37, 31, 29, 26, 25]), (40, [38, 37, 31, 29, 28, 27]), (42, [38, 37, 31, 30, 24, 23, 17, 16, 8, 3, 2, 0]), (42, [38, 37, 31, 30, 24, 23, 17, 16, 8, 3, 2, 1]), (42, [38, 37, 31, 30, 24, 23, 17, 14, 11, 9]), (42, [38, 37, 31, 30, 24, 23, 17, 14, 11, 10]), (42, [38, 37, 31, 30, 24, 23, 17, 14, 12]), (42, [38, 37, 31, 30, 24, 23, 17, 14, 13]), (42, [38, 37, 31, 30, 24, 21, 19, 18]), (42, [38, 37, 31, 30, 24, 21, 20]), (42, [38, 37, 31, 29, 26, 25]), (42, [38, 37, 31, 29, 28, 27]), (43, [38, 37, 31, 30, 24, 23, 17, 16, 8, 3, 2, 0]), (43, [38, 37, 31, 30, 24, 23, 17, 16, 8, 3, 2, 1]), (43, [38, 37, 31, 30, 24, 23, 17, 14, 11, 9]), (43, [38, 37, 31, 30, 24, 23, 17, 14, 11, 10]), (43, [38, 37, 31, 30, 24, 23, 17, 14, 12]), (43, [38, 37, 31, 30, 24, 23, 17, 14, 13]), (43, [38, 37, 31, 30, 24, 21, 19, 18]), (43, [38, 37, 31, 30, 24, 21, 20]), (43, [38, 37, 31, 29, 26, 25]), (43, [38, 37, 31, 29, 28, 27]), (44, [38, 37, 31, 30, 24, 23, 17, 16, 8, 3, 2, 0]), (44, [38, 37, 31, 30, 24, 23, 17, 16, 8, 3, 2, 1]), (44, [38, 37, 31, 30, 24, 23, 17, 14, 11, 9]), (44, [38, 37, 31, 30, 24, 23, 17, 14, 11, 10]), (44, [38, 37, 31, 30, 24, 23, 17, 14, 12]), (44, [38, 37, 31, 30, 24, 23, 17, 14, 13]), (44, [38, 37, 31, 30, 24, 21, 19, 18]), (44, [38, 37, 31, 30, 24, 21, 20]), (44, [38, 37, 31, 29, 26, 25]), (44, [38, 37, 31, 29, 28, 27]), (45, [44, 38, 37, 31, 30, 24, 23, 17, 16, 8, 3, 2, 0]), (45, [44, 38, 37, 31, 30, 24, 23, 17, 16, 8, 3, 2, 1]), (45, [44, 38, 37, 31, 30, 24, 23, 17, 14, 11, 9]), (45, [44, 38, 37, 31, 30, 24, 23, 17, 14, 11, 10]), (45, [44, 38, 37, 31, 30, 24, 23, 17, 14, 12]), (45, [44, 38, 37, 31, 30, 24, 23, 17, 14, 13]), (45, [44, 38, 37, 31, 30, 24, 21, 19, 18]), (45, [44, 38, 37, 31, 30, 24, 21, 20]), (45, [44, 38, 37, 31, 29, 26, 25]), (45, [44, 38, 37, 31, 29, 28, 27]), (48, [45, 44, 38, 37, 31, 30, 24, 23, 17, 16, 8, 3, 2, 0]), (48, [45, 44, 38, 37, 31, 30, 24, 23, 17, 16, 8, 3, 2, 1]), (48, [45, 44, 38, 37, 31, 30, 24, 23, 17, 14, 11, 9]), (48, [45, 44, 38, 37, 31, 30, 24, 23, 17, 14, 11, 10]), (48, [45, 44, 38, 37, 31, 30, 24, 23, 17, 14, 12]), (48, [45, 44, 38, 37, 31, 30, 24, 23, 17, 14, 13]), (48, [45, 44, 38, 37, 31, 30, 24, 21, 19, 18]), (48, [45, 44, 38, 37, 31, 30, 24, 21, 20]), (48, [45, 44, 38, 37, 31, 29, 26, 25]), (48, [45, 44, 38, 37, 31, 29, 28, 27]), (51, [45, 44, 38, 37, 31, 30, 24, 23, 17, 16, 8, 3, 2, 0]), (51, [45, 44, 38, 37, 31, 30, 24, 23, 17, 16, 8, 3, 2, 1]), (51, [45, 44, 38, 37, 31, 30, 24, 23, 17, 14, 11, 9]), (51, [45, 44, 38, 37, 31, 30, 24, 23, 17, 14, 11, 10]), (51, [45, 44, 38, 37, 31, 30, 24, 23, 17, 14, 12]), (51, [45, 44, 38, 37, 31, 30, 24, 23, 17, 14, 13]), (51, [45, 44, 38, 37, 31, 30, 24, 21, 19, 18]), (51, [45, 44, 38, 37, 31, 30, 24, 21, 20]), (51, [45, 44, 38, 37, 31, 29, 26, 25]), (51, [45, 44, 38, 37, 31, 29, 28, 27]), (52, [45, 44, 38, 37, 31, 30, 24, 23, 17, 16, 8, 3, 2, 0]), (52, [45, 44, 38, 37, 31, 30, 24, 23, 17, 16, 8, 3, 2, 1]), (52, [45, 44, 38, 37, 31, 30, 24, 23, 17, 14, 11, 9]), (52, [45, 44, 38, 37, 31, 30, 24, 23, 17, 14, 11, 10]), (52, [45, 44, 38, 37, 31, 30, 24, 23, 17, 14, 12]), (52, [45, 44, 38, 37, 31, 30, 24, 23, 17, 14, 13]), (52, [45, 44, 38, 37, 31, 30, 24, 21, 19, 18]), (52, [45, 44, 38, 37, 31, 30, 24, 21, 20]), (52, [45, 44, 38, 37, 31, 29, 26, 25]), (52, [45, 44, 38, 37, 31, 29, 28, 27]), (53, [45, 44, 38, 37, 31, 30, 24, 23, 17, 16, 8, 3, 2, 0]), (53, [45, 44, 38, 37, 31, 30, 24, 23, 17, 16, 8, 3, 2, 1]), (53, [45, 44, 38, 37, 31, 30, 24, 23, 17, 14, 11, 9]), (53, [45, 44, 38, 37, 31, 30, 24, 23, 17, 14, 11, 10]), (53, [45, 44, 38, 37, 31, 30, 24, 23, 17, 14, 12]), (53, [45, 44, 38, 37, 31, 30, 24, 23, 17, 14, 13]), (53, [45, 44, 38, 37, 31, 30, 24, 21, 19, 18]), (53, [45, 44, 38, 37, 31, 30, 24, 21, 20]), (53, [45, 44, 38, 37, 31, 29, 26, 25]), (53, [45, 44, 38, 37, 31, 29, 28, 27]), (54, [53, 45, 44, 38, 37, 31, 30, 24, 23, 17, 16, 8, 3, 2, 0]), (54, [53, 45, 44, 38, 37, 31, 30, 24, 23, 17, 16, 8, 3, 2, 1]), (54, [53, 45, 44, 38, 37, 31, 30, 24, 23, 17, 14, 11, 9]), (54, [53, 45, 44, 38, 37, 31, 30, 24, 23, 17, 14, 11, 10]), (54, [53, 45, 44, 38, 37, 31, 30, 24, 23, 17, 14, 12]), (54, [53, 45, 44, 38, 37, 31, 30, 24, 23, 17, 14, 13]), (54, [53, 45, 44, 38, 37, 31, 30, 24, 21, 19, 18]), (54, [53, 45, 44, 38, 37, 31, 30, 24, 21, 20]), (54, [53, 45, 44, 38, 37, 31, 29, 26, 25]), (54, [53, 45, 44, 38, 37, 31, 29, 28, 27]), (55, [54, 53, 45, 44, 38, 37, 31, 30, 24, 23, 17, 16, 8, 3, 2, 0]), (55, [54, 53, 45, 44, 38, 37, 31, 30, 24, 23, 17, 16, 8, 3, 2, 1]), (55, [54, 53, 45, 44, 38, 37, 31, 30, 24, 23, 17, 14, 11, 9]), (55, [54, 53, 45, 44, 38, 37, 31, 30, 24, 23, 17, 14, 11, 10]), (55, [54, 53, 45, 44, 38, 37, 31, 30, 24, 23, 17, 14, 12]), (55, [54, 53, 45, 44, 38, 37, 31, 30, 24, 23, 17, 14, 13]), (55, [54, 53, 45, 44, 38, 37, 31, 30, 24, 21, 19, 18]), (55, [54, 53, 45, 44, 38, 37, 31, 30, 24, 21, 20]), (55, [54, 53, 45, 44, 38, 37, 31, 29, 26, 25]), (55, [54, 53, 45, 44, 38, 37, 31, 29, 28, 27]), (56, [54, 53, 45, 44, 38, 37, 31, 30, 24, 23, 17, 16, 8, 3, 2, 0]), (56, [54, 53, 45, 44, 38, 37, 31, 30, 24, 23, 17, 16, 8, 3, 2, 1]), (56, [54, 53, 45, 44, 38, 37, 31, 30, 24, 23, 17, 14, 11, 9]), (56, [54, 53, 45, 44, 38, 37, 31, 30, 24, 23, 17, 14, 11, 10]), (56, [54, 53, 45, 44, 38, 37, 31, 30, 24, 23, 17, 14, 12]), (56, [54, 53, 45, 44, 38, 37, 31, 30, 24, 23, 17, 14, 13]), (56, [54, 53, 45, 44, 38, 37, 31, 30, 24, 21, 19, 18]), (56, [54, 53, 45, 44, 38, 37, 31, 30, 24, 21, 20]), (56, [54, 53, 45, 44, 38, 37, 31, 29, 26, 25]), (56, [54, 53, 45, 44, 38, 37, 31, 29, 28, 27]), (57, [0]), (57, [1]), (57, [9]), (57, [10]), (57, [12]), (57, [13]), (57, [18]), (57, [20]), (57, [25]), (57, [27])] (by kernel_rfl) (by kernel_rfl) (fun _ _ _ _ _ h => h) (HS) ?_
          refine pq_ld (some 46) rfl rfl (by rfl) (fun ws HS => by go_split_ands; go_simp; try with_reducible rfl) ?_; go_frame   -- 0 Op.load 26 (Operand.tmp 11)
          refine pq_ld (some 47) rfl rfl (by rfl) (fun ws HS => by go_split_ands; go_simp; try with_reducible rfl) ?_; go_frame   -- 1 Op.load 26 (Operand.tmp 13)
          refine pk_ke rfl (fun J hJ => ?_)   -- pi_ke 2 Op.call { callee := Callee.value (Operand.func 9), args := #[Operand.tmp 46, Operand.tmp 47], argTypes := #[26, 26] }
          have C28 := Lib.hid (consts_any (w := W25.drew) uk n5 a5 c5 d5 ⟨#[]⟩ ut n6 a6 c6 d6 ux (ST27.out.getC (v := (.agg #[.bool n5, .slice a5 c5 d5])) (i := ux) (List.mem_cons_of_mem _ (List.mem_cons_self ..))) (ST27.out.getC (v := (.agg #[.bool n6, .slice a6 c6 d6])) (i := ux) (List.mem_cons_self ..)))
          go_wp2_with (go_at_call 9; refine C28.out.mono ?_; rintro e W28 ⟨rfl, hb⟩; have ST28 := Lib.hid (ST27.out.go hb); have hD28 := Lib.hid (hD5.out.trans (Below.mono hb hD5.out.size)); clear hb)
          refine hJ _ _ (HC5.out W28 hD28.out) ?_
          refine pq_pu (some 49) rfl rfl (by rfl) (fun ws => by go_simp; try with_reducible rfl) ?_; go_frame   -- 3 Op.move (Operand.tmp 48)
          refine pq_pu (some 50) rfl rfl (by rfl) (fun ws => by go_simp; try with_reducible rfl) ?_; go_frame   -- 4 Op.move (Operand.tmp 12)
          refine pq_pu (some 51) rfl rfl (by rfl) (fun ws => by go_simp; try with_reducible rfl) ?_; go_frame   -- 5 Op.move (Operand.tmp 14)
          refine pq_pu (some 52) rfl rfl (by rfl) (fun ws => by go_simp; try with_reducible rfl) ?_; go_frame   -- 6 Op.binOp BinOp.eql 3 (Operand.tmp 50) (Operand.tmp 51) 3
          refine pq_pu (some 53) rfl rfl (by rfl) (fun ws => by go_simp; try with_reducible rfl) ?_; go_frame   -- 7 Op.pick (Operand.tmp 49) (Operand.tmp 52) (Operand.const (Value.bool false))
          refine pq_pu (some 54) rfl rfl (by rfl) (fun ws => by go_simp; try with_reducible rfl) ?_; go_frame   -- 8 Op.move (Operand.tmp 53)
          refine pq_ld (some 55) rfl rfl (by rfl) (fun ws HS => by go_split_ands; go_simp; try with_reducible rfl) ?_; go_frame   -- 9 Op.load 26 (Operand.tmp 6)
          refine pq_ld (some 56) rfl rfl (by rfl) (fun ws HS => by go_split_ands; go_simp; try with_reducible rfl) ?_; go_frame   -- 10 Op.load 26 (Operand.tmp 7)
          refine pq_ld (some 58) rfl rfl (by rfl) (fun ws HS => by go_split_ands; go_simp; try with_reducible rfl) ?_; go_frame   -- 12 Op.load 26 (Operand.tmp 6)
          refine pq_ld (some 59) rfl rfl (by rfl) (fun ws HS => by go_split_ands; go_simp; try with_reducible rfl) ?_; go_frame   -- 13 Op.load 26 (Operand.tmp 7)
          refine pk_ke rfl (fun J hJ => ?_)   -- pi_ke 11 Op.call { callee := Callee.value (Operand.func 10), args := #[Operand.tmp 55, Operand.tmp 56], argTypes := #[26, 26] }
          have C29 := Lib.hid (equal_any (k1 := k1) (k2 := k2) (s1 := s1) (s2 := s2) (t1 := t1) (t2 := t2) (ST28.out.get (v := (.agg #[.bool g1, .slice a1 n1 c1])) (g := g1) (z := z1) (List.mem_cons_of_mem _ (List.mem_cons_of_mem _ (List.mem_cons_of_mem _ (List.mem_cons_self ..))))) Hx1.out (ST28.out.get (v := (.agg #[.bool g2, .slice a2 n2 c2])) (g := g2) (z := z2) (List.mem_cons_of_mem _ (List.mem_cons_of_mem _ (List.mem_cons_self ..)))) Hx2.out)
          rw [Hr.out] at C29
          go_wp2_with (go_at_call 10; refine C29.out.mono ?_; rintro e W29 ⟨rfl, hb⟩; have ST29 := Lib.hid (ST28.out.go hb); have hD29 := Lib.hid (hD28.out.trans (Below.mono hb hD28.out.size)); clear hb)
          refine hJ _ _ (HC5.out W29 hD29.out) ?_
          refine pk_ke rfl (fun J hJ => ?_)   -- pi_ke 14 Op.call { callee := Callee.value (Operand.func 11), args := #[Operand.tmp 58, Operand.tmp 59], argTypes := #[26, 26] }
          have C30 := Lib.hid (requal_any (k1 := k1) (k2 := k2) (s1 := s1) (s2 := s2) (t1 := t1) (t2 := t2) (ST29.out.get (v := (.agg #[.bool g1, .slice a1 n1 c1])) (g := g1) (z := z1) (List.mem_cons_of_mem _ (List.mem_cons_of_mem _ (List.mem_cons_of_mem _ (List.mem_cons_self ..))))) Hx1.out (ST29.out.get (v := (.agg #[.bool g2, .slice a2 n2 c2])) (g := g2) (z := z2) (List.mem_cons_of_mem _ (List.mem_cons_of_mem _ (List.mem_cons_self ..)))) Hx2.out HK1.out)
          rw [Hr.out] at C30
          go_wp2_with (go_at_call 11; refine C30.out.mono ?_; rintro e W30 ⟨rfl, hb⟩; have ST30 := Lib.hid (ST29.out.go hb); have hD30 := Lib.hid (hD29.out.trans (Below.mono hb hD29.out.size)); clear hb)
          refine hJ _ _ (HC5.out W30 hD30.out) ?_
          refine pq_pu (some 61) rfl rfl (by rfl) (fun ws => by go_simp; try with_reducible rfl) ?_; go_frame   -- 15 Op.binOp BinOp.eql 4 (Operand.tmp 57) (Operand.tmp 60) 4
          refine pq_pu (some 62) rfl rfl (by rfl) (fun ws => by go_simp; try with_reducible rfl) ?_; go_frame   -- 16 Op.pick (Operand.tmp 54) (Operand.tmp 61) (Operand.const (Value.bool false))
          refine pq_pu (some 63) rfl rfl (by rfl) (fun ws => by go_simp; try with_reducible rfl) ?_; go_frame   -- 17 Op.move (Operand.tmp 62)
          refine pq_ld (some 64) rfl rfl (by rfl) (fun ws HS => by go_split_ands; go_simp; try with_reducible rfl) ?_; go_frame   -- 18 Op.load 26 (Operand.tmp 6)
          refine pq_ld (some 66) rfl rfl (by rfl) (fun ws HS => by go_split_ands; go_simp; try with_reducible rfl) ?_; go_frame   -- 20 Op.load 26 (Operand.tmp 6)
          refine pk_ke rfl (fun J hJ => ?_)   -- pi_ke 19 Op.call { callee := Callee.value (Operand.func 12), args := #[Operand.tmp 64], argTypes := #[26] }
          have C31 := Lib.hid (ktext_any (k1 := k1) (s1 := s1) (t1 := t1) (ST30.out.get (v := (.agg #[.bool g1, .slice a1 n1 c1])) (g := g1) (z := z1) (List.mem_cons_of_mem _ (List.mem_cons_of_mem _ (List.mem_cons_of_mem _ (List.mem_cons_self ..))))) Hx1.out HK1.out HS1.out)
          rw [Hq.out] at C31
          go_wp2_with (go_at_call 12; refine C31.out.mono ?_; rintro e W31 ⟨rfl, hb⟩; have ST31 := Lib.hid (ST30.out.go hb); have hD31 := Lib.hid (hD30.out.trans (Below.mono hb hD30.out.size)); clear hb)
          refine hJ _ _ (HC5.out W31 hD31.out) ?_
          refine pk_ke rfl (fun J hJ => ?_)   -- pi_ke 21 Op.call { callee := Callee.value (Operand.func 13), args := #[Operand.tmp 66], argTypes := #[26] }
          have C32 := Lib.hid (rtext10_any (k1 := k1) (s1 := s1) (t1 := t1) (ST31.out.get (v := (.agg #[.bool g1, .slice a1 n1 c1])) (g := g1) (z := z1) (List.mem_cons_of_mem _ (List.mem_cons_of_mem _ (List.mem_cons_of_mem _ (List.mem_cons_self ..))))) Hx1.out HK1.out HS1.out)
          rw [Hq.out] at C32
          go_wp2_with (go_at_call 13; refine C32.out.mono ?_; rintro e W32 ⟨rfl, hb⟩; have ST32 := Lib.hid (ST31.out.go hb); have hD32 := Lib.hid (hD31.out.trans (Below.mono hb hD31.out.size)); clear hb)
          refine hJ _ _ (HC5.out W32 hD32.out) ?_
          refine pq_pu (some 68) rfl rfl (by rfl) (fun ws => by go_simp; try with_reducible rfl) ?_; go_frame   -- 22 Op.binOp BinOp.eql 9 (Operand.tmp 65) (Operand.tmp 67) 9
          refine pq_pu (some 69) rfl rfl (by rfl) (fun ws => by go_simp; try with_reducible rfl) ?_; go_frame   -- 23 Op.pick (Operand.tmp 63) (Operand.tmp 68) (Operand.const (Value.bool false))
          refine pq_pu (some 70) rfl rfl (by rfl) (fun ws => by go_simp; try with_reducible rfl) ?_; go_frame   -- 24 Op.move (Operand.tmp 69)
          refine pq_ld (some 71) rfl rfl (by rfl) (fun ws HS => by go_split_ands; go_simp; try with_reducible rfl) ?_; go_frame   -- 25 Op.load 26 (Operand.tmp 6)
          refine pq_ld (some 73) rfl rfl (by rfl) (fun ws HS => by go_split_ands; go_simp; try with_reducible rfl) ?_; go_frame   -- 27 Op.load 26 (Operand.tmp 6)
          refine pk_ke rfl (fun J hJ => ?_)   -- pi_ke 26 Op.call { callee := Callee.value (Operand.func 15), args := #[Operand.tmp 71], argTypes := #[26] }
          have C33 := Lib.hid (ktype_any (w := W32) k1 g1 a1 n1 c1 s1 t1 HK1.out)
          go_wp2_with (go_at_call 15; refine C33.out.mono ?_; rintro e W33 ⟨rfl, hb⟩; have ST33 := Lib.hid (ST32.out.go hb); have hD33 := Lib.hid (hD32.out.trans (Below.mono hb hD32.out.size)); clear hb)
          refine hJ _ _ (HC5.out W33 hD33.out) ?_
          refine pk_dr rfl (fun J hJ => ?_)   -- pi_dr 28 Op.call { callee := Callee.value (Operand.func 16), args := #[Operand.tmp 73], argTypes := #[26] }
          have C34 := Lib.hid (rtype_any (w := W33) k1 g1 a1 n1 c1 s1 t1 HK1.out)
          go_wp2_with (go_at_call 16; refine C34.out.mono ?_; rintro e W34 ⟨rfl, hb⟩; have ST34 := Lib.hid (ST33.out.go hb); have hD34 := Lib.hid (hD33.out.trans (Below.mono hb hD33.out.size)); clear hb)
          refine hJ _ _ ?_
          refine pk_dr rfl (fun J hJ => ?_)   -- pi_dr 29 Op.call { callee := Callee.value (Operand.func 14), args := #[Operand.tmp 72, Operand.tmp 74], argTypes := #[41, 41] }
          have C35 := Lib.hid (types_flat (k1 + 3) W34)
          go_wp2_with (go_at_call 14; refine C35.out.mono ?_; rintro e W35 ⟨rfl, hb⟩; have ST35 := Lib.hid (ST34.out.go hb); have hD35 := Lib.hid (hD34.out.trans (Below.mono hb hD34.out.size)); clear hb)
          refine hJ _ _ ?_
          refine pk_dr rfl (fun J hJ => ?_)   -- pi_dr 30 Op.pick (Operand.tmp 70) (Operand.tmp 75) (Operand.const (Value.bool false))
          go_wp2_with fail
          refine hJ _ _ ?_
          refine pk_dr rfl (fun J hJ => ?_)   -- pi_dr 31 Op.move (Operand.tmp 76)
          go_wp2_with fail
          refine hJ _ _ ?_
          refine pq_pu (some 78) rfl rfl (by rfl) (fun ws => by go_simp; try with_reducible rfl) ?_; go_frame   -- 32 Op.move (Operand.tmp 3)
          refine pq_pu (some 80) rfl rfl (by rfl) (fun ws => by go_simp; try with_reducible rfl) ?_; go_frame   -- 34 Op.move (Operand.tmp 3)
          refine pk_dr rfl (fun J hJ => ?_)   -- pi_dr 33 Op.call { callee := Callee.value (Operand.func 17), args := #[Operand.tmp 78], argTypes := #[3] }
          have C36 := Lib.hid (int_any (w := W35) n HN0.out.1 HN0.out.2)
          go_wp2_with (go_at_call 17; refine C36.out.mono ?_; rintro e W36 ⟨⟨n7, a7, c7, d7, rfl, hv⟩, hb⟩; have ST36 := Lib.hid (ST35.out.next hb hv); have hD36 := Lib.hid (hD35.out.trans (Below.mono hb hD35.out.size)); clear hb)
          refine hJ _ _ ?_
          refine pk_dr rfl (fun J hJ => ?_)   -- pi_dr 35 Op.call { callee := Callee.value (Operand.func 18), args := #[Operand.tmp 80], argTypes := #[3] }
          have C37 := Lib.hid (rint_any (w := W36) n HN0.out.1 HN0.out.2)
          go_wp2_with (go_at_call 18; refine C37.out.mono ?_; rintro e W37 ⟨⟨n8, a8, c8, d8, rfl, hv⟩, hb⟩; have ST37 := Lib.hid (ST36.out.next hb hv); have hD37 := Lib.hid (hD36.out.trans (Below.mono hb hD36.out.size)); clear hb)
          refine hJ _ _ ?_
          refine pk_dr rfl (fun J hJ => ?_)   -- pi_dr 36 Op.call { callee := Callee.value (Operand.func 9), args := #[Operand.tmp 79, Operand.tmp 81], argTypes := #[26, 26] }
          have C38 := Lib.hid (consts_any (w := W37) 1 n7 a7 c7 d7 ⟨#[]⟩ false n8 a8 c8 d8 n (ST37.out.getC (v := (.agg #[.bool n7, .slice a7 c7 d7])) (i := n) (List.mem_cons_of_mem _ (List.mem_cons_self ..))) (ST37.out.getC (v := (.agg #[.bool n8, .slice a8 c8 d8])) (i := n) (List.mem_cons_self ..)))
          go_wp2_with (go_at_call 9; refine C38.out.mono ?_; rintro e W38 ⟨rfl, hb⟩; have ST38 := Lib.hid (ST37.out.go hb); have hD38 := Lib.hid (hD37.out.trans (Below.mono hb hD37.out.size)); clear hb)
          refine hJ _ _ ?_
          refine pk_dr rfl (fun J hJ => ?_)   -- pi_dr 37 Op.pick (Operand.tmp 77) (Operand.tmp 82) (Operand.const (Value.bool false))
          go_wp2_with fail
          refine hJ _ _ ?_
          refine pk_dr rfl (fun J hJ => ?_)   -- pi_dr 38 Op.move (Operand.tmp 83)
          go_wp2_with fail
          refine hJ _ _ ?_
          refine pq_pu (some 85) rfl rfl (by rfl) (fun ws => by go_simp; try with_reducible rfl) ?_; go_frame   -- 39 Op.move (Operand.tmp 4)
          refine pq_pu (some 87) rfl rfl (by rfl) (fun ws => by go_simp; try with_reducible rfl) ?_; go_frame   -- 41 Op.move (Operand.tmp 4)
          refine pk_dr rfl (fun J hJ => ?_)   -- pi_dr 40 Op.call { callee := Callee.value (Operand.func 19), args := #[Operand.tmp 85], argTypes := #[9] }
          have C39 := Lib.hid (str_any (w := W38) s)
          go_wp2_with (go_at_call 19; refine C39.out.mono ?_; rintro e W39 ⟨⟨n9, a9, c9, d9, rfl, hv⟩, hb⟩; have ST39 := Lib.hid (ST38.out.next hb hv); have hD39 := Lib.hid (hD38.out.trans (Below.mono hb hD38.out.size)); clear hb)
          refine hJ _ _ ?_
          refine pk_dr rfl (fun J hJ => ?_)   -- pi_dr 42 Op.call { callee := Callee.value (Operand.func 20), args := #[Operand.tmp 87], argTypes := #[9] }
          have C40 := Lib.hid (rstr_any (w := W39) s)
          go_wp2_with (go_at_call 20; refine C40.out.mono ?_; rintro e W40 ⟨⟨n10, a10, c10, d10, rfl, hv⟩, hb⟩; have ST40 := Lib.hid (ST39.out.next hb hv); have hD40 := Lib.hid (hD39.out.trans (Below.mono hb hD39.out.size)); clear hb)
          refine hJ _ _ ?_
          refine pk_dr rfl (fun J hJ => ?_)   -- pi_dr 43 Op.call { callee := Callee.value (Operand.func 9), args := #[Operand.tmp 86, Operand.tmp 88], argTypes := #[26, 26] }
          have C41 := Lib.hid (consts_any (w := W40) 2 n9 a9 c9 d9 s false n10 a10 c10 d10 0 (ST40.out.getC (v := (.agg #[.bool n9, .slice a9 c9 d9])) (i := 0) (List.mem_cons_of_mem _ (List.mem_cons_self ..))) (ST40.out.getC (v := (.agg #[.bool n10, .slice a10 c10 d10])) (i := 0) (List.mem_cons_self ..)))
          go_wp2_with (go_at_call 9; refine C41.out.mono ?_; rintro e W41 ⟨rfl, hb⟩; have ST41 := Lib.hid (ST40.out.go hb); have hD41 := Lib.hid (hD40.out.trans (Below.mono hb hD40.out.size)); clear hb)
          refine hJ _ _ ?_
          refine pk_dr rfl (fun J hJ => ?_)   -- pi_dr 44 Op.pick (Operand.tmp 84) (Operand.tmp 89) (Operand.const (Value.bool false))
          go_wp2_with fail
          refine hJ _ _ ?_
          refine pk_dr rfl (fun J hJ => ?_)   -- pi_dr 45 Op.move (Operand.tmp 90)
          go_wp2_with fail
          refine hJ _ _ ?_
          refine pq_pu (some 92) rfl rfl (by rfl) (fun ws => by go_simp; try with_reducible rfl) ?_; go_frame   -- 46 Op.move (Operand.tmp 3)
          refine pq_pu (some 93) rfl rfl (by rfl) (fun ws => by go_simp; try with_reducible rfl) ?_; go_frame   -- 47 Op.binOp BinOp.gtr 3 (Operand.tmp 92) (Operand.const (Value.int IntKind.i64 0)) 3
          refine pq_pu (some 95) rfl rfl (by rfl) (fun ws => by go_simp; try with_reducible rfl) ?_; go_frame   -- 49 Op.move (Operand.tmp 3)
          refine pq_pu (some 96) rfl rfl (by rfl) (fun ws => by go_simp; try with_reducible rfl) ?_; go_frame   -- 50 Op.binOp BinOp.gtr 3 (Operand.tmp 95) (Operand.const (Value.int IntKind.i64 0)) 3
          refine pi_tail (by rfl) ?_; simp only [opsAt, List.getElem?_toArray, List.getElem?_cons_zero, List.getElem?_cons_succ]   -- [(48, 'Op.call { callee := Callee.value (Operand.func 21), args := #[Operand.tmp 93], argTypes := #[4] }'), (51, 'Op.call { callee := Callee.value (Operand.func 22), args := #[Operand.tmp 96], argTypes := #[4] }'), (52, 'Op.call { callee := Callee.value (Operand.func 9), args := #[Operand.tmp 94, Operand.tmp 97], argTypes := #[26, 26] }'), (53, 'Op.pick (Operand.tmp 91) (Operand.tmp 98) (Operand.const (Value.bool false))'), (54, 'Op.move (Operand.tmp 99)'), (55, 'Op.call { callee := Callee.value (Operand.func 6), args := #[], argTypes := #[] }'), (56, 'Op.pick (Operand.tmp 100) (Operand.tmp 101) (Operand.const (Value.bool false))'), (57, 'Op.assign (Operand.tmp 102)')]
          go_wp2_with (go_at_call 21; refine hold ?_)
          refine Hold.mk ?_
          have C42 := Lib.hid (bool_any (w := W41) tn)
          refine C42.out.mono ?_
          rintro e W42 ⟨⟨n11, a11, c11, d11, rfl, hv⟩, hb⟩
          have ST43 := Lib.hid (ST41.out.next hb hv)
          clear hb hv
          go_wp2_with (go_at_call 22; refine hold ?_)
          refine Hold.mk ?_
          have C44 := Lib.hid (rbool_any (w := W42) tn)
          refine C44.out.mono ?_
          rintro e W44 ⟨⟨n12, a12, c12, d12, rfl, hv⟩, hb⟩
          have ST45 := Lib.hid (ST43.out.next hb hv)
          clear hb hv
          go_wp2_with (go_at_call 9; refine hold ?_)
          refine Hold.mk ?_
          have C46 := Lib.hid (consts_any (w := W44) 3 n11 a11 c11 d11 ⟨#[]⟩ tn n12 a12 c12 d12 0 (ST45.out.getC (v := (.agg #[.bool n11, .slice a11 c11 d11])) (i := 0) (List.mem_cons_of_mem _ (List.mem_cons_self ..))) (ST45.out.getC (v := (.agg #[.bool n12, .slice a12 c12 d12])) (i := 0) (List.mem_cons_self ..)))
          refine C46.out.mono ?_
          rintro e W46 ⟨rfl, hb⟩
          have ST47 := Lib.hid (ST45.out.go hb)
          clear hb
          go_wp2_with (go_at_call 6; refine hold ?_)
          refine Hold.mk ?_
          have C48 := Lib.hid (kawake_any (w := W46))
          refine C48.out.mono ?_
          rintro e W48 ⟨rfl, hb⟩
          have ST49 := Lib.hid (ST47.out.go hb)
          clear hb
          go_wp2_with fail
          go_ret
          exact ⟨rfl, ST49.out.below⟩

end Go.Proofs.YtahgbbnpbhfaeaaDoor
