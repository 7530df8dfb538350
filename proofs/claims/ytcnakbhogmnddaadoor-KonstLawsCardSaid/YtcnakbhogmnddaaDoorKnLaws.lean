/- The law KonstLaws: the walk. No condition. -/
import Derived.Test.YtcnakbhogmnddaaDoorKnAwake
import Derived.Test.YtcnakbhogmnddaaDoorRegQ
namespace Go.Proofs.YtcnakbhogmnddaaDoor
open Go.RowKit

/-- Is a constant looked at? -/
def inK (k : Int) (n : Nat) (s : ByteArray) : Bool := decide (n ≤ 20) && (decide (s.size ≤ 300) && knownB k)

set_option maxRecDepth 100000 in
set_option maxHeartbeats 3200000 in
theorem kin_any {w : World} (k1 : Int) (g1 : Bool) (a1 : Option Addr) (n1 c1 : Nat) (s1 : ByteArray) (t1 : Bool)   :
    Calls Tryd.prog 20 #[.agg #[.int .i64 k1, .bool g1, .slice a1 n1 c1, .string s1, .bool t1]] w fun e w' => e = .returned (.bool (inK k1 n1 s1)) ∧ Below w.heap.size w w' := by
  have ST0 := Lib.hid (Sk.start w)
  obtain ⟨r, Hr⟩ : ∃ r, Hid (inK k1 n1 s1 = r) := ⟨_, Lib.hid rfl⟩
  rw [Hr.out]
  go_enter Tryd.func20, Tryd.ntmps20
  go_upto_region 1 with fail
  obtain ⟨W1, HW1⟩ : ∃ W', Hid (W' = w.alloc (.cells #[(.int .i64 k1), (.bool g1), (.slice a1 n1 c1), (.string s1), (.bool t1)] 27)) := ⟨_, Lib.hid rfl⟩
  obtain ⟨p1, Hp1⟩ : ∃ b, Hid (b = w.heap.size) := ⟨_, Lib.hid rfl⟩
  have ST2 := Lib.hid (ST0.out.box Hp1.out HW1.out)
  rw [← HW1.out]
  try rw [← Hp1.out]
  have qp1_0 := ST2.out.cell (List.mem_cons_self ..) 0 _ rfl
  have qp1_1 := ST2.out.cell (List.mem_cons_self ..) 1 _ rfl
  have qp1_2 := ST2.out.cell (List.mem_cons_self ..) 2 _ rfl
  have qp1_3 := ST2.out.cell (List.mem_cons_self ..) 3 _ rfl
  have qp1_4 := ST2.out.cell (List.mem_cons_self ..) 4 _ rfl
  by_cases h1 : n1 ≤ 20
  · by_cases h2 : s1.size ≤ 300
    · cases d1 : (k1 == 1) with
      | true =>
        have hr : r = true := by rw [← Hr.out]; unfold inK; unfold knownB; rw [decide_eq_true h1, decide_eq_true h2, d1]; rfl
        subst hr
        go_wp2_with fail
        go_ret
        exact ⟨rfl, ST2.out.below⟩
      | false =>
        cases d2 : (k1 == 2) with
        | true =>
          have hr : r = true := by rw [← Hr.out]; unfold inK; unfold knownB; rw [decide_eq_true h1, decide_eq_true h2, d1, d2]; rfl
          subst hr
          go_wp2_with fail
          go_ret
          exact ⟨rfl, ST2.out.below⟩
        | false =>
          cases d3 : (k1 == 3) with
          | true =>
            have hr : r = true := by rw [← Hr.out]; unfold inK; unfold knownB; rw [decide_eq_true h1, decide_eq_true h2, d1, d2, d3]; rfl
            subst hr
            go_wp2_with fail
            go_ret
            exact ⟨rfl, ST2.out.below⟩
          | false =>
            have hr : r = false := by rw [← Hr.out]; unfold inK; unfold knownB; rw [decide_eq_true h1, decide_eq_true h2, d1, d2, d3]; rfl
            subst hr
            go_wp2_with fail
            go_ret
            exact ⟨rfl, ST2.out.below⟩
    · skip
      have hr : r = false := by rw [← Hr.out]; unfold inK; rw [decide_eq_false h2]; simp
      subst hr
      go_wp2_with fail
      go_ret
      exact ⟨rfl, ST2.out.below⟩
  · skip
    have hr : r = false := by rw [← Hr.out]; unfold inK; rw [decide_eq_false h1]; rfl
    subst hr
    go_wp2_with fail
    go_ret
    exact ⟨rfl, ST2.out.below⟩

theorem inK_parts {k : Int} {n : Nat} {s : ByteArray} (h : inK k n s = true) : n ≤ 20 ∧ s.size ≤ 300 ∧ knownB k = true := by
  unfold inK at h
  simp only [Bool.and_eq_true, decide_eq_true_eq] at h
  exact h
theorem eqK_ok {k1 k2 x1 x2 : Int} {s1 s2 : ByteArray} {t1 t2 : Bool} {u : Bool} (h : okE k1 k2 = true) (ho : (ordK k1 x1 x2 s1 s2 t1 t2 == 0) = u) : eqK k1 k2 x1 x2 s1 s2 t1 t2 = u := by
  unfold okE at h
  simp only [Bool.and_eq_true] at h
  unfold eqK
  rw [h.1, h.2, ho]
  rfl

set_option maxRecDepth 100000 in
set_option maxHeartbeats 3200000 in
theorem konstLaws_any (k1 : Int) (g1 : Bool) (a1 : Option Addr) (n1 c1 : Nat) (z1 : List Nat) (s1 : ByteArray) (t1 : Bool) (k2 : Int) (g2 : Bool) (a2 : Option Addr) (n2 c2 : Nat) (z2 : List Nat) (s2 : ByteArray) (t2 : Bool) (w : World) (h1 : WordsAt w a1 n1 z1 ∧ n1 ≤ c1) (h2 : WordsAt w a2 n2 z2 ∧ n2 ≤ c2) :
    Calls Tryd.prog 15 #[.agg #[.int .i64 k1, .bool g1, .slice a1 n1 c1, .string s1, .bool t1], .agg #[.int .i64 k2, .bool g2, .slice a2 n2 c2, .string s2, .bool t2]] w fun e w' => e = .returned (.bool true) ∧ Below w.heap.size w w' := by
  have ST0 := Lib.hid (Sk.start w)
  have H1 := Lib.hid h1
  clear h1
  obtain ⟨x1, Hx1⟩ : ∃ x, Hid (valI g1 z1 = x) := ⟨_, Lib.hid rfl⟩
  have H2 := Lib.hid h2
  clear h2
  obtain ⟨x2, Hx2⟩ : ∃ x, Hid (valI g2 z2 = x) := ⟨_, Lib.hid rfl⟩
  go_enter Tryd.func15, Tryd.ntmps15
  go_upto_region 1 with fail
  obtain ⟨W1, HW1⟩ : ∃ W', Hid (W' = w.alloc (.cells #[(.int .i64 k1), (.bool g1), (.slice a1 n1 c1), (.string s1), (.bool t1)] 27)) := ⟨_, Lib.hid rfl⟩
  obtain ⟨p1, Hp1⟩ : ∃ b, Hid (b = w.heap.size) := ⟨_, Lib.hid rfl⟩
  have ST2 := Lib.hid (ST0.out.box Hp1.out HW1.out)
  obtain ⟨W3, HW3⟩ : ∃ W', Hid (W' = W1.alloc (.cells #[(.int .i64 k2), (.bool g2), (.slice a2 n2 c2), (.string s2), (.bool t2)] 27)) := ⟨_, Lib.hid rfl⟩
  obtain ⟨p2, Hp2⟩ : ∃ b, Hid (b = W1.heap.size) := ⟨_, Lib.hid rfl⟩
  have Op2 := Lib.hid (ST2.out.old Hp2.out)
  have ST4 := Lib.hid (ST2.out.box Hp2.out HW3.out)
  have hz1 : w.heap.size + 1 = p2 := by rw [Hp2.out, HW1.out, World.size_alloc]
  rw [← HW1.out, ← HW3.out]
  try rw [hz1]
  try rw [← Hp1.out]
  clear hz1
  have qp1_0 := ST4.out.cell (List.mem_cons_of_mem _ (List.mem_cons_self ..)) 0 _ rfl
  have qp1_1 := ST4.out.cell (List.mem_cons_of_mem _ (List.mem_cons_self ..)) 1 _ rfl
  have qp1_2 := ST4.out.cell (List.mem_cons_of_mem _ (List.mem_cons_self ..)) 2 _ rfl
  have qp1_3 := ST4.out.cell (List.mem_cons_of_mem _ (List.mem_cons_self ..)) 3 _ rfl
  have qp1_4 := ST4.out.cell (List.mem_cons_of_mem _ (List.mem_cons_self ..)) 4 _ rfl
  obtain ⟨u1, Hu1⟩ : ∃ u, Hid (inK k1 n1 s1 = u) := ⟨_, Lib.hid rfl⟩
  go_wp2_with (go_at_call 20; refine hold ?_)
  refine Hold.mk ?_
  have C5 := Lib.hid (kin_any (w := W3) k1 g1 a1 n1 c1 s1 t1)
  rw [Hu1.out] at C5
  refine C5.out.mono ?_
  rintro e W5 ⟨rfl, hb⟩
  clear qp1_0 qp1_1 qp1_2 qp1_3 qp1_4
  have ST6 := Lib.hid (ST4.out.go hb)
  clear hb
  cases u1 with
  | false =>
    go_wp2_with (go_at_call 16; refine hold ?_)
    refine Hold.mk ?_
    have C7 := Lib.hid (kawake_any (w := W5))
    refine C7.out.mono ?_
    rintro e W7 ⟨rfl, hb⟩
    have ST8 := Lib.hid (ST6.out.go hb)
    clear hb
    go_wp2_with fail
    go_ret
    exact ⟨rfl, ST8.out.below⟩
  | true =>
    have qp2_0 := ST6.out.cell (List.mem_cons_self ..) 0 _ rfl
    have qp2_1 := ST6.out.cell (List.mem_cons_self ..) 1 _ rfl
    have qp2_2 := ST6.out.cell (List.mem_cons_self ..) 2 _ rfl
    have qp2_3 := ST6.out.cell (List.mem_cons_self ..) 3 _ rfl
    have qp2_4 := ST6.out.cell (List.mem_cons_self ..) 4 _ rfl
    obtain ⟨u2, Hu2⟩ : ∃ u, Hid (inK k2 n2 s2 = u) := ⟨_, Lib.hid rfl⟩
    go_wp2_with (go_at_call 20; refine hold ?_)
    refine Hold.mk ?_
    have C9 := Lib.hid (kin_any (w := W5) k2 g2 a2 n2 c2 s2 t2)
    rw [Hu2.out] at C9
    refine C9.out.mono ?_
    rintro e W9 ⟨rfl, hb⟩
    clear qp2_0 qp2_1 qp2_2 qp2_3 qp2_4
    have ST10 := Lib.hid (ST6.out.go hb)
    clear hb
    cases u2 with
    | false =>
      go_wp2_with (go_at_call 16; refine hold ?_)
      refine Hold.mk ?_
      have C11 := Lib.hid (kawake_any (w := W9))
      refine C11.out.mono ?_
      rintro e W11 ⟨rfl, hb⟩
      have ST12 := Lib.hid (ST10.out.go hb)
      clear hb
      go_wp2_with fail
      go_ret
      exact ⟨rfl, ST12.out.below⟩
    | true =>
      have HI1 := Lib.hid (inK_parts Hu1.out)
      have ST13 := Lib.hid (ST10.out.num (IntV.below (⟨a1, n1, c1, rfl, H1.out.1, H1.out.2, by have := HI1.out.1; omega⟩ : IntV w (.agg #[.bool g1, .slice a1 n1 c1]) g1 z1) ST10.out.below))
      have HI2 := Lib.hid (inK_parts Hu2.out)
      have ST14 := Lib.hid (ST13.out.num (IntV.below (⟨a2, n2, c2, rfl, H2.out.1, H2.out.2, by have := HI2.out.1; omega⟩ : IntV w (.agg #[.bool g2, .slice a2 n2 c2]) g2 z2) ST13.out.below))
      obtain ⟨o, Ho⟩ : ∃ o, Hid (ordK k1 x1 x2 s1 s2 t1 t2 = o) := ⟨_, Lib.hid rfl⟩
      cases hok : okE k1 k2 with
      | false =>
        have Eok := Lib.hid hok
        have Lok := Lib.hid (show okL k1 k2 = false from by unfold okL; rw [hok]; rfl)
        clear hok
        have qp2_0 := ST14.out.cell (List.mem_cons_self ..) 0 _ rfl
        have qp2_1 := ST14.out.cell (List.mem_cons_self ..) 1 _ rfl
        have qp2_2 := ST14.out.cell (List.mem_cons_self ..) 2 _ rfl
        have qp2_3 := ST14.out.cell (List.mem_cons_self ..) 3 _ rfl
        have qp2_4 := ST14.out.cell (List.mem_cons_self ..) 4 _ rfl
        have qp1_0 := ST14.out.cell (List.mem_cons_of_mem _ (List.mem_cons_self ..)) 0 _ rfl
        have qp1_1 := ST14.out.cell (List.mem_cons_of_mem _ (List.mem_cons_self ..)) 1 _ rfl
        have qp1_2 := ST14.out.cell (List.mem_cons_of_mem _ (List.mem_cons_self ..)) 2 _ rfl
        have qp1_3 := ST14.out.cell (List.mem_cons_of_mem _ (List.mem_cons_self ..)) 3 _ rfl
        have qp1_4 := ST14.out.cell (List.mem_cons_of_mem _ (List.mem_cons_self ..)) 4 _ rfl
        go_wp2_with (go_at_call 18; refine hold ?_)
        refine Hold.mk ?_
        have C15 := Lib.hid (b_eq (k1 := k1) (k2 := k2) (s1 := s1) (s2 := s2) (t1 := t1) (t2 := t2) (ST14.out.get (v := (.agg #[.bool g1, .slice a1 n1 c1])) (g := g1) (z := z1) (List.mem_cons_of_mem _ (List.mem_cons_self ..))) Hx1.out (ST14.out.get (v := (.agg #[.bool g2, .slice a2 n2 c2])) (g := g2) (z := z2) (List.mem_cons_self ..)) Hx2.out)
        rw [Eok.out, Ho.out, Bool.false_and, show kE false = 0 from rfl, show fE false = 6 from rfl] at C15
        refine C15.out.mono ?_
        rintro e W15 ⟨⟨n5, a5, c5, d5, rfl, hv⟩, hb⟩
        clear qp2_0 qp2_1 qp2_2 qp2_3 qp2_4 qp1_0 qp1_1 qp1_2 qp1_3 qp1_4
        have ST16 := Lib.hid (ST14.out.next hb hv)
        clear hb hv
        go_upto_region 4 with fail
        obtain ⟨W17, HW17⟩ : ∃ W', Hid (W' = W15.alloc (.cells #[(.int .i64 0), (.bool n5), (.slice a5 c5 d5), (.string ⟨#[]⟩), (.bool false)] 27)) := ⟨_, Lib.hid rfl⟩
        obtain ⟨b5, Hb5⟩ : ∃ b, Hid (b = W15.heap.size) := ⟨_, Lib.hid rfl⟩
        have Ob5 := Lib.hid (ST16.out.old Hb5.out)
        have ST18 := Lib.hid (ST16.out.box Hb5.out HW17.out)
        rw [← HW17.out]
        try rw [← Hb5.out]
        have qp2_0 := ST18.out.cell (List.mem_cons_of_mem _ (List.mem_cons_self ..)) 0 _ rfl
        have qp2_1 := ST18.out.cell (List.mem_cons_of_mem _ (List.mem_cons_self ..)) 1 _ rfl
        have qp2_2 := ST18.out.cell (List.mem_cons_of_mem _ (List.mem_cons_self ..)) 2 _ rfl
        have qp2_3 := ST18.out.cell (List.mem_cons_of_mem _ (List.mem_cons_self ..)) 3 _ rfl
        have qp2_4 := ST18.out.cell (List.mem_cons_of_mem _ (List.mem_cons_self ..)) 4 _ rfl
        have qp1_0 := ST18.out.cell (List.mem_cons_of_mem _ (List.mem_cons_of_mem _ (List.mem_cons_self ..))) 0 _ rfl
        have qp1_1 := ST18.out.cell (List.mem_cons_of_mem _ (List.mem_cons_of_mem _ (List.mem_cons_self ..))) 1 _ rfl
        have qp1_2 := ST18.out.cell (List.mem_cons_of_mem _ (List.mem_cons_of_mem _ (List.mem_cons_self ..))) 2 _ rfl
        have qp1_3 := ST18.out.cell (List.mem_cons_of_mem _ (List.mem_cons_of_mem _ (List.mem_cons_self ..))) 3 _ rfl
        have qp1_4 := ST18.out.cell (List.mem_cons_of_mem _ (List.mem_cons_of_mem _ (List.mem_cons_self ..))) 4 _ rfl
        go_wp2_with (go_at_call 18; refine hold ?_)
        refine Hold.mk ?_
        have C19 := Lib.hid (b_ne (k1 := k1) (k2 := k2) (s1 := s1) (s2 := s2) (t1 := t1) (t2 := t2) (ST18.out.get (v := (.agg #[.bool g1, .slice a1 n1 c1])) (g := g1) (z := z1) (List.mem_cons_of_mem _ (List.mem_cons_of_mem _ (List.mem_cons_self ..)))) Hx1.out (ST18.out.get (v := (.agg #[.bool g2, .slice a2 n2 c2])) (g := g2) (z := z2) (List.mem_cons_of_mem _ (List.mem_cons_self ..))) Hx2.out)
        rw [Eok.out, Ho.out, Bool.false_and, show kE false = 0 from rfl, show fE false = 6 from rfl] at C19
        refine C19.out.mono ?_
        rintro e W19 ⟨⟨n6, a6, c6, d6, rfl, hv⟩, hb⟩
        clear qp2_0 qp2_1 qp2_2 qp2_3 qp2_4 qp1_0 qp1_1 qp1_2 qp1_3 qp1_4
        have ST20 := Lib.hid (ST18.out.next hb hv)
        clear hb hv
        go_upto_region 5 with fail
        obtain ⟨W21, HW21⟩ : ∃ W', Hid (W' = W19.alloc (.cells #[(.int .i64 0), (.bool n6), (.slice a6 c6 d6), (.string ⟨#[]⟩), (.bool false)] 27)) := ⟨_, Lib.hid rfl⟩
        obtain ⟨b6, Hb6⟩ : ∃ b, Hid (b = W19.heap.size) := ⟨_, Lib.hid rfl⟩
        have Ob6 := Lib.hid (ST20.out.old Hb6.out)
        have ST22 := Lib.hid (ST20.out.box Hb6.out HW21.out)
        rw [← HW21.out]
        try rw [← Hb6.out]
        have HC5 : Hid (∀ wx, Below W21.heap.size W21 wx → (fun w' : World => w'.cell? ⟨b6, 0, none⟩ = some (.int .i64 0) ∧ w'.cell? ⟨b6, 1, none⟩ = some (.bool n6) ∧ w'.cell? ⟨b6, 2, none⟩ = some (.slice a6 c6 d6) ∧ w'.cell? ⟨b6, 3, none⟩ = some (.string ⟨#[]⟩) ∧ w'.cell? ⟨b6, 4, none⟩ = some (.bool false) ∧ w'.cell? ⟨b5, 0, none⟩ = some (.int .i64 0) ∧ w'.cell? ⟨b5, 1, none⟩ = some (.bool n5) ∧ w'.cell? ⟨b5, 2, none⟩ = some (.slice a5 c5 d5) ∧ w'.cell? ⟨b5, 3, none⟩ = some (.string ⟨#[]⟩) ∧ w'.cell? ⟨b5, 4, none⟩ = some (.bool false) ∧ w'.cell? ⟨p2, 0, none⟩ = some (.int .i64 k2) ∧ w'.cell? ⟨p2, 1, none⟩ = some (.bool g2) ∧ w'.cell? ⟨p2, 2, none⟩ = some (.slice a2 n2 c2) ∧ w'.cell? ⟨p2, 3, none⟩ = some (.string s2) ∧ w'.cell? ⟨p2, 4, none⟩ = some (.bool t2) ∧ w'.cell? ⟨p1, 0, none⟩ = some (.int .i64 k1) ∧ w'.cell? ⟨p1, 1, none⟩ = some (.bool g1) ∧ w'.cell? ⟨p1, 2, none⟩ = some (.slice a1 n1 c1) ∧ w'.cell? ⟨p1, 3, none⟩ = some (.string s1) ∧ w'.cell? ⟨p1, 4, none⟩ = some (.bool t1)) wx) := Lib.hid fun wx hx => by
          have h := ST22.out.go hx
          exact ⟨h.cell (List.mem_cons_self ..) 0 _ rfl, h.cell (List.mem_cons_self ..) 1 _ rfl, h.cell (List.mem_cons_self ..) 2 _ rfl, h.cell (List.mem_cons_self ..) 3 _ rfl, h.cell (List.mem_cons_self ..) 4 _ rfl, h.cell (List.mem_cons_of_mem _ (List.mem_cons_self ..)) 0 _ rfl, h.cell (List.mem_cons_of_mem _ (List.mem_cons_self ..)) 1 _ rfl, h.cell (List.mem_cons_of_mem _ (List.mem_cons_self ..)) 2 _ rfl, h.cell (List.mem_cons_of_mem _ (List.mem_cons_self ..)) 3 _ rfl, h.cell (List.mem_cons_of_mem _ (List.mem_cons_self ..)) 4 _ rfl, h.cell (List.mem_cons_of_mem _ (List.mem_cons_of_mem _ (List.mem_cons_self ..))) 0 _ rfl, h.cell (List.mem_cons_of_mem _ (List.mem_cons_of_mem _ (List.mem_cons_self ..))) 1 _ rfl, h.cell (List.mem_cons_of_mem _ (List.mem_cons_of_mem _ (List.mem_cons_self ..))) 2 _ rfl, h.cell (List.mem_cons_of_mem _ (List.mem_cons_of_mem _ (List.mem_cons_self ..))) 3 _ rfl, h.cell (List.mem_cons_of_mem _ (List.mem_cons_of_mem _ (List.mem_cons_self ..))) 4 _ rfl, h.cell (List.mem_cons_of_mem _ (List.mem_cons_of_mem _ (List.mem_cons_of_mem _ (List.mem_cons_self ..)))) 0 _ rfl, h.cell (List.mem_cons_of_mem _ (List.mem_cons_of_mem _ (List.mem_cons_of_mem _ (List.mem_cons_self ..)))) 1 _ rfl, h.cell (List.mem_cons_of_mem _ (List.mem_cons_of_mem _ (List.mem_cons_of_mem _ (List.mem_cons_self ..)))) 2 _ rfl, h.cell (List.mem_cons_of_mem _ (List.mem_cons_of_mem _ (List.mem_cons_of_mem _ (List.mem_cons_self ..)))) 3 _ rfl, h.cell (List.mem_cons_of_mem _ (List.mem_cons_of_mem _ (List.mem_cons_of_mem _ (List.mem_cons_self ..)))) 4 _ rfl⟩
        have hD5 := Lib.hid (Below.refl W21.heap.size W21).drew
        have ST23 := Lib.hid (ST22.out.go hD5.out)
        have HS := HC5.out W21.drew hD5.out
        refine wp_region_pi (fun w' : World => w'.cell? ⟨b6, 0, none⟩ = some (.int .i64 0) ∧ w'.cell? ⟨b6, 1, none⟩ = some (.bool n6) ∧ w'.cell? ⟨b6, 2, none⟩ = some (.slice a6 c6 d6) ∧ w'.cell? ⟨b6, 3, none⟩ = some (.string ⟨#[]⟩) ∧ w'.cell? ⟨b6, 4, none⟩ = some (.bool false) ∧ w'.cell? ⟨b5, 0, none⟩ = some (.int .i64 0) ∧ w'.cell? ⟨b5, 1, none⟩ = some (.bool n5) ∧ w'.cell? ⟨b5, 2, none⟩ = some (.slice a5 c5 d5) ∧ w'.cell? ⟨b5, 3, none⟩ = some (.string ⟨#[]⟩) ∧ w'.cell? ⟨b5, 4, none⟩ = some (.bool false) ∧ w'.cell? ⟨p2, 0, none⟩ = some (.int .i64 k2) ∧ w'.cell? ⟨p2, 1, none⟩ = some (.bool g2) ∧ w'.cell? ⟨p2, 2, none⟩ = some (.slice a2 n2 c2) ∧ w'.cell? ⟨p2, 3, none⟩ = some (.string s2) ∧ w'.cell? ⟨p2, 4, none⟩ = some (.bool t2) ∧ w'.cell? ⟨p1, 0, none⟩ = some (.int .i64 k1) ∧ w'.cell? ⟨p1, 1, none⟩ = some (.bool g1) ∧ w'.cell? ⟨p1, 2, none⟩ = some (.slice a1 n1 c1) ∧ w'.cell? ⟨p1, 3, none⟩ = some (.string s1) ∧ w'.cell? ⟨p1, 4, none⟩ = some (.bool t1)) [(0, 1), (1, 1), (2, 1), (3, 1), (4, 1), (5, 1), (6, 1), (7, 1), (8, 0), (9, 1), (10, 0), (11, 1), (12, 1), (13, 1), (14, 0), (15, 0), (16, 0), (17, 2), (18, 1), (19, 1), (20, 1), (21, 1)] [] (by kernel_rfl) (by kernel_rfl) (fun _ _ _ _ _ h => h) (HS) ?_
        refine pq_pu (some 35) rfl rfl (by rfl) (fun ws => by go_simp; try with_reducible rfl) ?_; go_frame   -- 0 Op.move (Operand.tmp 6)
        refine pq_pu (some 36) rfl rfl (by rfl) (fun ws => by go_simp; try with_reducible rfl) ?_; go_frame   -- 1 Op.move (Operand.tmp 8)
        refine pq_pu (some 37) rfl rfl (by rfl) (fun ws => by go_simp; try with_reducible rfl) ?_; go_frame   -- 2 Op.binOp BinOp.neq 29 (Operand.tmp 35) (Operand.tmp 36) 29
        refine pq_pu (some 38) rfl rfl (by rfl) (fun ws => by go_simp; try with_reducible rfl) ?_; go_frame   -- 3 Op.move (Operand.tmp 37)
        refine pq_pu (some 39) rfl rfl (by rfl) (fun ws => by go_simp; try with_reducible rfl) ?_; go_frame   -- 4 Op.move (Operand.tmp 6)
        refine pq_pu (some 40) rfl rfl (by rfl) (fun ws => by go_simp; try with_reducible rfl) ?_; go_frame   -- 5 Op.binOp BinOp.eql 29 (Operand.tmp 39) (Operand.const (Value.int IntKind.i64 0)) 29
        refine pq_pu (some 41) rfl rfl (by rfl) (fun ws => by go_simp; try with_reducible rfl) ?_; go_frame   -- 6 Op.move (Operand.tmp 40)
        refine pq_pu_skip (some 42) rfl rfl (by rfl) ?_; go_frame   -- 7 Op.fieldAddr 27 (Operand.tmp 5) 3
        refine pq_ld_skip (some 43) rfl rfl (by rfl) ?_; go_frame   -- 8 Op.load 4 (Operand.tmp 42)
        refine pq_pu_skip (some 44) rfl rfl (by rfl) ?_; go_frame   -- 9 Op.fieldAddr 27 (Operand.tmp 7) 3
        refine pq_ld_skip (some 45) rfl rfl (by rfl) ?_; go_frame   -- 10 Op.load 4 (Operand.tmp 44)
        refine pq_pu_skip (some 46) rfl rfl (by rfl) ?_; go_frame   -- 11 Op.binOp BinOp.eql 4 (Operand.tmp 43) (Operand.tmp 45) 4
        refine pq_pu_skip (some 47) rfl rfl (by rfl) ?_; go_frame   -- 12 Op.move (Operand.tmp 46)
        refine pq_pu_skip (some 48) rfl rfl (by rfl) ?_; go_frame   -- 13 Op.fieldAddr 27 (Operand.tmp 5) 3
        refine pq_ld_skip (some 49) rfl rfl (by rfl) ?_; go_frame   -- 14 Op.load 4 (Operand.tmp 48)
        refine pq_ld_skip (some 50) rfl rfl (by rfl) ?_; go_frame   -- 15 Op.load 27 (Operand.tmp 2)
        refine pq_ld_skip (some 51) rfl rfl (by rfl) ?_; go_frame   -- 16 Op.load 27 (Operand.tmp 3)
        refine pk_ke rfl (fun J hJ => ?_)   -- pi_ke 17 Op.call { callee := Callee.value (Operand.func 19), args := #[Operand.tmp 50, Operand.tmp 51], argTypes := #[27, 27] }
        go_wp2_with fail
        refine hJ _ _ (HC5.out W21.drew hD5.out) ?_
        refine pq_pu_skip (some 53) rfl rfl (by rfl) ?_; go_frame   -- 18 Op.binOp BinOp.neq 4 (Operand.tmp 49) (Operand.tmp 52) 4
        refine pq_pu_skip (some 54) rfl rfl (by rfl) ?_; go_frame   -- 19 Op.pick (Operand.tmp 47) (Operand.const (Value.bool true)) (Operand.tmp 53)
        refine pq_pu (some 55) rfl rfl (by rfl) (fun ws => by go_simp; try with_reducible rfl) ?_; go_frame   -- 20 Op.pick (Operand.tmp 41) (Operand.tmp 54) (Operand.const (Value.bool false))
        refine pq_pu (some 56) rfl rfl (by rfl) (fun ws => by go_simp; try with_reducible rfl) ?_; go_frame   -- 21 Op.pick (Operand.tmp 38) (Operand.const (Value.bool true)) (Operand.tmp 55)
        refine pi_tail (r := []) rfl ?_; simp only [opsAt]
        have qp2_0 := ST23.out.cell (List.mem_cons_of_mem _ (List.mem_cons_of_mem _ (List.mem_cons_self ..))) 0 _ rfl
        have qp2_1 := ST23.out.cell (List.mem_cons_of_mem _ (List.mem_cons_of_mem _ (List.mem_cons_self ..))) 1 _ rfl
        have qp2_2 := ST23.out.cell (List.mem_cons_of_mem _ (List.mem_cons_of_mem _ (List.mem_cons_self ..))) 2 _ rfl
        have qp2_3 := ST23.out.cell (List.mem_cons_of_mem _ (List.mem_cons_of_mem _ (List.mem_cons_self ..))) 3 _ rfl
        have qp2_4 := ST23.out.cell (List.mem_cons_of_mem _ (List.mem_cons_of_mem _ (List.mem_cons_self ..))) 4 _ rfl
        have qp1_0 := ST23.out.cell (List.mem_cons_of_mem _ (List.mem_cons_of_mem _ (List.mem_cons_of_mem _ (List.mem_cons_self ..)))) 0 _ rfl
        have qp1_1 := ST23.out.cell (List.mem_cons_of_mem _ (List.mem_cons_of_mem _ (List.mem_cons_of_mem _ (List.mem_cons_self ..)))) 1 _ rfl
        have qp1_2 := ST23.out.cell (List.mem_cons_of_mem _ (List.mem_cons_of_mem _ (List.mem_cons_of_mem _ (List.mem_cons_self ..)))) 2 _ rfl
        have qp1_3 := ST23.out.cell (List.mem_cons_of_mem _ (List.mem_cons_of_mem _ (List.mem_cons_of_mem _ (List.mem_cons_self ..)))) 3 _ rfl
        have qp1_4 := ST23.out.cell (List.mem_cons_of_mem _ (List.mem_cons_of_mem _ (List.mem_cons_of_mem _ (List.mem_cons_self ..)))) 4 _ rfl
        go_wp2_with (go_at_call 18; refine hold ?_)
        refine Hold.mk ?_
        have C24 := Lib.hid (b_lt (k1 := k1) (k2 := k2) (s1 := s1) (s2 := s2) (t1 := t1) (t2 := t2) (ST23.out.get (v := (.agg #[.bool g1, .slice a1 n1 c1])) (g := g1) (z := z1) (List.mem_cons_of_mem _ (List.mem_cons_of_mem _ (List.mem_cons_of_mem _ (List.mem_cons_self ..))))) Hx1.out (ST23.out.get (v := (.agg #[.bool g2, .slice a2 n2 c2])) (g := g2) (z := z2) (List.mem_cons_of_mem _ (List.mem_cons_of_mem _ (List.mem_cons_self ..)))) Hx2.out)
        rw [Lok.out, Ho.out, Bool.false_and, show kE false = 0 from rfl, show fE false = 6 from rfl] at C24
        refine C24.out.mono ?_
        rintro e W24 ⟨⟨n7, a7, c7, d7, rfl, hv⟩, hb⟩
        clear qp2_0 qp2_1 qp2_2 qp2_3 qp2_4 qp1_0 qp1_1 qp1_2 qp1_3 qp1_4
        have ST25 := Lib.hid (ST23.out.next hb hv)
        clear hb hv
        go_upto_region 8 with fail
        obtain ⟨W26, HW26⟩ : ∃ W', Hid (W' = W24.alloc (.cells #[(.int .i64 0), (.bool n7), (.slice a7 c7 d7), (.string ⟨#[]⟩), (.bool false)] 27)) := ⟨_, Lib.hid rfl⟩
        obtain ⟨b7, Hb7⟩ : ∃ b, Hid (b = W24.heap.size) := ⟨_, Lib.hid rfl⟩
        have Ob7 := Lib.hid (ST25.out.old Hb7.out)
        have ST27 := Lib.hid (ST25.out.box Hb7.out HW26.out)
        rw [← HW26.out]
        try rw [← Hb7.out]
        have qp2_0 := ST27.out.cell (List.mem_cons_of_mem _ (List.mem_cons_of_mem _ (List.mem_cons_of_mem _ (List.mem_cons_self ..)))) 0 _ rfl
        have qp2_1 := ST27.out.cell (List.mem_cons_of_mem _ (List.mem_cons_of_mem _ (List.mem_cons_of_mem _ (List.mem_cons_self ..)))) 1 _ rfl
        have qp2_2 := ST27.out.cell (List.mem_cons_of_mem _ (List.mem_cons_of_mem _ (List.mem_cons_of_mem _ (List.mem_cons_self ..)))) 2 _ rfl
        have qp2_3 := ST27.out.cell (List.mem_cons_of_mem _ (List.mem_cons_of_mem _ (List.mem_cons_of_mem _ (List.mem_cons_self ..)))) 3 _ rfl
        have qp2_4 := ST27.out.cell (List.mem_cons_of_mem _ (List.mem_cons_of_mem _ (List.mem_cons_of_mem _ (List.mem_cons_self ..)))) 4 _ rfl
        have qp1_0 := ST27.out.cell (List.mem_cons_of_mem _ (List.mem_cons_of_mem _ (List.mem_cons_of_mem _ (List.mem_cons_of_mem _ (List.mem_cons_self ..))))) 0 _ rfl
        have qp1_1 := ST27.out.cell (List.mem_cons_of_mem _ (List.mem_cons_of_mem _ (List.mem_cons_of_mem _ (List.mem_cons_of_mem _ (List.mem_cons_self ..))))) 1 _ rfl
        have qp1_2 := ST27.out.cell (List.mem_cons_of_mem _ (List.mem_cons_of_mem _ (List.mem_cons_of_mem _ (List.mem_cons_of_mem _ (List.mem_cons_self ..))))) 2 _ rfl
        have qp1_3 := ST27.out.cell (List.mem_cons_of_mem _ (List.mem_cons_of_mem _ (List.mem_cons_of_mem _ (List.mem_cons_of_mem _ (List.mem_cons_self ..))))) 3 _ rfl
        have qp1_4 := ST27.out.cell (List.mem_cons_of_mem _ (List.mem_cons_of_mem _ (List.mem_cons_of_mem _ (List.mem_cons_of_mem _ (List.mem_cons_self ..))))) 4 _ rfl
        go_wp2_with (go_at_call 18; refine hold ?_)
        refine Hold.mk ?_
        have C28 := Lib.hid (b_gt (k1 := k1) (k2 := k2) (s1 := s1) (s2 := s2) (t1 := t1) (t2 := t2) (ST27.out.get (v := (.agg #[.bool g1, .slice a1 n1 c1])) (g := g1) (z := z1) (List.mem_cons_of_mem _ (List.mem_cons_of_mem _ (List.mem_cons_of_mem _ (List.mem_cons_of_mem _ (List.mem_cons_self ..)))))) Hx1.out (ST27.out.get (v := (.agg #[.bool g2, .slice a2 n2 c2])) (g := g2) (z := z2) (List.mem_cons_of_mem _ (List.mem_cons_of_mem _ (List.mem_cons_of_mem _ (List.mem_cons_self ..))))) Hx2.out)
        rw [Lok.out, Ho.out, Bool.false_and, show kE false = 0 from rfl, show fE false = 6 from rfl] at C28
        refine C28.out.mono ?_
        rintro e W28 ⟨⟨n8, a8, c8, d8, rfl, hv⟩, hb⟩
        clear qp2_0 qp2_1 qp2_2 qp2_3 qp2_4 qp1_0 qp1_1 qp1_2 qp1_3 qp1_4
        have ST29 := Lib.hid (ST27.out.next hb hv)
        clear hb hv
        go_upto_region 9 with fail
        obtain ⟨W30, HW30⟩ : ∃ W', Hid (W' = W28.alloc (.cells #[(.int .i64 0), (.bool n8), (.slice a8 c8 d8), (.string ⟨#[]⟩), (.bool false)] 27)) := ⟨_, Lib.hid rfl⟩
        obtain ⟨b8, Hb8⟩ : ∃ b, Hid (b = W28.heap.size) := ⟨_, Lib.hid rfl⟩
        have Ob8 := Lib.hid (ST29.out.old Hb8.out)
        have ST31 := Lib.hid (ST29.out.box Hb8.out HW30.out)
        rw [← HW30.out]
        try rw [← Hb8.out]
        have qb8_0 := ST31.out.cell (List.mem_cons_self ..) 0 _ rfl
        have qb8_1 := ST31.out.cell (List.mem_cons_self ..) 1 _ rfl
        have qb8_2 := ST31.out.cell (List.mem_cons_self ..) 2 _ rfl
        have qb8_3 := ST31.out.cell (List.mem_cons_self ..) 3 _ rfl
        have qb8_4 := ST31.out.cell (List.mem_cons_self ..) 4 _ rfl
        have qb7_0 := ST31.out.cell (List.mem_cons_of_mem _ (List.mem_cons_self ..)) 0 _ rfl
        have qb7_1 := ST31.out.cell (List.mem_cons_of_mem _ (List.mem_cons_self ..)) 1 _ rfl
        have qb7_2 := ST31.out.cell (List.mem_cons_of_mem _ (List.mem_cons_self ..)) 2 _ rfl
        have qb7_3 := ST31.out.cell (List.mem_cons_of_mem _ (List.mem_cons_self ..)) 3 _ rfl
        have qb7_4 := ST31.out.cell (List.mem_cons_of_mem _ (List.mem_cons_self ..)) 4 _ rfl
        have qb5_0 := ST31.out.cell (List.mem_cons_of_mem _ (List.mem_cons_of_mem _ (List.mem_cons_of_mem _ (List.mem_cons_self ..)))) 0 _ rfl
        have qb5_1 := ST31.out.cell (List.mem_cons_of_mem _ (List.mem_cons_of_mem _ (List.mem_cons_of_mem _ (List.mem_cons_self ..)))) 1 _ rfl
        have qb5_2 := ST31.out.cell (List.mem_cons_of_mem _ (List.mem_cons_of_mem _ (List.mem_cons_of_mem _ (List.mem_cons_self ..)))) 2 _ rfl
        have qb5_3 := ST31.out.cell (List.mem_cons_of_mem _ (List.mem_cons_of_mem _ (List.mem_cons_of_mem _ (List.mem_cons_self ..)))) 3 _ rfl
        have qb5_4 := ST31.out.cell (List.mem_cons_of_mem _ (List.mem_cons_of_mem _ (List.mem_cons_of_mem _ (List.mem_cons_self ..)))) 4 _ rfl
        go_wp2_with (go_at_call 16; refine hold ?_)
        refine Hold.mk ?_
        have C32 := Lib.hid (kawake_any (w := W30))
        refine C32.out.mono ?_
        rintro e W32 ⟨rfl, hb⟩
        clear qb8_0 qb8_1 qb8_2 qb8_3 qb8_4 qb7_0 qb7_1 qb7_2 qb7_3 qb7_4 qb5_0 qb5_1 qb5_2 qb5_3 qb5_4
        have ST33 := Lib.hid (ST31.out.go hb)
        clear hb
        go_wp2_with fail
        go_ret
        exact ⟨rfl, ST33.out.below⟩
      | true =>
        have Eok := Lib.hid hok
        clear hok
        by_cases hk3 : k1 = 3
        · have Lok := Lib.hid (show okL k1 k2 = false from by unfold okL; rw [Eok.out, hk3]; rfl)
          clear hk3
          cases hu : (o == 0) with
          | false =>
            have HU := Lib.hid hu
            have HN := Lib.hid (show (o != 0) = true from by simp only [bne, hu, Bool.not_true, Bool.not_false])
            have EQK := Lib.hid (eqK_ok (x1 := x1) (x2 := x2) (s1 := s1) (s2 := s2) (t1 := t1) (t2 := t2) (u := false) Eok.out (by rw [Ho.out]; exact hu))
            clear hu
            have qp2_0 := ST14.out.cell (List.mem_cons_self ..) 0 _ rfl
            have qp2_1 := ST14.out.cell (List.mem_cons_self ..) 1 _ rfl
            have qp2_2 := ST14.out.cell (List.mem_cons_self ..) 2 _ rfl
            have qp2_3 := ST14.out.cell (List.mem_cons_self ..) 3 _ rfl
            have qp2_4 := ST14.out.cell (List.mem_cons_self ..) 4 _ rfl
            have qp1_0 := ST14.out.cell (List.mem_cons_of_mem _ (List.mem_cons_self ..)) 0 _ rfl
            have qp1_1 := ST14.out.cell (List.mem_cons_of_mem _ (List.mem_cons_self ..)) 1 _ rfl
            have qp1_2 := ST14.out.cell (List.mem_cons_of_mem _ (List.mem_cons_self ..)) 2 _ rfl
            have qp1_3 := ST14.out.cell (List.mem_cons_of_mem _ (List.mem_cons_self ..)) 3 _ rfl
            have qp1_4 := ST14.out.cell (List.mem_cons_of_mem _ (List.mem_cons_self ..)) 4 _ rfl
            go_wp2_with (go_at_call 18; refine hold ?_)
            refine Hold.mk ?_
            have C34 := Lib.hid (b_eq (k1 := k1) (k2 := k2) (s1 := s1) (s2 := s2) (t1 := t1) (t2 := t2) (ST14.out.get (v := (.agg #[.bool g1, .slice a1 n1 c1])) (g := g1) (z := z1) (List.mem_cons_of_mem _ (List.mem_cons_self ..))) Hx1.out (ST14.out.get (v := (.agg #[.bool g2, .slice a2 n2 c2])) (g := g2) (z := z2) (List.mem_cons_self ..)) Hx2.out)
            rw [Eok.out, Ho.out, HU.out, show kE true = 3 from rfl, show fE true = 0 from rfl, show (true && false) = false from rfl] at C34
            refine C34.out.mono ?_
            rintro e W34 ⟨⟨n5, a5, c5, d5, rfl, hv⟩, hb⟩
            clear qp2_0 qp2_1 qp2_2 qp2_3 qp2_4 qp1_0 qp1_1 qp1_2 qp1_3 qp1_4
            have ST35 := Lib.hid (ST14.out.next hb hv)
            clear hb hv
            go_upto_region 4 with fail
            obtain ⟨W36, HW36⟩ : ∃ W', Hid (W' = W34.alloc (.cells #[(.int .i64 3), (.bool n5), (.slice a5 c5 d5), (.string ⟨#[]⟩), (.bool false)] 27)) := ⟨_, Lib.hid rfl⟩
            obtain ⟨b5, Hb5⟩ : ∃ b, Hid (b = W34.heap.size) := ⟨_, Lib.hid rfl⟩
            have Ob5 := Lib.hid (ST35.out.old Hb5.out)
            have ST37 := Lib.hid (ST35.out.box Hb5.out HW36.out)
            rw [← HW36.out]
            try rw [← Hb5.out]
            have qp2_0 := ST37.out.cell (List.mem_cons_of_mem _ (List.mem_cons_self ..)) 0 _ rfl
            have qp2_1 := ST37.out.cell (List.mem_cons_of_mem _ (List.mem_cons_self ..)) 1 _ rfl
            have qp2_2 := ST37.out.cell (List.mem_cons_of_mem _ (List.mem_cons_self ..)) 2 _ rfl
            have qp2_3 := ST37.out.cell (List.mem_cons_of_mem _ (List.mem_cons_self ..)) 3 _ rfl
            have qp2_4 := ST37.out.cell (List.mem_cons_of_mem _ (List.mem_cons_self ..)) 4 _ rfl
            have qp1_0 := ST37.out.cell (List.mem_cons_of_mem _ (List.mem_cons_of_mem _ (List.mem_cons_self ..))) 0 _ rfl
            have qp1_1 := ST37.out.cell (List.mem_cons_of_mem _ (List.mem_cons_of_mem _ (List.mem_cons_self ..))) 1 _ rfl
            have qp1_2 := ST37.out.cell (List.mem_cons_of_mem _ (List.mem_cons_of_mem _ (List.mem_cons_self ..))) 2 _ rfl
            have qp1_3 := ST37.out.cell (List.mem_cons_of_mem _ (List.mem_cons_of_mem _ (List.mem_cons_self ..))) 3 _ rfl
            have qp1_4 := ST37.out.cell (List.mem_cons_of_mem _ (List.mem_cons_of_mem _ (List.mem_cons_self ..))) 4 _ rfl
            go_wp2_with (go_at_call 18; refine hold ?_)
            refine Hold.mk ?_
            have C38 := Lib.hid (b_ne (k1 := k1) (k2 := k2) (s1 := s1) (s2 := s2) (t1 := t1) (t2 := t2) (ST37.out.get (v := (.agg #[.bool g1, .slice a1 n1 c1])) (g := g1) (z := z1) (List.mem_cons_of_mem _ (List.mem_cons_of_mem _ (List.mem_cons_self ..)))) Hx1.out (ST37.out.get (v := (.agg #[.bool g2, .slice a2 n2 c2])) (g := g2) (z := z2) (List.mem_cons_of_mem _ (List.mem_cons_self ..))) Hx2.out)
            rw [Eok.out, Ho.out, HN.out, show kE true = 3 from rfl, show fE true = 0 from rfl, show (true && true) = true from rfl] at C38
            refine C38.out.mono ?_
            rintro e W38 ⟨⟨n6, a6, c6, d6, rfl, hv⟩, hb⟩
            clear qp2_0 qp2_1 qp2_2 qp2_3 qp2_4 qp1_0 qp1_1 qp1_2 qp1_3 qp1_4
            have ST39 := Lib.hid (ST37.out.next hb hv)
            clear hb hv
            go_upto_region 5 with fail
            obtain ⟨W40, HW40⟩ : ∃ W', Hid (W' = W38.alloc (.cells #[(.int .i64 3), (.bool n6), (.slice a6 c6 d6), (.string ⟨#[]⟩), (.bool true)] 27)) := ⟨_, Lib.hid rfl⟩
            obtain ⟨b6, Hb6⟩ : ∃ b, Hid (b = W38.heap.size) := ⟨_, Lib.hid rfl⟩
            have Ob6 := Lib.hid (ST39.out.old Hb6.out)
            have ST41 := Lib.hid (ST39.out.box Hb6.out HW40.out)
            rw [← HW40.out]
            try rw [← Hb6.out]
            have HC5 : Hid (∀ wx, Below W40.heap.size W40 wx → (fun w' : World => w'.cell? ⟨b6, 0, none⟩ = some (.int .i64 3) ∧ w'.cell? ⟨b6, 1, none⟩ = some (.bool n6) ∧ w'.cell? ⟨b6, 2, none⟩ = some (.slice a6 c6 d6) ∧ w'.cell? ⟨b6, 3, none⟩ = some (.string ⟨#[]⟩) ∧ w'.cell? ⟨b6, 4, none⟩ = some (.bool true) ∧ w'.cell? ⟨b5, 0, none⟩ = some (.int .i64 3) ∧ w'.cell? ⟨b5, 1, none⟩ = some (.bool n5) ∧ w'.cell? ⟨b5, 2, none⟩ = some (.slice a5 c5 d5) ∧ w'.cell? ⟨b5, 3, none⟩ = some (.string ⟨#[]⟩) ∧ w'.cell? ⟨b5, 4, none⟩ = some (.bool false) ∧ w'.cell? ⟨p2, 0, none⟩ = some (.int .i64 k2) ∧ w'.cell? ⟨p2, 1, none⟩ = some (.bool g2) ∧ w'.cell? ⟨p2, 2, none⟩ = some (.slice a2 n2 c2) ∧ w'.cell? ⟨p2, 3, none⟩ = some (.string s2) ∧ w'.cell? ⟨p2, 4, none⟩ = some (.bool t2) ∧ w'.cell? ⟨p1, 0, none⟩ = some (.int .i64 k1) ∧ w'.cell? ⟨p1, 1, none⟩ = some (.bool g1) ∧ w'.cell? ⟨p1, 2, none⟩ = some (.slice a1 n1 c1) ∧ w'.cell? ⟨p1, 3, none⟩ = some (.string s1) ∧ w'.cell? ⟨p1, 4, none⟩ = some (.bool t1)) wx) := Lib.hid fun wx hx => by
              have h := ST41.out.go hx
              exact ⟨h.cell (List.mem_cons_self ..) 0 _ rfl, h.cell (List.mem_cons_self ..) 1 _ rfl, h.cell (List.mem_cons_self ..) 2 _ rfl, h.cell (List.mem_cons_self ..) 3 _ rfl, h.cell (List.mem_cons_self ..) 4 _ rfl, h.cell (List.mem_cons_of_mem _ (List.mem_cons_self ..)) 0 _ rfl, h.cell (List.mem_cons_of_mem _ (List.mem_cons_self ..)) 1 _ rfl, h.cell (List.mem_cons_of_mem _ (List.mem_cons_self ..)) 2 _ rfl, h.cell (List.mem_cons_of_mem _ (List.mem_cons_self ..)) 3 _ rfl, h.cell (List.mem_cons_of_mem _ (List.mem_cons_self ..)) 4 _ rfl, h.cell (List.mem_cons_of_mem _ (List.mem_cons_of_mem _ (List.mem_cons_self ..))) 0 _ rfl, h.cell (List.mem_cons_of_mem _ (List.mem_cons_of_mem _ (List.mem_cons_self ..))) 1 _ rfl, h.cell (List.mem_cons_of_mem _ (List.mem_cons_of_mem _ (List.mem_cons_self ..))) 2 _ rfl, h.cell (List.mem_cons_of_mem _ (List.mem_cons_of_mem _ (List.mem_cons_self ..))) 3 _ rfl, h.cell (List.mem_cons_of_mem _ (List.mem_cons_of_mem _ (List.mem_cons_self ..))) 4 _ rfl, h.cell (List.mem_cons_of_mem _ (List.mem_cons_of_mem _ (List.mem_cons_of_mem _ (List.mem_cons_self ..)))) 0 _ rfl, h.cell (List.mem_cons_of_mem _ (List.mem_cons_of_mem _ (List.mem_cons_of_mem _ (List.mem_cons_self ..)))) 1 _ rfl, h.cell (List.mem_cons_of_mem _ (List.mem_cons_of_mem _ (List.mem_cons_of_mem _ (List.mem_cons_self ..)))) 2 _ rfl, h.cell (List.mem_cons_of_mem _ (List.mem_cons_of_mem _ (List.mem_cons_of_mem _ (List.mem_cons_self ..)))) 3 _ rfl, h.cell (List.mem_cons_of_mem _ (List.mem_cons_of_mem _ (List.mem_cons_of_mem _ (List.mem_cons_self ..)))) 4 _ rfl⟩
            have hD5 := Lib.hid (Below.refl W40.heap.size W40).drew
            have ST42 := Lib.hid (ST41.out.go hD5.out)
            have HS := HC5.out W40.drew hD5.out
            refine wp_region_pi (fun w' : World => w'.cell? ⟨b6, 0, none⟩ = some (.int .i64 3) ∧ w'.cell? ⟨b6, 1, none⟩ = some (.bool n6) ∧ w'.cell? ⟨b6, 2, none⟩ = some (.slice a6 c6 d6) ∧ w'.cell? ⟨b6, 3, none⟩ = some (.string ⟨#[]⟩) ∧ w'.cell? ⟨b6, 4, none⟩ = some (.bool true) ∧ w'.cell? ⟨b5, 0, none⟩ = some (.int .i64 3) ∧ w'.cell? ⟨b5, 1, none⟩ = some (.bool n5) ∧ w'.cell? ⟨b5, 2, none⟩ = some (.slice a5 c5 d5) ∧ w'.cell? ⟨b5, 3, none⟩ = some (.string ⟨#[]⟩) ∧ w'.cell? ⟨b5, 4, none⟩ = some (.bool false) ∧ w'.cell? ⟨p2, 0, none⟩ = some (.int .i64 k2) ∧ w'.cell? ⟨p2, 1, none⟩ = some (.bool g2) ∧ w'.cell? ⟨p2, 2, none⟩ = some (.slice a2 n2 c2) ∧ w'.cell? ⟨p2, 3, none⟩ = some (.string s2) ∧ w'.cell? ⟨p2, 4, none⟩ = some (.bool t2) ∧ w'.cell? ⟨p1, 0, none⟩ = some (.int .i64 k1) ∧ w'.cell? ⟨p1, 1, none⟩ = some (.bool g1) ∧ w'.cell? ⟨p1, 2, none⟩ = some (.slice a1 n1 c1) ∧ w'.cell? ⟨p1, 3, none⟩ = some (.string s1) ∧ w'.cell? ⟨p1, 4, none⟩ = some (.bool t1)) [(0, 1), (1, 1), (2, 1), (3, 1), (4, 1), (5, 1), (6, 1), (7, 1), (8, 0), (9, 1), (10, 0), (11, 1), (12, 1), (13, 1), (14, 0), (15, 0), (16, 0), (17, 2), (18, 1), (19, 1), (20, 1), (21, 1)] [] (by kernel_rfl) (by kernel_rfl) (fun _ _ _ _ _ h => h) (HS) ?_
            refine pq_pu (some 35) rfl rfl (by rfl) (fun ws => by go_simp; try with_reducible rfl) ?_; go_frame   -- 0 Op.move (Operand.tmp 6)
            refine pq_pu (some 36) rfl rfl (by rfl) (fun ws => by go_simp; try with_reducible rfl) ?_; go_frame   -- 1 Op.move (Operand.tmp 8)
            refine pq_pu (some 37) rfl rfl (by rfl) (fun ws => by go_simp; try with_reducible rfl) ?_; go_frame   -- 2 Op.binOp BinOp.neq 29 (Operand.tmp 35) (Operand.tmp 36) 29
            refine pq_pu (some 38) rfl rfl (by rfl) (fun ws => by go_simp; try with_reducible rfl) ?_; go_frame   -- 3 Op.move (Operand.tmp 37)
            refine pq_pu (some 39) rfl rfl (by rfl) (fun ws => by go_simp; try with_reducible rfl) ?_; go_frame   -- 4 Op.move (Operand.tmp 6)
            refine pq_pu (some 40) rfl rfl (by rfl) (fun ws => by go_simp; try with_reducible rfl) ?_; go_frame   -- 5 Op.binOp BinOp.eql 29 (Operand.tmp 39) (Operand.const (Value.int IntKind.i64 0)) 29
            refine pq_pu (some 41) rfl rfl (by rfl) (fun ws => by go_simp; try with_reducible rfl) ?_; go_frame   -- 6 Op.move (Operand.tmp 40)
            refine pq_pu (some 42) rfl rfl (by rfl) (fun ws => by go_simp; try with_reducible rfl) ?_; go_frame   -- 7 Op.fieldAddr 27 (Operand.tmp 5) 3
            refine pq_ld (some 43) rfl rfl (by rfl) (fun ws HS => by go_split_ands; go_simp; try with_reducible rfl) ?_; go_frame   -- 8 Op.load 4 (Operand.tmp 42)
            refine pq_pu (some 44) rfl rfl (by rfl) (fun ws => by go_simp; try with_reducible rfl) ?_; go_frame   -- 9 Op.fieldAddr 27 (Operand.tmp 7) 3
            refine pq_ld (some 45) rfl rfl (by rfl) (fun ws HS => by go_split_ands; go_simp; try with_reducible rfl) ?_; go_frame   -- 10 Op.load 4 (Operand.tmp 44)
            refine pq_pu (some 46) rfl rfl (by rfl) (fun ws => by go_simp; try with_reducible rfl) ?_; go_frame   -- 11 Op.binOp BinOp.eql 4 (Operand.tmp 43) (Operand.tmp 45) 4
            refine pq_pu (some 47) rfl rfl (by rfl) (fun ws => by go_simp; try with_reducible rfl) ?_; go_frame   -- 12 Op.move (Operand.tmp 46)
            refine pq_pu (some 48) rfl rfl (by rfl) (fun ws => by go_simp; try with_reducible rfl) ?_; go_frame   -- 13 Op.fieldAddr 27 (Operand.tmp 5) 3
            refine pq_ld (some 49) rfl rfl (by rfl) (fun ws HS => by go_split_ands; go_simp; try with_reducible rfl) ?_; go_frame   -- 14 Op.load 4 (Operand.tmp 48)
            refine pq_ld (some 50) rfl rfl (by rfl) (fun ws HS => by go_split_ands; go_simp; try with_reducible rfl) ?_; go_frame   -- 15 Op.load 27 (Operand.tmp 2)
            refine pq_ld (some 51) rfl rfl (by rfl) (fun ws HS => by go_split_ands; go_simp; try with_reducible rfl) ?_; go_frame   -- 16 Op.load 27 (Operand.tmp 3)
            refine pk_ke rfl (fun J hJ => ?_)   -- pi_ke 17 Op.call { callee := Callee.value (Operand.func 19), args := #[Operand.tmp 50, Operand.tmp 51], argTypes := #[27, 27] }
            have C43 := Lib.hid (equal_any (k1 := k1) (k2 := k2) (s1 := s1) (s2 := s2) (t1 := t1) (t2 := t2) (ST42.out.get (v := (.agg #[.bool g1, .slice a1 n1 c1])) (g := g1) (z := z1) (List.mem_cons_of_mem _ (List.mem_cons_of_mem _ (List.mem_cons_of_mem _ (List.mem_cons_self ..))))) Hx1.out (ST42.out.get (v := (.agg #[.bool g2, .slice a2 n2 c2])) (g := g2) (z := z2) (List.mem_cons_of_mem _ (List.mem_cons_of_mem _ (List.mem_cons_self ..)))) Hx2.out)
            rw [EQK.out] at C43
            go_wp2_with (go_at_call 19; refine C43.out.mono ?_; rintro e W43 ⟨rfl, hb⟩; have ST43 := Lib.hid (ST42.out.go hb); have hD43 := Lib.hid (hD5.out.trans (Below.mono hb hD5.out.size)); clear hb)
            refine hJ _ _ (HC5.out W43 hD43.out) ?_
            refine pq_pu (some 53) rfl rfl (by rfl) (fun ws => by go_simp; try with_reducible rfl) ?_; go_frame   -- 18 Op.binOp BinOp.neq 4 (Operand.tmp 49) (Operand.tmp 52) 4
            refine pq_pu (some 54) rfl rfl (by rfl) (fun ws => by go_simp; try with_reducible rfl) ?_; go_frame   -- 19 Op.pick (Operand.tmp 47) (Operand.const (Value.bool true)) (Operand.tmp 53)
            refine pq_pu (some 55) rfl rfl (by rfl) (fun ws => by go_simp; try with_reducible rfl) ?_; go_frame   -- 20 Op.pick (Operand.tmp 41) (Operand.tmp 54) (Operand.const (Value.bool false))
            refine pq_pu (some 56) rfl rfl (by rfl) (fun ws => by go_simp; try with_reducible rfl) ?_; go_frame   -- 21 Op.pick (Operand.tmp 38) (Operand.const (Value.bool true)) (Operand.tmp 55)
            refine pi_tail (r := []) rfl ?_; simp only [opsAt]
            have qp2_0 := ST43.out.cell (List.mem_cons_of_mem _ (List.mem_cons_of_mem _ (List.mem_cons_self ..))) 0 _ rfl
            have qp2_1 := ST43.out.cell (List.mem_cons_of_mem _ (List.mem_cons_of_mem _ (List.mem_cons_self ..))) 1 _ rfl
            have qp2_2 := ST43.out.cell (List.mem_cons_of_mem _ (List.mem_cons_of_mem _ (List.mem_cons_self ..))) 2 _ rfl
            have qp2_3 := ST43.out.cell (List.mem_cons_of_mem _ (List.mem_cons_of_mem _ (List.mem_cons_self ..))) 3 _ rfl
            have qp2_4 := ST43.out.cell (List.mem_cons_of_mem _ (List.mem_cons_of_mem _ (List.mem_cons_self ..))) 4 _ rfl
            have qp1_0 := ST43.out.cell (List.mem_cons_of_mem _ (List.mem_cons_of_mem _ (List.mem_cons_of_mem _ (List.mem_cons_self ..)))) 0 _ rfl
            have qp1_1 := ST43.out.cell (List.mem_cons_of_mem _ (List.mem_cons_of_mem _ (List.mem_cons_of_mem _ (List.mem_cons_self ..)))) 1 _ rfl
            have qp1_2 := ST43.out.cell (List.mem_cons_of_mem _ (List.mem_cons_of_mem _ (List.mem_cons_of_mem _ (List.mem_cons_self ..)))) 2 _ rfl
            have qp1_3 := ST43.out.cell (List.mem_cons_of_mem _ (List.mem_cons_of_mem _ (List.mem_cons_of_mem _ (List.mem_cons_self ..)))) 3 _ rfl
            have qp1_4 := ST43.out.cell (List.mem_cons_of_mem _ (List.mem_cons_of_mem _ (List.mem_cons_of_mem _ (List.mem_cons_self ..)))) 4 _ rfl
            go_wp2_with (go_at_call 18; refine hold ?_)
            refine Hold.mk ?_
            have C44 := Lib.hid (b_lt (k1 := k1) (k2 := k2) (s1 := s1) (s2 := s2) (t1 := t1) (t2 := t2) (ST43.out.get (v := (.agg #[.bool g1, .slice a1 n1 c1])) (g := g1) (z := z1) (List.mem_cons_of_mem _ (List.mem_cons_of_mem _ (List.mem_cons_of_mem _ (List.mem_cons_self ..))))) Hx1.out (ST43.out.get (v := (.agg #[.bool g2, .slice a2 n2 c2])) (g := g2) (z := z2) (List.mem_cons_of_mem _ (List.mem_cons_of_mem _ (List.mem_cons_self ..)))) Hx2.out)
            rw [Lok.out, Ho.out, Bool.false_and, show kE false = 0 from rfl, show fE false = 6 from rfl] at C44
            refine C44.out.mono ?_
            rintro e W44 ⟨⟨n7, a7, c7, d7, rfl, hv⟩, hb⟩
            clear qp2_0 qp2_1 qp2_2 qp2_3 qp2_4 qp1_0 qp1_1 qp1_2 qp1_3 qp1_4
            have ST45 := Lib.hid (ST43.out.next hb hv)
            clear hb hv
            go_upto_region 8 with fail
            obtain ⟨W46, HW46⟩ : ∃ W', Hid (W' = W44.alloc (.cells #[(.int .i64 0), (.bool n7), (.slice a7 c7 d7), (.string ⟨#[]⟩), (.bool false)] 27)) := ⟨_, Lib.hid rfl⟩
            obtain ⟨b7, Hb7⟩ : ∃ b, Hid (b = W44.heap.size) := ⟨_, Lib.hid rfl⟩
            have Ob7 := Lib.hid (ST45.out.old Hb7.out)
            have ST47 := Lib.hid (ST45.out.box Hb7.out HW46.out)
            rw [← HW46.out]
            try rw [← Hb7.out]
            have qp2_0 := ST47.out.cell (List.mem_cons_of_mem _ (List.mem_cons_of_mem _ (List.mem_cons_of_mem _ (List.mem_cons_self ..)))) 0 _ rfl
            have qp2_1 := ST47.out.cell (List.mem_cons_of_mem _ (List.mem_cons_of_mem _ (List.mem_cons_of_mem _ (List.mem_cons_self ..)))) 1 _ rfl
            have qp2_2 := ST47.out.cell (List.mem_cons_of_mem _ (List.mem_cons_of_mem _ (List.mem_cons_of_mem _ (List.mem_cons_self ..)))) 2 _ rfl
            have qp2_3 := ST47.out.cell (List.mem_cons_of_mem _ (List.mem_cons_of_mem _ (List.mem_cons_of_mem _ (List.mem_cons_self ..)))) 3 _ rfl
            have qp2_4 := ST47.out.cell (List.mem_cons_of_mem _ (List.mem_cons_of_mem _ (List.mem_cons_of_mem _ (List.mem_cons_self ..)))) 4 _ rfl
            have qp1_0 := ST47.out.cell (List.mem_cons_of_mem _ (List.mem_cons_of_mem _ (List.mem_cons_of_mem _ (List.mem_cons_of_mem _ (List.mem_cons_self ..))))) 0 _ rfl
            have qp1_1 := ST47.out.cell (List.mem_cons_of_mem _ (List.mem_cons_of_mem _ (List.mem_cons_of_mem _ (List.mem_cons_of_mem _ (List.mem_cons_self ..))))) 1 _ rfl
            have qp1_2 := ST47.out.cell (List.mem_cons_of_mem _ (List.mem_cons_of_mem _ (List.mem_cons_of_mem _ (List.mem_cons_of_mem _ (List.mem_cons_self ..))))) 2 _ rfl
            have qp1_3 := ST47.out.cell (List.mem_cons_of_mem _ (List.mem_cons_of_mem _ (List.mem_cons_of_mem _ (List.mem_cons_of_mem _ (List.mem_cons_self ..))))) 3 _ rfl
            have qp1_4 := ST47.out.cell (List.mem_cons_of_mem _ (List.mem_cons_of_mem _ (List.mem_cons_of_mem _ (List.mem_cons_of_mem _ (List.mem_cons_self ..))))) 4 _ rfl
            go_wp2_with (go_at_call 18; refine hold ?_)
            refine Hold.mk ?_
            have C48 := Lib.hid (b_gt (k1 := k1) (k2 := k2) (s1 := s1) (s2 := s2) (t1 := t1) (t2 := t2) (ST47.out.get (v := (.agg #[.bool g1, .slice a1 n1 c1])) (g := g1) (z := z1) (List.mem_cons_of_mem _ (List.mem_cons_of_mem _ (List.mem_cons_of_mem _ (List.mem_cons_of_mem _ (List.mem_cons_self ..)))))) Hx1.out (ST47.out.get (v := (.agg #[.bool g2, .slice a2 n2 c2])) (g := g2) (z := z2) (List.mem_cons_of_mem _ (List.mem_cons_of_mem _ (List.mem_cons_of_mem _ (List.mem_cons_self ..))))) Hx2.out)
            rw [Lok.out, Ho.out, Bool.false_and, show kE false = 0 from rfl, show fE false = 6 from rfl] at C48
            refine C48.out.mono ?_
            rintro e W48 ⟨⟨n8, a8, c8, d8, rfl, hv⟩, hb⟩
            clear qp2_0 qp2_1 qp2_2 qp2_3 qp2_4 qp1_0 qp1_1 qp1_2 qp1_3 qp1_4
            have ST49 := Lib.hid (ST47.out.next hb hv)
            clear hb hv
            go_upto_region 9 with fail
            obtain ⟨W50, HW50⟩ : ∃ W', Hid (W' = W48.alloc (.cells #[(.int .i64 0), (.bool n8), (.slice a8 c8 d8), (.string ⟨#[]⟩), (.bool false)] 27)) := ⟨_, Lib.hid rfl⟩
            obtain ⟨b8, Hb8⟩ : ∃ b, Hid (b = W48.heap.size) := ⟨_, Lib.hid rfl⟩
            have Ob8 := Lib.hid (ST49.out.old Hb8.out)
            have ST51 := Lib.hid (ST49.out.box Hb8.out HW50.out)
            rw [← HW50.out]
            try rw [← Hb8.out]
            have qb8_0 := ST51.out.cell (List.mem_cons_self ..) 0 _ rfl
            have qb8_1 := ST51.out.cell (List.mem_cons_self ..) 1 _ rfl
            have qb8_2 := ST51.out.cell (List.mem_cons_self ..) 2 _ rfl
            have qb8_3 := ST51.out.cell (List.mem_cons_self ..) 3 _ rfl
            have qb8_4 := ST51.out.cell (List.mem_cons_self ..) 4 _ rfl
            have qb7_0 := ST51.out.cell (List.mem_cons_of_mem _ (List.mem_cons_self ..)) 0 _ rfl
            have qb7_1 := ST51.out.cell (List.mem_cons_of_mem _ (List.mem_cons_self ..)) 1 _ rfl
            have qb7_2 := ST51.out.cell (List.mem_cons_of_mem _ (List.mem_cons_self ..)) 2 _ rfl
            have qb7_3 := ST51.out.cell (List.mem_cons_of_mem _ (List.mem_cons_self ..)) 3 _ rfl
            have qb7_4 := ST51.out.cell (List.mem_cons_of_mem _ (List.mem_cons_self ..)) 4 _ rfl
            have qb5_0 := ST51.out.cell (List.mem_cons_of_mem _ (List.mem_cons_of_mem _ (List.mem_cons_of_mem _ (List.mem_cons_self ..)))) 0 _ rfl
            have qb5_1 := ST51.out.cell (List.mem_cons_of_mem _ (List.mem_cons_of_mem _ (List.mem_cons_of_mem _ (List.mem_cons_self ..)))) 1 _ rfl
            have qb5_2 := ST51.out.cell (List.mem_cons_of_mem _ (List.mem_cons_of_mem _ (List.mem_cons_of_mem _ (List.mem_cons_self ..)))) 2 _ rfl
            have qb5_3 := ST51.out.cell (List.mem_cons_of_mem _ (List.mem_cons_of_mem _ (List.mem_cons_of_mem _ (List.mem_cons_self ..)))) 3 _ rfl
            have qb5_4 := ST51.out.cell (List.mem_cons_of_mem _ (List.mem_cons_of_mem _ (List.mem_cons_of_mem _ (List.mem_cons_self ..)))) 4 _ rfl
            go_wp2_with (go_at_call 16; refine hold ?_)
            refine Hold.mk ?_
            have C52 := Lib.hid (kawake_any (w := W50))
            refine C52.out.mono ?_
            rintro e W52 ⟨rfl, hb⟩
            clear qb8_0 qb8_1 qb8_2 qb8_3 qb8_4 qb7_0 qb7_1 qb7_2 qb7_3 qb7_4 qb5_0 qb5_1 qb5_2 qb5_3 qb5_4
            have ST53 := Lib.hid (ST51.out.go hb)
            clear hb
            go_wp2_with fail
            go_ret
            exact ⟨rfl, ST53.out.below⟩
          | true =>
            have HU := Lib.hid hu
            have HN := Lib.hid (show (o != 0) = false from by simp only [bne, hu, Bool.not_true, Bool.not_false])
            have EQK := Lib.hid (eqK_ok (x1 := x1) (x2 := x2) (s1 := s1) (s2 := s2) (t1 := t1) (t2 := t2) (u := true) Eok.out (by rw [Ho.out]; exact hu))
            clear hu
            have qp2_0 := ST14.out.cell (List.mem_cons_self ..) 0 _ rfl
            have qp2_1 := ST14.out.cell (List.mem_cons_self ..) 1 _ rfl
            have qp2_2 := ST14.out.cell (List.mem_cons_self ..) 2 _ rfl
            have qp2_3 := ST14.out.cell (List.mem_cons_self ..) 3 _ rfl
            have qp2_4 := ST14.out.cell (List.mem_cons_self ..) 4 _ rfl
            have qp1_0 := ST14.out.cell (List.mem_cons_of_mem _ (List.mem_cons_self ..)) 0 _ rfl
            have qp1_1 := ST14.out.cell (List.mem_cons_of_mem _ (List.mem_cons_self ..)) 1 _ rfl
            have qp1_2 := ST14.out.cell (List.mem_cons_of_mem _ (List.mem_cons_self ..)) 2 _ rfl
            have qp1_3 := ST14.out.cell (List.mem_cons_of_mem _ (List.mem_cons_self ..)) 3 _ rfl
            have qp1_4 := ST14.out.cell (List.mem_cons_of_mem _ (List.mem_cons_self ..)) 4 _ rfl
            go_wp2_with (go_at_call 18; refine hold ?_)
            refine Hold.mk ?_
            have C54 := Lib.hid (b_eq (k1 := k1) (k2 := k2) (s1 := s1) (s2 := s2) (t1 := t1) (t2 := t2) (ST14.out.get (v := (.agg #[.bool g1, .slice a1 n1 c1])) (g := g1) (z := z1) (List.mem_cons_of_mem _ (List.mem_cons_self ..))) Hx1.out (ST14.out.get (v := (.agg #[.bool g2, .slice a2 n2 c2])) (g := g2) (z := z2) (List.mem_cons_self ..)) Hx2.out)
            rw [Eok.out, Ho.out, HU.out, show kE true = 3 from rfl, show fE true = 0 from rfl, show (true && true) = true from rfl] at C54
            refine C54.out.mono ?_
            rintro e W54 ⟨⟨n5, a5, c5, d5, rfl, hv⟩, hb⟩
            clear qp2_0 qp2_1 qp2_2 qp2_3 qp2_4 qp1_0 qp1_1 qp1_2 qp1_3 qp1_4
            have ST55 := Lib.hid (ST14.out.next hb hv)
            clear hb hv
            go_upto_region 4 with fail
            obtain ⟨W56, HW56⟩ : ∃ W', Hid (W' = W54.alloc (.cells #[(.int .i64 3), (.bool n5), (.slice a5 c5 d5), (.string ⟨#[]⟩), (.bool true)] 27)) := ⟨_, Lib.hid rfl⟩
            obtain ⟨b5, Hb5⟩ : ∃ b, Hid (b = W54.heap.size) := ⟨_, Lib.hid rfl⟩
            have Ob5 := Lib.hid (ST55.out.old Hb5.out)
            have ST57 := Lib.hid (ST55.out.box Hb5.out HW56.out)
            rw [← HW56.out]
            try rw [← Hb5.out]
            have qp2_0 := ST57.out.cell (List.mem_cons_of_mem _ (List.mem_cons_self ..)) 0 _ rfl
            have qp2_1 := ST57.out.cell (List.mem_cons_of_mem _ (List.mem_cons_self ..)) 1 _ rfl
            have qp2_2 := ST57.out.cell (List.mem_cons_of_mem _ (List.mem_cons_self ..)) 2 _ rfl
            have qp2_3 := ST57.out.cell (List.mem_cons_of_mem _ (List.mem_cons_self ..)) 3 _ rfl
            have qp2_4 := ST57.out.cell (List.mem_cons_of_mem _ (List.mem_cons_self ..)) 4 _ rfl
            have qp1_0 := ST57.out.cell (List.mem_cons_of_mem _ (List.mem_cons_of_mem _ (List.mem_cons_self ..))) 0 _ rfl
            have qp1_1 := ST57.out.cell (List.mem_cons_of_mem _ (List.mem_cons_of_mem _ (List.mem_cons_self ..))) 1 _ rfl
            have qp1_2 := ST57.out.cell (List.mem_cons_of_mem _ (List.mem_cons_of_mem _ (List.mem_cons_self ..))) 2 _ rfl
            have qp1_3 := ST57.out.cell (List.mem_cons_of_mem _ (List.mem_cons_of_mem _ (List.mem_cons_self ..))) 3 _ rfl
            have qp1_4 := ST57.out.cell (List.mem_cons_of_mem _ (List.mem_cons_of_mem _ (List.mem_cons_self ..))) 4 _ rfl
            go_wp2_with (go_at_call 18; refine hold ?_)
            refine Hold.mk ?_
            have C58 := Lib.hid (b_ne (k1 := k1) (k2 := k2) (s1 := s1) (s2 := s2) (t1 := t1) (t2 := t2) (ST57.out.get (v := (.agg #[.bool g1, .slice a1 n1 c1])) (g := g1) (z := z1) (List.mem_cons_of_mem _ (List.mem_cons_of_mem _ (List.mem_cons_self ..)))) Hx1.out (ST57.out.get (v := (.agg #[.bool g2, .slice a2 n2 c2])) (g := g2) (z := z2) (List.mem_cons_of_mem _ (List.mem_cons_self ..))) Hx2.out)
            rw [Eok.out, Ho.out, HN.out, show kE true = 3 from rfl, show fE true = 0 from rfl, show (true && false) = false from rfl] at C58
            refine C58.out.mono ?_
            rintro e W58 ⟨⟨n6, a6, c6, d6, rfl, hv⟩, hb⟩
            clear qp2_0 qp2_1 qp2_2 qp2_3 qp2_4 qp1_0 qp1_1 qp1_2 qp1_3 qp1_4
            have ST59 := Lib.hid (ST57.out.next hb hv)
            clear hb hv
            go_upto_region 5 with fail
            obtain ⟨W60, HW60⟩ : ∃ W', Hid (W' = W58.alloc (.cells #[(.int .i64 3), (.bool n6), (.slice a6 c6 d6), (.string ⟨#[]⟩), (.bool false)] 27)) := ⟨_, Lib.hid rfl⟩
            obtain ⟨b6, Hb6⟩ : ∃ b, Hid (b = W58.heap.size) := ⟨_, Lib.hid rfl⟩
            have Ob6 := Lib.hid (ST59.out.old Hb6.out)
            have ST61 := Lib.hid (ST59.out.box Hb6.out HW60.out)
            rw [← HW60.out]
            try rw [← Hb6.out]
            have HC5 : Hid (∀ wx, Below W60.heap.size W60 wx → (fun w' : World => w'.cell? ⟨b6, 0, none⟩ = some (.int .i64 3) ∧ w'.cell? ⟨b6, 1, none⟩ = some (.bool n6) ∧ w'.cell? ⟨b6, 2, none⟩ = some (.slice a6 c6 d6) ∧ w'.cell? ⟨b6, 3, none⟩ = some (.string ⟨#[]⟩) ∧ w'.cell? ⟨b6, 4, none⟩ = some (.bool false) ∧ w'.cell? ⟨b5, 0, none⟩ = some (.int .i64 3) ∧ w'.cell? ⟨b5, 1, none⟩ = some (.bool n5) ∧ w'.cell? ⟨b5, 2, none⟩ = some (.slice a5 c5 d5) ∧ w'.cell? ⟨b5, 3, none⟩ = some (.string ⟨#[]⟩) ∧ w'.cell? ⟨b5, 4, none⟩ = some (.bool true) ∧ w'.cell? ⟨p2, 0, none⟩ = some (.int .i64 k2) ∧ w'.cell? ⟨p2, 1, none⟩ = some (.bool g2) ∧ w'.cell? ⟨p2, 2, none⟩ = some (.slice a2 n2 c2) ∧ w'.cell? ⟨p2, 3, none⟩ = some (.string s2) ∧ w'.cell? ⟨p2, 4, none⟩ = some (.bool t2) ∧ w'.cell? ⟨p1, 0, none⟩ = some (.int .i64 k1) ∧ w'.cell? ⟨p1, 1, none⟩ = some (.bool g1) ∧ w'.cell? ⟨p1, 2, none⟩ = some (.slice a1 n1 c1) ∧ w'.cell? ⟨p1, 3, none⟩ = some (.string s1) ∧ w'.cell? ⟨p1, 4, none⟩ = some (.bool t1)) wx) := Lib.hid fun wx hx => by
              have h := ST61.out.go hx
              exact ⟨h.cell (List.mem_cons_self ..) 0 _ rfl, h.cell (List.mem_cons_self ..) 1 _ rfl, h.cell (List.mem_cons_self ..) 2 _ rfl, h.cell (List.mem_cons_self ..) 3 _ rfl, h.cell (List.mem_cons_self ..) 4 _ rfl, h.cell (List.mem_cons_of_mem _ (List.mem_cons_self ..)) 0 _ rfl, h.cell (List.mem_cons_of_mem _ (List.mem_cons_self ..)) 1 _ rfl, h.cell (List.mem_cons_of_mem _ (List.mem_cons_self ..)) 2 _ rfl, h.cell (List.mem_cons_of_mem _ (List.mem_cons_self ..)) 3 _ rfl, h.cell (List.mem_cons_of_mem _ (List.mem_cons_self ..)) 4 _ rfl, h.cell (List.mem_cons_of_mem _ (List.mem_cons_of_mem _ (List.mem_cons_self ..))) 0 _ rfl, h.cell (List.mem_cons_of_mem _ (List.mem_cons_of_mem _ (List.mem_cons_self ..))) 1 _ rfl, h.cell (List.mem_cons_of_mem _ (List.mem_cons_of_mem _ (List.mem_cons_self ..))) 2 _ rfl, h.cell (List.mem_cons_of_mem _ (List.mem_cons_of_mem _ (List.mem_cons_self ..))) 3 _ rfl, h.cell (List.mem_cons_of_mem _ (List.mem_cons_of_mem _ (List.mem_cons_self ..))) 4 _ rfl, h.cell (List.mem_cons_of_mem _ (List.mem_cons_of_mem _ (List.mem_cons_of_mem _ (List.mem_cons_self ..)))) 0 _ rfl, h.cell (List.mem_cons_of_mem _ (List.mem_cons_of_mem _ (List.mem_cons_of_mem _ (List.mem_cons_self ..)))) 1 _ rfl, h.cell (List.mem_cons_of_mem _ (List.mem_cons_of_mem _ (List.mem_cons_of_mem _ (List.mem_cons_self ..)))) 2 _ rfl, h.cell (List.mem_cons_of_mem _ (List.mem_cons_of_mem _ (List.mem_cons_of_mem _ (List.mem_cons_self ..)))) 3 _ rfl, h.cell (List.mem_cons_of_mem _ (List.mem_cons_of_mem _ (List.mem_cons_of_mem _ (List.mem_cons_self ..)))) 4 _ rfl⟩
            have hD5 := Lib.hid (Below.refl W60.heap.size W60).drew
            have ST62 := Lib.hid (ST61.out.go hD5.out)
            have HS := HC5.out W60.drew hD5.out
            refine wp_region_pi (fun w' : World => w'.cell? ⟨b6, 0, none⟩ = some (.int .i64 3) ∧ w'.cell? ⟨b6, 1, none⟩ = some (.bool n6) ∧ w'.cell? ⟨b6, 2, none⟩ = some (.slice a6 c6 d6) ∧ w'.cell? ⟨b6, 3, none⟩ = some (.string ⟨#[]⟩) ∧ w'.cell? ⟨b6, 4, none⟩ = some (.bool false) ∧ w'.cell? ⟨b5, 0, none⟩ = some (.int .i64 3) ∧ w'.cell? ⟨b5, 1, none⟩ = some (.bool n5) ∧ w'.cell? ⟨b5, 2, none⟩ = some (.slice a5 c5 d5) ∧ w'.cell? ⟨b5, 3, none⟩ = some (.string ⟨#[]⟩) ∧ w'.cell? ⟨b5, 4, none⟩ = some (.bool true) ∧ w'.cell? ⟨p2, 0, none⟩ = some (.int .i64 k2) ∧ w'.cell? ⟨p2, 1, none⟩ = some (.bool g2) ∧ w'.cell? ⟨p2, 2, none⟩ = some (.slice a2 n2 c2) ∧ w'.cell? ⟨p2, 3, none⟩ = some (.string s2) ∧ w'.cell? ⟨p2, 4, none⟩ = some (.bool t2) ∧ w'.cell? ⟨p1, 0, none⟩ = some (.int .i64 k1) ∧ w'.cell? ⟨p1, 1, none⟩ = some (.bool g1) ∧ w'.cell? ⟨p1, 2, none⟩ = some (.slice a1 n1 c1) ∧ w'.cell? ⟨p1, 3, none⟩ = some (.string s1) ∧ w'.cell? ⟨p1, 4, none⟩ = some (.bool t1)) [(0, 1), (1, 1), (2, 1), (3, 1), (4, 1), (5, 1), (6, 1), (7, 1), (8, 0), (9, 1), (10, 0), (11, 1), (12, 1), (13, 1), (14, 0), (15, 0), (16, 0), (17, 2), (18, 1), (19, 1), (20, 1), (21, 1)] [] (by kernel_rfl) (by kernel_rfl) (fun _ _ _ _ _ h => h) (HS) ?_
            refine pq_pu (some 35) rfl rfl (by rfl) (fun ws => by go_simp; try with_reducible rfl) ?_; go_frame   -- 0 Op.move (Operand.tmp 6)
            refine pq_pu (some 36) rfl rfl (by rfl) (fun ws => by go_simp; try with_reducible rfl) ?_; go_frame   -- 1 Op.move (Operand.tmp 8)
            refine pq_pu (some 37) rfl rfl (by rfl) (fun ws => by go_simp; try with_reducible rfl) ?_; go_frame   -- 2 Op.binOp BinOp.neq 29 (Operand.tmp 35) (Operand.tmp 36) 29
            refine pq_pu (some 38) rfl rfl (by rfl) (fun ws => by go_simp; try with_reducible rfl) ?_; go_frame   -- 3 Op.move (Operand.tmp 37)
            refine pq_pu (some 39) rfl rfl (by rfl) (fun ws => by go_simp; try with_reducible rfl) ?_; go_frame   -- 4 Op.move (Operand.tmp 6)
            refine pq_pu (some 40) rfl rfl (by rfl) (fun ws => by go_simp; try with_reducible rfl) ?_; go_frame   -- 5 Op.binOp BinOp.eql 29 (Operand.tmp 39) (Operand.const (Value.int IntKind.i64 0)) 29
            refine pq_pu (some 41) rfl rfl (by rfl) (fun ws => by go_simp; try with_reducible rfl) ?_; go_frame   -- 6 Op.move (Operand.tmp 40)
            refine pq_pu (some 42) rfl rfl (by rfl) (fun ws => by go_simp; try with_reducible rfl) ?_; go_frame   -- 7 Op.fieldAddr 27 (Operand.tmp 5) 3
            refine pq_ld (some 43) rfl rfl (by rfl) (fun ws HS => by go_split_ands; go_simp; try with_reducible rfl) ?_; go_frame   -- 8 Op.load 4 (Operand.tmp 42)
            refine pq_pu (some 44) rfl rfl (by rfl) (fun ws => by go_simp; try with_reducible rfl) ?_; go_frame   -- 9 Op.fieldAddr 27 (Operand.tmp 7) 3
            refine pq_ld (some 45) rfl rfl (by rfl) (fun ws HS => by go_split_ands; go_simp; try with_reducible rfl) ?_; go_frame   -- 10 Op.load 4 (Operand.tmp 44)
            refine pq_pu (some 46) rfl rfl (by rfl) (fun ws => by go_simp; try with_reducible rfl) ?_; go_frame   -- 11 Op.binOp BinOp.eql 4 (Operand.tmp 43) (Operand.tmp 45) 4
            refine pq_pu (some 47) rfl rfl (by rfl) (fun ws => by go_simp; try with_reducible rfl) ?_; go_frame   -- 12 Op.move (Operand.tmp 46)
            refine pq_pu (some 48) rfl rfl (by rfl) (fun ws => by go_simp; try with_reducible rfl) ?_; go_frame   -- 13 Op.fieldAddr 27 (Operand.tmp 5) 3
            refine pq_ld (some 49) rfl rfl (by rfl) (fun ws HS => by go_split_ands; go_simp; try with_reducible rfl) ?_; go_frame   -- 14 Op.load 4 (Operand.tmp 48)
            refine pq_ld (some 50) rfl rfl (by rfl) (fun ws HS => by go_split_ands; go_simp; try with_reducible rfl) ?_; go_frame   -- 15 Op.load 27 (Operand.tmp 2)
            refine pq_ld (some 51) rfl rfl (by rfl) (fun ws HS => by go_split_ands; go_simp; try with_reducible rfl) ?_; go_frame   -- 16 Op.load 27 (Operand.tmp 3)
            refine pk_ke rfl (fun J hJ => ?_)   -- pi_ke 17 Op.call { callee := Callee.value (Operand.func 19), args := #[Operand.tmp 50, Operand.tmp 51], argTypes := #[27, 27] }
            have C63 := Lib.hid (equal_any (k1 := k1) (k2 := k2) (s1 := s1) (s2 := s2) (t1 := t1) (t2 := t2) (ST62.out.get (v := (.agg #[.bool g1, .slice a1 n1 c1])) (g := g1) (z := z1) (List.mem_cons_of_mem _ (List.mem_cons_of_mem _ (List.mem_cons_of_mem _ (List.mem_cons_self ..))))) Hx1.out (ST62.out.get (v := (.agg #[.bool g2, .slice a2 n2 c2])) (g := g2) (z := z2) (List.mem_cons_of_mem _ (List.mem_cons_of_mem _ (List.mem_cons_self ..)))) Hx2.out)
            rw [EQK.out] at C63
            go_wp2_with (go_at_call 19; refine C63.out.mono ?_; rintro e W63 ⟨rfl, hb⟩; have ST63 := Lib.hid (ST62.out.go hb); have hD63 := Lib.hid (hD5.out.trans (Below.mono hb hD5.out.size)); clear hb)
            refine hJ _ _ (HC5.out W63 hD63.out) ?_
            refine pq_pu (some 53) rfl rfl (by rfl) (fun ws => by go_simp; try with_reducible rfl) ?_; go_frame   -- 18 Op.binOp BinOp.neq 4 (Operand.tmp 49) (Operand.tmp 52) 4
            refine pq_pu (some 54) rfl rfl (by rfl) (fun ws => by go_simp; try with_reducible rfl) ?_; go_frame   -- 19 Op.pick (Operand.tmp 47) (Operand.const (Value.bool true)) (Operand.tmp 53)
            refine pq_pu (some 55) rfl rfl (by rfl) (fun ws => by go_simp; try with_reducible rfl) ?_; go_frame   -- 20 Op.pick (Operand.tmp 41) (Operand.tmp 54) (Operand.const (Value.bool false))
            refine pq_pu (some 56) rfl rfl (by rfl) (fun ws => by go_simp; try with_reducible rfl) ?_; go_frame   -- 21 Op.pick (Operand.tmp 38) (Operand.const (Value.bool true)) (Operand.tmp 55)
            refine pi_tail (r := []) rfl ?_; simp only [opsAt]
            have qp2_0 := ST63.out.cell (List.mem_cons_of_mem _ (List.mem_cons_of_mem _ (List.mem_cons_self ..))) 0 _ rfl
            have qp2_1 := ST63.out.cell (List.mem_cons_of_mem _ (List.mem_cons_of_mem _ (List.mem_cons_self ..))) 1 _ rfl
            have qp2_2 := ST63.out.cell (List.mem_cons_of_mem _ (List.mem_cons_of_mem _ (List.mem_cons_self ..))) 2 _ rfl
            have qp2_3 := ST63.out.cell (List.mem_cons_of_mem _ (List.mem_cons_of_mem _ (List.mem_cons_self ..))) 3 _ rfl
            have qp2_4 := ST63.out.cell (List.mem_cons_of_mem _ (List.mem_cons_of_mem _ (List.mem_cons_self ..))) 4 _ rfl
            have qp1_0 := ST63.out.cell (List.mem_cons_of_mem _ (List.mem_cons_of_mem _ (List.mem_cons_of_mem _ (List.mem_cons_self ..)))) 0 _ rfl
            have qp1_1 := ST63.out.cell (List.mem_cons_of_mem _ (List.mem_cons_of_mem _ (List.mem_cons_of_mem _ (List.mem_cons_self ..)))) 1 _ rfl
            have qp1_2 := ST63.out.cell (List.mem_cons_of_mem _ (List.mem_cons_of_mem _ (List.mem_cons_of_mem _ (List.mem_cons_self ..)))) 2 _ rfl
            have qp1_3 := ST63.out.cell (List.mem_cons_of_mem _ (List.mem_cons_of_mem _ (List.mem_cons_of_mem _ (List.mem_cons_self ..)))) 3 _ rfl
            have qp1_4 := ST63.out.cell (List.mem_cons_of_mem _ (List.mem_cons_of_mem _ (List.mem_cons_of_mem _ (List.mem_cons_self ..)))) 4 _ rfl
            go_wp2_with (go_at_call 18; refine hold ?_)
            refine Hold.mk ?_
            have C64 := Lib.hid (b_lt (k1 := k1) (k2 := k2) (s1 := s1) (s2 := s2) (t1 := t1) (t2 := t2) (ST63.out.get (v := (.agg #[.bool g1, .slice a1 n1 c1])) (g := g1) (z := z1) (List.mem_cons_of_mem _ (List.mem_cons_of_mem _ (List.mem_cons_of_mem _ (List.mem_cons_self ..))))) Hx1.out (ST63.out.get (v := (.agg #[.bool g2, .slice a2 n2 c2])) (g := g2) (z := z2) (List.mem_cons_of_mem _ (List.mem_cons_of_mem _ (List.mem_cons_self ..)))) Hx2.out)
            rw [Lok.out, Ho.out, Bool.false_and, show kE false = 0 from rfl, show fE false = 6 from rfl] at C64
            refine C64.out.mono ?_
            rintro e W64 ⟨⟨n7, a7, c7, d7, rfl, hv⟩, hb⟩
            clear qp2_0 qp2_1 qp2_2 qp2_3 qp2_4 qp1_0 qp1_1 qp1_2 qp1_3 qp1_4
            have ST65 := Lib.hid (ST63.out.next hb hv)
            clear hb hv
            go_upto_region 8 with fail
            obtain ⟨W66, HW66⟩ : ∃ W', Hid (W' = W64.alloc (.cells #[(.int .i64 0), (.bool n7), (.slice a7 c7 d7), (.string ⟨#[]⟩), (.bool false)] 27)) := ⟨_, Lib.hid rfl⟩
            obtain ⟨b7, Hb7⟩ : ∃ b, Hid (b = W64.heap.size) := ⟨_, Lib.hid rfl⟩
            have Ob7 := Lib.hid (ST65.out.old Hb7.out)
            have ST67 := Lib.hid (ST65.out.box Hb7.out HW66.out)
            rw [← HW66.out]
            try rw [← Hb7.out]
            have qp2_0 := ST67.out.cell (List.mem_cons_of_mem _ (List.mem_cons_of_mem _ (List.mem_cons_of_mem _ (List.mem_cons_self ..)))) 0 _ rfl
            have qp2_1 := ST67.out.cell (List.mem_cons_of_mem _ (List.mem_cons_of_mem _ (List.mem_cons_of_mem _ (List.mem_cons_self ..)))) 1 _ rfl
            have qp2_2 := ST67.out.cell (List.mem_cons_of_mem _ (List.mem_cons_of_mem _ (List.mem_cons_of_mem _ (List.mem_cons_self ..)))) 2 _ rfl
            have qp2_3 := ST67.out.cell (List.mem_cons_of_mem _ (List.mem_cons_of_mem _ (List.mem_cons_of_mem _ (List.mem_cons_self ..)))) 3 _ rfl
            have qp2_4 := ST67.out.cell (List.mem_cons_of_mem _ (List.mem_cons_of_mem _ (List.mem_cons_of_mem _ (List.mem_cons_self ..)))) 4 _ rfl
            have qp1_0 := ST67.out.cell (List.mem_cons_of_mem _ (List.mem_cons_of_mem _ (List.mem_cons_of_mem _ (List.mem_cons_of_mem _ (List.mem_cons_self ..))))) 0 _ rfl
            have qp1_1 := ST67.out.cell (List.mem_cons_of_mem _ (List.mem_cons_of_mem _ (List.mem_cons_of_mem _ (List.mem_cons_of_mem _ (List.mem_cons_self ..))))) 1 _ rfl
            have qp1_2 := ST67.out.cell (List.mem_cons_of_mem _ (List.mem_cons_of_mem _ (List.mem_cons_of_mem _ (List.mem_cons_of_mem _ (List.mem_cons_self ..))))) 2 _ rfl
            have qp1_3 := ST67.out.cell (List.mem_cons_of_mem _ (List.mem_cons_of_mem _ (List.mem_cons_of_mem _ (List.mem_cons_of_mem _ (List.mem_cons_self ..))))) 3 _ rfl
            have qp1_4 := ST67.out.cell (List.mem_cons_of_mem _ (List.mem_cons_of_mem _ (List.mem_cons_of_mem _ (List.mem_cons_of_mem _ (List.mem_cons_self ..))))) 4 _ rfl
            go_wp2_with (go_at_call 18; refine hold ?_)
            refine Hold.mk ?_
            have C68 := Lib.hid (b_gt (k1 := k1) (k2 := k2) (s1 := s1) (s2 := s2) (t1 := t1) (t2 := t2) (ST67.out.get (v := (.agg #[.bool g1, .slice a1 n1 c1])) (g := g1) (z := z1) (List.mem_cons_of_mem _ (List.mem_cons_of_mem _ (List.mem_cons_of_mem _ (List.mem_cons_of_mem _ (List.mem_cons_self ..)))))) Hx1.out (ST67.out.get (v := (.agg #[.bool g2, .slice a2 n2 c2])) (g := g2) (z := z2) (List.mem_cons_of_mem _ (List.mem_cons_of_mem _ (List.mem_cons_of_mem _ (List.mem_cons_self ..))))) Hx2.out)
            rw [Lok.out, Ho.out, Bool.false_and, show kE false = 0 from rfl, show fE false = 6 from rfl] at C68
            refine C68.out.mono ?_
            rintro e W68 ⟨⟨n8, a8, c8, d8, rfl, hv⟩, hb⟩
            clear qp2_0 qp2_1 qp2_2 qp2_3 qp2_4 qp1_0 qp1_1 qp1_2 qp1_3 qp1_4
            have ST69 := Lib.hid (ST67.out.next hb hv)
            clear hb hv
            go_upto_region 9 with fail
            obtain ⟨W70, HW70⟩ : ∃ W', Hid (W' = W68.alloc (.cells #[(.int .i64 0), (.bool n8), (.slice a8 c8 d8), (.string ⟨#[]⟩), (.bool false)] 27)) := ⟨_, Lib.hid rfl⟩
            obtain ⟨b8, Hb8⟩ : ∃ b, Hid (b = W68.heap.size) := ⟨_, Lib.hid rfl⟩
            have Ob8 := Lib.hid (ST69.out.old Hb8.out)
            have ST71 := Lib.hid (ST69.out.box Hb8.out HW70.out)
            rw [← HW70.out]
            try rw [← Hb8.out]
            have qb8_0 := ST71.out.cell (List.mem_cons_self ..) 0 _ rfl
            have qb8_1 := ST71.out.cell (List.mem_cons_self ..) 1 _ rfl
            have qb8_2 := ST71.out.cell (List.mem_cons_self ..) 2 _ rfl
            have qb8_3 := ST71.out.cell (List.mem_cons_self ..) 3 _ rfl
            have qb8_4 := ST71.out.cell (List.mem_cons_self ..) 4 _ rfl
            have qb7_0 := ST71.out.cell (List.mem_cons_of_mem _ (List.mem_cons_self ..)) 0 _ rfl
            have qb7_1 := ST71.out.cell (List.mem_cons_of_mem _ (List.mem_cons_self ..)) 1 _ rfl
            have qb7_2 := ST71.out.cell (List.mem_cons_of_mem _ (List.mem_cons_self ..)) 2 _ rfl
            have qb7_3 := ST71.out.cell (List.mem_cons_of_mem _ (List.mem_cons_self ..)) 3 _ rfl
            have qb7_4 := ST71.out.cell (List.mem_cons_of_mem _ (List.mem_cons_self ..)) 4 _ rfl
            have qb5_0 := ST71.out.cell (List.mem_cons_of_mem _ (List.mem_cons_of_mem _ (List.mem_cons_of_mem _ (List.mem_cons_self ..)))) 0 _ rfl
            have qb5_1 := ST71.out.cell (List.mem_cons_of_mem _ (List.mem_cons_of_mem _ (List.mem_cons_of_mem _ (List.mem_cons_self ..)))) 1 _ rfl
            have qb5_2 := ST71.out.cell (List.mem_cons_of_mem _ (List.mem_cons_of_mem _ (List.mem_cons_of_mem _ (List.mem_cons_self ..)))) 2 _ rfl
            have qb5_3 := ST71.out.cell (List.mem_cons_of_mem _ (List.mem_cons_of_mem _ (List.mem_cons_of_mem _ (List.mem_cons_self ..)))) 3 _ rfl
            have qb5_4 := ST71.out.cell (List.mem_cons_of_mem _ (List.mem_cons_of_mem _ (List.mem_cons_of_mem _ (List.mem_cons_self ..)))) 4 _ rfl
            go_wp2_with (go_at_call 16; refine hold ?_)
            refine Hold.mk ?_
            have C72 := Lib.hid (kawake_any (w := W70))
            refine C72.out.mono ?_
            rintro e W72 ⟨rfl, hb⟩
            clear qb8_0 qb8_1 qb8_2 qb8_3 qb8_4 qb7_0 qb7_1 qb7_2 qb7_3 qb7_4 qb5_0 qb5_1 qb5_2 qb5_3 qb5_4
            have ST73 := Lib.hid (ST71.out.go hb)
            clear hb
            go_wp2_with fail
            go_ret
            exact ⟨rfl, ST73.out.below⟩
        · have Lok := Lib.hid (show okL k1 k2 = true from by unfold okL; rw [Eok.out]; simp [hk3])
          clear hk3
          rcases Int.lt_trichotomy o 0 with ho | ho | ho
          · have hu : (o == 0) = false := by simp; omega
            have HU := Lib.hid hu
            have HN := Lib.hid (show (o != 0) = true from by simp only [bne, hu, Bool.not_true, Bool.not_false])
            have EQK := Lib.hid (eqK_ok (x1 := x1) (x2 := x2) (s1 := s1) (s2 := s2) (t1 := t1) (t2 := t2) (u := false) Eok.out (by rw [Ho.out]; exact hu))
            have HL := Lib.hid (show decide (o < 0) = true from decide_eq_true ho)
            have HG := Lib.hid (show decide (0 < o) = false from decide_eq_false (by omega))
            clear hu ho
            have qp2_0 := ST14.out.cell (List.mem_cons_self ..) 0 _ rfl
            have qp2_1 := ST14.out.cell (List.mem_cons_self ..) 1 _ rfl
            have qp2_2 := ST14.out.cell (List.mem_cons_self ..) 2 _ rfl
            have qp2_3 := ST14.out.cell (List.mem_cons_self ..) 3 _ rfl
            have qp2_4 := ST14.out.cell (List.mem_cons_self ..) 4 _ rfl
            have qp1_0 := ST14.out.cell (List.mem_cons_of_mem _ (List.mem_cons_self ..)) 0 _ rfl
            have qp1_1 := ST14.out.cell (List.mem_cons_of_mem _ (List.mem_cons_self ..)) 1 _ rfl
            have qp1_2 := ST14.out.cell (List.mem_cons_of_mem _ (List.mem_cons_self ..)) 2 _ rfl
            have qp1_3 := ST14.out.cell (List.mem_cons_of_mem _ (List.mem_cons_self ..)) 3 _ rfl
            have qp1_4 := ST14.out.cell (List.mem_cons_of_mem _ (List.mem_cons_self ..)) 4 _ rfl
            go_wp2_with (go_at_call 18; refine hold ?_)
            refine Hold.mk ?_
            have C74 := Lib.hid (b_eq (k1 := k1) (k2 := k2) (s1 := s1) (s2 := s2) (t1 := t1) (t2 := t2) (ST14.out.get (v := (.agg #[.bool g1, .slice a1 n1 c1])) (g := g1) (z := z1) (List.mem_cons_of_mem _ (List.mem_cons_self ..))) Hx1.out (ST14.out.get (v := (.agg #[.bool g2, .slice a2 n2 c2])) (g := g2) (z := z2) (List.mem_cons_self ..)) Hx2.out)
            rw [Eok.out, Ho.out, HU.out, show kE true = 3 from rfl, show fE true = 0 from rfl, show (true && false) = false from rfl] at C74
            refine C74.out.mono ?_
            rintro e W74 ⟨⟨n5, a5, c5, d5, rfl, hv⟩, hb⟩
            clear qp2_0 qp2_1 qp2_2 qp2_3 qp2_4 qp1_0 qp1_1 qp1_2 qp1_3 qp1_4
            have ST75 := Lib.hid (ST14.out.next hb hv)
            clear hb hv
            go_upto_region 4 with fail
            obtain ⟨W76, HW76⟩ : ∃ W', Hid (W' = W74.alloc (.cells #[(.int .i64 3), (.bool n5), (.slice a5 c5 d5), (.string ⟨#[]⟩), (.bool false)] 27)) := ⟨_, Lib.hid rfl⟩
            obtain ⟨b5, Hb5⟩ : ∃ b, Hid (b = W74.heap.size) := ⟨_, Lib.hid rfl⟩
            have Ob5 := Lib.hid (ST75.out.old Hb5.out)
            have ST77 := Lib.hid (ST75.out.box Hb5.out HW76.out)
            rw [← HW76.out]
            try rw [← Hb5.out]
            have qp2_0 := ST77.out.cell (List.mem_cons_of_mem _ (List.mem_cons_self ..)) 0 _ rfl
            have qp2_1 := ST77.out.cell (List.mem_cons_of_mem _ (List.mem_cons_self ..)) 1 _ rfl
            have qp2_2 := ST77.out.cell (List.mem_cons_of_mem _ (List.mem_cons_self ..)) 2 _ rfl
            have qp2_3 := ST77.out.cell (List.mem_cons_of_mem _ (List.mem_cons_self ..)) 3 _ rfl
            have qp2_4 := ST77.out.cell (List.mem_cons_of_mem _ (List.mem_cons_self ..)) 4 _ rfl
            have qp1_0 := ST77.out.cell (List.mem_cons_of_mem _ (List.mem_cons_of_mem _ (List.mem_cons_self ..))) 0 _ rfl
            have qp1_1 := ST77.out.cell (List.mem_cons_of_mem _ (List.mem_cons_of_mem _ (List.mem_cons_self ..))) 1 _ rfl
            have qp1_2 := ST77.out.cell (List.mem_cons_of_mem _ (List.mem_cons_of_mem _ (List.mem_cons_self ..))) 2 _ rfl
            have qp1_3 := ST77.out.cell (List.mem_cons_of_mem _ (List.mem_cons_of_mem _ (List.mem_cons_self ..))) 3 _ rfl
            have qp1_4 := ST77.out.cell (List.mem_cons_of_mem _ (List.mem_cons_of_mem _ (List.mem_cons_self ..))) 4 _ rfl
            go_wp2_with (go_at_call 18; refine hold ?_)
            refine Hold.mk ?_
            have C78 := Lib.hid (b_ne (k1 := k1) (k2 := k2) (s1 := s1) (s2 := s2) (t1 := t1) (t2 := t2) (ST77.out.get (v := (.agg #[.bool g1, .slice a1 n1 c1])) (g := g1) (z := z1) (List.mem_cons_of_mem _ (List.mem_cons_of_mem _ (List.mem_cons_self ..)))) Hx1.out (ST77.out.get (v := (.agg #[.bool g2, .slice a2 n2 c2])) (g := g2) (z := z2) (List.mem_cons_of_mem _ (List.mem_cons_self ..))) Hx2.out)
            rw [Eok.out, Ho.out, HN.out, show kE true = 3 from rfl, show fE true = 0 from rfl, show (true && true) = true from rfl] at C78
            refine C78.out.mono ?_
            rintro e W78 ⟨⟨n6, a6, c6, d6, rfl, hv⟩, hb⟩
            clear qp2_0 qp2_1 qp2_2 qp2_3 qp2_4 qp1_0 qp1_1 qp1_2 qp1_3 qp1_4
            have ST79 := Lib.hid (ST77.out.next hb hv)
            clear hb hv
            go_upto_region 5 with fail
            obtain ⟨W80, HW80⟩ : ∃ W', Hid (W' = W78.alloc (.cells #[(.int .i64 3), (.bool n6), (.slice a6 c6 d6), (.string ⟨#[]⟩), (.bool true)] 27)) := ⟨_, Lib.hid rfl⟩
            obtain ⟨b6, Hb6⟩ : ∃ b, Hid (b = W78.heap.size) := ⟨_, Lib.hid rfl⟩
            have Ob6 := Lib.hid (ST79.out.old Hb6.out)
            have ST81 := Lib.hid (ST79.out.box Hb6.out HW80.out)
            rw [← HW80.out]
            try rw [← Hb6.out]
            have HC5 : Hid (∀ wx, Below W80.heap.size W80 wx → (fun w' : World => w'.cell? ⟨b6, 0, none⟩ = some (.int .i64 3) ∧ w'.cell? ⟨b6, 1, none⟩ = some (.bool n6) ∧ w'.cell? ⟨b6, 2, none⟩ = some (.slice a6 c6 d6) ∧ w'.cell? ⟨b6, 3, none⟩ = some (.string ⟨#[]⟩) ∧ w'.cell? ⟨b6, 4, none⟩ = some (.bool true) ∧ w'.cell? ⟨b5, 0, none⟩ = some (.int .i64 3) ∧ w'.cell? ⟨b5, 1, none⟩ = some (.bool n5) ∧ w'.cell? ⟨b5, 2, none⟩ = some (.slice a5 c5 d5) ∧ w'.cell? ⟨b5, 3, none⟩ = some (.string ⟨#[]⟩) ∧ w'.cell? ⟨b5, 4, none⟩ = some (.bool false) ∧ w'.cell? ⟨p2, 0, none⟩ = some (.int .i64 k2) ∧ w'.cell? ⟨p2, 1, none⟩ = some (.bool g2) ∧ w'.cell? ⟨p2, 2, none⟩ = some (.slice a2 n2 c2) ∧ w'.cell? ⟨p2, 3, none⟩ = some (.string s2) ∧ w'.cell? ⟨p2, 4, none⟩ = some (.bool t2) ∧ w'.cell? ⟨p1, 0, none⟩ = some (.int .i64 k1) ∧ w'.cell? ⟨p1, 1, none⟩ = some (.bool g1) ∧ w'.cell? ⟨p1, 2, none⟩ = some (.slice a1 n1 c1) ∧ w'.cell? ⟨p1, 3, none⟩ = some (.string s1) ∧ w'.cell? ⟨p1, 4, none⟩ = some (.bool t1)) wx) := Lib.hid fun wx hx => by
              have h := ST81.out.go hx
              exact ⟨h.cell (List.mem_cons_self ..) 0 _ rfl, h.cell (List.mem_cons_self ..) 1 _ rfl, h.cell (List.mem_cons_self ..) 2 _ rfl, h.cell (List.mem_cons_self ..) 3 _ rfl, h.cell (List.mem_cons_self ..) 4 _ rfl, h.cell (List.mem_cons_of_mem _ (List.mem_cons_self ..)) 0 _ rfl, h.cell (List.mem_cons_of_mem _ (List.mem_cons_self ..)) 1 _ rfl, h.cell (List.mem_cons_of_mem _ (List.mem_cons_self ..)) 2 _ rfl, h.cell (List.mem_cons_of_mem _ (List.mem_cons_self ..)) 3 _ rfl, h.cell (List.mem_cons_of_mem _ (List.mem_cons_self ..)) 4 _ rfl, h.cell (List.mem_cons_of_mem _ (List.mem_cons_of_mem _ (List.mem_cons_self ..))) 0 _ rfl, h.cell (List.mem_cons_of_mem _ (List.mem_cons_of_mem _ (List.mem_cons_self ..))) 1 _ rfl, h.cell (List.mem_cons_of_mem _ (List.mem_cons_of_mem _ (List.mem_cons_self ..))) 2 _ rfl, h.cell (List.mem_cons_of_mem _ (List.mem_cons_of_mem _ (List.mem_cons_self ..))) 3 _ rfl, h.cell (List.mem_cons_of_mem _ (List.mem_cons_of_mem _ (List.mem_cons_self ..))) 4 _ rfl, h.cell (List.mem_cons_of_mem _ (List.mem_cons_of_mem _ (List.mem_cons_of_mem _ (List.mem_cons_self ..)))) 0 _ rfl, h.cell (List.mem_cons_of_mem _ (List.mem_cons_of_mem _ (List.mem_cons_of_mem _ (List.mem_cons_self ..)))) 1 _ rfl, h.cell (List.mem_cons_of_mem _ (List.mem_cons_of_mem _ (List.mem_cons_of_mem _ (List.mem_cons_self ..)))) 2 _ rfl, h.cell (List.mem_cons_of_mem _ (List.mem_cons_of_mem _ (List.mem_cons_of_mem _ (List.mem_cons_self ..)))) 3 _ rfl, h.cell (List.mem_cons_of_mem _ (List.mem_cons_of_mem _ (List.mem_cons_of_mem _ (List.mem_cons_self ..)))) 4 _ rfl⟩
            have hD5 := Lib.hid (Below.refl W80.heap.size W80).drew
            have ST82 := Lib.hid (ST81.out.go hD5.out)
            have HS := HC5.out W80.drew hD5.out
            refine wp_region_pi (fun w' : World => w'.cell? ⟨b6, 0, none⟩ = some (.int .i64 3) ∧ w'.cell? ⟨b6, 1, none⟩ = some (.bool n6) ∧ w'.cell? ⟨b6, 2, none⟩ = some (.slice a6 c6 d6) ∧ w'.cell? ⟨b6, 3, none⟩ = some (.string ⟨#[]⟩) ∧ w'.cell? ⟨b6, 4, none⟩ = some (.bool true) ∧ w'.cell? ⟨b5, 0, none⟩ = some (.int .i64 3) ∧ w'.cell? ⟨b5, 1, none⟩ = some (.bool n5) ∧ w'.cell? ⟨b5, 2, none⟩ = some (.slice a5 c5 d5) ∧ w'.cell? ⟨b5, 3, none⟩ = some (.string ⟨#[]⟩) ∧ w'.cell? ⟨b5, 4, none⟩ = some (.bool false) ∧ w'.cell? ⟨p2, 0, none⟩ = some (.int .i64 k2) ∧ w'.cell? ⟨p2, 1, none⟩ = some (.bool g2) ∧ w'.cell? ⟨p2, 2, none⟩ = some (.slice a2 n2 c2) ∧ w'.cell? ⟨p2, 3, none⟩ = some (.string s2) ∧ w'.cell? ⟨p2, 4, none⟩ = some (.bool t2) ∧ w'.cell? ⟨p1, 0, none⟩ = some (.int .i64 k1) ∧ w'.cell? ⟨p1, 1, none⟩ = some (.bool g1) ∧ w'.cell? ⟨p1, 2, none⟩ = some (.slice a1 n1 c1) ∧ w'.cell? ⟨p1, 3, none⟩ = some (.string s1) ∧ w'.cell? ⟨p1, 4, none⟩ = some (.bool t1)) [(0, 1), (1, 1), (2, 1), (3, 1), (4, 1), (5, 1), (6, 1), (7, 1), (8, 0), (9, 1), (10, 0), (11, 1), (12, 1), (13, 1), (14, 0), (15, 0), (16, 0), (17, 2), (18, 1), (19, 1), (20, 1), (21, 1)] [] (by kernel_rfl) (by kernel_rfl) (fun _ _ _ _ _ h => h) (HS) ?_
            refine pq_pu (some 35) rfl rfl (by rfl) (fun ws => by go_simp; try with_reducible rfl) ?_; go_frame   -- 0 Op.move (Operand.tmp 6)
            refine pq_pu (some 36) rfl rfl (by rfl) (fun ws => by go_simp; try with_reducible rfl) ?_; go_frame   -- 1 Op.move (Operand.tmp 8)
            refine pq_pu (some 37) rfl rfl (by rfl) (fun ws => by go_simp; try with_reducible rfl) ?_; go_frame   -- 2 Op.binOp BinOp.neq 29 (Operand.tmp 35) (Operand.tmp 36) 29
            refine pq_pu (some 38) rfl rfl (by rfl) (fun ws => by go_simp; try with_reducible rfl) ?_; go_frame   -- 3 Op.move (Operand.tmp 37)
            refine pq_pu (some 39) rfl rfl (by rfl) (fun ws => by go_simp; try with_reducible rfl) ?_; go_frame   -- 4 Op.move (Operand.tmp 6)
            refine pq_pu (some 40) rfl rfl (by rfl) (fun ws => by go_simp; try with_reducible rfl) ?_; go_frame   -- 5 Op.binOp BinOp.eql 29 (Operand.tmp 39) (Operand.const (Value.int IntKind.i64 0)) 29
            refine pq_pu (some 41) rfl rfl (by rfl) (fun ws => by go_simp; try with_reducible rfl) ?_; go_frame   -- 6 Op.move (Operand.tmp 40)
            refine pq_pu (some 42) rfl rfl (by rfl) (fun ws => by go_simp; try with_reducible rfl) ?_; go_frame   -- 7 Op.fieldAddr 27 (Operand.tmp 5) 3
            refine pq_ld (some 43) rfl rfl (by rfl) (fun ws HS => by go_split_ands; go_simp; try with_reducible rfl) ?_; go_frame   -- 8 Op.load 4 (Operand.tmp 42)
            refine pq_pu (some 44) rfl rfl (by rfl) (fun ws => by go_simp; try with_reducible rfl) ?_; go_frame   -- 9 Op.fieldAddr 27 (Operand.tmp 7) 3
            refine pq_ld (some 45) rfl rfl (by rfl) (fun ws HS => by go_split_ands; go_simp; try with_reducible rfl) ?_; go_frame   -- 10 Op.load 4 (Operand.tmp 44)
            refine pq_pu (some 46) rfl rfl (by rfl) (fun ws => by go_simp; try with_reducible rfl) ?_; go_frame   -- 11 Op.binOp BinOp.eql 4 (Operand.tmp 43) (Operand.tmp 45) 4
            refine pq_pu (some 47) rfl rfl (by rfl) (fun ws => by go_simp; try with_reducible rfl) ?_; go_frame   -- 12 Op.move (Operand.tmp 46)
            refine pq_pu (some 48) rfl rfl (by rfl) (fun ws => by go_simp; try with_reducible rfl) ?_; go_frame   -- 13 Op.fieldAddr 27 (Operand.tmp 5) 3
            refine pq_ld (some 49) rfl rfl (by rfl) (fun ws HS => by go_split_ands; go_simp; try with_reducible rfl) ?_; go_frame   -- 14 Op.load 4 (Operand.tmp 48)
            refine pq_ld (some 50) rfl rfl (by rfl) (fun ws HS => by go_split_ands; go_simp; try with_reducible rfl) ?_; go_frame   -- 15 Op.load 27 (Operand.tmp 2)
            refine pq_ld (some 51) rfl rfl (by rfl) (fun ws HS => by go_split_ands; go_simp; try with_reducible rfl) ?_; go_frame   -- 16 Op.load 27 (Operand.tmp 3)
            refine pk_ke rfl (fun J hJ => ?_)   -- pi_ke 17 Op.call { callee := Callee.value (Operand.func 19), args := #[Operand.tmp 50, Operand.tmp 51], argTypes := #[27, 27] }
            have C83 := Lib.hid (equal_any (k1 := k1) (k2 := k2) (s1 := s1) (s2 := s2) (t1 := t1) (t2 := t2) (ST82.out.get (v := (.agg #[.bool g1, .slice a1 n1 c1])) (g := g1) (z := z1) (List.mem_cons_of_mem _ (List.mem_cons_of_mem _ (List.mem_cons_of_mem _ (List.mem_cons_self ..))))) Hx1.out (ST82.out.get (v := (.agg #[.bool g2, .slice a2 n2 c2])) (g := g2) (z := z2) (List.mem_cons_of_mem _ (List.mem_cons_of_mem _ (List.mem_cons_self ..)))) Hx2.out)
            rw [EQK.out] at C83
            go_wp2_with (go_at_call 19; refine C83.out.mono ?_; rintro e W83 ⟨rfl, hb⟩; have ST83 := Lib.hid (ST82.out.go hb); have hD83 := Lib.hid (hD5.out.trans (Below.mono hb hD5.out.size)); clear hb)
            refine hJ _ _ (HC5.out W83 hD83.out) ?_
            refine pq_pu (some 53) rfl rfl (by rfl) (fun ws => by go_simp; try with_reducible rfl) ?_; go_frame   -- 18 Op.binOp BinOp.neq 4 (Operand.tmp 49) (Operand.tmp 52) 4
            refine pq_pu (some 54) rfl rfl (by rfl) (fun ws => by go_simp; try with_reducible rfl) ?_; go_frame   -- 19 Op.pick (Operand.tmp 47) (Operand.const (Value.bool true)) (Operand.tmp 53)
            refine pq_pu (some 55) rfl rfl (by rfl) (fun ws => by go_simp; try with_reducible rfl) ?_; go_frame   -- 20 Op.pick (Operand.tmp 41) (Operand.tmp 54) (Operand.const (Value.bool false))
            refine pq_pu (some 56) rfl rfl (by rfl) (fun ws => by go_simp; try with_reducible rfl) ?_; go_frame   -- 21 Op.pick (Operand.tmp 38) (Operand.const (Value.bool true)) (Operand.tmp 55)
            refine pi_tail (r := []) rfl ?_; simp only [opsAt]
            have qp2_0 := ST83.out.cell (List.mem_cons_of_mem _ (List.mem_cons_of_mem _ (List.mem_cons_self ..))) 0 _ rfl
            have qp2_1 := ST83.out.cell (List.mem_cons_of_mem _ (List.mem_cons_of_mem _ (List.mem_cons_self ..))) 1 _ rfl
            have qp2_2 := ST83.out.cell (List.mem_cons_of_mem _ (List.mem_cons_of_mem _ (List.mem_cons_self ..))) 2 _ rfl
            have qp2_3 := ST83.out.cell (List.mem_cons_of_mem _ (List.mem_cons_of_mem _ (List.mem_cons_self ..))) 3 _ rfl
            have qp2_4 := ST83.out.cell (List.mem_cons_of_mem _ (List.mem_cons_of_mem _ (List.mem_cons_self ..))) 4 _ rfl
            have qp1_0 := ST83.out.cell (List.mem_cons_of_mem _ (List.mem_cons_of_mem _ (List.mem_cons_of_mem _ (List.mem_cons_self ..)))) 0 _ rfl
            have qp1_1 := ST83.out.cell (List.mem_cons_of_mem _ (List.mem_cons_of_mem _ (List.mem_cons_of_mem _ (List.mem_cons_self ..)))) 1 _ rfl
            have qp1_2 := ST83.out.cell (List.mem_cons_of_mem _ (List.mem_cons_of_mem _ (List.mem_cons_of_mem _ (List.mem_cons_self ..)))) 2 _ rfl
            have qp1_3 := ST83.out.cell (List.mem_cons_of_mem _ (List.mem_cons_of_mem _ (List.mem_cons_of_mem _ (List.mem_cons_self ..)))) 3 _ rfl
            have qp1_4 := ST83.out.cell (List.mem_cons_of_mem _ (List.mem_cons_of_mem _ (List.mem_cons_of_mem _ (List.mem_cons_self ..)))) 4 _ rfl
            go_wp2_with (go_at_call 18; refine hold ?_)
            refine Hold.mk ?_
            have C84 := Lib.hid (b_lt (k1 := k1) (k2 := k2) (s1 := s1) (s2 := s2) (t1 := t1) (t2 := t2) (ST83.out.get (v := (.agg #[.bool g1, .slice a1 n1 c1])) (g := g1) (z := z1) (List.mem_cons_of_mem _ (List.mem_cons_of_mem _ (List.mem_cons_of_mem _ (List.mem_cons_self ..))))) Hx1.out (ST83.out.get (v := (.agg #[.bool g2, .slice a2 n2 c2])) (g := g2) (z := z2) (List.mem_cons_of_mem _ (List.mem_cons_of_mem _ (List.mem_cons_self ..)))) Hx2.out)
            rw [Lok.out, Ho.out, HL.out, show kE true = 3 from rfl, show fE true = 0 from rfl, show (true && true) = true from rfl] at C84
            refine C84.out.mono ?_
            rintro e W84 ⟨⟨n7, a7, c7, d7, rfl, hv⟩, hb⟩
            clear qp2_0 qp2_1 qp2_2 qp2_3 qp2_4 qp1_0 qp1_1 qp1_2 qp1_3 qp1_4
            have ST85 := Lib.hid (ST83.out.next hb hv)
            clear hb hv
            go_upto_region 8 with fail
            obtain ⟨W86, HW86⟩ : ∃ W', Hid (W' = W84.alloc (.cells #[(.int .i64 3), (.bool n7), (.slice a7 c7 d7), (.string ⟨#[]⟩), (.bool true)] 27)) := ⟨_, Lib.hid rfl⟩
            obtain ⟨b7, Hb7⟩ : ∃ b, Hid (b = W84.heap.size) := ⟨_, Lib.hid rfl⟩
            have Ob7 := Lib.hid (ST85.out.old Hb7.out)
            have ST87 := Lib.hid (ST85.out.box Hb7.out HW86.out)
            rw [← HW86.out]
            try rw [← Hb7.out]
            have qp2_0 := ST87.out.cell (List.mem_cons_of_mem _ (List.mem_cons_of_mem _ (List.mem_cons_of_mem _ (List.mem_cons_self ..)))) 0 _ rfl
            have qp2_1 := ST87.out.cell (List.mem_cons_of_mem _ (List.mem_cons_of_mem _ (List.mem_cons_of_mem _ (List.mem_cons_self ..)))) 1 _ rfl
            have qp2_2 := ST87.out.cell (List.mem_cons_of_mem _ (List.mem_cons_of_mem _ (List.mem_cons_of_mem _ (List.mem_cons_self ..)))) 2 _ rfl
            have qp2_3 := ST87.out.cell (List.mem_cons_of_mem _ (List.mem_cons_of_mem _ (List.mem_cons_of_mem _ (List.mem_cons_self ..)))) 3 _ rfl
            have qp2_4 := ST87.out.cell (List.mem_cons_of_mem _ (List.mem_cons_of_mem _ (List.mem_cons_of_mem _ (List.mem_cons_self ..)))) 4 _ rfl
            have qp1_0 := ST87.out.cell (List.mem_cons_of_mem _ (List.mem_cons_of_mem _ (List.mem_cons_of_mem _ (List.mem_cons_of_mem _ (List.mem_cons_self ..))))) 0 _ rfl
            have qp1_1 := ST87.out.cell (List.mem_cons_of_mem _ (List.mem_cons_of_mem _ (List.mem_cons_of_mem _ (List.mem_cons_of_mem _ (List.mem_cons_self ..))))) 1 _ rfl
            have qp1_2 := ST87.out.cell (List.mem_cons_of_mem _ (List.mem_cons_of_mem _ (List.mem_cons_of_mem _ (List.mem_cons_of_mem _ (List.mem_cons_self ..))))) 2 _ rfl
            have qp1_3 := ST87.out.cell (List.mem_cons_of_mem _ (List.mem_cons_of_mem _ (List.mem_cons_of_mem _ (List.mem_cons_of_mem _ (List.mem_cons_self ..))))) 3 _ rfl
            have qp1_4 := ST87.out.cell (List.mem_cons_of_mem _ (List.mem_cons_of_mem _ (List.mem_cons_of_mem _ (List.mem_cons_of_mem _ (List.mem_cons_self ..))))) 4 _ rfl
            go_wp2_with (go_at_call 18; refine hold ?_)
            refine Hold.mk ?_
            have C88 := Lib.hid (b_gt (k1 := k1) (k2 := k2) (s1 := s1) (s2 := s2) (t1 := t1) (t2 := t2) (ST87.out.get (v := (.agg #[.bool g1, .slice a1 n1 c1])) (g := g1) (z := z1) (List.mem_cons_of_mem _ (List.mem_cons_of_mem _ (List.mem_cons_of_mem _ (List.mem_cons_of_mem _ (List.mem_cons_self ..)))))) Hx1.out (ST87.out.get (v := (.agg #[.bool g2, .slice a2 n2 c2])) (g := g2) (z := z2) (List.mem_cons_of_mem _ (List.mem_cons_of_mem _ (List.mem_cons_of_mem _ (List.mem_cons_self ..))))) Hx2.out)
            rw [Lok.out, Ho.out, HG.out, show kE true = 3 from rfl, show fE true = 0 from rfl, show (true && false) = false from rfl] at C88
            refine C88.out.mono ?_
            rintro e W88 ⟨⟨n8, a8, c8, d8, rfl, hv⟩, hb⟩
            clear qp2_0 qp2_1 qp2_2 qp2_3 qp2_4 qp1_0 qp1_1 qp1_2 qp1_3 qp1_4
            have ST89 := Lib.hid (ST87.out.next hb hv)
            clear hb hv
            go_upto_region 9 with fail
            obtain ⟨W90, HW90⟩ : ∃ W', Hid (W' = W88.alloc (.cells #[(.int .i64 3), (.bool n8), (.slice a8 c8 d8), (.string ⟨#[]⟩), (.bool false)] 27)) := ⟨_, Lib.hid rfl⟩
            obtain ⟨b8, Hb8⟩ : ∃ b, Hid (b = W88.heap.size) := ⟨_, Lib.hid rfl⟩
            have Ob8 := Lib.hid (ST89.out.old Hb8.out)
            have ST91 := Lib.hid (ST89.out.box Hb8.out HW90.out)
            rw [← HW90.out]
            try rw [← Hb8.out]
            have qb8_0 := ST91.out.cell (List.mem_cons_self ..) 0 _ rfl
            have qb8_1 := ST91.out.cell (List.mem_cons_self ..) 1 _ rfl
            have qb8_2 := ST91.out.cell (List.mem_cons_self ..) 2 _ rfl
            have qb8_3 := ST91.out.cell (List.mem_cons_self ..) 3 _ rfl
            have qb8_4 := ST91.out.cell (List.mem_cons_self ..) 4 _ rfl
            have qb7_0 := ST91.out.cell (List.mem_cons_of_mem _ (List.mem_cons_self ..)) 0 _ rfl
            have qb7_1 := ST91.out.cell (List.mem_cons_of_mem _ (List.mem_cons_self ..)) 1 _ rfl
            have qb7_2 := ST91.out.cell (List.mem_cons_of_mem _ (List.mem_cons_self ..)) 2 _ rfl
            have qb7_3 := ST91.out.cell (List.mem_cons_of_mem _ (List.mem_cons_self ..)) 3 _ rfl
            have qb7_4 := ST91.out.cell (List.mem_cons_of_mem _ (List.mem_cons_self ..)) 4 _ rfl
            have qb5_0 := ST91.out.cell (List.mem_cons_of_mem _ (List.mem_cons_of_mem _ (List.mem_cons_of_mem _ (List.mem_cons_self ..)))) 0 _ rfl
            have qb5_1 := ST91.out.cell (List.mem_cons_of_mem _ (List.mem_cons_of_mem _ (List.mem_cons_of_mem _ (List.mem_cons_self ..)))) 1 _ rfl
            have qb5_2 := ST91.out.cell (List.mem_cons_of_mem _ (List.mem_cons_of_mem _ (List.mem_cons_of_mem _ (List.mem_cons_self ..)))) 2 _ rfl
            have qb5_3 := ST91.out.cell (List.mem_cons_of_mem _ (List.mem_cons_of_mem _ (List.mem_cons_of_mem _ (List.mem_cons_self ..)))) 3 _ rfl
            have qb5_4 := ST91.out.cell (List.mem_cons_of_mem _ (List.mem_cons_of_mem _ (List.mem_cons_of_mem _ (List.mem_cons_self ..)))) 4 _ rfl
            go_wp2_with (go_at_call 16; refine hold ?_)
            refine Hold.mk ?_
            have C92 := Lib.hid (kawake_any (w := W90))
            refine C92.out.mono ?_
            rintro e W92 ⟨rfl, hb⟩
            clear qb8_0 qb8_1 qb8_2 qb8_3 qb8_4 qb7_0 qb7_1 qb7_2 qb7_3 qb7_4 qb5_0 qb5_1 qb5_2 qb5_3 qb5_4
            have ST93 := Lib.hid (ST91.out.go hb)
            clear hb
            go_wp2_with fail
            go_ret
            exact ⟨rfl, ST93.out.below⟩
          · have hu : (o == 0) = true := by rw [ho]; rfl
            have HU := Lib.hid hu
            have HN := Lib.hid (show (o != 0) = false from by simp only [bne, hu, Bool.not_true, Bool.not_false])
            have EQK := Lib.hid (eqK_ok (x1 := x1) (x2 := x2) (s1 := s1) (s2 := s2) (t1 := t1) (t2 := t2) (u := true) Eok.out (by rw [Ho.out]; exact hu))
            have HL := Lib.hid (show decide (o < 0) = false from decide_eq_false (by omega))
            have HG := Lib.hid (show decide (0 < o) = false from decide_eq_false (by omega))
            clear hu ho
            have qp2_0 := ST14.out.cell (List.mem_cons_self ..) 0 _ rfl
            have qp2_1 := ST14.out.cell (List.mem_cons_self ..) 1 _ rfl
            have qp2_2 := ST14.out.cell (List.mem_cons_self ..) 2 _ rfl
            have qp2_3 := ST14.out.cell (List.mem_cons_self ..) 3 _ rfl
            have qp2_4 := ST14.out.cell (List.mem_cons_self ..) 4 _ rfl
            have qp1_0 := ST14.out.cell (List.mem_cons_of_mem _ (List.mem_cons_self ..)) 0 _ rfl
            have qp1_1 := ST14.out.cell (List.mem_cons_of_mem _ (List.mem_cons_self ..)) 1 _ rfl
            have qp1_2 := ST14.out.cell (List.mem_cons_of_mem _ (List.mem_cons_self ..)) 2 _ rfl
            have qp1_3 := ST14.out.cell (List.mem_cons_of_mem _ (List.mem_cons_self ..)) 3 _ rfl
            have qp1_4 := ST14.out.cell (List.mem_cons_of_mem _ (List.mem_cons_self ..)) 4 _ rfl
            go_wp2_with (go_at_call 18; refine hold ?_)
            refine Hold.mk ?_
            have C94 := Lib.hid (b_eq (k1 := k1) (k2 := k2) (s1 := s1) (s2 := s2) (t1 := t1) (t2 := t2) (ST14.out.get (v := (.agg #[.bool g1, .slice a1 n1 c1])) (g := g1) (z := z1) (List.mem_cons_of_mem _ (List.mem_cons_self ..))) Hx1.out (ST14.out.get (v := (.agg #[.bool g2, .slice a2 n2 c2])) (g := g2) (z := z2) (List.mem_cons_self ..)) Hx2.out)
            rw [Eok.out, Ho.out, HU.out, show kE true = 3 from rfl, show fE true = 0 from rfl, show (true && true) = true from rfl] at C94
            refine C94.out.mono ?_
            rintro e W94 ⟨⟨n5, a5, c5, d5, rfl, hv⟩, hb⟩
            clear qp2_0 qp2_1 qp2_2 qp2_3 qp2_4 qp1_0 qp1_1 qp1_2 qp1_3 qp1_4
            have ST95 := Lib.hid (ST14.out.next hb hv)
            clear hb hv
            go_upto_region 4 with fail
            obtain ⟨W96, HW96⟩ : ∃ W', Hid (W' = W94.alloc (.cells #[(.int .i64 3), (.bool n5), (.slice a5 c5 d5), (.string ⟨#[]⟩), (.bool true)] 27)) := ⟨_, Lib.hid rfl⟩
            obtain ⟨b5, Hb5⟩ : ∃ b, Hid (b = W94.heap.size) := ⟨_, Lib.hid rfl⟩
            have Ob5 := Lib.hid (ST95.out.old Hb5.out)
            have ST97 := Lib.hid (ST95.out.box Hb5.out HW96.out)
            rw [← HW96.out]
            try rw [← Hb5.out]
            have qp2_0 := ST97.out.cell (List.mem_cons_of_mem _ (List.mem_cons_self ..)) 0 _ rfl
            have qp2_1 := ST97.out.cell (List.mem_cons_of_mem _ (List.mem_cons_self ..)) 1 _ rfl
            have qp2_2 := ST97.out.cell (List.mem_cons_of_mem _ (List.mem_cons_self ..)) 2 _ rfl
            have qp2_3 := ST97.out.cell (List.mem_cons_of_mem _ (List.mem_cons_self ..)) 3 _ rfl
            have qp2_4 := ST97.out.cell (List.mem_cons_of_mem _ (List.mem_cons_self ..)) 4 _ rfl
            have qp1_0 := ST97.out.cell (List.mem_cons_of_mem _ (List.mem_cons_of_mem _ (List.mem_cons_self ..))) 0 _ rfl
            have qp1_1 := ST97.out.cell (List.mem_cons_of_mem _ (List.mem_cons_of_mem _ (List.mem_cons_self ..))) 1 _ rfl
            have qp1_2 := ST97.out.cell (List.mem_cons_of_mem _ (List.mem_cons_of_mem _ (List.mem_cons_self ..))) 2 _ rfl
            have qp1_3 := ST97.out.cell (List.mem_cons_of_mem _ (List.mem_cons_of_mem _ (List.mem_cons_self ..))) 3 _ rfl
            have qp1_4 := ST97.out.cell (List.mem_cons_of_mem _ (List.mem_cons_of_mem _ (List.mem_cons_self ..))) 4 _ rfl
            go_wp2_with (go_at_call 18; refine hold ?_)
            refine Hold.mk ?_
            have C98 := Lib.hid (b_ne (k1 := k1) (k2 := k2) (s1 := s1) (s2 := s2) (t1 := t1) (t2 := t2) (ST97.out.get (v := (.agg #[.bool g1, .slice a1 n1 c1])) (g := g1) (z := z1) (List.mem_cons_of_mem _ (List.mem_cons_of_mem _ (List.mem_cons_self ..)))) Hx1.out (ST97.out.get (v := (.agg #[.bool g2, .slice a2 n2 c2])) (g := g2) (z := z2) (List.mem_cons_of_mem _ (List.mem_cons_self ..))) Hx2.out)
            rw [Eok.out, Ho.out, HN.out, show kE true = 3 from rfl, show fE true = 0 from rfl, show (true && false) = false from rfl] at C98
            refine C98.out.mono ?_
            rintro e W98 ⟨⟨n6, a6, c6, d6, rfl, hv⟩, hb⟩
            clear qp2_0 qp2_1 qp2_2 qp2_3 qp2_4 qp1_0 qp1_1 qp1_2 qp1_3 qp1_4
            have ST99 := Lib.hid (ST97.out.next hb hv)
            clear hb hv
            go_upto_region 5 with fail
            obtain ⟨W100, HW100⟩ : ∃ W', Hid (W' = W98.alloc (.cells #[(.int .i64 3), (.bool n6), (.slice a6 c6 d6), (.string ⟨#[]⟩), (.bool false)] 27)) := ⟨_, Lib.hid rfl⟩
            obtain ⟨b6, Hb6⟩ : ∃ b, Hid (b = W98.heap.size) := ⟨_, Lib.hid rfl⟩
            have Ob6 := Lib.hid (ST99.out.old Hb6.out)
            have ST101 := Lib.hid (ST99.out.box Hb6.out HW100.out)
            rw [← HW100.out]
            try rw [← Hb6.out]
            have HC5 : Hid (∀ wx, Below W100.heap.size W100 wx → (fun w' : World => w'.cell? ⟨b6, 0, none⟩ = some (.int .i64 3) ∧ w'.cell? ⟨b6, 1, none⟩ = some (.bool n6) ∧ w'.cell? ⟨b6, 2, none⟩ = some (.slice a6 c6 d6) ∧ w'.cell? ⟨b6, 3, none⟩ = some (.string ⟨#[]⟩) ∧ w'.cell? ⟨b6, 4, none⟩ = some (.bool false) ∧ w'.cell? ⟨b5, 0, none⟩ = some (.int .i64 3) ∧ w'.cell? ⟨b5, 1, none⟩ = some (.bool n5) ∧ w'.cell? ⟨b5, 2, none⟩ = some (.slice a5 c5 d5) ∧ w'.cell? ⟨b5, 3, none⟩ = some (.string ⟨#[]⟩) ∧ w'.cell? ⟨b5, 4, none⟩ = some (.bool true) ∧ w'.cell? ⟨p2, 0, none⟩ = some (.int .i64 k2) ∧ w'.cell? ⟨p2, 1, none⟩ = some (.bool g2) ∧ w'.cell? ⟨p2, 2, none⟩ = some (.slice a2 n2 c2) ∧ w'.cell? ⟨p2, 3, none⟩ = some (.string s2) ∧ w'.cell? ⟨p2, 4, none⟩ = some (.bool t2) ∧ w'.cell? ⟨p1, 0, none⟩ = some (.int .i64 k1) ∧ w'.cell? ⟨p1, 1, none⟩ = some (.bool g1) ∧ w'.cell? ⟨p1, 2, none⟩ = some (.slice a1 n1 c1) ∧ w'.cell? ⟨p1, 3, none⟩ = some (.string s1) ∧ w'.cell? ⟨p1, 4, none⟩ = some (.bool t1)) wx) := Lib.hid fun wx hx => by
              have h := ST101.out.go hx
              exact ⟨h.cell (List.mem_cons_self ..) 0 _ rfl, h.cell (List.mem_cons_self ..) 1 _ rfl, h.cell (List.mem_cons_self ..) 2 _ rfl, h.cell (List.mem_cons_self ..) 3 _ rfl, h.cell (List.mem_cons_self ..) 4 _ rfl, h.cell (List.mem_cons_of_mem _ (List.mem_cons_self ..)) 0 _ rfl, h.cell (List.mem_cons_of_mem _ (List.mem_cons_self ..)) 1 _ rfl, h.cell (List.mem_cons_of_mem _ (List.mem_cons_self ..)) 2 _ rfl, h.cell (List.mem_cons_of_mem _ (List.mem_cons_self ..)) 3 _ rfl, h.cell (List.mem_cons_of_mem _ (List.mem_cons_self ..)) 4 _ rfl, h.cell (List.mem_cons_of_mem _ (List.mem_cons_of_mem _ (List.mem_cons_self ..))) 0 _ rfl, h.cell (List.mem_cons_of_mem _ (List.mem_cons_of_mem _ (List.mem_cons_self ..))) 1 _ rfl, h.cell (List.mem_cons_of_mem _ (List.mem_cons_of_mem _ (List.mem_cons_self ..))) 2 _ rfl, h.cell (List.mem_cons_of_mem _ (List.mem_cons_of_mem _ (List.mem_cons_self ..))) 3 _ rfl, h.cell (List.mem_cons_of_mem _ (List.mem_cons_of_mem _ (List.mem_cons_self ..))) 4 _ rfl, h.cell (List.mem_cons_of_mem _ (List.mem_cons_of_mem _ (List.mem_cons_of_mem _ (List.mem_cons_self ..)))) 0 _ rfl, h.cell (List.mem_cons_of_mem _ (List.mem_cons_of_mem _ (List.mem_cons_of_mem _ (List.mem_cons_self ..)))) 1 _ rfl, h.cell (List.mem_cons_of_mem _ (List.mem_cons_of_mem _ (List.mem_cons_of_mem _ (List.mem_cons_self ..)))) 2 _ rfl, h.cell (List.mem_cons_of_mem _ (List.mem_cons_of_mem _ (List.mem_cons_of_mem _ (List.mem_cons_self ..)))) 3 _ rfl, h.cell (List.mem_cons_of_mem _ (List.mem_cons_of_mem _ (List.mem_cons_of_mem _ (List.mem_cons_self ..)))) 4 _ rfl⟩
            have hD5 := Lib.hid (Below.refl W100.heap.size W100).drew
            have ST102 := Lib.hid (ST101.out.go hD5.out)
            have HS := HC5.out W100.drew hD5.out
            refine wp_region_pi (fun w' : World => w'.cell? ⟨b6, 0, none⟩ = some (.int .i64 3) ∧ w'.cell? ⟨b6, 1, none⟩ = some (.bool n6) ∧ w'.cell? ⟨b6, 2, none⟩ = some (.slice a6 c6 d6) ∧ w'.cell? ⟨b6, 3, none⟩ = some (.string ⟨#[]⟩) ∧ w'.cell? ⟨b6, 4, none⟩ = some (.bool false) ∧ w'.cell? ⟨b5, 0, none⟩ = some (.int .i64 3) ∧ w'.cell? ⟨b5, 1, none⟩ = some (.bool n5) ∧ w'.cell? ⟨b5, 2, none⟩ = some (.slice a5 c5 d5) ∧ w'.cell? ⟨b5, 3, none⟩ = some (.string ⟨#[]⟩) ∧ w'.cell? ⟨b5, 4, none⟩ = some (.bool true) ∧ w'.cell? ⟨p2, 0, none⟩ = some (.int .i64 k2) ∧ w'.cell? ⟨p2, 1, none⟩ = some (.bool g2) ∧ w'.cell? ⟨p2, 2, none⟩ = some (.slice a2 n2 c2) ∧ w'.cell? ⟨p2, 3, none⟩ = some (.string s2) ∧ w'.cell? ⟨p2, 4, none⟩ = some (.bool t2) ∧ w'.cell? ⟨p1, 0, none⟩ = some (.int .i64 k1) ∧ w'.cell? ⟨p1, 1, none⟩ = some (.bool g1) ∧ w'.cell? ⟨p1, 2, none⟩ = some (.slice a1 n1 c1) ∧ w'.cell? ⟨p1, 3, none⟩ = some (.string s1) ∧ w'.cell? ⟨p1, 4, none⟩ = some (.bool t1)) [(0, 1), (1, 1), (2, 1), (3, 1), (4, 1), (5, 1), (6, 1), (7, 1), (8, 0), (9, 1), (10, 0), (11, 1), (12, 1), (13, 1), (14, 0), (15, 0), (16, 0), (17, 2), (18, 1), (19, 1), (20, 1), (21, 1)] [] (by kernel_rfl) (by kernel_rfl) (fun _ _ _ _ _ h => h) (HS) ?_
            refine pq_pu (some 35) rfl rfl (by rfl) (fun ws => by go_simp; try with_reducible rfl) ?_; go_frame   -- 0 Op.move (Operand.tmp 6)
            refine pq_pu (some 36) rfl rfl (by rfl) (fun ws => by go_simp; try with_reducible rfl) ?_; go_frame   -- 1 Op.move (Operand.tmp 8)
            refine pq_pu (some 37) rfl rfl (by rfl) (fun ws => by go_simp; try with_reducible rfl) ?_; go_frame   -- 2 Op.binOp BinOp.neq 29 (Operand.tmp 35) (Operand.tmp 36) 29
            refine pq_pu (some 38) rfl rfl (by rfl) (fun ws => by go_simp; try with_reducible rfl) ?_; go_frame   -- 3 Op.move (Operand.tmp 37)
            refine pq_pu (some 39) rfl rfl (by rfl) (fun ws => by go_simp; try with_reducible rfl) ?_; go_frame   -- 4 Op.move (Operand.tmp 6)
            refine pq_pu (some 40) rfl rfl (by rfl) (fun ws => by go_simp; try with_reducible rfl) ?_; go_frame   -- 5 Op.binOp BinOp.eql 29 (Operand.tmp 39) (Operand.const (Value.int IntKind.i64 0)) 29
            refine pq_pu (some 41) rfl rfl (by rfl) (fun ws => by go_simp; try with_reducible rfl) ?_; go_frame   -- 6 Op.move (Operand.tmp 40)
            refine pq_pu (some 42) rfl rfl (by rfl) (fun ws => by go_simp; try with_reducible rfl) ?_; go_frame   -- 7 Op.fieldAddr 27 (Operand.tmp 5) 3
            refine pq_ld (some 43) rfl rfl (by rfl) (fun ws HS => by go_split_ands; go_simp; try with_reducible rfl) ?_; go_frame   -- 8 Op.load 4 (Operand.tmp 42)
            refine pq_pu (some 44) rfl rfl (by rfl) (fun ws => by go_simp; try with_reducible rfl) ?_; go_frame   -- 9 Op.fieldAddr 27 (Operand.tmp 7) 3
            refine pq_ld (some 45) rfl rfl (by rfl) (fun ws HS => by go_split_ands; go_simp; try with_reducible rfl) ?_; go_frame   -- 10 Op.load 4 (Operand.tmp 44)
            refine pq_pu (some 46) rfl rfl (by rfl) (fun ws => by go_simp; try with_reducible rfl) ?_; go_frame   -- 11 Op.binOp BinOp.eql 4 (Operand.tmp 43) (Operand.tmp 45) 4
            refine pq_pu (some 47) rfl rfl (by rfl) (fun ws => by go_simp; try with_reducible rfl) ?_; go_frame   -- 12 Op.move (Operand.tmp 46)
            refine pq_pu (some 48) rfl rfl (by rfl) (fun ws => by go_simp; try with_reducible rfl) ?_; go_frame   -- 13 Op.fieldAddr 27 (Operand.tmp 5) 3
            refine pq_ld (some 49) rfl rfl (by rfl) (fun ws HS => by go_split_ands; go_simp; try with_reducible rfl) ?_; go_frame   -- 14 Op.load 4 (Operand.tmp 48)
            refine pq_ld (some 50) rfl rfl (by rfl) (fun ws HS => by go_split_ands; go_simp; try with_reducible rfl) ?_; go_frame   -- 15 Op.load 27 (Operand.tmp 2)
            refine pq_ld (some 51) rfl rfl (by rfl) (fun ws HS => by go_split_ands; go_simp; try with_reducible rfl) ?_; go_frame   -- 16 Op.load 27 (Operand.tmp 3)
            refine pk_ke rfl (fun J hJ => ?_)   -- pi_ke 17 Op.call { callee := Callee.value (Operand.func 19), args := #[Operand.tmp 50, Operand.tmp 51], argTypes := #[27, 27] }
            have C103 := Lib.hid (equal_any (k1 := k1) (k2 := k2) (s1 := s1) (s2 := s2) (t1 := t1) (t2 := t2) (ST102.out.get (v := (.agg #[.bool g1, .slice a1 n1 c1])) (g := g1) (z := z1) (List.mem_cons_of_mem _ (List.mem_cons_of_mem _ (List.mem_cons_of_mem _ (List.mem_cons_self ..))))) Hx1.out (ST102.out.get (v := (.agg #[.bool g2, .slice a2 n2 c2])) (g := g2) (z := z2) (List.mem_cons_of_mem _ (List.mem_cons_of_mem _ (List.mem_cons_self ..)))) Hx2.out)
            rw [EQK.out] at C103
            go_wp2_with (go_at_call 19; refine C103.out.mono ?_; rintro e W103 ⟨rfl, hb⟩; have ST103 := Lib.hid (ST102.out.go hb); have hD103 := Lib.hid (hD5.out.trans (Below.mono hb hD5.out.size)); clear hb)
            refine hJ _ _ (HC5.out W103 hD103.out) ?_
            refine pq_pu (some 53) rfl rfl (by rfl) (fun ws => by go_simp; try with_reducible rfl) ?_; go_frame   -- 18 Op.binOp BinOp.neq 4 (Operand.tmp 49) (Operand.tmp 52) 4
            refine pq_pu (some 54) rfl rfl (by rfl) (fun ws => by go_simp; try with_reducible rfl) ?_; go_frame   -- 19 Op.pick (Operand.tmp 47) (Operand.const (Value.bool true)) (Operand.tmp 53)
            refine pq_pu (some 55) rfl rfl (by rfl) (fun ws => by go_simp; try with_reducible rfl) ?_; go_frame   -- 20 Op.pick (Operand.tmp 41) (Operand.tmp 54) (Operand.const (Value.bool false))
            refine pq_pu (some 56) rfl rfl (by rfl) (fun ws => by go_simp; try with_reducible rfl) ?_; go_frame   -- 21 Op.pick (Operand.tmp 38) (Operand.const (Value.bool true)) (Operand.tmp 55)
            refine pi_tail (r := []) rfl ?_; simp only [opsAt]
            have qp2_0 := ST103.out.cell (List.mem_cons_of_mem _ (List.mem_cons_of_mem _ (List.mem_cons_self ..))) 0 _ rfl
            have qp2_1 := ST103.out.cell (List.mem_cons_of_mem _ (List.mem_cons_of_mem _ (List.mem_cons_self ..))) 1 _ rfl
            have qp2_2 := ST103.out.cell (List.mem_cons_of_mem _ (List.mem_cons_of_mem _ (List.mem_cons_self ..))) 2 _ rfl
            have qp2_3 := ST103.out.cell (List.mem_cons_of_mem _ (List.mem_cons_of_mem _ (List.mem_cons_self ..))) 3 _ rfl
            have qp2_4 := ST103.out.cell (List.mem_cons_of_mem _ (List.mem_cons_of_mem _ (List.mem_cons_self ..))) 4 _ rfl
            have qp1_0 := ST103.out.cell (List.mem_cons_of_mem _ (List.mem_cons_of_mem _ (List.mem_cons_of_mem _ (List.mem_cons_self ..)))) 0 _ rfl
            have qp1_1 := ST103.out.cell (List.mem_cons_of_mem _ (List.mem_cons_of_mem _ (List.mem_cons_of_mem _ (List.mem_cons_self ..)))) 1 _ rfl
            have qp1_2 := ST103.out.cell (List.mem_cons_of_mem _ (List.mem_cons_of_mem _ (List.mem_cons_of_mem _ (List.mem_cons_self ..)))) 2 _ rfl
            have qp1_3 := ST103.out.cell (List.mem_cons_of_mem _ (List.mem_cons_of_mem _ (List.mem_cons_of_mem _ (List.mem_cons_self ..)))) 3 _ rfl
            have qp1_4 := ST103.out.cell (List.mem_cons_of_mem _ (List.mem_cons_of_mem _ (List.mem_cons_of_mem _ (List.mem_cons_self ..)))) 4 _ rfl
            go_wp2_with (go_at_call 18; refine hold ?_)
            refine Hold.mk ?_
            have C104 := Lib.hid (b_lt (k1 := k1) (k2 := k2) (s1 := s1) (s2 := s2) (t1 := t1) (t2 := t2) (ST103.out.get (v := (.agg #[.bool g1, .slice a1 n1 c1])) (g := g1) (z := z1) (List.mem_cons_of_mem _ (List.mem_cons_of_mem _ (List.mem_cons_of_mem _ (List.mem_cons_self ..))))) Hx1.out (ST103.out.get (v := (.agg #[.bool g2, .slice a2 n2 c2])) (g := g2) (z := z2) (List.mem_cons_of_mem _ (List.mem_cons_of_mem _ (List.mem_cons_self ..)))) Hx2.out)
            rw [Lok.out, Ho.out, HL.out, show kE true = 3 from rfl, show fE true = 0 from rfl, show (true && false) = false from rfl] at C104
            refine C104.out.mono ?_
            rintro e W104 ⟨⟨n7, a7, c7, d7, rfl, hv⟩, hb⟩
            clear qp2_0 qp2_1 qp2_2 qp2_3 qp2_4 qp1_0 qp1_1 qp1_2 qp1_3 qp1_4
            have ST105 := Lib.hid (ST103.out.next hb hv)
            clear hb hv
            go_upto_region 8 with fail
            obtain ⟨W106, HW106⟩ : ∃ W', Hid (W' = W104.alloc (.cells #[(.int .i64 3), (.bool n7), (.slice a7 c7 d7), (.string ⟨#[]⟩), (.bool false)] 27)) := ⟨_, Lib.hid rfl⟩
            obtain ⟨b7, Hb7⟩ : ∃ b, Hid (b = W104.heap.size) := ⟨_, Lib.hid rfl⟩
            have Ob7 := Lib.hid (ST105.out.old Hb7.out)
            have ST107 := Lib.hid (ST105.out.box Hb7.out HW106.out)
            rw [← HW106.out]
            try rw [← Hb7.out]
            have qp2_0 := ST107.out.cell (List.mem_cons_of_mem _ (List.mem_cons_of_mem _ (List.mem_cons_of_mem _ (List.mem_cons_self ..)))) 0 _ rfl
            have qp2_1 := ST107.out.cell (List.mem_cons_of_mem _ (List.mem_cons_of_mem _ (List.mem_cons_of_mem _ (List.mem_cons_self ..)))) 1 _ rfl
            have qp2_2 := ST107.out.cell (List.mem_cons_of_mem _ (List.mem_cons_of_mem _ (List.mem_cons_of_mem _ (List.mem_cons_self ..)))) 2 _ rfl
            have qp2_3 := ST107.out.cell (List.mem_cons_of_mem _ (List.mem_cons_of_mem _ (List.mem_cons_of_mem _ (List.mem_cons_self ..)))) 3 _ rfl
            have qp2_4 := ST107.out.cell (List.mem_cons_of_mem _ (List.mem_cons_of_mem _ (List.mem_cons_of_mem _ (List.mem_cons_self ..)))) 4 _ rfl
            have qp1_0 := ST107.out.cell (List.mem_cons_of_mem _ (List.mem_cons_of_mem _ (List.mem_cons_of_mem _ (List.mem_cons_of_mem _ (List.mem_cons_self ..))))) 0 _ rfl
            have qp1_1 := ST107.out.cell (List.mem_cons_of_mem _ (List.mem_cons_of_mem _ (List.mem_cons_of_mem _ (List.mem_cons_of_mem _ (List.mem_cons_self ..))))) 1 _ rfl
            have qp1_2 := ST107.out.cell (List.mem_cons_of_mem _ (List.mem_cons_of_mem _ (List.mem_cons_of_mem _ (List.mem_cons_of_mem _ (List.mem_cons_self ..))))) 2 _ rfl
            have qp1_3 := ST107.out.cell (List.mem_cons_of_mem _ (List.mem_cons_of_mem _ (List.mem_cons_of_mem _ (List.mem_cons_of_mem _ (List.mem_cons_self ..))))) 3 _ rfl
            have qp1_4 := ST107.out.cell (List.mem_cons_of_mem _ (List.mem_cons_of_mem _ (List.mem_cons_of_mem _ (List.mem_cons_of_mem _ (List.mem_cons_self ..))))) 4 _ rfl
            go_wp2_with (go_at_call 18; refine hold ?_)
            refine Hold.mk ?_
            have C108 := Lib.hid (b_gt (k1 := k1) (k2 := k2) (s1 := s1) (s2 := s2) (t1 := t1) (t2 := t2) (ST107.out.get (v := (.agg #[.bool g1, .slice a1 n1 c1])) (g := g1) (z := z1) (List.mem_cons_of_mem _ (List.mem_cons_of_mem _ (List.mem_cons_of_mem _ (List.mem_cons_of_mem _ (List.mem_cons_self ..)))))) Hx1.out (ST107.out.get (v := (.agg #[.bool g2, .slice a2 n2 c2])) (g := g2) (z := z2) (List.mem_cons_of_mem _ (List.mem_cons_of_mem _ (List.mem_cons_of_mem _ (List.mem_cons_self ..))))) Hx2.out)
            rw [Lok.out, Ho.out, HG.out, show kE true = 3 from rfl, show fE true = 0 from rfl, show (true && false) = false from rfl] at C108
            refine C108.out.mono ?_
            rintro e W108 ⟨⟨n8, a8, c8, d8, rfl, hv⟩, hb⟩
            clear qp2_0 qp2_1 qp2_2 qp2_3 qp2_4 qp1_0 qp1_1 qp1_2 qp1_3 qp1_4
            have ST109 := Lib.hid (ST107.out.next hb hv)
            clear hb hv
            go_upto_region 9 with fail
            obtain ⟨W110, HW110⟩ : ∃ W', Hid (W' = W108.alloc (.cells #[(.int .i64 3), (.bool n8), (.slice a8 c8 d8), (.string ⟨#[]⟩), (.bool false)] 27)) := ⟨_, Lib.hid rfl⟩
            obtain ⟨b8, Hb8⟩ : ∃ b, Hid (b = W108.heap.size) := ⟨_, Lib.hid rfl⟩
            have Ob8 := Lib.hid (ST109.out.old Hb8.out)
            have ST111 := Lib.hid (ST109.out.box Hb8.out HW110.out)
            rw [← HW110.out]
            try rw [← Hb8.out]
            have qb8_0 := ST111.out.cell (List.mem_cons_self ..) 0 _ rfl
            have qb8_1 := ST111.out.cell (List.mem_cons_self ..) 1 _ rfl
            have qb8_2 := ST111.out.cell (List.mem_cons_self ..) 2 _ rfl
            have qb8_3 := ST111.out.cell (List.mem_cons_self ..) 3 _ rfl
            have qb8_4 := ST111.out.cell (List.mem_cons_self ..) 4 _ rfl
            have qb7_0 := ST111.out.cell (List.mem_cons_of_mem _ (List.mem_cons_self ..)) 0 _ rfl
            have qb7_1 := ST111.out.cell (List.mem_cons_of_mem _ (List.mem_cons_self ..)) 1 _ rfl
            have qb7_2 := ST111.out.cell (List.mem_cons_of_mem _ (List.mem_cons_self ..)) 2 _ rfl
            have qb7_3 := ST111.out.cell (List.mem_cons_of_mem _ (List.mem_cons_self ..)) 3 _ rfl
            have qb7_4 := ST111.out.cell (List.mem_cons_of_mem _ (List.mem_cons_self ..)) 4 _ rfl
            have qb5_0 := ST111.out.cell (List.mem_cons_of_mem _ (List.mem_cons_of_mem _ (List.mem_cons_of_mem _ (List.mem_cons_self ..)))) 0 _ rfl
            have qb5_1 := ST111.out.cell (List.mem_cons_of_mem _ (List.mem_cons_of_mem _ (List.mem_cons_of_mem _ (List.mem_cons_self ..)))) 1 _ rfl
            have qb5_2 := ST111.out.cell (List.mem_cons_of_mem _ (List.mem_cons_of_mem _ (List.mem_cons_of_mem _ (List.mem_cons_self ..)))) 2 _ rfl
            have qb5_3 := ST111.out.cell (List.mem_cons_of_mem _ (List.mem_cons_of_mem _ (List.mem_cons_of_mem _ (List.mem_cons_self ..)))) 3 _ rfl
            have qb5_4 := ST111.out.cell (List.mem_cons_of_mem _ (List.mem_cons_of_mem _ (List.mem_cons_of_mem _ (List.mem_cons_self ..)))) 4 _ rfl
            go_wp2_with (go_at_call 16; refine hold ?_)
            refine Hold.mk ?_
            have C112 := Lib.hid (kawake_any (w := W110))
            refine C112.out.mono ?_
            rintro e W112 ⟨rfl, hb⟩
            clear qb8_0 qb8_1 qb8_2 qb8_3 qb8_4 qb7_0 qb7_1 qb7_2 qb7_3 qb7_4 qb5_0 qb5_1 qb5_2 qb5_3 qb5_4
            have ST113 := Lib.hid (ST111.out.go hb)
            clear hb
            go_wp2_with fail
            go_ret
            exact ⟨rfl, ST113.out.below⟩
          · have hu : (o == 0) = false := by simp; omega
            have HU := Lib.hid hu
            have HN := Lib.hid (show (o != 0) = true from by simp only [bne, hu, Bool.not_true, Bool.not_false])
            have EQK := Lib.hid (eqK_ok (x1 := x1) (x2 := x2) (s1 := s1) (s2 := s2) (t1 := t1) (t2 := t2) (u := false) Eok.out (by rw [Ho.out]; exact hu))
            have HL := Lib.hid (show decide (o < 0) = false from decide_eq_false (by omega))
            have HG := Lib.hid (show decide (0 < o) = true from decide_eq_true ho)
            clear hu ho
            have qp2_0 := ST14.out.cell (List.mem_cons_self ..) 0 _ rfl
            have qp2_1 := ST14.out.cell (List.mem_cons_self ..) 1 _ rfl
            have qp2_2 := ST14.out.cell (List.mem_cons_self ..) 2 _ rfl
            have qp2_3 := ST14.out.cell (List.mem_cons_self ..) 3 _ rfl
            have qp2_4 := ST14.out.cell (List.mem_cons_self ..) 4 _ rfl
            have qp1_0 := ST14.out.cell (List.mem_cons_of_mem _ (List.mem_cons_self ..)) 0 _ rfl
            have qp1_1 := ST14.out.cell (List.mem_cons_of_mem _ (List.mem_cons_self ..)) 1 _ rfl
            have qp1_2 := ST14.out.cell (List.mem_cons_of_mem _ (List.mem_cons_self ..)) 2 _ rfl
            have qp1_3 := ST14.out.cell (List.mem_cons_of_mem _ (List.mem_cons_self ..)) 3 _ rfl
            have qp1_4 := ST14.out.cell (List.mem_cons_of_mem _ (List.mem_cons_self ..)) 4 _ rfl
            go_wp2_with (go_at_call 18; refine hold ?_)
            refine Hold.mk ?_
            have C114 := Lib.hid (b_eq (k1 := k1) (k2 := k2) (s1 := s1) (s2 := s2) (t1 := t1) (t2 := t2) (ST14.out.get (v := (.agg #[.bool g1, .slice a1 n1 c1])) (g := g1) (z := z1) (List.mem_cons_of_mem _ (List.mem_cons_self ..))) Hx1.out (ST14.out.get (v := (.agg #[.bool g2, .slice a2 n2 c2])) (g := g2) (z := z2) (List.mem_cons_self ..)) Hx2.out)
            rw [Eok.out, Ho.out, HU.out, show kE true = 3 from rfl, show fE true = 0 from rfl, show (true && false) = false from rfl] at C114
            refine C114.out.mono ?_
            rintro e W114 ⟨⟨n5, a5, c5, d5, rfl, hv⟩, hb⟩
            clear qp2_0 qp2_1 qp2_2 qp2_3 qp2_4 qp1_0 qp1_1 qp1_2 qp1_3 qp1_4
            have ST115 := Lib.hid (ST14.out.next hb hv)
            clear hb hv
            go_upto_region 4 with fail
            obtain ⟨W116, HW116⟩ : ∃ W', Hid (W' = W114.alloc (.cells #[(.int .i64 3), (.bool n5), (.slice a5 c5 d5), (.string ⟨#[]⟩), (.bool false)] 27)) := ⟨_, Lib.hid rfl⟩
            obtain ⟨b5, Hb5⟩ : ∃ b, Hid (b = W114.heap.size) := ⟨_, Lib.hid rfl⟩
            have Ob5 := Lib.hid (ST115.out.old Hb5.out)
            have ST117 := Lib.hid (ST115.out.box Hb5.out HW116.out)
            rw [← HW116.out]
            try rw [← Hb5.out]
            have qp2_0 := ST117.out.cell (List.mem_cons_of_mem _ (List.mem_cons_self ..)) 0 _ rfl
            have qp2_1 := ST117.out.cell (List.mem_cons_of_mem _ (List.mem_cons_self ..)) 1 _ rfl
            have qp2_2 := ST117.out.cell (List.mem_cons_of_mem _ (List.mem_cons_self ..)) 2 _ rfl
            have qp2_3 := ST117.out.cell (List.mem_cons_of_mem _ (List.mem_cons_self ..)) 3 _ rfl
            have qp2_4 := ST117.out.cell (List.mem_cons_of_mem _ (List.mem_cons_self ..)) 4 _ rfl
            have qp1_0 := ST117.out.cell (List.mem_cons_of_mem _ (List.mem_cons_of_mem _ (List.mem_cons_self ..))) 0 _ rfl
            have qp1_1 := ST117.out.cell (List.mem_cons_of_mem _ (List.mem_cons_of_mem _ (List.mem_cons_self ..))) 1 _ rfl
            have qp1_2 := ST117.out.cell (List.mem_cons_of_mem _ (List.mem_cons_of_mem _ (List.mem_cons_self ..))) 2 _ rfl
            have qp1_3 := ST117.out.cell (List.mem_cons_of_mem _ (List.mem_cons_of_mem _ (List.mem_cons_self ..))) 3 _ rfl
            have qp1_4 := ST117.out.cell (List.mem_cons_of_mem _ (List.mem_cons_of_mem _ (List.mem_cons_self ..))) 4 _ rfl
            go_wp2_with (go_at_call 18; refine hold ?_)
            refine Hold.mk ?_
            have C118 := Lib.hid (b_ne (k1 := k1) (k2 := k2) (s1 := s1) (s2 := s2) (t1 := t1) (t2 := t2) (ST117.out.get (v := (.agg #[.bool g1, .slice a1 n1 c1])) (g := g1) (z := z1) (List.mem_cons_of_mem _ (List.mem_cons_of_mem _ (List.mem_cons_self ..)))) Hx1.out (ST117.out.get (v := (.agg #[.bool g2, .slice a2 n2 c2])) (g := g2) (z := z2) (List.mem_cons_of_mem _ (List.mem_cons_self ..))) Hx2.out)
            rw [Eok.out, Ho.out, HN.out, show kE true = 3 from rfl, show fE true = 0 from rfl, show (true && true) = true from rfl] at C118
            refine C118.out.mono ?_
            rintro e W118 ⟨⟨n6, a6, c6, d6, rfl, hv⟩, hb⟩
            clear qp2_0 qp2_1 qp2_2 qp2_3 qp2_4 qp1_0 qp1_1 qp1_2 qp1_3 qp1_4
            have ST119 := Lib.hid (ST117.out.next hb hv)
            clear hb hv
            go_upto_region 5 with fail
            obtain ⟨W120, HW120⟩ : ∃ W', Hid (W' = W118.alloc (.cells #[(.int .i64 3), (.bool n6), (.slice a6 c6 d6), (.string ⟨#[]⟩), (.bool true)] 27)) := ⟨_, Lib.hid rfl⟩
            obtain ⟨b6, Hb6⟩ : ∃ b, Hid (b = W118.heap.size) := ⟨_, Lib.hid rfl⟩
            have Ob6 := Lib.hid (ST119.out.old Hb6.out)
            have ST121 := Lib.hid (ST119.out.box Hb6.out HW120.out)
            rw [← HW120.out]
            try rw [← Hb6.out]
            have HC5 : Hid (∀ wx, Below W120.heap.size W120 wx → (fun w' : World => w'.cell? ⟨b6, 0, none⟩ = some (.int .i64 3) ∧ w'.cell? ⟨b6, 1, none⟩ = some (.bool n6) ∧ w'.cell? ⟨b6, 2, none⟩ = some (.slice a6 c6 d6) ∧ w'.cell? ⟨b6, 3, none⟩ = some (.string ⟨#[]⟩) ∧ w'.cell? ⟨b6, 4, none⟩ = some (.bool true) ∧ w'.cell? ⟨b5, 0, none⟩ = some (.int .i64 3) ∧ w'.cell? ⟨b5, 1, none⟩ = some (.bool n5) ∧ w'.cell? ⟨b5, 2, none⟩ = some (.slice a5 c5 d5) ∧ w'.cell? ⟨b5, 3, none⟩ = some (.string ⟨#[]⟩) ∧ w'.cell? ⟨b5, 4, none⟩ = some (.bool false) ∧ w'.cell? ⟨p2, 0, none⟩ = some (.int .i64 k2) ∧ w'.cell? ⟨p2, 1, none⟩ = some (.bool g2) ∧ w'.cell? ⟨p2, 2, none⟩ = some (.slice a2 n2 c2) ∧ w'.cell? ⟨p2, 3, none⟩ = some (.string s2) ∧ w'.cell? ⟨p2, 4, none⟩ = some (.bool t2) ∧ w'.cell? ⟨p1, 0, none⟩ = some (.int .i64 k1) ∧ w'.cell? ⟨p1, 1, none⟩ = some (.bool g1) ∧ w'.cell? ⟨p1, 2, none⟩ = some (.slice a1 n1 c1) ∧ w'.cell? ⟨p1, 3, none⟩ = some (.string s1) ∧ w'.cell? ⟨p1, 4, none⟩ = some (.bool t1)) wx) := Lib.hid fun wx hx => by
              have h := ST121.out.go hx
              exact ⟨h.cell (List.mem_cons_self ..) 0 _ rfl, h.cell (List.mem_cons_self ..) 1 _ rfl, h.cell (List.mem_cons_self ..) 2 _ rfl, h.cell (List.mem_cons_self ..) 3 _ rfl, h.cell (List.mem_cons_self ..) 4 _ rfl, h.cell (List.mem_cons_of_mem _ (List.mem_cons_self ..)) 0 _ rfl, h.cell (List.mem_cons_of_mem _ (List.mem_cons_self ..)) 1 _ rfl, h.cell (List.mem_cons_of_mem _ (List.mem_cons_self ..)) 2 _ rfl, h.cell (List.mem_cons_of_mem _ (List.mem_cons_self ..)) 3 _ rfl, h.cell (List.mem_cons_of_mem _ (List.mem_cons_self ..)) 4 _ rfl, h.cell (List.mem_cons_of_mem _ (List.mem_cons_of_mem _ (List.mem_cons_self ..))) 0 _ rfl, h.cell (List.mem_cons_of_mem _ (List.mem_cons_of_mem _ (List.mem_cons_self ..))) 1 _ rfl, h.cell (List.mem_cons_of_mem _ (List.mem_cons_of_mem _ (List.mem_cons_self ..))) 2 _ rfl, h.cell (List.mem_cons_of_mem _ (List.mem_cons_of_mem _ (List.mem_cons_self ..))) 3 _ rfl, h.cell (List.mem_cons_of_mem _ (List.mem_cons_of_mem _ (List.mem_cons_self ..))) 4 _ rfl, h.cell (List.mem_cons_of_mem _ (List.mem_cons_of_mem _ (List.mem_cons_of_mem _ (List.mem_cons_self ..)))) 0 _ rfl, h.cell (List.mem_cons_of_mem _ (List.mem_cons_of_mem _ (List.mem_cons_of_mem _ (List.mem_cons_self ..)))) 1 _ rfl, h.cell (List.mem_cons_of_mem _ (List.mem_cons_of_mem _ (List.mem_cons_of_mem _ (List.mem_cons_self ..)))) 2 _ rfl, h.cell (List.mem_cons_of_mem _ (List.mem_cons_of_mem _ (List.mem_cons_of_mem _ (List.mem_cons_self ..)))) 3 _ rfl, h.cell (List.mem_cons_of_mem _ (List.mem_cons_of_mem _ (List.mem_cons_of_mem _ (List.mem_cons_self ..)))) 4 _ rfl⟩
            have hD5 := Lib.hid (Below.refl W120.heap.size W120).drew
            have ST122 := Lib.hid (ST121.out.go hD5.out)
            have HS := HC5.out W120.drew hD5.out
            refine wp_region_pi (fun w' : World => w'.cell? ⟨b6, 0, none⟩ = some (.int .i64 3) ∧ w'.cell? ⟨b6, 1, none⟩ = some (.bool n6) ∧ w'.cell? ⟨b6, 2, none⟩ = some (.slice a6 c6 d6) ∧ w'.cell? ⟨b6, 3, none⟩ = some (.string ⟨#[]⟩) ∧ w'.cell? ⟨b6, 4, none⟩ = some (.bool true) ∧ w'.cell? ⟨b5, 0, none⟩ = some (.int .i64 3) ∧ w'.cell? ⟨b5, 1, none⟩ = some (.bool n5) ∧ w'.cell? ⟨b5, 2, none⟩ = some (.slice a5 c5 d5) ∧ w'.cell? ⟨b5, 3, none⟩ = some (.string ⟨#[]⟩) ∧ w'.cell? ⟨b5, 4, none⟩ = some (.bool false) ∧ w'.cell? ⟨p2, 0, none⟩ = some (.int .i64 k2) ∧ w'.cell? ⟨p2, 1, none⟩ = some (.bool g2) ∧ w'.cell? ⟨p2, 2, none⟩ = some (.slice a2 n2 c2) ∧ w'.cell? ⟨p2, 3, none⟩ = some (.string s2) ∧ w'.cell? ⟨p2, 4, none⟩ = some (.bool t2) ∧ w'.cell? ⟨p1, 0, none⟩ = some (.int .i64 k1) ∧ w'.cell? ⟨p1, 1, none⟩ = some (.bool g1) ∧ w'.cell? ⟨p1, 2, none⟩ = some (.slice a1 n1 c1) ∧ w'.cell? ⟨p1, 3, none⟩ = some (.string s1) ∧ w'.cell? ⟨p1, 4, none⟩ = some (.bool t1)) [(0, 1), (1, 1), (2, 1), (3, 1), (4, 1), (5, 1), (6, 1), (7, 1), (8, 0), (9, 1), (10, 0), (11, 1), (12, 1), (13, 1), (14, 0), (15, 0), (16, 0), (17, 2), (18, 1), (19, 1), (20, 1), (21, 1)] [] (by kernel_rfl) (by kernel_rfl) (fun _ _ _ _ _ h => h) (HS) ?_
            refine pq_pu (some 35) rfl rfl (by rfl) (fun ws => by go_simp; try with_reducible rfl) ?_; go_frame   -- 0 Op.move (Operand.tmp 6)
            refine pq_pu (some 36) rfl rfl (by rfl) (fun ws => by go_simp; try with_reducible rfl) ?_; go_frame   -- 1 Op.move (Operand.tmp 8)
            refine pq_pu (some 37) rfl rfl (by rfl) (fun ws => by go_simp; try with_reducible rfl) ?_; go_frame   -- 2 Op.binOp BinOp.neq 29 (Operand.tmp 35) (Operand.tmp 36) 29
            refine pq_pu (some 38) rfl rfl (by rfl) (fun ws => by go_simp; try with_reducible rfl) ?_; go_frame   -- 3 Op.move (Operand.tmp 37)
            refine pq_pu (some 39) rfl rfl (by rfl) (fun ws => by go_simp; try with_reducible rfl) ?_; go_frame   -- 4 Op.move (Operand.tmp 6)
            refine pq_pu (some 40) rfl rfl (by rfl) (fun ws => by go_simp; try with_reducible rfl) ?_; go_frame   -- 5 Op.binOp BinOp.eql 29 (Operand.tmp 39) (Operand.const (Value.int IntKind.i64 0)) 29
            refine pq_pu (some 41) rfl rfl (by rfl) (fun ws => by go_simp; try with_reducible rfl) ?_; go_frame   -- 6 Op.move (Operand.tmp 40)
            refine pq_pu (some 42) rfl rfl (by rfl) (fun ws => by go_simp; try with_reducible rfl) ?_; go_frame   -- 7 Op.fieldAddr 27 (Operand.tmp 5) 3
            refine pq_ld (some 43) rfl rfl (by rfl) (fun ws HS => by go_split_ands; go_simp; try with_reducible rfl) ?_; go_frame   -- 8 Op.load 4 (Operand.tmp 42)
            refine pq_pu (some 44) rfl rfl (by rfl) (fun ws => by go_simp; try with_reducible rfl) ?_; go_frame   -- 9 Op.fieldAddr 27 (Operand.tmp 7) 3
            refine pq_ld (some 45) rfl rfl (by rfl) (fun ws HS => by go_split_ands; go_simp; try with_reducible rfl) ?_; go_frame   -- 10 Op.load 4 (Operand.tmp 44)
            refine pq_pu (some 46) rfl rfl (by rfl) (fun ws => by go_simp; try with_reducible rfl) ?_; go_frame   -- 11 Op.binOp BinOp.eql 4 (Operand.tmp 43) (Operand.tmp 45) 4
            refine pq_pu (some 47) rfl rfl (by rfl) (fun ws => by go_simp; try with_reducible rfl) ?_; go_frame   -- 12 Op.move (Operand.tmp 46)
            refine pq_pu (some 48) rfl rfl (by rfl) (fun ws => by go_simp; try with_reducible rfl) ?_; go_frame   -- 13 Op.fieldAddr 27 (Operand.tmp 5) 3
            refine pq_ld (some 49) rfl rfl (by rfl) (fun ws HS => by go_split_ands; go_simp; try with_reducible rfl) ?_; go_frame   -- 14 Op.load 4 (Operand.tmp 48)
            refine pq_ld (some 50) rfl rfl (by rfl) (fun ws HS => by go_split_ands; go_simp; try with_reducible rfl) ?_; go_frame   -- 15 Op.load 27 (Operand.tmp 2)
            refine pq_ld (some 51) rfl rfl (by rfl) (fun ws HS => by go_split_ands; go_simp; try with_reducible rfl) ?_; go_frame   -- 16 Op.load 27 (Operand.tmp 3)
            refine pk_ke rfl (fun J hJ => ?_)   -- pi_ke 17 Op.call { callee := Callee.value (Operand.func 19), args := #[Operand.tmp 50, Operand.tmp 51], argTypes := #[27, 27] }
            have C123 := Lib.hid (equal_any (k1 := k1) (k2 := k2) (s1 := s1) (s2 := s2) (t1 := t1) (t2 := t2) (ST122.out.get (v := (.agg #[.bool g1, .slice a1 n1 c1])) (g := g1) (z := z1) (List.mem_cons_of_mem _ (List.mem_cons_of_mem _ (List.mem_cons_of_mem _ (List.mem_cons_self ..))))) Hx1.out (ST122.out.get (v := (.agg #[.bool g2, .slice a2 n2 c2])) (g := g2) (z := z2) (List.mem_cons_of_mem _ (List.mem_cons_of_mem _ (List.mem_cons_self ..)))) Hx2.out)
            rw [EQK.out] at C123
            go_wp2_with (go_at_call 19; refine C123.out.mono ?_; rintro e W123 ⟨rfl, hb⟩; have ST123 := Lib.hid (ST122.out.go hb); have hD123 := Lib.hid (hD5.out.trans (Below.mono hb hD5.out.size)); clear hb)
            refine hJ _ _ (HC5.out W123 hD123.out) ?_
            refine pq_pu (some 53) rfl rfl (by rfl) (fun ws => by go_simp; try with_reducible rfl) ?_; go_frame   -- 18 Op.binOp BinOp.neq 4 (Operand.tmp 49) (Operand.tmp 52) 4
            refine pq_pu (some 54) rfl rfl (by rfl) (fun ws => by go_simp; try with_reducible rfl) ?_; go_frame   -- 19 Op.pick (Operand.tmp 47) (Operand.const (Value.bool true)) (Operand.tmp 53)
            refine pq_pu (some 55) rfl rfl (by rfl) (fun ws => by go_simp; try with_reducible rfl) ?_; go_frame   -- 20 Op.pick (Operand.tmp 41) (Operand.tmp 54) (Operand.const (Value.bool false))
            refine pq_pu (some 56) rfl rfl (by rfl) (fun ws => by go_simp; try with_reducible rfl) ?_; go_frame   -- 21 Op.pick (Operand.tmp 38) (Operand.const (Value.bool true)) (Operand.tmp 55)
            refine pi_tail (r := []) rfl ?_; simp only [opsAt]
            have qp2_0 := ST123.out.cell (List.mem_cons_of_mem _ (List.mem_cons_of_mem _ (List.mem_cons_self ..))) 0 _ rfl
            have qp2_1 := ST123.out.cell (List.mem_cons_of_mem _ (List.mem_cons_of_mem _ (List.mem_cons_self ..))) 1 _ rfl
            have qp2_2 := ST123.out.cell (List.mem_cons_of_mem _ (List.mem_cons_of_mem _ (List.mem_cons_self ..))) 2 _ rfl
            have qp2_3 := ST123.out.cell (List.mem_cons_of_mem _ (List.mem_cons_of_mem _ (List.mem_cons_self ..))) 3 _ rfl
            have qp2_4 := ST123.out.cell (List.mem_cons_of_mem _ (List.mem_cons_of_mem _ (List.mem_cons_self ..))) 4 _ rfl
            have qp1_0 := ST123.out.cell (List.mem_cons_of_mem _ (List.mem_cons_of_mem _ (List.mem_cons_of_mem _ (List.mem_cons_self ..)))) 0 _ rfl
            have qp1_1 := ST123.out.cell (List.mem_cons_of_mem _ (List.mem_cons_of_mem _ (List.mem_cons_of_mem _ (List.mem_cons_self ..)))) 1 _ rfl
            have qp1_2 := ST123.out.cell (List.mem_cons_of_mem _ (List.mem_cons_of_mem _ (List.mem_cons_of_mem _ (List.mem_cons_self ..)))) 2 _ rfl
            have qp1_3 := ST123.out.cell (List.mem_cons_of_mem _ (List.mem_cons_of_mem _ (List.mem_cons_of_mem _ (List.mem_cons_self ..)))) 3 _ rfl
            have qp1_4 := ST123.out.cell (List.mem_cons_of_mem _ (List.mem_cons_of_mem _ (List.mem_cons_of_mem _ (List.mem_cons_self ..)))) 4 _ rfl
            go_wp2_with (go_at_call 18; refine hold ?_)
            refine Hold.mk ?_
            have C124 := Lib.hid (b_lt (k1 := k1) (k2 := k2) (s1 := s1) (s2 := s2) (t1 := t1) (t2 := t2) (ST123.out.get (v := (.agg #[.bool g1, .slice a1 n1 c1])) (g := g1) (z := z1) (List.mem_cons_of_mem _ (List.mem_cons_of_mem _ (List.mem_cons_of_mem _ (List.mem_cons_self ..))))) Hx1.out (ST123.out.get (v := (.agg #[.bool g2, .slice a2 n2 c2])) (g := g2) (z := z2) (List.mem_cons_of_mem _ (List.mem_cons_of_mem _ (List.mem_cons_self ..)))) Hx2.out)
            rw [Lok.out, Ho.out, HL.out, show kE true = 3 from rfl, show fE true = 0 from rfl, show (true && false) = false from rfl] at C124
            refine C124.out.mono ?_
            rintro e W124 ⟨⟨n7, a7, c7, d7, rfl, hv⟩, hb⟩
            clear qp2_0 qp2_1 qp2_2 qp2_3 qp2_4 qp1_0 qp1_1 qp1_2 qp1_3 qp1_4
            have ST125 := Lib.hid (ST123.out.next hb hv)
            clear hb hv
            go_upto_region 8 with fail
            obtain ⟨W126, HW126⟩ : ∃ W', Hid (W' = W124.alloc (.cells #[(.int .i64 3), (.bool n7), (.slice a7 c7 d7), (.string ⟨#[]⟩), (.bool false)] 27)) := ⟨_, Lib.hid rfl⟩
            obtain ⟨b7, Hb7⟩ : ∃ b, Hid (b = W124.heap.size) := ⟨_, Lib.hid rfl⟩
            have Ob7 := Lib.hid (ST125.out.old Hb7.out)
            have ST127 := Lib.hid (ST125.out.box Hb7.out HW126.out)
            rw [← HW126.out]
            try rw [← Hb7.out]
            have qp2_0 := ST127.out.cell (List.mem_cons_of_mem _ (List.mem_cons_of_mem _ (List.mem_cons_of_mem _ (List.mem_cons_self ..)))) 0 _ rfl
            have qp2_1 := ST127.out.cell (List.mem_cons_of_mem _ (List.mem_cons_of_mem _ (List.mem_cons_of_mem _ (List.mem_cons_self ..)))) 1 _ rfl
            have qp2_2 := ST127.out.cell (List.mem_cons_of_mem _ (List.mem_cons_of_mem _ (List.mem_cons_of_mem _ (List.mem_cons_self ..)))) 2 _ rfl
            have qp2_3 := ST127.out.cell (List.mem_cons_of_mem _ (List.mem_cons_of_mem _ (List.mem_cons_of_mem _ (List.mem_cons_self ..)))) 3 _ rfl
            have qp2_4 := ST127.out.cell (List.mem_cons_of_mem _ (List.mem_cons_of_mem _ (List.mem_cons_of_mem _ (List.mem_cons_self ..)))) 4 _ rfl
            have qp1_0 := ST127.out.cell (List.mem_cons_of_mem _ (List.mem_cons_of_mem _ (List.mem_cons_of_mem _ (List.mem_cons_of_mem _ (List.mem_cons_self ..))))) 0 _ rfl
            have qp1_1 := ST127.out.cell (List.mem_cons_of_mem _ (List.mem_cons_of_mem _ (List.mem_cons_of_mem _ (List.mem_cons_of_mem _ (List.mem_cons_self ..))))) 1 _ rfl
            have qp1_2 := ST127.out.cell (List.mem_cons_of_mem _ (List.mem_cons_of_mem _ (List.mem_cons_of_mem _ (List.mem_cons_of_mem _ (List.mem_cons_self ..))))) 2 _ rfl
            have qp1_3 := ST127.out.cell (List.mem_cons_of_mem _ (List.mem_cons_of_mem _ (List.mem_cons_of_mem _ (List.mem_cons_of_mem _ (List.mem_cons_self ..))))) 3 _ rfl
            have qp1_4 := ST127.out.cell (List.mem_cons_of_mem _ (List.mem_cons_of_mem _ (List.mem_cons_of_mem _ (List.mem_cons_of_mem _ (List.mem_cons_self ..))))) 4 _ rfl
            go_wp2_with (go_at_call 18; refine hold ?_)
            refine Hold.mk ?_
            have C128 := Lib.hid (b_gt (k1 := k1) (k2 := k2) (s1 := s1) (s2 := s2) (t1 := t1) (t2 := t2) (ST127.out.get (v := (.agg #[.bool g1, .slice a1 n1 c1])) (g := g1) (z := z1) (List.mem_cons_of_mem _ (List.mem_cons_of_mem _ (List.mem_cons_of_mem _ (List.mem_cons_of_mem _ (List.mem_cons_self ..)))))) Hx1.out (ST127.out.get (v := (.agg #[.bool g2, .slice a2 n2 c2])) (g := g2) (z := z2) (List.mem_cons_of_mem _ (List.mem_cons_of_mem _ (List.mem_cons_of_mem _ (List.mem_cons_self ..))))) Hx2.out)
            rw [Lok.out, Ho.out, HG.out, show kE true = 3 from rfl, show fE true = 0 from rfl, show (true && true) = true from rfl] at C128
            refine C128.out.mono ?_
            rintro e W128 ⟨⟨n8, a8, c8, d8, rfl, hv⟩, hb⟩
            clear qp2_0 qp2_1 qp2_2 qp2_3 qp2_4 qp1_0 qp1_1 qp1_2 qp1_3 qp1_4
            have ST129 := Lib.hid (ST127.out.next hb hv)
            clear hb hv
            go_upto_region 9 with fail
            obtain ⟨W130, HW130⟩ : ∃ W', Hid (W' = W128.alloc (.cells #[(.int .i64 3), (.bool n8), (.slice a8 c8 d8), (.string ⟨#[]⟩), (.bool true)] 27)) := ⟨_, Lib.hid rfl⟩
            obtain ⟨b8, Hb8⟩ : ∃ b, Hid (b = W128.heap.size) := ⟨_, Lib.hid rfl⟩
            have Ob8 := Lib.hid (ST129.out.old Hb8.out)
            have ST131 := Lib.hid (ST129.out.box Hb8.out HW130.out)
            rw [← HW130.out]
            try rw [← Hb8.out]
            have qb8_0 := ST131.out.cell (List.mem_cons_self ..) 0 _ rfl
            have qb8_1 := ST131.out.cell (List.mem_cons_self ..) 1 _ rfl
            have qb8_2 := ST131.out.cell (List.mem_cons_self ..) 2 _ rfl
            have qb8_3 := ST131.out.cell (List.mem_cons_self ..) 3 _ rfl
            have qb8_4 := ST131.out.cell (List.mem_cons_self ..) 4 _ rfl
            have qb7_0 := ST131.out.cell (List.mem_cons_of_mem _ (List.mem_cons_self ..)) 0 _ rfl
            have qb7_1 := ST131.out.cell (List.mem_cons_of_mem _ (List.mem_cons_self ..)) 1 _ rfl
            have qb7_2 := ST131.out.cell (List.mem_cons_of_mem _ (List.mem_cons_self ..)) 2 _ rfl
            have qb7_3 := ST131.out.cell (List.mem_cons_of_mem _ (List.mem_cons_self ..)) 3 _ rfl
            have qb7_4 := ST131.out.cell (List.mem_cons_of_mem _ (List.mem_cons_self ..)) 4 _ rfl
            have qb5_0 := ST131.out.cell (List.mem_cons_of_mem _ (List.mem_cons_of_mem _ (List.mem_cons_of_mem _ (List.mem_cons_self ..)))) 0 _ rfl
            have qb5_1 := ST131.out.cell (List.mem_cons_of_mem _ (List.mem_cons_of_mem _ (List.mem_cons_of_mem _ (List.mem_cons_self ..)))) 1 _ rfl
            have qb5_2 := ST131.out.cell (List.mem_cons_of_mem _ (List.mem_cons_of_mem _ (List.mem_cons_of_mem _ (List.mem_cons_self ..)))) 2 _ rfl
            have qb5_3 := ST131.out.cell (List.mem_cons_of_mem _ (List.mem_cons_of_mem _ (List.mem_cons_of_mem _ (List.mem_cons_self ..)))) 3 _ rfl
            have qb5_4 := ST131.out.cell (List.mem_cons_of_mem _ (List.mem_cons_of_mem _ (List.mem_cons_of_mem _ (List.mem_cons_self ..)))) 4 _ rfl
            go_wp2_with (go_at_call 16; refine hold ?_)
            refine Hold.mk ?_
            have C132 := Lib.hid (kawake_any (w := W130))
            refine C132.out.mono ?_
            rintro e W132 ⟨rfl, hb⟩
            clear qb8_0 qb8_1 qb8_2 qb8_3 qb8_4 qb7_0 qb7_1 qb7_2 qb7_3 qb7_4 qb5_0 qb5_1 qb5_2 qb5_3 qb5_4
            have ST133 := Lib.hid (ST131.out.go hb)
            clear hb
            go_wp2_with fail
            go_ret
            exact ⟨rfl, ST133.out.below⟩

end Go.Proofs.YtcnakbhogmnddaaDoor
