/- The law ExactSmall: the walk. No condition. -/
import Derived.Test.YtcnakbhogmnddaaDoorRfText
import Derived.Test.YtcnakbhogmnddaaDoorRfSmall
import Derived.Test.YtcnakbhogmnddaaDoorRegQ
namespace Go.Proofs.YtcnakbhogmnddaaDoor
open Go.RowKit

theorem small_k {v : Value} {g : Bool} {z : List Nat} {w : World} {x : Int} (h : IntV w v g z) (hx : valI g z = x) :
    Calls Tryd.prog 42 #[v] w fun e w' => e = .returned (.tuple #[.int .i64 (if fits64 x then x else 0), .bool (fits64 x)]) ∧ Below w.heap.size w w' := by
  subst hx
  exact small_any v g z w h
theorem small_c {v : Value} {w : World} {x : Int} (h : IntC w v x) (h0 : -9223372036854775808 ≤ x) (h1 : x ≤ 9223372036854775807) :
    Calls Tryd.prog 42 #[v] w fun e w' => e = .returned (.tuple #[.int .i64 x, .bool true]) ∧ Below w.heap.size w w' := by
  have := small_k h (valI_can x)
  have e : fits64 x = true := by
    unfold fits64
    exact decide_eq_true (by omega)
  rw [e, if_pos rfl] at this
  exact this
theorem text_k {v : Value} {g : Bool} {z : List Nat} {w : World} {x : Int} (h : IntV w v g z) (hx : valI g z = x) :
    Calls Tryd.prog 46 #[v] w fun e w' => e = .returned (.string (strL (decI x))) ∧ Below w.heap.size w w' := by
  subst hx
  exact text_any v g z w h
theorem rtext_k {v : Value} {g : Bool} {z : List Nat} {w : World} {x : Int} (h : IntV w v g z) (hx : valI g z = x) :
    Calls Tryd.prog 47 #[v] w fun e w' => e = .returned (.string (strL (decI x))) ∧ Below w.heap.size w w' := by
  subst hx
  exact rtext_any v g z w h

set_option maxRecDepth 100000 in
set_option maxHeartbeats 6400000 in
theorem exactSmall_any (v0 : Int) (hv0 : -9223372036854775808 ≤ v0 ∧ v0 ≤ 9223372036854775807) (g1 : Bool) (a1 : Option Addr) (n1 cap1 : Nat) (z1 : List Nat) (w : World) (h1 : WordsAt w a1 n1 z1 ∧ n1 ≤ cap1) :
    Calls Tryd.prog 6 #[.int .i64 v0, .agg #[.bool g1, .slice a1 n1 cap1]] w fun e w' => e = .returned (.bool true) ∧ Below w.heap.size w w' := by
  have H1 := Lib.hid h1
  obtain ⟨x1, Hx1⟩ : ∃ x, Hid (valI g1 z1 = x) := ⟨_, Lib.hid rfl⟩
  have ST0 := Lib.hid (St.start w)
  clear h1
  have hv1 := hv0.1
  have hv2 := hv0.2
  clear hv0
  go_enter Tryd.func6, Tryd.ntmps6
  go_wp2_with (go_at_call 35; refine hold ?_)
  obtain ⟨W1, HW1⟩ : ∃ W', Hid (W' = w.alloc (.cells #[.bool g1, .slice a1 n1 cap1] 25)) := ⟨_, Lib.hid rfl⟩
  obtain ⟨p1, Hp1⟩ : ∃ b, Hid (b = w.heap.size) := ⟨_, Lib.hid rfl⟩
  have ST2 := Lib.hid (ST0.out.box Hp1.out HW1.out)
  rw [← HW1.out]
  try rw [← Hp1.out]
  refine Hold.mk ?_
  obtain ⟨t1, Ht1⟩ : ∃ t, Hid (decide (n1 ≤ 40) = t) := ⟨_, Lib.hid rfl⟩
  have K1 := Lib.hid (in_any g1 a1 n1 cap1 W1)
  rw [Ht1.out] at K1
  refine K1.out.mono ?_
  rintro e W3 ⟨rfl, hb⟩
  have ST4 := Lib.hid (ST2.out.go hb)
  clear hb
  cases t1 with
  | false =>
    go_wp2_with (go_at_call 36; refine hold ?_)
    refine Hold.mk ?_
    refine (awake_any W3).mono ?_
    rintro e W5 ⟨rfl, hb⟩
    have ST5 := Lib.hid (ST4.out.go hb)
    clear hb
    go_wp2_with fail
    go_ret
    exact ⟨rfl, ST5.out.below⟩
  | true =>
    have hn1 : n1 ≤ 40 := of_decide_eq_true Ht1.out
    have ST6 := Lib.hid (ST4.out.num (IntV.below (⟨a1, n1, cap1, rfl, H1.out.1, H1.out.2, by omega⟩ : IntV w (.agg #[.bool g1, .slice a1 n1 cap1]) g1 z1) ST4.out.below))
    clear hn1
    go_wp2_with (go_at_call 43; refine hold ?_)
    refine Hold.mk ?_
    refine (of_any v0 W3 hv1 hv2).mono ?_
    rintro e W7 ⟨u5, rfl, hv, hb⟩
    have ST8 := Lib.hid (ST6.out.next hb hv)
    clear hv hb
    go_wp2_with (go_at_call 42; refine hold ?_)
    refine Hold.mk ?_
    refine (small_c (ST8.out.getC (v := u5) (i := v0) (by simp)) hv1 hv2).mono ?_
    rintro e W9 ⟨rfl, hb⟩
    have ST10 := Lib.hid (ST8.out.go hb)
    clear hb
    obtain ⟨rb, Hrb⟩ : ∃ b, Hid (fits64 x1 = b) := ⟨_, Lib.hid rfl⟩
    obtain ⟨rv, Hrv⟩ : ∃ r : Int, Hid ((if rb then x1 else 0) = r) := ⟨_, Lib.hid rfl⟩
    obtain ⟨qp10, qp11⟩ := ST10.out.cells (b := p1) (n := g1) (s := .slice a1 n1 cap1) (by simp)
    have D11 := Lib.hid (small_k (ST10.out.get (v := (.agg #[.bool g1, .slice a1 n1 cap1])) (g := g1) (z := z1) (by simp)) Hx1.out)
    rw [Hrb.out, Hrv.out] at D11
    go_wp2_with (go_at_call 42; refine hold ?_)
    refine Hold.mk ?_
    refine D11.out.mono ?_
    rintro e W12 ⟨rfl, hb⟩
    clear qp10 qp11
    have ST13 := Lib.hid (ST10.out.go hb)
    clear hb
    obtain ⟨qp10, qp11⟩ := ST13.out.cells (b := p1) (n := g1) (s := .slice a1 n1 cap1) (by simp)
    have D14 := Lib.hid (rsmall_k (ST13.out.get (v := (.agg #[.bool g1, .slice a1 n1 cap1])) (g := g1) (z := z1) (by simp)) Hx1.out)
    rw [Hrb.out, Hrv.out] at D14
    go_wp2_with (go_at_call 44; refine hold ?_)
    refine Hold.mk ?_
    refine D14.out.mono ?_
    rintro e W15 ⟨rfl, hb⟩
    clear qp10 qp11
    have ST16 := Lib.hid (ST13.out.go hb)
    clear hb
    obtain ⟨tx, Htx⟩ : ∃ t, Hid (strL (decI x1) = t) := ⟨_, Lib.hid rfl⟩
    obtain ⟨qp10, qp11⟩ := ST16.out.cells (b := p1) (n := g1) (s := .slice a1 n1 cap1) (by simp)
    go_upto_region 6 with fail
    clear qp10 qp11
    have HC6 : Hid (∀ wx, Below W15.heap.size W15 wx → (fun w' : World => w'.cell? ⟨p1, 0, none⟩ = some (.bool g1) ∧ w'.cell? ⟨p1, 1, none⟩ = some (.slice a1 n1 cap1)) wx) := Lib.hid fun wx hx => by
      have h := ST16.out.go hx
      exact ⟨(h.cells (b := p1) (n := g1) (s := .slice a1 n1 cap1) (by simp)).1, (h.cells (b := p1) (n := g1) (s := .slice a1 n1 cap1) (by simp)).2⟩
    have hD6 := Lib.hid (Below.refl W15.heap.size W15).drew
    have ST17 := Lib.hid (ST16.out.go hD6.out)
    have HS := HC6.out W15.drew hD6.out
    refine wp_region_pi (fun w' : World => w'.cell? ⟨p1, 0, none⟩ = some (.bool g1) ∧ w'.cell? ⟨p1, 1, none⟩ = some (.slice a1 n1 cap1)) [(0, 1), (1, 1), (2, 1), (3, 1), (4, 1), (5, 1), (6, 1), (7, 1), (8, 1), (9, 1), (10, 1), (11, 1), (12, 1), (13, 1), (14, 1), (15, 1), (16, 1), (17, 1), (19, 1), (18, 2), (20, 2), (21, 2), (22, 1), (23, 1), (24, 0), (26, 0), (25, 2), (27, 3), (28, 3), (29, 3), (30, 3), (31, 3), (32, 3), (33, 3)] [(27, [25, 24]), (27, [26]), (28, [25, 24]), (28, [27, 26]), (29, [28, 25, 24]), (29, [28, 27, 26]), (30, [27, 25, 24]), (30, [27, 26]), (31, [30, 27, 25, 24]), (31, [30, 27, 26]), (32, [30, 27, 25, 24]), (32, [30, 27, 26]), (33, [24]), (33, [26])] (by kernel_rfl) (by kernel_rfl) (fun _ _ _ _ _ h => h) (HS) ?_
    refine pq_pu (some 31) rfl rfl (by rfl) (fun ws => by go_simp; try with_reducible rfl) ?_; go_frame   -- 0 Op.move (Operand.tmp 5)
    refine pq_pu (some 32) rfl rfl (by rfl) (fun ws => by go_simp; try with_reducible rfl) ?_; go_frame   -- 1 Op.move (Operand.tmp 0)
    refine pq_pu (some 33) rfl rfl (by rfl) (fun ws => by go_simp; try with_reducible rfl) ?_; go_frame   -- 2 Op.binOp BinOp.eql 3 (Operand.tmp 31) (Operand.tmp 32) 3
    try simp only [beq_self_eq_true]
    refine pq_pu (some 34) rfl rfl (by rfl) (fun ws => by go_simp; try with_reducible rfl) ?_; go_frame   -- 3 Op.move (Operand.tmp 33)
    refine pq_pu (some 35) rfl rfl (by rfl) (fun ws => by go_simp; try with_reducible rfl) ?_; go_frame   -- 4 Op.move (Operand.tmp 6)
    refine pq_pu (some 36) rfl rfl (by rfl) (fun ws => by go_simp; try with_reducible rfl) ?_; go_frame   -- 5 Op.pick (Operand.tmp 34) (Operand.tmp 35) (Operand.const (Value.bool false))
    refine pq_pu (some 37) rfl rfl (by rfl) (fun ws => by go_simp; try with_reducible rfl) ?_; go_frame   -- 6 Op.move (Operand.tmp 36)
    refine pq_pu (some 38) rfl rfl (by rfl) (fun ws => by go_simp; try with_reducible rfl) ?_; go_frame   -- 7 Op.move (Operand.tmp 7)
    refine pq_pu (some 39) rfl rfl (by rfl) (fun ws => by go_simp; try with_reducible rfl) ?_; go_frame   -- 8 Op.move (Operand.tmp 9)
    refine pq_pu (some 40) rfl rfl (by rfl) (fun ws => by go_simp; try with_reducible rfl) ?_; go_frame   -- 9 Op.binOp BinOp.eql 3 (Operand.tmp 38) (Operand.tmp 39) 3
    try simp only [beq_self_eq_true]
    refine pq_pu (some 41) rfl rfl (by rfl) (fun ws => by go_simp; try with_reducible rfl) ?_; go_frame   -- 10 Op.pick (Operand.tmp 37) (Operand.tmp 40) (Operand.const (Value.bool false))
    refine pq_pu (some 42) rfl rfl (by rfl) (fun ws => by go_simp; try with_reducible rfl) ?_; go_frame   -- 11 Op.move (Operand.tmp 41)
    refine pq_pu (some 43) rfl rfl (by rfl) (fun ws => by go_simp; try with_reducible rfl) ?_; go_frame   -- 12 Op.move (Operand.tmp 8)
    refine pq_pu (some 44) rfl rfl (by rfl) (fun ws => by go_simp; try with_reducible rfl) ?_; go_frame   -- 13 Op.move (Operand.tmp 10)
    refine pq_pu (some 45) rfl rfl (by rfl) (fun ws => by go_simp; try with_reducible rfl) ?_; go_frame   -- 14 Op.binOp BinOp.eql 4 (Operand.tmp 43) (Operand.tmp 44) 4
    try simp only [beq_self_eq_true]
    refine pq_pu (some 46) rfl rfl (by rfl) (fun ws => by go_simp; try with_reducible rfl) ?_; go_frame   -- 15 Op.pick (Operand.tmp 42) (Operand.tmp 45) (Operand.const (Value.bool false))
    refine pq_pu (some 47) rfl rfl (by rfl) (fun ws => by go_simp; try with_reducible rfl) ?_; go_frame   -- 16 Op.move (Operand.tmp 46)
    refine pq_pu (some 48) rfl rfl (by rfl) (fun ws => by go_simp; try with_reducible rfl) ?_; go_frame   -- 17 Op.move (Operand.tmp 0)
    refine pq_pu (some 50) rfl rfl (by rfl) (fun ws => by go_simp; try with_reducible rfl) ?_; go_frame   -- 19 Op.move (Operand.tmp 0)
    refine pk_ke rfl (fun J hJ => ?_)   -- pi_ke 18 Op.call { callee := Callee.value (Operand.func 43), args := #[Operand.tmp 48], argTypes := #[3] }
    have C18 := Lib.hid (of_any v0 W15.drew hv1 hv2)
    go_wp2_with (go_at_call 43; refine C18.out.mono ?_; rintro e W18 ⟨u20, rfl, hv, hb⟩; have ST18 := Lib.hid (ST17.out.next hb hv); have hD18 := Lib.hid (hD6.out.trans (Below.mono hb hD6.out.size)); clear hb)
    refine hJ _ _ (HC6.out W18 hD18.out) ?_
    clear hv
    refine pk_ke rfl (fun J hJ => ?_)   -- pi_ke 20 Op.call { callee := Callee.value (Operand.func 45), args := #[Operand.tmp 50], argTypes := #[3] }
    have C19 := Lib.hid (rof_any v0 W18 hv1 hv2)
    go_wp2_with (go_at_call 45; refine C19.out.mono ?_; rintro e W19 ⟨u21, rfl, hv, hb⟩; have ST19 := Lib.hid (ST18.out.next hb hv); have hD19 := Lib.hid (hD18.out.trans (Below.mono hb hD18.out.size)); clear hb)
    refine hJ _ _ (HC6.out W19 hD19.out) ?_
    clear hv
    refine pk_ke rfl (fun J hJ => ?_)   -- pi_ke 21 Op.call { callee := Callee.value (Operand.func 40), args := #[Operand.tmp 49, Operand.tmp 51], argTypes := #[25, 25] }
    have C20 := Lib.hid (whole_same _ _ v0 W19 (ST19.out.getC (v := u20) (i := v0) (by simp)) (ST19.out.getC (v := u21) (i := v0) (by simp)))
    go_wp2_with (go_at_call 40; refine C20.out.mono ?_; rintro e W20 ⟨rfl, hb⟩; have ST20 := Lib.hid (ST19.out.go hb); have hD20 := Lib.hid (hD19.out.trans (Below.mono hb hD19.out.size)); clear hb)
    refine hJ _ _ (HC6.out W20 hD20.out) ?_
    refine pq_pu (some 53) rfl rfl (by rfl) (fun ws => by go_simp; try with_reducible rfl) ?_; go_frame   -- 22 Op.pick (Operand.tmp 47) (Operand.tmp 52) (Operand.const (Value.bool false))
    refine pq_pu (some 54) rfl rfl (by rfl) (fun ws => by go_simp; try with_reducible rfl) ?_; go_frame   -- 23 Op.move (Operand.tmp 53)
    refine pq_ld (some 55) rfl rfl (by rfl) (fun ws HS => by go_split_ands; go_simp; try with_reducible rfl) ?_; go_frame   -- 24 Op.load 25 (Operand.tmp 3)
    refine pq_ld (some 57) rfl rfl (by rfl) (fun ws HS => by go_split_ands; go_simp; try with_reducible rfl) ?_; go_frame   -- 26 Op.load 25 (Operand.tmp 3)
    refine pk_ke rfl (fun J hJ => ?_)   -- pi_ke 25 Op.call { callee := Callee.value (Operand.func 46), args := #[Operand.tmp 55], argTypes := #[25] }
    have D21 := Lib.hid (text_k (ST20.out.get (v := (.agg #[.bool g1, .slice a1 n1 cap1])) (g := g1) (z := z1) (by simp)) Hx1.out)
    rw [Htx.out] at D21
    have C22 := Lib.hid (D21.out)
    go_wp2_with (go_at_call 46; refine C22.out.mono ?_; rintro e W22 ⟨rfl, hb⟩; have ST22 := Lib.hid (ST20.out.go hb); have hD22 := Lib.hid (hD20.out.trans (Below.mono hb hD20.out.size)); clear hb)
    refine hJ _ _ (HC6.out W22 hD22.out) ?_
    refine pi_tail (by rfl) ?_; simp only [opsAt, List.getElem?_toArray, List.getElem?_cons_zero, List.getElem?_cons_succ]   -- [(27, 'Op.call { callee := Callee.value (Operand.func 47), args := #[Operand.tmp 57], argTypes := #[25] }'), (28, 'Op.binOp BinOp.eql 9 (Operand.tmp 56) (Operand.tmp 58) 9'), (29, 'Op.pick (Operand.tmp 54) (Operand.tmp 59) (Operand.const (Value.bool false))'), (30, 'Op.move (Operand.tmp 60)'), (31, 'Op.call { callee := Callee.value (Operand.func 36), args := #[], argTypes := #[] }'), (32, 'Op.pick (Operand.tmp 61) (Operand.tmp 62) (Operand.const (Value.bool false))'), (33, 'Op.assign (Operand.tmp 63)')]
    have D23 := Lib.hid (rtext_k (ST22.out.get (v := (.agg #[.bool g1, .slice a1 n1 cap1])) (g := g1) (z := z1) (by simp)) Hx1.out)
    rw [Htx.out] at D23
    go_wp2_with first
      | (go_at_call 47; refine D23.out.mono ?_; rintro e Wx ⟨rfl, hb⟩; have STx := Lib.hid (ST22.out.go hb); clear hb)
      | (go_at_call 36; refine (awake_any Wx).mono ?_; rintro e Wy ⟨rfl, hb⟩; have STy := Lib.hid (STx.out.go hb); clear hb)
    go_ret
    exact ⟨by simp, STy.out.below⟩
end Go.Proofs.YtcnakbhogmnddaaDoor
