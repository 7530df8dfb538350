/- The law KonstLong: the walk. No condition. -/
import Derived.Test.YtahgbbnpbhfaeaaDoorKnLongT
import Derived.Test.YtahgbbnpbhfaeaaDoorKnAwake
namespace Go.Proofs.YtahgbbnpbhfaeaaDoor
open Go.RowKit

theorem set5 {W : World} {b : Nat} {t : TypeId} {u0 u1 u2 u3 u4 : Value} (h : W.heap[b]? = some (.cells #[u0, u1, u2, u3, u4] t (0, 0))) (x0 x1 x2 x3 x4 : Value) : (((((W.setCell ⟨b, 0, none⟩ x0).setCell ⟨b, 1, none⟩ x1).setCell ⟨b, 2, none⟩ x2).setCell ⟨b, 3, none⟩ x3).setCell ⟨b, 4, none⟩ x4).heap[b]? = some (.cells #[x0, x1, x2, x3, x4] t (0, 0)) := by
  have set_same : ∀ {w : World} {p j : Nat} {cs : Array Value} {t : TypeId} {fz : Nat × Nat}, w.heap[p]? = some (.cells cs t fz) → ∀ v : Value, (w.setCell ⟨p, j, none⟩ v).heap[p]? = some (.cells (cs.set! j v) t fz) := by
    intro w p j cs t fz h v
    simp only [World.setCell, Array.getElem?_modify, h]
    simp
  exact (set_same (set_same (set_same (set_same (set_same h _) _) _) _) _).trans rfl
theorem enter_str (args : Array Value) (w : World) : (callFunc 19 args).run Tryd.prog w = .ok (.enter 19 args) w := run_enter Tryd.func19 (by kernel_rfl) rfl args w
theorem enter_bin (args : Array Value) (w : World) : (callFunc 23 args).run Tryd.prog w = .ok (.enter 23 args) w := run_enter Tryd.func23 (by kernel_rfl) rfl args w
theorem kon_open {W : World} {v : Value} {k x : Int} {s : ByteArray} {t : Bool} (h : Kon1 W (.returned v) k x s t) : ∃ b a n c, v = .agg #[.int .i64 k, .bool b, .slice a n c, .string s, .bool t] ∧ IntC W (.agg #[.bool b, .slice a n c]) x := by
  obtain ⟨b, a, n, c, h1, h2⟩ := h
  injection h1 with h1
  exact ⟨b, a, n, c, h1, h2⟩
theorem kon2_open {W : World} {v : Value} {k x K : Int} {s : ByteArray} {t : Bool} (h : Kon2 W (.returned v) k x s t K) : ∃ b a n c, v = .tuple #[.agg #[.int .i64 k, .bool b, .slice a n c, .string s, .bool t], .int .i64 K] := by
  obtain ⟨b, a, n, c, h1, _⟩ := h
  injection h1 with h1
  exact ⟨b, a, n, c, h1⟩
theorem bin_long (n m : Nat) (hl : n + m ≤ 65536) (W : World) (v26 v30 : Value) (h1 : Kon1 W (.returned v26) 2 0 (strZ n) false) (h2 : Kon1 W (.returned v30) 2 0 (strZ m) false) :
    Calls Tryd.prog 23 #[.string ⟨#[43]⟩, v26, v30] W (fun e w' => ∃ v, e = .returned v ∧ Kon2 w' (.returned v) 2 0 (strZ n ++ strZ m) false 0 ∧ Below W.heap.size W w') := by
  obtain ⟨b, a, n1, c, rfl, i1⟩ := kon_open h1
  obtain ⟨b', a', n', c', rfl, i2⟩ := kon_open h2
  refine (b_join (IntC.flag i1).1 (IntC.flag i1).2 (IntC.flag i2).1 (IntC.flag i2).2 rfl rfl (by rw [strZ_size, strZ_size]; exact hl)).mono ?_
  rintro e w' ⟨hk, hb⟩
  obtain ⟨x1, x2, x3, x4, rfl, x5⟩ := hk
  exact ⟨_, rfl, ⟨x1, x2, x3, x4, rfl, x5⟩, hb⟩
theorem bin_over (n m : Nat) (hn : n ≤ 70000) (hm : m ≤ 70000) (hl : 65536 < n + m) (W : World) (v26 v30 : Value) (h1 : Kon1 W (.returned v26) 2 0 (strZ n) false) (h2 : Kon1 W (.returned v30) 2 0 (strZ m) false) :
    Calls Tryd.prog 23 #[.string ⟨#[43]⟩, v26, v30] W (fun e w' => ∃ v, e = .returned v ∧ Kon2 w' (.returned v) 0 0 ⟨#[]⟩ false 2 ∧ Below W.heap.size W w') := by
  obtain ⟨b, a, n1, c, rfl, i1⟩ := kon_open h1
  obtain ⟨b', a', n', c', rfl, i2⟩ := kon_open h2
  refine (b_big (IntC.flag i1).1 (IntC.flag i1).2 (IntC.flag i2).1 (IntC.flag i2).2 rfl rfl (by rw [strZ_size, strZ_size]; exact hl) (by rw [strZ_size, strZ_size]; omega)).mono ?_
  rintro e w' ⟨hk, hb⟩
  obtain ⟨x1, x2, x3, x4, rfl, x5⟩ := hk
  exact ⟨_, rfl, ⟨x1, x2, x3, x4, rfl, x5⟩, hb⟩
set_option maxRecDepth 100000 in
set_option maxHeartbeats 6400000 in
theorem konstLong_ok (n m : Nat) (hn : n ≤ 70000) (hm : m ≤ 70000) (hl : n + m ≤ 65536) {w : World} :
    Calls Tryd.prog 4 #[.int .i64 (n : Int), .int .i64 (m : Int)] w fun e w' => e = .returned (.bool true) ∧ Below w.heap.size w w' := by
  obtain ⟨B, HB⟩ : ∃ x, Hid (w.heap.size = x) := ⟨_, Lib.hid rfl⟩
  rw [HB.out]
  have HR0 := Lib.hid (show Below B w w.drew from (Below.refl B w).drew)
  obtain ⟨tt, Htt⟩ : ∃ x : Nat, Hid (n + m = x) := ⟨_, Lib.hid rfl⟩
  have htw : IntKind.i64.wrap ((n : Int) + (m : Int)) = (tt : Int) := by rw [IntKind.wrap_i64, ← Htt.out]; omega
  have g1 : decide ((n : Int) < 0) = false := decide_eq_false (by omega)
  have g2 : decide ((70000 : Int) < (n : Int)) = false := decide_eq_false (by omega)
  have g3 : decide ((m : Int) < 0) = false := decide_eq_false (by omega)
  have g4 : decide ((70000 : Int) < (m : Int)) = false := decide_eq_false (by omega)
  have htl : decide ((65536 : Int) < (tt : Int)) = false := decide_eq_false (by rw [← Htt.out]; omega)
  have HBi := Lib.hid (bin_long n m hl)
  obtain ⟨ss, Hss⟩ : ∃ x, Hid (strZ n ++ strZ m = x) := ⟨_, Lib.hid rfl⟩
  rw [Hss.out] at HBi
  have hss : ss.size = tt := by rw [← Hss.out, ← Htt.out, ByteArray.size_append, strZ_size, strZ_size]
  have HN := Lib.hid (And.intro hn hm)
  clear hn hm hl
  go_enter Tryd.func4, Tryd.ntmps4
  go_upto_region 3 with fail
  refine wp_region_tree (.pu 0 (.pu 4 tL0000)) (by kernel_rfl) (by kernel_rfl) (fun _ _ _ _ _ h => h) ?_
  refine tq_pu (some 23) rfl rfl (by rfl) (fun ws => by go_simp; try with_reducible rfl) ?_; go_frame
  refine tq_pu (some 27) rfl rfl (by rfl) (fun ws => by go_simp; try with_reducible rfl) ?_; go_frame
  refine long_tree (n := n) (m := m) HN.out.1 HN.out.2 ⟨_, rfl, rfl, rfl, rfl⟩ ⟨_, rfl, rfl, rfl, rfl⟩ ⟨_, rfl, rfl, rfl, rfl⟩ ⟨_, rfl, rfl, rfl, rfl⟩ ⟨_, rfl, rfl, rfl, rfl⟩ ⟨_, rfl, rfl, rfl, rfl⟩ ⟨_, rfl, rfl, rfl, rfl⟩ ⟨_, rfl, rfl, rfl, rfl⟩ enter_str enter_bin rfl rfl rfl HBi.out ?_ ?_
  · intro b1 v26 b2 v30 v31 bx W hb kb hx hle
    obtain ⟨q1, q2, q3, q4, rfl⟩ := kon2_open kb
    clear kb
    unfold tL3221
    go_frame
    refine tq_pu (some 22) rfl rfl (by rfl) (fun ws => by go_simp; try with_reducible rfl) ?_; go_frame
    refine tq_pu (some 32) rfl rfl (by rfl) (fun ws => by go_simp; try with_reducible rfl) ?_; go_frame
    refine tq_pu (some 33) rfl rfl (by rfl) (fun ws => by go_simp; try with_reducible rfl) ?_; go_frame
    have HX := Lib.hid hx
    have HLe := Lib.hid (show B ≤ bx from by rw [← HB.out]; exact hle)
    have HW := Lib.hid (show Below B w W from HR0.out.trans (by rw [← HB.out]; exact hb))
    have z0 : W.cell? ⟨bx, 0, none⟩ = some (.int .i64 0) := by simp only [World.cell?, show W.heap[bx]? = _ from hx]; rfl
    have v0 : W.frozen? ⟨bx, 0, none⟩ = false := by simp only [World.frozen?, show W.heap[bx]? = _ from hx]; simp
    have z1 : W.cell? ⟨bx, 1, none⟩ = some (.bool false) := by simp only [World.cell?, show W.heap[bx]? = _ from hx]; rfl
    have v1 : W.frozen? ⟨bx, 1, none⟩ = false := by simp only [World.frozen?, show W.heap[bx]? = _ from hx]; simp
    have z2 : W.cell? ⟨bx, 2, none⟩ = some (.slice none 0 0) := by simp only [World.cell?, show W.heap[bx]? = _ from hx]; rfl
    have v2 : W.frozen? ⟨bx, 2, none⟩ = false := by simp only [World.frozen?, show W.heap[bx]? = _ from hx]; simp
    have z3 : W.cell? ⟨bx, 3, none⟩ = some (.string ⟨#[]⟩) := by simp only [World.cell?, show W.heap[bx]? = _ from hx]; rfl
    have v3 : W.frozen? ⟨bx, 3, none⟩ = false := by simp only [World.frozen?, show W.heap[bx]? = _ from hx]; simp
    have z4 : W.cell? ⟨bx, 4, none⟩ = some (.bool false) := by simp only [World.cell?, show W.heap[bx]? = _ from hx]; rfl
    have v4 : W.frozen? ⟨bx, 4, none⟩ = false := by simp only [World.frozen?, show W.heap[bx]? = _ from hx]; simp
    clear hx hle hb
    refine tq_ef rfl (fun J2 hJ2 => ?_)
    go_wp2
    refine hJ2 _ _ ?_
    refine tq_pu (some 6) rfl rfl (by rfl) (fun ws => by go_simp; try with_reducible rfl) ?_; go_frame
    refine tq_done ?_
    go_upto_region 4 with fail
    obtain ⟨W2, HW2⟩ : ∃ x, Hid (((((W.setCell ⟨bx, 0, none⟩ (.int .i64 2)).setCell ⟨bx, 1, none⟩ (.bool q1)).setCell ⟨bx, 2, none⟩ (.slice q2 q3 q4)).setCell ⟨bx, 3, none⟩ (.string ss)).setCell ⟨bx, 4, none⟩ (.bool false) = x) := ⟨_, Lib.hid rfl⟩
    rw [HW2.out]
    have G2 : W2.heap[bx]? = some (.cells #[.int .i64 2, .bool q1, .slice q2 q3 q4, .string ss, .bool false] 26 (0, 0)) := by rw [← HW2.out]; exact set5 HX.out _ _ _ _ _
    have y0 : W2.cell? ⟨bx, 0, none⟩ = some (.int .i64 2) := by simp only [World.cell?, G2]; rfl
    have y3 : W2.cell? ⟨bx, 3, none⟩ = some (.string ss) := by simp only [World.cell?, G2]; rfl
    have HB2 := Lib.hid (show Below B w W2 from by rw [← HW2.out]; exact ((((HW.out.setCell (p := ⟨bx, 0, none⟩) HLe.out _).setCell (p := ⟨bx, 1, none⟩) HLe.out _).setCell (p := ⟨bx, 2, none⟩) HLe.out _).setCell (p := ⟨bx, 3, none⟩) HLe.out _).setCell (p := ⟨bx, 4, none⟩) HLe.out _)
    clear G2 z0 z1 z2 z3 z4 v0 v1 v2 v3 v4
    go_wp2_with (go_at_call 6; refine hold ?_)
    refine Hold.mk ?_
    refine (kawake_any (w := W2)).mono ?_
    rintro e W9 ⟨rfl, hb⟩
    have HB9 := Lib.hid (show Below B w W9 from HB2.out.trans (Below.mono hb (by rw [← HB.out]; exact HB2.out.size)))
    clear hb
    go_wp2_with fail
    go_ret
    exact ⟨rfl, HB9.out⟩
  · intro b1 v26 b2 v30 v31 WA hb kb
    obtain ⟨q1, q2, q3, q4, rfl⟩ := kon2_open kb
    clear kb
    unfold tL3220
    go_frame
    refine tq_pu (some 22) rfl rfl (by rfl) (fun ws => by go_simp; try with_reducible rfl) ?_; go_frame
    refine tq_pu (some 32) rfl rfl (by rfl) (fun ws => by go_simp; try with_reducible rfl) ?_; go_frame
    refine tq_pu (some 33) rfl rfl (by rfl) (fun ws => by go_simp; try with_reducible rfl) ?_; go_frame
    refine tq_ef rfl (fun J hJ => ?_)
    go_wp2
    refine hJ _ _ ?_
    obtain ⟨W, HWz⟩ : ∃ x, Hid (WA.alloc (.cells #[.int .i64 0, .bool false, .slice none 0 0, .string ⟨#[]⟩, .bool false] 26) = x) := ⟨_, Lib.hid rfl⟩
    obtain ⟨bx, Hbx⟩ : ∃ x, Hid (WA.heap.size = x) := ⟨_, Lib.hid rfl⟩
    rw [HWz.out, Hbx.out]
    have hx : BoxZ W bx := by rw [← HWz.out, ← Hbx.out]; exact heap_alloc_new WA _
    have hle : w.drew.heap.size ≤ bx := by rw [← Hbx.out]; exact hb.size
    have hb : Below w.drew.heap.size w.drew W := by rw [← HWz.out]; exact hb.alloc hb.size _
    have HX := Lib.hid hx
    have HLe := Lib.hid (show B ≤ bx from by rw [← HB.out]; exact hle)
    have HW := Lib.hid (show Below B w W from HR0.out.trans (by rw [← HB.out]; exact hb))
    have z0 : W.cell? ⟨bx, 0, none⟩ = some (.int .i64 0) := by simp only [World.cell?, show W.heap[bx]? = _ from hx]; rfl
    have v0 : W.frozen? ⟨bx, 0, none⟩ = false := by simp only [World.frozen?, show W.heap[bx]? = _ from hx]; simp
    have z1 : W.cell? ⟨bx, 1, none⟩ = some (.bool false) := by simp only [World.cell?, show W.heap[bx]? = _ from hx]; rfl
    have v1 : W.frozen? ⟨bx, 1, none⟩ = false := by simp only [World.frozen?, show W.heap[bx]? = _ from hx]; simp
    have z2 : W.cell? ⟨bx, 2, none⟩ = some (.slice none 0 0) := by simp only [World.cell?, show W.heap[bx]? = _ from hx]; rfl
    have v2 : W.frozen? ⟨bx, 2, none⟩ = false := by simp only [World.frozen?, show W.heap[bx]? = _ from hx]; simp
    have z3 : W.cell? ⟨bx, 3, none⟩ = some (.string ⟨#[]⟩) := by simp only [World.cell?, show W.heap[bx]? = _ from hx]; rfl
    have v3 : W.frozen? ⟨bx, 3, none⟩ = false := by simp only [World.frozen?, show W.heap[bx]? = _ from hx]; simp
    have z4 : W.cell? ⟨bx, 4, none⟩ = some (.bool false) := by simp only [World.cell?, show W.heap[bx]? = _ from hx]; rfl
    have v4 : W.frozen? ⟨bx, 4, none⟩ = false := by simp only [World.frozen?, show W.heap[bx]? = _ from hx]; simp
    clear hx hle hb
    refine tq_ef rfl (fun J2 hJ2 => ?_)
    go_wp2
    refine hJ2 _ _ ?_
    refine tq_pu (some 6) rfl rfl (by rfl) (fun ws => by go_simp; try with_reducible rfl) ?_; go_frame
    refine tq_done ?_
    go_upto_region 4 with fail
    obtain ⟨W2, HW2⟩ : ∃ x, Hid (((((W.setCell ⟨bx, 0, none⟩ (.int .i64 2)).setCell ⟨bx, 1, none⟩ (.bool q1)).setCell ⟨bx, 2, none⟩ (.slice q2 q3 q4)).setCell ⟨bx, 3, none⟩ (.string ss)).setCell ⟨bx, 4, none⟩ (.bool false) = x) := ⟨_, Lib.hid rfl⟩
    rw [HW2.out]
    have G2 : W2.heap[bx]? = some (.cells #[.int .i64 2, .bool q1, .slice q2 q3 q4, .string ss, .bool false] 26 (0, 0)) := by rw [← HW2.out]; exact set5 HX.out _ _ _ _ _
    have y0 : W2.cell? ⟨bx, 0, none⟩ = some (.int .i64 2) := by simp only [World.cell?, G2]; rfl
    have y3 : W2.cell? ⟨bx, 3, none⟩ = some (.string ss) := by simp only [World.cell?, G2]; rfl
    have HB2 := Lib.hid (show Below B w W2 from by rw [← HW2.out]; exact ((((HW.out.setCell (p := ⟨bx, 0, none⟩) HLe.out _).setCell (p := ⟨bx, 1, none⟩) HLe.out _).setCell (p := ⟨bx, 2, none⟩) HLe.out _).setCell (p := ⟨bx, 3, none⟩) HLe.out _).setCell (p := ⟨bx, 4, none⟩) HLe.out _)
    clear G2 z0 z1 z2 z3 z4 v0 v1 v2 v3 v4
    go_wp2_with (go_at_call 6; refine hold ?_)
    refine Hold.mk ?_
    refine (kawake_any (w := W2)).mono ?_
    rintro e W9 ⟨rfl, hb⟩
    have HB9 := Lib.hid (show Below B w W9 from HB2.out.trans (Below.mono hb (by rw [← HB.out]; exact HB2.out.size)))
    clear hb
    go_wp2_with fail
    go_ret
    exact ⟨rfl, HB9.out⟩
set_option maxRecDepth 100000 in
set_option maxHeartbeats 6400000 in
theorem konstLong_big (n m : Nat) (hn : n ≤ 70000) (hm : m ≤ 70000) (hl : 65536 < n + m) {w : World} :
    Calls Tryd.prog 4 #[.int .i64 (n : Int), .int .i64 (m : Int)] w fun e w' => e = .returned (.bool true) ∧ Below w.heap.size w w' := by
  obtain ⟨B, HB⟩ : ∃ x, Hid (w.heap.size = x) := ⟨_, Lib.hid rfl⟩
  rw [HB.out]
  have HR0 := Lib.hid (show Below B w w.drew from (Below.refl B w).drew)
  obtain ⟨tt, Htt⟩ : ∃ x : Nat, Hid (n + m = x) := ⟨_, Lib.hid rfl⟩
  have htw : IntKind.i64.wrap ((n : Int) + (m : Int)) = (tt : Int) := by rw [IntKind.wrap_i64, ← Htt.out]; omega
  have g1 : decide ((n : Int) < 0) = false := decide_eq_false (by omega)
  have g2 : decide ((70000 : Int) < (n : Int)) = false := decide_eq_false (by omega)
  have g3 : decide ((m : Int) < 0) = false := decide_eq_false (by omega)
  have g4 : decide ((70000 : Int) < (m : Int)) = false := decide_eq_false (by omega)
  have htl : (65536 : Int) < (tt : Int) := by rw [← Htt.out]; omega
  have HBi := Lib.hid (bin_over n m hn hm hl)
  have HN := Lib.hid (And.intro hn hm)
  clear hn hm hl
  go_enter Tryd.func4, Tryd.ntmps4
  go_upto_region 3 with fail
  refine wp_region_tree (.pu 0 (.pu 4 tL0000)) (by kernel_rfl) (by kernel_rfl) (fun _ _ _ _ _ h => h) ?_
  refine tq_pu (some 23) rfl rfl (by rfl) (fun ws => by go_simp; try with_reducible rfl) ?_; go_frame
  refine tq_pu (some 27) rfl rfl (by rfl) (fun ws => by go_simp; try with_reducible rfl) ?_; go_frame
  refine long_tree (n := n) (m := m) HN.out.1 HN.out.2 ⟨_, rfl, rfl, rfl, rfl⟩ ⟨_, rfl, rfl, rfl, rfl⟩ ⟨_, rfl, rfl, rfl, rfl⟩ ⟨_, rfl, rfl, rfl, rfl⟩ ⟨_, rfl, rfl, rfl, rfl⟩ ⟨_, rfl, rfl, rfl, rfl⟩ ⟨_, rfl, rfl, rfl, rfl⟩ ⟨_, rfl, rfl, rfl, rfl⟩ enter_str enter_bin rfl rfl rfl HBi.out ?_ ?_
  · intro b1 v26 b2 v30 v31 bx W hb kb hx hle
    obtain ⟨q1, q2, q3, q4, rfl⟩ := kon2_open kb
    clear kb
    unfold tL3221
    go_frame
    refine tq_pu (some 22) rfl rfl (by rfl) (fun ws => by go_simp; try with_reducible rfl) ?_; go_frame
    refine tq_pu (some 32) rfl rfl (by rfl) (fun ws => by go_simp; try with_reducible rfl) ?_; go_frame
    refine tq_pu (some 33) rfl rfl (by rfl) (fun ws => by go_simp; try with_reducible rfl) ?_; go_frame
    have HX := Lib.hid hx
    have HLe := Lib.hid (show B ≤ bx from by rw [← HB.out]; exact hle)
    have HW := Lib.hid (show Below B w W from HR0.out.trans (by rw [← HB.out]; exact hb))
    have z0 : W.cell? ⟨bx, 0, none⟩ = some (.int .i64 0) := by simp only [World.cell?, show W.heap[bx]? = _ from hx]; rfl
    have v0 : W.frozen? ⟨bx, 0, none⟩ = false := by simp only [World.frozen?, show W.heap[bx]? = _ from hx]; simp
    have z1 : W.cell? ⟨bx, 1, none⟩ = some (.bool false) := by simp only [World.cell?, show W.heap[bx]? = _ from hx]; rfl
    have v1 : W.frozen? ⟨bx, 1, none⟩ = false := by simp only [World.frozen?, show W.heap[bx]? = _ from hx]; simp
    have z2 : W.cell? ⟨bx, 2, none⟩ = some (.slice none 0 0) := by simp only [World.cell?, show W.heap[bx]? = _ from hx]; rfl
    have v2 : W.frozen? ⟨bx, 2, none⟩ = false := by simp only [World.frozen?, show W.heap[bx]? = _ from hx]; simp
    have z3 : W.cell? ⟨bx, 3, none⟩ = some (.string ⟨#[]⟩) := by simp only [World.cell?, show W.heap[bx]? = _ from hx]; rfl
    have v3 : W.frozen? ⟨bx, 3, none⟩ = false := by simp only [World.frozen?, show W.heap[bx]? = _ from hx]; simp
    have z4 : W.cell? ⟨bx, 4, none⟩ = some (.bool false) := by simp only [World.cell?, show W.heap[bx]? = _ from hx]; rfl
    have v4 : W.frozen? ⟨bx, 4, none⟩ = false := by simp only [World.frozen?, show W.heap[bx]? = _ from hx]; simp
    clear hx hle hb
    refine tq_ef rfl (fun J2 hJ2 => ?_)
    go_wp2
    refine hJ2 _ _ ?_
    refine tq_pu (some 6) rfl rfl (by rfl) (fun ws => by go_simp; try with_reducible rfl) ?_; go_frame
    refine tq_done ?_
    go_upto_region 4 with fail
    obtain ⟨W2, HW2⟩ : ∃ x, Hid (((((W.setCell ⟨bx, 0, none⟩ (.int .i64 0)).setCell ⟨bx, 1, none⟩ (.bool q1)).setCell ⟨bx, 2, none⟩ (.slice q2 q3 q4)).setCell ⟨bx, 3, none⟩ (.string ⟨#[]⟩)).setCell ⟨bx, 4, none⟩ (.bool false) = x) := ⟨_, Lib.hid rfl⟩
    rw [HW2.out]
    have G2 : W2.heap[bx]? = some (.cells #[.int .i64 0, .bool q1, .slice q2 q3 q4, .string ⟨#[]⟩, .bool false] 26 (0, 0)) := by rw [← HW2.out]; exact set5 HX.out _ _ _ _ _
    have y0 : W2.cell? ⟨bx, 0, none⟩ = some (.int .i64 0) := by simp only [World.cell?, G2]; rfl
    have y3 : W2.cell? ⟨bx, 3, none⟩ = some (.string ⟨#[]⟩) := by simp only [World.cell?, G2]; rfl
    have HB2 := Lib.hid (show Below B w W2 from by rw [← HW2.out]; exact ((((HW.out.setCell (p := ⟨bx, 0, none⟩) HLe.out _).setCell (p := ⟨bx, 1, none⟩) HLe.out _).setCell (p := ⟨bx, 2, none⟩) HLe.out _).setCell (p := ⟨bx, 3, none⟩) HLe.out _).setCell (p := ⟨bx, 4, none⟩) HLe.out _)
    clear G2 z0 z1 z2 z3 z4 v0 v1 v2 v3 v4
    go_wp2_with (go_at_call 6; refine hold ?_)
    refine Hold.mk ?_
    refine (kawake_any (w := W2)).mono ?_
    rintro e W9 ⟨rfl, hb⟩
    have HB9 := Lib.hid (show Below B w W9 from HB2.out.trans (Below.mono hb (by rw [← HB.out]; exact HB2.out.size)))
    clear hb
    go_wp2_with fail
    go_ret
    exact ⟨rfl, HB9.out⟩
  · intro b1 v26 b2 v30 v31 WA hb kb
    obtain ⟨q1, q2, q3, q4, rfl⟩ := kon2_open kb
    clear kb
    unfold tL3220
    go_frame
    refine tq_pu (some 22) rfl rfl (by rfl) (fun ws => by go_simp; try with_reducible rfl) ?_; go_frame
    refine tq_pu (some 32) rfl rfl (by rfl) (fun ws => by go_simp; try with_reducible rfl) ?_; go_frame
    refine tq_pu (some 33) rfl rfl (by rfl) (fun ws => by go_simp; try with_reducible rfl) ?_; go_frame
    refine tq_ef rfl (fun J hJ => ?_)
    go_wp2
    refine hJ _ _ ?_
    obtain ⟨W, HWz⟩ : ∃ x, Hid (WA.alloc (.cells #[.int .i64 0, .bool false, .slice none 0 0, .string ⟨#[]⟩, .bool false] 26) = x) := ⟨_, Lib.hid rfl⟩
    obtain ⟨bx, Hbx⟩ : ∃ x, Hid (WA.heap.size = x) := ⟨_, Lib.hid rfl⟩
    rw [HWz.out, Hbx.out]
    have hx : BoxZ W bx := by rw [← HWz.out, ← Hbx.out]; exact heap_alloc_new WA _
    have hle : w.drew.heap.size ≤ bx := by rw [← Hbx.out]; exact hb.size
    have hb : Below w.drew.heap.size w.drew W := by rw [← HWz.out]; exact hb.alloc hb.size _
    have HX := Lib.hid hx
    have HLe := Lib.hid (show B ≤ bx from by rw [← HB.out]; exact hle)
    have HW := Lib.hid (show Below B w W from HR0.out.trans (by rw [← HB.out]; exact hb))
    have z0 : W.cell? ⟨bx, 0, none⟩ = some (.int .i64 0) := by simp only [World.cell?, show W.heap[bx]? = _ from hx]; rfl
    have v0 : W.frozen? ⟨bx, 0, none⟩ = false := by simp only [World.frozen?, show W.heap[bx]? = _ from hx]; simp
    have z1 : W.cell? ⟨bx, 1, none⟩ = some (.bool false) := by simp only [World.cell?, show W.heap[bx]? = _ from hx]; rfl
    have v1 : W.frozen? ⟨bx, 1, none⟩ = false := by simp only [World.frozen?, show W.heap[bx]? = _ from hx]; simp
    have z2 : W.cell? ⟨bx, 2, none⟩ = some (.slice none 0 0) := by simp only [World.cell?, show W.heap[bx]? = _ from hx]; rfl
    have v2 : W.frozen? ⟨bx, 2, none⟩ = false := by simp only [World.frozen?, show W.heap[bx]? = _ from hx]; simp
    have z3 : W.cell? ⟨bx, 3, none⟩ = some (.string ⟨#[]⟩) := by simp only [World.cell?, show W.heap[bx]? = _ from hx]; rfl
    have v3 : W.frozen? ⟨bx, 3, none⟩ = false := by simp only [World.frozen?, show W.heap[bx]? = _ from hx]; simp
    have z4 : W.cell? ⟨bx, 4, none⟩ = some (.bool false) := by simp only [World.cell?, show W.heap[bx]? = _ from hx]; rfl
    have v4 : W.frozen? ⟨bx, 4, none⟩ = false := by simp only [World.frozen?, show W.heap[bx]? = _ from hx]; simp
    clear hx hle hb
    refine tq_ef rfl (fun J2 hJ2 => ?_)
    go_wp2
    refine hJ2 _ _ ?_
    refine tq_pu (some 6) rfl rfl (by rfl) (fun ws => by go_simp; try with_reducible rfl) ?_; go_frame
    refine tq_done ?_
    go_upto_region 4 with fail
    obtain ⟨W2, HW2⟩ : ∃ x, Hid (((((W.setCell ⟨bx, 0, none⟩ (.int .i64 0)).setCell ⟨bx, 1, none⟩ (.bool q1)).setCell ⟨bx, 2, none⟩ (.slice q2 q3 q4)).setCell ⟨bx, 3, none⟩ (.string ⟨#[]⟩)).setCell ⟨bx, 4, none⟩ (.bool false) = x) := ⟨_, Lib.hid rfl⟩
    rw [HW2.out]
    have G2 : W2.heap[bx]? = some (.cells #[.int .i64 0, .bool q1, .slice q2 q3 q4, .string ⟨#[]⟩, .bool false] 26 (0, 0)) := by rw [← HW2.out]; exact set5 HX.out _ _ _ _ _
    have y0 : W2.cell? ⟨bx, 0, none⟩ = some (.int .i64 0) := by simp only [World.cell?, G2]; rfl
    have y3 : W2.cell? ⟨bx, 3, none⟩ = some (.string ⟨#[]⟩) := by simp only [World.cell?, G2]; rfl
    have HB2 := Lib.hid (show Below B w W2 from by rw [← HW2.out]; exact ((((HW.out.setCell (p := ⟨bx, 0, none⟩) HLe.out _).setCell (p := ⟨bx, 1, none⟩) HLe.out _).setCell (p := ⟨bx, 2, none⟩) HLe.out _).setCell (p := ⟨bx, 3, none⟩) HLe.out _).setCell (p := ⟨bx, 4, none⟩) HLe.out _)
    clear G2 z0 z1 z2 z3 z4 v0 v1 v2 v3 v4
    go_wp2_with (go_at_call 6; refine hold ?_)
    refine Hold.mk ?_
    refine (kawake_any (w := W2)).mono ?_
    rintro e W9 ⟨rfl, hb⟩
    have HB9 := Lib.hid (show Below B w W9 from HB2.out.trans (Below.mono hb (by rw [← HB.out]; exact HB2.out.size)))
    clear hb
    go_wp2_with fail
    go_ret
    exact ⟨rfl, HB9.out⟩
theorem rangeL (a b : Int) : a < 0 ∨ (¬ a < 0 ∧ 70000 < a) ∨ (¬ a < 0 ∧ ¬ 70000 < a ∧ b < 0) ∨ (¬ a < 0 ∧ ¬ 70000 < a ∧ ¬ b < 0 ∧ 70000 < b) ∨ (0 ≤ a ∧ a ≤ 70000 ∧ 0 ≤ b ∧ b ≤ 70000) := by omega
set_option maxRecDepth 100000 in
theorem konstLong_any {w : World} (a : Int) (b : Int) :
    Calls Tryd.prog 4 #[.int .i64 a, .int .i64 b] w fun e w' => e = .returned (.bool true) ∧ Below w.heap.size w w' := by
  rcases rangeL a b with h | ⟨h1, h⟩ | ⟨h1, h2, h⟩ | ⟨h1, h2, h3, h⟩ | ⟨h1, h2, h3, h4⟩
  rotate_right
  · obtain ⟨n, rfl⟩ := Int.eq_ofNat_of_zero_le h1
    obtain ⟨m, rfl⟩ := Int.eq_ofNat_of_zero_le h3
    by_cases hl : n + m ≤ 65536
    · exact konstLong_ok n m (by omega) (by omega) hl
    · exact konstLong_big n m (by omega) (by omega) (by omega)
  all_goals
    go_enter Tryd.func4, Tryd.ntmps4
    go_wp2_with (go_at_call 6; refine hold ?_)
    refine Hold.mk ?_
    refine (kawake_any (w := w)).mono ?_
    rintro e W1 ⟨rfl, hb⟩
    have HB1 := Lib.hid hb
    clear hb
    go_wp2_with fail
    go_ret
    exact ⟨rfl, HB1.out⟩
end Go.Proofs.YtahgbbnpbhfaeaaDoor
