/- recastalike.Whole; recastlaw2.in. No condition. -/
import Derived.Test.YtahgbbnpbhfaeaaDoorExText
namespace Go.Proofs.YtahgbbnpbhfaeaaDoor
open Go.RowKit

theorem getD_ext {l m : List Nat} (h : l.length = m.length) (hi : ∀ i, i < l.length → l.getD i 0 = m.getD i 0) : l = m := by
  apply List.ext_getElem h
  intro i h1 h2
  have := hi i h1
  simpa [List.getD, h1, h2] using this
set_option maxRecDepth 100000 in
set_option maxHeartbeats 1600000 in
theorem whole_any (v1 v2 : Value) (g1 g2 : Bool) (z1 z2 : List Nat) (w : World) (h1 : IntV w v1 g1 z1) (h2 : IntV w v2 g2 z2) :
    Calls Tryd.prog 27 #[v1, v2] w fun e w' => e = .returned (.bool (decide (g1 = g2 ∧ z1 = z2))) ∧ Below w.heap.size w w' := by
  obtain ⟨a1, n1, cap1, rfl, hw1, hc1, hn1⟩ := id h1
  obtain ⟨a2, n2, cap2, rfl, hw2, hc2, hn2⟩ := id h2
  obtain ⟨w2, Hw2⟩ : ∃ w2, Hid (w2 = (w.alloc (.cells #[.bool g1, .slice a1 n1 cap1] 24)).alloc (.cells #[.bool g2, .slice a2 n2 cap2] 24)) := ⟨_, Lib.hid rfl⟩
  obtain ⟨bn, Hbn⟩ : ∃ b, Hid (b = w.heap.size) := ⟨_, Lib.hid rfl⟩
  obtain ⟨bm, Hbm⟩ : ∃ b, Hid (b = w.heap.size + 1) := ⟨_, Lib.hid rfl⟩
  have hB : Below w.heap.size w w2 := by
    rw [Hw2.out]
    exact ((Below.refl _ w).alloc (Nat.le_refl _) _).alloc (by simp) _
  have HC := Lib.hid (box2 w g1 g2 (.slice a1 n1 cap1) (.slice a2 n2 cap2))
  rw [← Hw2.out, ← Hbm.out, ← Hbn.out] at HC
  have HB := Lib.hid hB
  have H1 := Lib.hid (hw1.below hB)
  have H2 := Lib.hid (hw2.below hB)
  clear h1 h2 hw1 hw2 hB
  obtain ⟨s0, s1, s2, s3⟩ := HC.out w2 (Below.refl _ _)
  obtain ⟨r, Hr⟩ : ∃ r, Hid (decide (g1 = g2 ∧ z1 = z2) = r) := ⟨_, Lib.hid rfl⟩
  rw [Hr.out]
  by_cases hg : g1 = g2
  · subst hg
    have hgb : (g1 != g1) = false := by simp
    by_cases hl : n1 = n2
    · subst hl
      have hlb : ((n1 : Int) != (n1 : Int)) = false := by simp
      go_enter Tryd.func27, Tryd.ntmps27
      go_wp2_with fail
      rw [← Hw2.out]
      try rw [← Hbm.out]
      try rw [← Hbn.out]
      clear s0 s1 s2 s3
      go_loopg [5] n1 (fun gg v5 wr => ∃ i : Nat, i ≤ n1 ∧ v5 = .int .i64 i ∧ gg = n1 - i ∧ Hid (Below w2.heap.size w2 wr ∧ ∀ k, k < i → z1.getD k 0 = z2.getD k 0))
      case atStart => exact ⟨0, Nat.zero_le _, rfl, rfl, Lib.hid ⟨Below.refl _ _, fun k hk => by omega⟩⟩
      case round =>
        obtain ⟨i, hi, rfl, hgg, Hx⟩ := hrel
        obtain ⟨s0, s1, s2, s3⟩ := HC.out wr Hx.out.1
        by_cases hli : i < n1
        · obtain ⟨x1, e1, hx1⟩ := (H1.out.below Hx.out.1).2.2 i hli
          obtain ⟨x2, e2, hx2⟩ := (H2.out.below Hx.out.1).2.2 i hli
          subst e1
          subst e2
          obtain ⟨u1, Hu1⟩ : ∃ u, Hid (z1.getD i 0 = u) := ⟨_, Lib.hid rfl⟩
          obtain ⟨u2, Hu2⟩ : ∃ u, Hid (z2.getD i 0 = u) := ⟨_, Lib.hid rfl⟩
          rw [Hu1.out] at hx1
          rw [Hu2.out] at hx2
          by_cases hu : u1 = u2
          · subst hu
            have hub : ((u1 : Int) != (u1 : Int)) = false := by simp
            go_wp2_with fail
            go_quiet (fail)
            go_wp2_with fail
            go_roundg (n1 - (i + 1))
            case measure => omega
            case rel =>
              refine ⟨i + 1, by omega, by go_num, rfl, Lib.hid ⟨below_drewN Hx.out.1 _, fun k hk => ?_⟩⟩
              by_cases hki : k = i
              · subst hki
                rw [Hu1.out, Hu2.out]
              · exact Hx.out.2 k (by omega)
          · have hub : ((u1 : Int) != (u2 : Int)) = true := by simp; omega
            have Hu := Lib.hid (show r = false from by
              rw [← Hr.out]
              refine decide_eq_false fun h => hu ?_
              rw [← Hu1.out, ← Hu2.out, h.2])
            clear hu
            go_wp2_with fail
            go_quiet (fail)
            go_wp2_with fail
            go_ret
            exact ⟨eret_bool Hu.out.symm, HB.out.trans (below_drewN (Below.mono Hx.out.1 HB.out.size) _)⟩
        · have hge : n1 ≤ i := by omega
          have Hu := Lib.hid (show r = true from by
            rw [← Hr.out]
            refine decide_eq_true ⟨by first | rfl | trivial, getD_ext (by rw [H1.out.1, H2.out.1]) fun k hk => Hx.out.2 k (by rw [H1.out.1] at hk; omega)⟩)
          go_wp2_with fail
          go_ret
          exact ⟨eret_bool Hu.out.symm, HB.out.trans (Below.mono Hx.out.1 HB.out.size)⟩
    · have hlb : ((n1 : Int) != (n2 : Int)) = true := by simp; omega
      have Hu := Lib.hid (show r = false from by
        rw [← Hr.out]
        exact decide_eq_false fun h => hl (by rw [← H1.out.1, ← H2.out.1, h.2]))
      clear hl
      go_enter Tryd.func27, Tryd.ntmps27
      go_wp2_with fail
      rw [← Hw2.out]
      go_ret
      exact ⟨eret_bool Hu.out.symm, HB.out⟩
  · have Hu := Lib.hid (show r = false from by
      rw [← Hr.out]
      exact decide_eq_false fun h => hg h.1)
    cases g1 <;> cases g2
    · exact absurd rfl hg
    · clear hg
      go_enter Tryd.func27, Tryd.ntmps27
      go_wp2_with fail
      rw [← Hw2.out]
      go_ret
      exact ⟨eret_bool Hu.out.symm, HB.out⟩
    · clear hg
      go_enter Tryd.func27, Tryd.ntmps27
      go_wp2_with fail
      rw [← Hw2.out]
      go_ret
      exact ⟨eret_bool Hu.out.symm, HB.out⟩
    · exact absurd rfl hg

end Go.Proofs.YtahgbbnpbhfaeaaDoor
