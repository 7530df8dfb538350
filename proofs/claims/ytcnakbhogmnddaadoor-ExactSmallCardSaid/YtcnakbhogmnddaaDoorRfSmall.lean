/- recastref2.Of, Small. No condition. -/
import Derived.Test.YtcnakbhogmnddaaDoorRfSum
namespace Go.Proofs.YtcnakbhogmnddaaDoor
open Go.RowKit

theorem eret2 {r rv : Int} {b rb : Bool} (h1 : r = rv) (h2 : b = rb) : Ending.returned (.tuple #[.int .i64 r, .bool b]) = .returned (.tuple #[.int .i64 rv, .bool rb]) := by rw [h1, h2]
set_option maxRecDepth 100000 in
set_option maxHeartbeats 1600000 in
theorem rof_any (i : Int) (w : World) (h0 : -9223372036854775808 ≤ i) (h1 : i ≤ 9223372036854775807) :
    Calls Tryd.prog 45 #[.int .i64 i] w fun e w' => ∃ v, e = .returned v ∧ IntC w' v i ∧ Below w.heap.size w w' := by
  obtain ⟨N, HN⟩ : ∃ N, Hid (i.natAbs = N) := ⟨_, Lib.hid rfl⟩
  have hN : N < 18446744073709551616 := by have := HN.out; omega
  obtain ⟨w2, Hw2⟩ : ∃ w2, Hid (w2 = (w.alloc (.cells #[.bool false, .slice none 0 0] 25)).alloc (.cells #[.int .u32 ((N : Int) % 4294967296), .int .u32 ((N : Int) / 4294967296)] 82)) := ⟨_, Lib.hid rfl⟩
  obtain ⟨bo, Hbo⟩ : ∃ b, Hid (b = w.heap.size) := ⟨_, Lib.hid rfl⟩
  obtain ⟨bm, Hbm⟩ : ∃ b, Hid (b = w.heap.size + 1) := ⟨_, Lib.hid rfl⟩
  have HZ := Lib.hid (show WordsAt w2 (some ⟨bm, 0, none⟩) 2 [N % 4294967296, N / 4294967296] ∧ Below w.heap.size w w2 ∧ w2.heap[bo]? = some (.cells #[.bool false, .slice none 0 0] 25 (0, 0)) from by
    have q2 : w2.heap[bm]? = some (.cells #[.int .u32 ((N : Int) % 4294967296), .int .u32 ((N : Int) / 4294967296)] 82 (0, 0)) := by
      have := heap_alloc_new (w.alloc (.cells #[.bool false, .slice none 0 0] 25)) (.cells #[.int .u32 ((N : Int) % 4294967296), .int .u32 ((N : Int) / 4294967296)] 82)
      rw [World.size_alloc] at this
      rw [Hw2.out, Hbm.out]
      exact this
    refine ⟨⟨rfl, fun x hx => ?_, fun i hi => ⟨_, rfl, ?_⟩⟩, ?_, ?_⟩
    · simp at hx
      omega
    · match i, hi with
      | 0, _ => rw [addW]; simp only [World.cell?, q2]; rfl
      | 1, _ => rw [addW]; simp only [World.cell?, q2]; rfl
    · rw [Hw2.out]
      exact ((Below.refl _ w).alloc (Nat.le_refl _) _).alloc (by simp) _
    · rw [Hw2.out, Hbo.out]
      exact (Below.heap_alloc _ _ _ (by simp)).trans (heap_alloc_new w _))
  by_cases hneg : i < 0
  · have hU : IntKind.u64.wrap (-IntKind.u64.wrap i) = (N : Int) := by
      have := HN.out
      simp only [IntKind.wrap, IntKind.bits, IntKind.signed]
      simp
      omega
    go_enter Tryd.func45, Tryd.ntmps45
    go_wp2_with (go_at_call 83; refine hold ?_)
    rw [← Hw2.out]
    try rw [← Hbm.out]
    try rw [← Hbo.out]
    refine Hold.mk ?_
    have HF := rform_any true (some ⟨bm, 0, none⟩) 2 2 [N % 4294967296, N / 4294967296] w2 HZ.out.1 (by omega) (by omega)
    refine HF.mono ?_
    rintro e w3 ⟨v, rfl, ⟨a, n, cap, rfl, hv, hc, hn⟩, hb⟩
    have hval : valI true [N % 4294967296, N / 4294967296] = i := by
      unfold valI
      simp only [ofW]
      have := HN.out
      simp
      omega
    rw [hval] at hv ⊢
    have q3 := (hb.block bo (Array.getElem?_eq_some_iff.1 HZ.out.2.2).1).trans HZ.out.2.2
    have r0 : w3.cell? ⟨bo, 0, none⟩ = some (.bool false) := by simp only [World.cell?, q3]; rfl
    have r1 : w3.cell? ⟨bo, 1, none⟩ = some (.slice none 0 0) := by simp only [World.cell?, q3]; rfl
    have fz : ∀ j, w3.frozen? ⟨bo, j, none⟩ = false := fun j => by simp only [World.frozen?, q3]; simp
    have f0 := fz 0
    have f1 := fz 1
    obtain ⟨bb, Hbb⟩ : ∃ b, Hid (decide (i < 0) = b) := ⟨_, Lib.hid rfl⟩
    have HX := Lib.hid (And.intro q3 (And.intro hv (And.intro hc (And.intro hn (HZ.out.2.1.trans (Below.mono hb HZ.out.2.1.size))))))
    clear q3 hv hb fz HF
    rw [Hbb.out]
    go_wp2_with fail
    obtain ⟨q3, hv, hc, hn, hb⟩ := HX.out
    have h3 := setCell_same2 (j := 1) (setCell_same2 (j := 0) q3 (.bool bb)) (.slice a n cap)
    refine bodyPost_ret (results_cell_row rfl _ _ bo 25 #[.bool bb, .slice a n cap] (0, 0) _ rfl (h3.trans rfl) Tryd.underlying25 rfl (by kernel_rfl)) rfl ?_
    exact ⟨_, rfl, ⟨a, n, cap, by rw [Hbb.out], hv.box q3 _ _, hc, hn⟩, (hb.setCell (by have := Hbo.out; simp only; omega) _).setCell (by have := Hbo.out; simp only; omega) _⟩
  · have hU : IntKind.u64.wrap i = (N : Int) := by
      have := HN.out
      simp only [IntKind.wrap, IntKind.bits, IntKind.signed]
      simp
      omega
    have hi : i = (N : Int) := by have := HN.out; omega
    have hge : 0 ≤ (N : Int) := by omega
    subst hi
    clear hU hneg
    go_enter Tryd.func45, Tryd.ntmps45
    go_wp2_with (go_at_call 83; refine hold ?_)
    rw [← Hw2.out]
    try rw [← Hbm.out]
    try rw [← Hbo.out]
    refine Hold.mk ?_
    have HF := rform_any false (some ⟨bm, 0, none⟩) 2 2 [N % 4294967296, N / 4294967296] w2 HZ.out.1 (by omega) (by omega)
    refine HF.mono ?_
    rintro e w3 ⟨v, rfl, ⟨a, n, cap, rfl, hv, hc, hn⟩, hb⟩
    have hval : valI false [N % 4294967296, N / 4294967296] = (N : Int) := by
      unfold valI
      simp only [ofW]
      have := HN.out
      simp
      omega
    rw [hval] at hv ⊢
    have q3 := (hb.block bo (Array.getElem?_eq_some_iff.1 HZ.out.2.2).1).trans HZ.out.2.2
    have r0 : w3.cell? ⟨bo, 0, none⟩ = some (.bool false) := by simp only [World.cell?, q3]; rfl
    have r1 : w3.cell? ⟨bo, 1, none⟩ = some (.slice none 0 0) := by simp only [World.cell?, q3]; rfl
    have fz : ∀ j, w3.frozen? ⟨bo, j, none⟩ = false := fun j => by simp only [World.frozen?, q3]; simp
    have f0 := fz 0
    have f1 := fz 1
    obtain ⟨bb, Hbb⟩ : ∃ b, Hid (decide ((N : Int) < 0) = b) := ⟨_, Lib.hid rfl⟩
    have HX := Lib.hid (And.intro q3 (And.intro hv (And.intro hc (And.intro hn (HZ.out.2.1.trans (Below.mono hb HZ.out.2.1.size))))))
    clear q3 hv hb fz HF
    rw [Hbb.out]
    go_wp2_with fail
    obtain ⟨q3, hv, hc, hn, hb⟩ := HX.out
    have h3 := setCell_same2 (j := 1) (setCell_same2 (j := 0) q3 (.bool bb)) (.slice a n cap)
    refine bodyPost_ret (results_cell_row rfl _ _ bo 25 #[.bool bb, .slice a n cap] (0, 0) _ rfl (h3.trans rfl) Tryd.underlying25 rfl (by kernel_rfl)) rfl ?_
    exact ⟨_, rfl, ⟨a, n, cap, by rw [Hbb.out], hv.box q3 _ _, hc, hn⟩, (hb.setCell (by have := Hbo.out; simp only; omega) _).setCell (by have := Hbo.out; simp only; omega) _⟩

set_option maxRecDepth 100000 in
set_option maxHeartbeats 6400000 in
theorem rsmall_k {v1 : Value} {g1 : Bool} {z1 : List Nat} {w : World} {x1 : Int} (h1 : IntV w v1 g1 z1) (hx1 : valI g1 z1 = x1) :
    Calls Tryd.prog 44 #[v1] w fun e w' => e = .returned (.tuple #[.int .i64 (if fits64 x1 then x1 else 0), .bool (fits64 x1)]) ∧ Below w.heap.size w w' := by
  obtain ⟨a1, n1, cap1, rfl, hw1, hc1, hn1⟩ := id h1
  have Hx1 := Lib.hid hx1
  clear hx1
  have HN1 := Lib.hid (And.intro hc1 hn1)
  have ST0 := Lib.hid ((St.start w).num h1)
  clear h1 hw1 hc1 hn1
  go_enter Tryd.func44, Tryd.ntmps44
  obtain ⟨rb, Hrb⟩ : ∃ b, Hid (fits64 x1 = b) := ⟨_, Lib.hid rfl⟩
  rw [Hrb.out]
  obtain ⟨rv, Hrv⟩ : ∃ r : Int, Hid ((if rb then x1 else 0) = r) := ⟨_, Lib.hid rfl⟩
  rw [Hrv.out]
  go_wp2_with (go_at_call 83; refine hold ?_)
  obtain ⟨W1, HW1⟩ : ∃ W', Hid (W' = w.alloc (.cells #[.bool g1, .slice a1 n1 cap1] 25)) := ⟨_, Lib.hid rfl⟩
  obtain ⟨p1, Hp1⟩ : ∃ b, Hid (b = w.heap.size) := ⟨_, Lib.hid rfl⟩
  have Hp1n := Lib.hid (ST0.out.old Hp1.out)
  have ST2 := Lib.hid (ST0.out.box Hp1.out HW1.out)
  rw [← HW1.out]
  try rw [← Hp1.out]
  refine Hold.mk ?_
  have WW3 := Lib.hid (IntV.words (ST2.out.get (v := (.agg #[.bool g1, .slice a1 n1 cap1])) (g := g1) (z := z1) (by simp)))
  have C3 := Lib.hid (rform_k WW3.out.2.1 WW3.out.2.2.2 WW3.out.2.2.1 (Hx1.out))
  refine C3.out.mono ?_
  rintro e W3 ⟨⟨n3, a3, c3, d3, rfl, hv⟩, hb⟩
  have ST4 := Lib.hid (ST2.out.next hb hv)
  clear hb hv
  obtain ⟨⟨rp10, rp11⟩, fp10, fp11⟩ := box_cells (ST4.out.boxes (p1, g1, .slice a1 n1 cap1) (by simp))
  go_upto_region 2 with fail
  obtain ⟨W5, HW5⟩ : ∃ W', Hid (W' = (W3.setCell ⟨p1, 0, none⟩ (.bool n3)).setCell ⟨p1, 1, none⟩ (.slice a3 c3 d3)) := ⟨_, Lib.hid rfl⟩
  rw [← HW5.out]
  clear rp10 rp11 fp10 fp11
  have ST6 := Lib.hid (ST4.out.store (Hp1n.out) HW5.out)
  have WWa := Lib.hid (IntV.words (ST6.out.get (v := (.agg #[.bool n3, .slice a3 c3 d3])) (g := decide (x1 < 0)) (z := canW (x1).natAbs) (by simp)))
  obtain ⟨A, HA⟩ : ∃ A, Hid (x1.natAbs = A) := ⟨_, Lib.hid rfl⟩
  rw [HA.out] at WWa
  have Hs1 := Lib.hid WWa.out.1
  have HlA := Lib.hid WWa.out.2.1.1
  obtain ⟨qp10, qp11⟩ := ST6.out.cells (b := p1) (n := n3) (s := .slice a3 c3 d3) (by simp)
  by_cases hm2 : 2 < c3
  · have hbig : fits64 x1 = false := by
      refine decide_eq_false fun h => ?_
      have h1 := trim_top (can_trim A) (fun e => by have := HlA.out; rw [e] at this; simp at this; omega)
      rw [(canW_words A).2, HlA.out] at h1
      have h2 := pow_mono 4294967296 2 (c3 - 1) (by decide) (by omega)
      have h3 : (4294967296 : Nat) ^ 2 = 18446744073709551616 := by decide
      have h4 := HA.out
      omega
    have e1 : rb = false := by rw [← Hrb.out, hbig]
    subst e1
    have e2 : rv = 0 := by rw [← Hrv.out]; rfl
    subst e2
    go_wp2_with fail
    refine bodyPost_ret (results_tmp2 rfl _ _ _) rfl ?_
    exact ⟨rfl, ST6.out.below⟩
  · have hm3 : c3 ≤ 2 := by omega
    clear hm2
    go_wp2_with fail
    go_loopg [4, 5] c3 (fun gg v4 v5 wr => ∃ (k U : Nat), k ≤ c3 ∧ v5 = .int .i64 ((k : Int) - 1) ∧ v4 = .int .u64 U ∧ gg = k ∧ wr = W5 ∧ Hid (U = ofW ((canW A).drop k)))
    case atStart => exact ⟨c3, 0, Nat.le_refl _, by go_num, rfl, rfl, rfl, Lib.hid (by rw [List.drop_of_length_le (by rw [HlA.out]; exact Nat.le_refl _)]; rfl)⟩
    case round =>
      obtain ⟨k, U, hk, rfl, rfl, hgg, rfl, Hr⟩ := hrel
      cases k with
      | zero =>
        have e : (((0 : Nat) : Int) - 1) = -1 := by decide
        rw [e]
        clear e
        have HU := Lib.hid (show U = A from by have := Hr.out; rw [List.drop_zero, (canW_words A).2] at this; exact this)
        have hU9 : U < 18446744073709551616 := by
          have h8 := ofW_lt (canW_words A).1
          rw [(canW_words A).2, HlA.out, ← HU.out] at h8
          have h2 := pow_mono 4294967296 c3 2 (by decide) hm3
          have h3 : (4294967296 : Nat) ^ 2 = 18446744073709551616 := by decide
          omega
        have HFit := Lib.hid (show (n3 = true → (rb = decide (U ≤ 9223372036854775808) ∧ rv = if U ≤ 9223372036854775808 then -(U : Int) else 0)) ∧ (n3 = false → (rb = decide (U < 9223372036854775808) ∧ rv = if U < 9223372036854775808 then (U : Int) else 0)) from by
          have h1 := Hs1.out
          have h2 := HA.out
          have h3 := HU.out
          rw [← Hrv.out, ← Hrb.out]
          unfold fits64
          constructor
          · rintro rfl
            have h1 := of_decide_eq_true h1.symm
            have hx : x1 = -(U : Int) := by omega
            rw [hx]
            by_cases h : U ≤ 9223372036854775808
            · simp [h]; omega
            · simp [h]; omega
          · rintro rfl
            have h1 := of_decide_eq_false h1.symm
            have hx : x1 = (U : Int) := by omega
            rw [hx]
            by_cases h : U < 9223372036854775808
            · simp [h]; omega
            · simp [h]; omega)
        clear Hr
        cases n3 with
        | true =>
          have HX := Lib.hid (HFit.out.1 rfl)
          clear HFit
          by_cases hle : (U : Int) ≤ 9223372036854775808
          · have hv : wrap64 (IntKind.u64.wrap (-(U : Int))) = rv ∧ rb = true := by
              rw [HX.out.2, HX.out.1, if_pos (by omega), decide_eq_true (by omega)]
              refine ⟨?_, rfl⟩
              simp [wrap64, IntKind.wrap, IntKind.bits, IntKind.signed]
              omega
            have HY := Lib.hid hv
            clear hv
            go_wp2_with fail
            refine bodyPost_ret (results_tmp2 rfl _ _ _) rfl ?_
            exact ⟨eret2 HY.out.1 HY.out.2.symm, ST6.out.below⟩
          · have hv : (0 : Int) = rv ∧ rb = false := by
              rw [HX.out.2, HX.out.1, if_neg (by omega), decide_eq_false (by omega)]
              exact ⟨rfl, rfl⟩
            have HY := Lib.hid hv
            clear hv
            go_wp2_with fail
            refine bodyPost_ret (results_tmp2 rfl _ _ _) rfl ?_
            exact ⟨eret2 HY.out.1 HY.out.2.symm, ST6.out.below⟩
        | false =>
          have HX := Lib.hid (HFit.out.2 rfl)
          clear HFit
          by_cases hle : (U : Int) < 9223372036854775808
          · have hv : (U : Int) = rv ∧ rb = true := by
              rw [HX.out.2, HX.out.1, if_pos (by omega), decide_eq_true (by omega)]
              exact ⟨rfl, rfl⟩
            have HY := Lib.hid hv
            clear hv
            go_wp2_with fail
            refine bodyPost_ret (results_tmp2 rfl _ _ _) rfl ?_
            exact ⟨eret2 (by first | exact HY.out.1 | (rw [← HY.out.1]; simp [wrap64]; omega)) HY.out.2.symm, ST6.out.below⟩
          · have hv : (0 : Int) = rv ∧ rb = false := by
              rw [HX.out.2, HX.out.1, if_neg (by omega), decide_eq_false (by omega)]
              exact ⟨rfl, rfl⟩
            have HY := Lib.hid hv
            clear hv
            go_wp2_with fail
            refine bodyPost_ret (results_tmp2 rfl _ _ _) rfl ?_
            exact ⟨eret2 HY.out.1 HY.out.2.symm, ST6.out.below⟩
      | succ k =>
        have e : (((k + 1 : Nat) : Int) - 1) = (k : Int) := by omega
        rw [e]
        clear e
        obtain ⟨x, ex, hx⟩ := WWa.out.2.1.2.2 k (by omega)
        obtain ⟨u, Hu⟩ : ∃ u, Hid ((canW A).getD k 0 = u) := ⟨_, Lib.hid rfl⟩
        have hu9 : u < 4294967296 := by rw [← Hu.out]; exact (canW_words A).1.get k
        rw [Hu.out] at hx
        subst ex
        have hU9 : U < 4294967296 := by
          rw [Hr.out]
          have h8 := ofW_lt (l := (canW A).drop (k + 1)) (fun y hy => (canW_words A).1 y (List.mem_of_mem_drop hy))
          rw [List.length_drop, HlA.out] at h8
          have h2 := pow_mono 4294967296 (c3 - (k + 1)) 1 (by decide) (by omega)
          rw [Nat.pow_one] at h2
          omega
        have e1 : IntKind.u64.wrap ((U : Int) * 4294967296) = ((U * 4294967296 : Nat) : Int) := by
          rw [wrap_u64_id _ (by omega) (by omega)]
          omega
        have e2 : IntKind.u64.wrap (u : Int) = (u : Int) := wrap_u64_id _ (by omega) (by omega)
        obtain ⟨X, HX⟩ : ∃ X, Hid (U * 4294967296 + u = X) := ⟨_, Lib.hid rfl⟩
        have e3 := bits_or_u64 U u hU9 hu9
        rw [Int.natCast_mul, HX.out] at e3
        have HR := Lib.hid (show X = ofW ((canW A).drop k) from by
          rw [drop_getD (show k < (canW A).length by rw [HlA.out]; omega), Hu.out, ← HX.out, Hr.out]
          simp only [ofW]
          omega)
        clear Hr
        go_wp2_with fail
        go_roundg k
        case measure => omega
        case rel => exact ⟨k, X, by omega, by go_num, by first | rfl | exact congrArg (Value.int .u64) e3, rfl, rfl, HR⟩
end Go.Proofs.YtcnakbhogmnddaaDoor
