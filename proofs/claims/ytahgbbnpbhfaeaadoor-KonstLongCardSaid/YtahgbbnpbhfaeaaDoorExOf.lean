/- exact.fits, Of; slices.Clone of words; exact.Neg. No condition. -/
import Derived.Test.YtahgbbnpbhfaeaaDoorExComp
import Derived.Laws.ResultCell
namespace Go.Proofs.YtahgbbnpbhfaeaaDoor
open Go.RowKit

theorem results_cell_pair {fn : Func} {p u : Tmp} (h : fn.results = #[.cell p 24, .tmp u]) (tmps : Array Value) (w : World) (g : Nat) (t : TypeId) (x y : Value) (fr : Nat × Nat)
    (hp : tmps.getD p undef = .pointer (some ⟨g, 0, none⟩)) (hg : w.heap[g]? = some (.cells #[x, y] t fr)) : (results fn tmps).run Tryd.prog w = .ok (.tuple #[.agg #[x, y], tmps.getD u undef]) w := by
  rw [results_cell_tmp h, hp]
  simp only [asAddr, Sem.run_pure, Result.andThen_ok]
  rw [run_loadVar_row w g t 24 #[x, y] fr _ hg Tryd.underlying24 rfl (by kernel_rfl)]
  rfl
theorem WordsAt.box {w : World} {a a' : Option Addr} {n n' c' b : Nat} {z : List Nat} {x : Bool} {t : TypeId} (h : WordsAt w a n z) (hb : w.heap[b]? = some (.cells #[.bool x, .slice a' n' c'] t (0, 0))) (u0 u1 : Value) : WordsAt ((w.setCell ⟨b, 0, none⟩ u0).setCell ⟨b, 1, none⟩ u1) a n z := by
  refine ⟨h.1, h.2.1, fun i hi => ?_⟩
  obtain ⟨y, e, hx⟩ := h.2.2 i hi
  refine ⟨y, e, ?_⟩
  have hne : ∀ j, y.add i ≠ (⟨b, j, none⟩ : Addr) := fun j e2 => by
    have hx1 := hx
    rw [e2] at hx1
    simp only [World.cell?, hb] at hx1
    match j with
    | 0 => simp at hx1
    | 1 => simp at hx1
    | j + 2 => simp at hx1
  rw [World.cell?_setCell_other _ _ _ _ (hne 1).symm, World.cell?_setCell_other _ _ _ _ (hne 0).symm]
  exact hx

theorem addW (g j : Nat) : (⟨g, 0, none⟩ : Addr).add j = ⟨g, j, none⟩ := by
  unfold Addr.add
  by_cases h : j = 0
  · subst h; rfl
  · rw [if_neg h]; simp
/-- A number told, or that it is large. -/
def AnsR (w' : World) (e : Ending) (i : Int) : Prop := ∃ v, e = .returned (.tuple #[v, .int .i64 (if 2 ^ 512 ≤ i.natAbs then 2 else 0)]) ∧ IntC w' v (if 2 ^ 512 ≤ i.natAbs then 0 else i)
theorem intC_zero (w : World) : IntC w (.agg #[.bool false, .slice none 0 0]) 0 := ⟨none, 0, 0, rfl, by simpa [canW] using WordsAt.nil w none, Nat.le_refl _, by omega⟩

set_option maxHeartbeats 1600000 in
theorem fits_any (v : Value) (i : Int) (w : World) (h : IntC w v i) :
    Calls Tryd.prog 79 #[v] w fun e w' => AnsR w' e i ∧ Below w.heap.size w w' := by
  obtain ⟨a, n, cap, rfl, hw, hc, hn⟩ := id h
  obtain ⟨b, Hb⟩ : ∃ b, Hid (decide (i < 0) = b) := ⟨_, Lib.hid rfl⟩
  have h0 := h
  unfold IntC at h0
  rw [Hb.out] at h0 ⊢
  obtain ⟨w2, Hw2⟩ : ∃ w2, Hid (w2 = (w.alloc (.cells #[.bool b, .slice a n cap] 24)).alloc (.cells #[.bool false, .slice none 0 0] 24)) := ⟨_, Lib.hid rfl⟩
  obtain ⟨bn, Hbn⟩ : ∃ b, Hid (b = w.heap.size) := ⟨_, Lib.hid rfl⟩
  obtain ⟨bm, Hbm⟩ : ∃ b, Hid (b = w.heap.size + 1) := ⟨_, Lib.hid rfl⟩
  have hB : Below w.heap.size w w2 := by
    rw [Hw2.out]
    exact ((Below.refl _ w).alloc (Nat.le_refl _) _).alloc (by simp) _
  have q2 : w2.heap[bm]? = some (.cells #[.bool false, .slice none 0 0] 24 (0, 0)) := by
    have := heap_alloc_new (w.alloc (.cells #[.bool b, .slice a n cap] 24)) (.cells #[.bool false, .slice none 0 0] 24)
    rw [World.size_alloc] at this
    rw [Hw2.out, Hbm.out]
    exact this
  have HC := Lib.hid (box2 w b false (.slice a n cap) (.slice none 0 0))
  rw [← Hw2.out, ← Hbm.out, ← Hbn.out] at HC
  have K1 := Lib.hid (large_any (.agg #[.bool b, .slice a n cap]) b (canW i.natAbs) w2 (h0.below hB))
  rw [(canW_words _).2] at K1
  obtain ⟨l, Hl⟩ : ∃ l, Hid (decide (2 ^ 512 ≤ i.natAbs) = l) := ⟨_, Lib.hid rfl⟩
  rw [Hl.out] at K1
  have HB := Lib.hid (And.intro hB (And.intro q2 h))
  clear h h0 hw hB q2
  obtain ⟨s0, s1, s2, s3⟩ := HC.out w2 (Below.refl _ _)
  go_enter Tryd.func79, Tryd.ntmps79
  go_wp2_with (go_at_call 78; refine hold ?_)
  rw [← Hw2.out]
  try rw [← Hbm.out]
  try rw [← Hbn.out]
  refine Hold.mk ?_
  refine K1.out.mono ?_
  rintro e w3 ⟨rfl, hb⟩
  obtain ⟨t0, t1, t2, t3⟩ := HC.out w3 hb
  obtain ⟨hB, q2, h⟩ := HB.out
  have q3 := (hb.block bm (Array.getElem?_eq_some_iff.1 q2).1).trans q2
  have fz : ∀ j, w3.frozen? ⟨bm, j, none⟩ = false := fun j => by simp only [World.frozen?, q3]; simp
  have f0 := fz 0
  have f1 := fz 1
  have HQ := Lib.hid (And.intro q3 (And.intro (hB.trans (Below.mono hb hB.size)) (h.below (hB.trans (Below.mono hb hB.size)))))
  clear s0 s1 s2 s3 hb hB q2 q3 h fz
  have fin : ∀ (x : Bool) (u : Value), Below w.heap.size w ((w3.setCell ⟨bm, 0, none⟩ (.bool x)).setCell ⟨bm, 1, none⟩ u) ∧ ((w3.setCell ⟨bm, 0, none⟩ (.bool x)).setCell ⟨bm, 1, none⟩ u).heap[bm]? = some (.cells #[.bool x, u] 24 (0, 0)) := fun x u =>
    ⟨(HQ.out.2.1.setCell (by have := Hbm.out; simp only; omega) _).setCell (by have := Hbm.out; simp only; omega) _, (setCell_same2 (setCell_same2 HQ.out.1 _) _).trans rfl⟩
  have FIN := Lib.hid fin
  clear fin
  cases l with
  | true =>
    go_wp2_with fail
    obtain ⟨h1, h2⟩ := FIN.out false (.slice none 0 0)
    refine bodyPost_ret (results_cell_pair rfl _ _ bm 24 (.bool false) (.slice none 0 0) (0, 0) rfl h2) rfl ?_
    have hl := of_decide_eq_true Hl.out
    unfold AnsR
    rw [if_pos hl, if_pos hl]
    exact ⟨⟨_, rfl, intC_zero _⟩, h1⟩
  | false =>
    go_wp2_with fail
    obtain ⟨h1, h2⟩ := FIN.out b (.slice a n cap)
    refine bodyPost_ret (results_cell_pair rfl _ _ bm 24 (.bool b) (.slice a n cap) (0, 0) rfl h2) rfl ?_
    have hl := of_decide_eq_false Hl.out
    unfold AnsR
    rw [if_neg hl, if_neg hl]
    refine ⟨⟨_, rfl, ?_⟩, h1⟩
    obtain ⟨a', n', cap', e, hw, hc', hn'⟩ := HQ.out.2.2
    obtain ⟨rfl, rfl, rfl⟩ : a = a' ∧ n = n' ∧ cap = cap' := by
      simp at e
      exact ⟨by simp [e], by simp [e], by simp [e]⟩
    refine ⟨a, n, cap, by rw [Hb.out], hw.box HQ.out.1 _ _, hc', hn'⟩

set_option maxRecDepth 100000 in
set_option maxHeartbeats 1600000 in
theorem of_any (i : Int) (w : World) (h0 : -9223372036854775808 ≤ i) (h1 : i ≤ 9223372036854775807) :
    Calls Tryd.prog 38 #[.int .i64 i] w fun e w' => ∃ v, e = .returned v ∧ IntC w' v i ∧ Below w.heap.size w w' := by
  obtain ⟨N, HN⟩ : ∃ N, Hid (i.natAbs = N) := ⟨_, Lib.hid rfl⟩
  have hN : N < 18446744073709551616 := by have := HN.out; omega
  obtain ⟨w2, Hw2⟩ : ∃ w2, Hid (w2 = (w.alloc (.cells #[.bool false, .slice none 0 0] 24)).alloc (.cells #[.int .u32 ((N : Int) % 4294967296), .int .u32 ((N : Int) / 4294967296)] 68)) := ⟨_, Lib.hid rfl⟩
  obtain ⟨bo, Hbo⟩ : ∃ b, Hid (b = w.heap.size) := ⟨_, Lib.hid rfl⟩
  obtain ⟨bm, Hbm⟩ : ∃ b, Hid (b = w.heap.size + 1) := ⟨_, Lib.hid rfl⟩
  have HZ := Lib.hid (show WordsAt w2 (some ⟨bm, 0, none⟩) 2 [N % 4294967296, N / 4294967296] ∧ Below w.heap.size w w2 ∧ w2.heap[bo]? = some (.cells #[.bool false, .slice none 0 0] 24 (0, 0)) from by
    have q2 : w2.heap[bm]? = some (.cells #[.int .u32 ((N : Int) % 4294967296), .int .u32 ((N : Int) / 4294967296)] 68 (0, 0)) := by
      have := heap_alloc_new (w.alloc (.cells #[.bool false, .slice none 0 0] 24)) (.cells #[.int .u32 ((N : Int) % 4294967296), .int .u32 ((N : Int) / 4294967296)] 68)
      rw [World.size_alloc] at this
      rw [Hw2.out, Hbm.out]
      exact this
    refine ⟨⟨rfl, fun x hx => ?_, fun i hi => ⟨_, rfl, ?_⟩⟩, ?_, ?_⟩
    · simp at hx
      omega
    · match i, hi with
      | 0, _ => rw [addW]; simp only [World.cell?, q2]; rfl
      | 1, _ => rw [addW]; simp only [World.cell?, q2]; rfl
    · rw [Hw2.out]
      exact ((Below.refl _ w).alloc (Nat.le_refl _) _).alloc (by simp) _
    · rw [Hw2.out, Hbo.out]
      exact (Below.heap_alloc _ _ _ (by simp)).trans (heap_alloc_new w _))
  by_cases hneg : i < 0
  · have hU : IntKind.u64.wrap (-IntKind.u64.wrap i) = (N : Int) := by
      have := HN.out
      simp only [IntKind.wrap, IntKind.bits, IntKind.signed]
      simp
      omega
    go_enter Tryd.func38, Tryd.ntmps38
    go_wp2_with (go_at_call 47; refine hold ?_)
    rw [← Hw2.out]
    try rw [← Hbm.out]
    try rw [← Hbo.out]
    refine Hold.mk ?_
    have HF := form_any true (some ⟨bm, 0, none⟩) 2 2 [N % 4294967296, N / 4294967296] w2 HZ.out.1 (by omega) (by omega)
    refine HF.mono ?_
    rintro e w3 ⟨v, rfl, ⟨a, n, cap, rfl, hv, hc, hn⟩, hb⟩
    have hval : valI true [N % 4294967296, N / 4294967296] = i := by
      unfold valI
      simp only [ofW]
      have := HN.out
      simp
      omega
    rw [hval] at hv ⊢
    have q3 := (hb.block bo (Array.getElem?_eq_some_iff.1 HZ.out.2.2).1).trans HZ.out.2.2
    have r0 : w3.cell? ⟨bo, 0, none⟩ = some (.bool false) := by simp only [World.cell?, q3]; rfl
    have r1 : w3.cell? ⟨bo, 1, none⟩ = some (.slice none 0 0) := by simp only [World.cell?, q3]; rfl
    have fz : ∀ j, w3.frozen? ⟨bo, j, none⟩ = false := fun j => by simp only [World.frozen?, q3]; simp
    have f0 := fz 0
    have f1 := fz 1
    obtain ⟨bb, Hbb⟩ : ∃ b, Hid (decide (i < 0) = b) := ⟨_, Lib.hid rfl⟩
    have HX := Lib.hid (And.intro q3 (And.intro hv (And.intro hc (And.intro hn (HZ.out.2.1.trans (Below.mono hb HZ.out.2.1.size))))))
    clear q3 hv hb fz HF
    rw [Hbb.out]
    go_wp2_with fail
    obtain ⟨q3, hv, hc, hn, hb⟩ := HX.out
    have h3 := setCell_same2 (j := 1) (setCell_same2 (j := 0) q3 (.bool bb)) (.slice a n cap)
    refine bodyPost_ret (results_cell_row rfl _ _ bo 24 #[.bool bb, .slice a n cap] (0, 0) _ rfl (h3.trans rfl) Tryd.underlying24 rfl (by kernel_rfl)) rfl ?_
    exact ⟨_, rfl, ⟨a, n, cap, by rw [Hbb.out], hv.box q3 _ _, hc, hn⟩, (hb.setCell (by have := Hbo.out; simp only; omega) _).setCell (by have := Hbo.out; simp only; omega) _⟩
  · have hU : IntKind.u64.wrap i = (N : Int) := by
      have := HN.out
      simp only [IntKind.wrap, IntKind.bits, IntKind.signed]
      simp
      omega
    have hi : i = (N : Int) := by have := HN.out; omega
    have hge : 0 ≤ (N : Int) := by omega
    subst hi
    clear hU hneg
    go_enter Tryd.func38, Tryd.ntmps38
    go_wp2_with (go_at_call 47; refine hold ?_)
    rw [← Hw2.out]
    try rw [← Hbm.out]
    try rw [← Hbo.out]
    refine Hold.mk ?_
    have HF := form_any false (some ⟨bm, 0, none⟩) 2 2 [N % 4294967296, N / 4294967296] w2 HZ.out.1 (by omega) (by omega)
    refine HF.mono ?_
    rintro e w3 ⟨v, rfl, ⟨a, n, cap, rfl, hv, hc, hn⟩, hb⟩
    have hval : valI false [N % 4294967296, N / 4294967296] = (N : Int) := by
      unfold valI
      simp only [ofW]
      have := HN.out
      simp
      omega
    rw [hval] at hv ⊢
    have q3 := (hb.block bo (Array.getElem?_eq_some_iff.1 HZ.out.2.2).1).trans HZ.out.2.2
    have r0 : w3.cell? ⟨bo, 0, none⟩ = some (.bool false) := by simp only [World.cell?, q3]; rfl
    have r1 : w3.cell? ⟨bo, 1, none⟩ = some (.slice none 0 0) := by simp only [World.cell?, q3]; rfl
    have fz : ∀ j, w3.frozen? ⟨bo, j, none⟩ = false := fun j => by simp only [World.frozen?, q3]; simp
    have f0 := fz 0
    have f1 := fz 1
    obtain ⟨bb, Hbb⟩ : ∃ b, Hid (decide ((N : Int) < 0) = b) := ⟨_, Lib.hid rfl⟩
    have HX := Lib.hid (And.intro q3 (And.intro hv (And.intro hc (And.intro hn (HZ.out.2.1.trans (Below.mono hb HZ.out.2.1.size))))))
    clear q3 hv hb fz HF
    rw [Hbb.out]
    go_wp2_with fail
    obtain ⟨q3, hv, hc, hn, hb⟩ := HX.out
    have h3 := setCell_same2 (j := 1) (setCell_same2 (j := 0) q3 (.bool bb)) (.slice a n cap)
    refine bodyPost_ret (results_cell_row rfl _ _ bo 24 #[.bool bb, .slice a n cap] (0, 0) _ rfl (h3.trans rfl) Tryd.underlying24 rfl (by kernel_rfl)) rfl ?_
    exact ⟨_, rfl, ⟨a, n, cap, by rw [Hbb.out], hv.box q3 _ _, hc, hn⟩, (hb.setCell (by have := Hbo.out; simp only; omega) _).setCell (by have := Hbo.out; simp only; omega) _⟩
end Go.Proofs.YtahgbbnpbhfaeaaDoor
