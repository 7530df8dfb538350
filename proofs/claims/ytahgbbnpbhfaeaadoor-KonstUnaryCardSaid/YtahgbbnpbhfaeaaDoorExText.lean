/- exact.Text. No condition. -/
import Derived.Test.YtahgbbnpbhfaeaaDoorJ5
import Derived.Sort.LoopGhostIn
namespace Go.Proofs.YtahgbbnpbhfaeaaDoor
open Go.RowKit Go.Shelf
attribute [local go_sem] Oper.semAt_some

/-- 'append(row, word)', inside a fence. -/
theorem wpListIn_app1 {F : Fence} {nn : Nat} (w : World) {ops : Array Oper} {rest : List Oper} {o : Oper} {a : Act} {Q : Exit → Act → World → Prop} (hgd : o.guard = none) (s x : Operand)
    (ho : o.op = .call { callee := .builtin .append, args := #[s, x], argTypes := #[22, 22] })
    (base : Nat) (v : Value) (l : List Nat) (U : Int) (u : Nat) (hs : a.eval s = v) (hx : a.eval x = .slice (some ⟨w.heap.size, 0, none⟩) 1 1) (hown : RowO w base v l) (hU : U = (u : Int)) (hl : l.length ≤ 4000000) (hb : base ≤ w.heap.size)
    (h : ∀ g cap w', RowW w' g cap (l ++ [u]) → base ≤ g → Below base w w' → wpListIn F nn Tryd.prog ops Q rest (a.put o.dst (.slice (some ⟨g, 0, none⟩) (l.length + 1) cap)) w') :
    wpListIn F nn Tryd.prog ops Q (o :: rest) a (w.alloc (.cells #[.int .u32 U] 68)) := by
  subst hU
  obtain ⟨i, hi, hz, hsz, hby⟩ := info_parts infoU
  have hb1 := (Below.refl base w).alloc (by omega) (.cells #[.int .u32 (u : Int)] 68)
  have hb2 := (Below.refl w.heap.size w).alloc (Nat.le_refl _) (.cells #[.int .u32 (u : Int)] 68)
  have h1 := hown.below hb2 (Nat.le_refl _)
  refine wpListIn_append_own _ hgd s x _ ho base 68 i _ 1 4 Tryd.underlying22 hi hz hsz hby rfl (by decide) v l.length (mapW l) hs h1.owns ⟨w.heap.size, 0, none⟩ 1 1 [.int .u32 (u : Int)] hx rfl ?_ (by simp [Value.oneCell']) (by unfold maxLen; omega) (by omega) (by simp; omega) ?_
  · intro j y hj
    match j with
    | 0 =>
      rw [addW]
      rw [cell_of_row _ _ _ _ _ _ (heap_alloc_new w _)]
      simpa using hj
    | j + 1 => simp at hj
  · intro v' w' h2 h3 h4
    rcases id h2.2 with ⟨_, h5⟩ | ⟨g, cap, cur, rfl, h5⟩
    · omega
    · have h4 := RowW.of_owns (l := l ++ [u]) (by rw [mapW_append]; exact h2) (by simp)
      exact h g cap w' h4.2 h4.1 (hb1.trans (grown_below (v := v) h3 hown.own (by simp; omega)))

set_option maxRecDepth 100000 in
set_option maxHeartbeats 4000000 in
theorem text_any (v : Value) (neg : Bool) (z : List Nat) (w : World) (h : IntV w v neg z) :
    Calls Tryd.prog 31 #[v] w fun e w' => e = .returned (.string (strL (decI (valI neg z)))) ∧ Below w.heap.size w w' := by
  obtain ⟨a, n, cap, rfl, hw, hc, hn⟩ := h
  obtain ⟨w1, Hw1⟩ : ∃ w1, Hid (w1 = w.alloc (.cells #[.bool neg, .slice a n cap] 24)) := ⟨_, Lib.hid rfl⟩
  obtain ⟨bn, Hbn⟩ : ∃ b, Hid (b = w.heap.size) := ⟨_, Lib.hid rfl⟩
  have hB : Below w.heap.size w w1 := by
    rw [Hw1.out]
    exact (Below.refl _ w).alloc (Nat.le_refl _) _
  have HT := Lib.hid (trim_any a n cap z w1 (hw.below hB) (by omega) hc)
  have HB := Lib.hid hB
  have HW := Lib.hid (hw.below hB).trim
  have HWd := Lib.hid hw.2.1
  obtain ⟨m, Hm⟩ : ∃ m, Hid ((trimZ z).length = m ∧ m ≤ cap) := ⟨_, Lib.hid ⟨rfl, by have := trim_le z; have := hw.1; omega⟩⟩
  have hm9 : m ≤ 1000000 := by have := trim_le z; have := hw.1; have := Hm.out.1; omega
  rw [Hm.out.1] at HT HW
  have q1 : w1.heap[bn]? = some (.cells #[.bool neg, .slice a n cap] 24 (0, 0)) := by rw [Hw1.out, Hbn.out]; exact heap_alloc_new w _
  obtain ⟨⟨s0, s1⟩, _, _⟩ := box_cells q1
  have HQ := Lib.hid q1
  have HC := Lib.hid (cloneW_any a m cap (trimZ z) w1 HW.out hm9 Hm.out.2)
  obtain ⟨res, Hres⟩ : ∃ r, Hid (strL (decI (valI neg z)) = r) := ⟨_, Lib.hid rfl⟩
  rw [Hres.out]
  clear hw hB q1
  refine (callsIn_wide (n := 6)).1 ?_
  refine callsIn_of_wp_marks Tryd.func31 rfl trivial ?_ rfl
  simp only [Tryd.ntmps31, List.size_toArray, List.length_cons, List.length_nil, Nat.reduceAdd, Nat.reduceSub, Array.replicate_succ, Array.replicate_zero, List.push_toArray, List.append_toArray, List.nil_append, List.cons_append]
  gi_wp2_with (gi_at_call 54; refine hold ?_)
  rw [← Hw1.out]
  try rw [← Hbn.out]
  refine Hold.mk ⟨trivial, ?_⟩
  refine (callsIn_wide.2 HT.out).mono ?_
  rintro e w2 ⟨rfl, rfl⟩
  gi_wp2_with (gi_at_call 48; refine hold ?_)
  refine Hold.mk ⟨trivial, ?_⟩
  refine (callsIn_wide.2 HC.out).mono ?_
  rintro e w2 ⟨v2, rfl, hr2, hb2⟩
  by_cases hm0 : m = 0
  · have HZ := Lib.hid (show res = ⟨#[48]⟩ from by
      rw [← Hres.out]
      refine decI_zero ?_
      rw [← trim_nil, ← List.length_eq_zero_iff]
      exact Hm.out.1.trans hm0)
    subst hm0
    obtain ⟨a9, c9, rfl⟩ : ∃ a c, v2 = .slice a 0 c := by
      obtain ⟨a, c, e, _⟩ := hr2.shape
      rw [Hm.out.1] at e
      exact ⟨a, c, e⟩
    have HX := Lib.hid (HB.out.trans (Below.mono hb2 HB.out.size))
    clear hr2 hb2
    gi_wp2_with fail
    refine ⟨_, results_tmp rfl _ _ _, ?_, HX.out⟩
    rw [HZ.out]
    rfl
  · obtain ⟨g, c, rfl, hg2, hrow2⟩ : ∃ g c, v2 = .slice (some ⟨g, 0, none⟩) m c ∧ w1.heap.size ≤ g ∧ RowW w2 g c (trimZ z) := by
      rcases hr2 with ⟨_, h9⟩ | ⟨g, c, e, h8, h9⟩
      · have := Hm.out.1
        rw [h9] at this
        exact absurd this.symm hm0
      · rw [Hm.out.1] at e
        exact ⟨g, c, e, h8, h9⟩
    have hz0 : 0 < ofW z := by
      have := trim_nil z
      have h1 : trimZ z ≠ [] := fun e => by have := Hm.out.1; rw [e] at this; exact hm0 this.symm
      have : ofW z ≠ 0 := fun e => h1 (this.2 e)
      omega
    have HP := Lib.hid (decI_pos (neg := neg) hz0)
    rw [Hres.out] at HP
    have HX0 := Lib.hid (HB.out.trans (Below.mono hb2 HB.out.size))
    have HR := Lib.hid (show w.heap.size ≤ g ∧ g < w2.heap.size ∧ RowW w2 g c (trimZ z) ∧ w.heap.size ≤ w2.heap.size ∧ bn < g ∧ w2.heap[bn]? = some (.cells #[.bool neg, .slice a n cap] 24 (0, 0)) from by
      have h1 := HB.out.size
      have h2 := hb2.size
      have h3 := (Array.getElem?_eq_some_iff.1 HQ.out).1
      exact ⟨by omega, hrow2.lt, hrow2, by omega, by omega, (hb2.block bn h3).trans HQ.out⟩)
    obtain ⟨N, HN⟩ : ∃ N, Hid (ofW z = N) := ⟨_, Lib.hid rfl⟩
    rw [HN.out] at HP hz0
    have HNlt := Lib.hid (show N < 4294967296 ^ m from by
      have := ofW_lt HWd.out.trim
      rwa [ofW_trim, HN.out, Hm.out.1] at this)
    have hm1 : 0 < m := by omega
    have hmb : ((m : Int) == 0) = false := by simp; omega
    have hR1 := HR.out.1
    have hR2 := HR.out.2.1
    have hR3 := HR.out.2.2.2.1
    have hst := Lib.hid (show TxtR w2 w2 g c (.slice none 0 0) (trimZ z) [] N from ⟨HR.out.2.2.1, RowO.nil, HWd.out.trim, trim_idem, (fun p hp => by simp at hp), by rw [ofW_trim, HN.out]; simp [ofP], Below.refl _ _, Nat.le_refl _⟩)
    clear hr2 hg2 hrow2 hb2 s0 s1
    gi_wp2_with fail
    gi_loopg [3, 4] N (fun gg v3 v4 wr => ∃ (y ps : List Nat) (k p c4 : Nat) (a4 : Option Addr), k = y.length ∧ v3 = .slice (some ⟨g, 0, none⟩) k c ∧ v4 = .slice a4 p c4 ∧ gg = ofW y ∧ k ≤ m ∧ k ≤ c ∧ p ≤ 2 * m + 1 ∧ Hid (p = ps.length ∧ TxtR w2 wr g c (.slice a4 p c4) y ps N))
    case atStart => exact ⟨trimZ z, [], m, 0, 0, none, Hm.out.1.symm, rfl, rfl, by rw [ofW_trim, HN.out], Nat.le_refl _, by have := HR.out.2.2.1.1; rwa [Hm.out.1] at this, by omega, Lib.hid ⟨rfl, hst.out⟩⟩
    case round =>
      obtain ⟨y, ps, k, p, c4, a4, hk, rfl, rfl, hgg, hkm, hkc, hpm, Hr⟩ := hrel
      have Hk := Lib.hid hk
      clear hk
      by_cases hk0 : k = 0
      · have HF := Lib.hid (show ofP ps = N ∧ (∀ q ∈ ps, q < 1000000000) ∧ Words ps ∧ p = ps.length ∧ RowO wr w2.heap.size (.slice a4 p c4) ps ∧ Below w.heap.size w wr ∧ w2.heap.size ≤ wr.heap.size ∧ wr.heap[bn]? = some (.cells #[.bool neg, .slice a n cap] 24 (0, 0)) ∧ p ≤ 4000000 from by
          obtain ⟨h0, h1, h2, h3, h4, h5, h6, h7, h8⟩ := Hr.out
          have hy : y = [] := List.length_eq_zero_iff.1 (by have := Hk.out; omega)
          rw [hy] at h6
          simp only [ofW, Nat.mul_zero, Nat.add_zero] at h6
          have hb := HR.out.2.2.2.2.1
          refine ⟨h6, h5, fun q hq => by have := h5 q hq; omega, h0, h2, (HX0.out).trans (Below.mono h7 (by omega)), h8, (h7.block bn hb).trans HR.out.2.2.2.2.2, by omega⟩)
        subst hk0
        obtain ⟨bu, Hbu⟩ : ∃ b, Hid (b = wr.heap.size) := ⟨_, Lib.hid rfl⟩
        obtain ⟨w4, Hw4⟩ : ∃ w4, Hid (w4 = (wr.alloc (.cells #[.pointer none, .slice none 0 0] 76)).alloc (.cells #[.slice a4 p c4] 22)) := ⟨_, Lib.hid rfl⟩
        gi_wp2_with (gi_at_call 56; refine hold ?_)
        refine Hold.mk ⟨trivial, ?_⟩
        refine (callsIn_wide.2 (back_any a4 p c4 (wr.alloc (.cells #[.pointer none, .slice none 0 0] 76)))).mono ?_
        rintro e w' ⟨rfl, rfl⟩
        rw [← Hw4.out, World.size_alloc, ← Hbu.out]
        obtain ⟨HF1, HF2, HF3, HF4, HF5, HF6, HF7, HF8, HF9⟩ := HF.out
        have hB4 : Below wr.heap.size wr w4 := by
          rw [Hw4.out]
          exact ((Below.refl _ wr).alloc (Nat.le_refl _) _).alloc (by simp) _
        have hsz : w4.heap.size = bu + 2 := by rw [Hw4.out, Hbu.out]; simp
        have hb3 : w4.heap[bu]? = some (.cells #[.pointer none, .slice none 0 0] 76 (0, 0)) := by
          rw [Hw4.out, Hbu.out]
          exact (Below.heap_alloc _ _ _ (by simp)).trans (heap_alloc_new wr _)
        have hb4 : w4.heap[bu + 1]? = some (.cells #[.slice a4 p c4] 22 (0, 0)) := by
          have h1 := heap_alloc_new (wr.alloc (.cells #[.pointer none, .slice none 0 0] 76)) (.cells #[.slice a4 p c4] 22)
          rw [World.size_alloc, ← Hbu.out] at h1
          rw [Hw4.out]
          exact h1
        have hbnu : bn < bu := by rw [Hbu.out]; have := HR.out.2.2.2.2.1; omega
        have hbu1 : w.heap.size ≤ bu := by rw [Hbu.out]; omega
        have hbn4 : w4.heap[bn]? = some (.cells #[.bool neg, .slice a n cap] 24 (0, 0)) := (hB4.block bn (by rw [← Hbu.out]; exact hbnu)).trans HF8
        have hro4 : RowO w4 w2.heap.size (.slice a4 p c4) ps := HF5.below hB4 (Nat.le_refl _)
        have hown4 : ∀ q, (Value.slice a4 p c4).ownBlock = some q → q ≠ bu := by
          rcases HF5 with ⟨e, _⟩ | ⟨q, cap', e, _, h9⟩
          · rw [e]
            intro q hq
            cases hq
          · rw [e]
            intro q' hq
            have hq2 : q = q' := by simpa [Value.ownBlock] using hq
            have := h9.lt
            have := Hbu.out
            omega
        have hJ0 : TxtJ w2.heap.size bu (bu + 1) bn #[.bool neg, .slice a n cap] (.slice a4 p c4) ps [] w4 :=
          ⟨.inl ⟨rfl, .inl ⟨Nat.le_refl _, _, hb3, ⟨rfl, .inl ⟨rfl, rfl⟩⟩, by simp [Value.ownBlock]⟩⟩, hro4, hb4, hbn4⟩
        have hst := back_stops 5 (by decide) (bu + 1) a4 p c4 ps (by omega) w4 (by omega) (hJ0.backG HF3)
        have hpl := Lib.hid HF4
        have hN := Lib.hid HF1
        have hpq := Lib.hid HF2
        clear HF1 HF2 HF4 HF5
        have hB0 : Below w.heap.size w w4 := HF6.trans (Below.mono hB4 (by omega))
        gi_wp2
        refine wpIn_rangeFunc_ownG rfl (by decide) (gf := 72) (lb := #[.pointer (some ⟨bu + 1, 0, none⟩)]) rfl trivial (enters_of Tryd.func72 (by kernel_rfl) rfl)
          hst (fun h k => fun g => k (h g)) (fun W l o o' _ h hc _ => BackK.put W l o o' h hc) (Below.refl _ _) (fun _ => rfl)
          (fun pre W => TxtJ w2.heap.size bu (bu + 1) bn #[.bool neg, .slice a n cap] (.slice a4 p c4) ps pre W ∧ (Below w.heap.size w W ∧ bu + 2 ≤ W.heap.size))
          (fun _ _ _ => False)
          (OwnFrom.and (Own.from TxtJ.own _) (OwnFrom.and (ownFrom_below (Nat.le_refl _) (by omega)) (fun _ _ _ _ hs hg _ => Nat.le_trans hs hg.size)))
          (fun _ _ _ _ _ hs _ _ => hs)
          ⟨hJ0, hB0, by omega⟩
          ?a1 ?assign ?body ?done ?stop
        case assign =>
          intro l x W K hK
          unfold encW
          rw [List.zip_toArray, List.foldl_toArray]
          simp only [List.zip_cons_cons, List.zip_nil_left, List.foldl_cons, List.foldl_nil, List.setIfInBounds_toArray, List.set_cons_succ, List.set_cons_zero]
          gi_wp2
          exact hK
        case body =>
          rintro l pre x W ⟨h1, h3, h4⟩ hlt
          obtain ⟨x1, ⟨u, hu⟩⟩ := x
          have HI := Lib.hid (And.intro h1 (And.intro h3 h4))
          have HDg := Lib.hid (digits_any u W hu)
          have hlt9 : pre.length < 4000000 := by omega
          clear h1 h3 h4 hst hJ0 hB0 hb3 hb4 hbn4 hro4 hB4
          gi_wp2_with (gi_at_call 57; refine hold ?_)
          refine Hold.mk ⟨trivial, ?_⟩
          refine (callsIn_wide.2 HDg.out).mono ?_
          rintro e W2 ⟨rfl, hb2⟩
          obtain ⟨c0, c1, c2, c3, c4', c5, c6, c7, c8, hl⟩ := list9 (padC_len u)
          have hl2 : Value.agg (mapB (padC u)).toArray = .agg #[.int .u8 (c0 : Nat), .int .u8 (c1 : Nat), .int .u8 (c2 : Nat), .int .u8 (c3 : Nat), .int .u8 (c4' : Nat), .int .u8 (c5 : Nat), .int .u8 (c6 : Nat), .int .u8 (c7 : Nat), .int .u8 (c8 : Nat)] := by rw [hl]; rfl
          rw [hl2]
          have HL := Lib.hid hl
          have HI2 := Lib.hid (And.intro (HI.out.1.below hb2) (And.intro (HI.out.2.1.trans (Below.mono hb2 HI.out.2.1.size)) (Nat.le_trans HI.out.2.2 hb2.size)))
          have HKf := Lib.hid (below_keeps (B := w4.heap.size) hb2)
          clear hl hl2 hb2
          gi_wp2_with (gi_at_call 58; refine hold ?_)
          refine Hold.mk ⟨trivial, ?_⟩
          obtain ⟨W3, HW3⟩ : ∃ W3, Hid (W3 = W2.alloc (.cells #[.int .u8 (c0 : Nat), .int .u8 (c1 : Nat), .int .u8 (c2 : Nat), .int .u8 (c3 : Nat), .int .u8 (c4' : Nat), .int .u8 (c5 : Nat), .int .u8 (c6 : Nat), .int .u8 (c7 : Nat), .int .u8 (c8 : Nat)] 80)) := ⟨_, Lib.hid rfl⟩
          rw [← HW3.out]
          have hb3 : Below W2.heap.size W2 W3 := by
            rw [HW3.out]
            exact (Below.refl _ W2).alloc (Nat.le_refl _) _
          have h30 : W3.heap[W2.heap.size]? = some (.cells #[.int .u8 (c0 : Nat), .int .u8 (c1 : Nat), .int .u8 (c2 : Nat), .int .u8 (c3 : Nat), .int .u8 (c4' : Nat), .int .u8 (c5 : Nat), .int .u8 (c6 : Nat), .int .u8 (c7 : Nat), .int .u8 (c8 : Nat)] 80 (0, 0)) := by
            rw [HW3.out]
            exact heap_alloc_new W2 _
          have hj3 := HI2.out.1.below hb3
          have hb03 := HI2.out.2.1.trans (Below.mono hb3 HI2.out.2.1.size)
          have hs3 := Nat.le_trans HI2.out.2.2 hb3.size
          have hmb9 : mapB (padN 9 u) = [.int .u8 (c0 : Nat), .int .u8 (c1 : Nat), .int .u8 (c2 : Nat), .int .u8 (c3 : Nat), .int .u8 (c4' : Nat), .int .u8 (c5 : Nat), .int .u8 (c6 : Nat), .int .u8 (c7 : Nat), .int .u8 (c8 : Nat)] := by
            rw [← padC_pad, HL.out]
            rfl
          have hlb : (mapB (digO pre)).length ≤ 36000000 := by
            have := digO_len pre
            simp [mapB]
            omega
          have hWr := bwrite_any bu bu (mapB (digO pre)) ⟨W2.heap.size, 0, none⟩ 9 9 (mapB (padN 9 u)) W3 hj3.1.bld (by simp [mapB, padN_len]) (by
            intro j v hj
            rw [hmb9] at hj
            rw [addW]
            rw [cell_of_row _ _ _ _ _ _ h30]
            simpa using hj) (by have := HI2.out.2.2; simp only; omega) (by rw [hmb9]; simp [Value.oneCell']) (by decide) (by omega) (by omega)
          refine (callsIn_wide.2 hWr).mono ?_
          rintro e W4 ⟨rfl, hbu4, hbl4, hot4, hsz4⟩
          have hfin : TxtJ w2.heap.size bu (bu + 1) bn #[.bool neg, .slice a n cap] (.slice a4 p c4) ps (pre ++ [(x1, ⟨u, hu⟩)]) W4 := hj3.write hbu4 hot4 (by omega) (by omega) hown4
          have HE := Lib.hid (show KeepsFrom w4.heap.size W W4 ∧ BackK (bu + 1) a4 p c4 ps W W4 ∧ TxtJ w2.heap.size bu (bu + 1) bn #[.bool neg, .slice a n cap] (.slice a4 p c4) ps (pre ++ [(x1, ⟨u, hu⟩)]) W4 ∧ Below w.heap.size w W4 ∧ bu + 2 ≤ W4.heap.size from
            ⟨(HKf.out.trans (below_keeps hb3)).trans (others_keeps hot4 hsz4 hj3.1.isCells), fun _ => hfin.backG HF3, hfin, hb03.trans (Below.mono hbl4 hbu1), by omega⟩)
          clear hWr hfin hbu4 hbl4 hot4 hsz4 hj3 hb03 hs3 hmb9 hlb h30 hb3
          gi_wp2_with fail
          exact HE.out
        case stop =>
          rintro D c pre W _ _ h _
          exact h.elim
        case done =>
          rintro D ys W hD rfl ⟨h1, h3, h4⟩ hK
          have hU : BldU bu bu (mapB (digP ps)) W := by
            rcases h1.1 with ⟨e, _⟩ | h
            · have := backN_len ps p 0
              rw [e] at this
              have h0 : ps = [] := List.length_eq_zero_iff.1 (by have e9 : p = 0 := by simpa using this.symm
                                                                 have := hpl.out; omega)
              have := hN.out
              rw [h0] at this
              simp [ofP] at this
              omega
            · have e := digO_back ps HF3
              rw [← hpl.out] at e
              rwa [e] at h
          rw [← toB_cells (fun x hx => by have := digP_bytes ps x hx; omega)] at hU
          have hne : toB (digP ps) ≠ [] := fun e => by
            have e2 := digP_len ps
            have e3 : (toB (digP ps)).length = 0 := by rw [e]; rfl
            simp only [toB, List.length_map] at e3
            have h0 : ps = [] := List.length_eq_zero_iff.1 (by omega)
            have := hN.out
            rw [h0] at this
            simp [ofP] at this
            omega
          have HS := Lib.hid (bstring_any bu bu (toB (digP ps)) W hU hne)
          have HT := Lib.hid (fun W => trimL_any (toB (digP ps)) 48 W (by decide) hne)
          rw [toB_drop (fun x hx => by have := digP_bytes ps x hx; omega), digP_dec hpq.out (by rw [hN.out]; exact hz0), hN.out] at HT
          obtain ⟨t1, Ht1⟩ : ∃ t, Hid (strL (toB (digP ps)) = t) := ⟨_, Lib.hid rfl⟩
          obtain ⟨t2, Ht2⟩ : ∃ t, Hid (strL (toB (decN N)) = t) := ⟨_, Lib.hid rfl⟩
          have hts : t2.size ≤ 36000000 := by
            rw [← Ht2.out, strL_size]
            have e1 := digP_dec hpq.out (by rw [hN.out]; exact hz0)
            rw [hN.out] at e1
            have e2 := congrArg List.length e1
            have e3 := (List.dropWhile_sublist (l := digP ps) (· == 48)).length_le
            have e4 := digP_len ps
            have e5 := hpl.out
            simp only [toB, List.length_map]
            omega
          rw [show (⟨(toB (digP ps)).toArray⟩ : ByteArray) = t1 from Ht1.out] at HS
          rw [Ht2.out] at HT
          rw [Ht1.out] at HT
          rw [Ht2.out] at HP
          have HW5 := Lib.hid (And.intro h1.2.2.2 (And.intro h3 hK))
          clear h1 h3 hK hU hne hst hJ0 hB0 hb3 hb4 hbn4 hro4 hB4
          gi_wp2_with (gi_at_call 60; refine hold ?_)
          refine Hold.mk ⟨trivial, ?_⟩
          refine (callsIn_wide.2 HS.out).mono ?_
          rintro e W5 ⟨rfl, hb5, ho5⟩
          have HX5 := Lib.hid (show W5.heap[bn]? = some (.cells #[.bool neg, .slice a n cap] 24 (0, 0)) ∧ Below w.heap.size w W5 ∧ W5.heap[D]? = some (.deferred (some [])) from
            ⟨ho5 bn _ HW5.out.1 (by simp; omega) (fun c fz e => by cases e), HW5.out.2.1.trans (Below.mono hb5 hbu1), ho5 D _ HW5.out.2.2 (by simp; omega) (fun c fz e => by cases e)⟩)
          have s0 : W5.cell? ⟨bn, 0, none⟩ = some (.bool neg) := (box_cells HX5.out.1).1.1
          clear hb5 ho5
          gi_wp2_with (gi_at_call 59; refine hold ?_)
          refine Hold.mk ⟨trivial, ?_⟩
          refine (callsIn_wide.2 (HT.out W5)).mono ?_
          rintro e W6 ⟨rfl, rfl⟩
          have hret : ∀ (tm : Array Value) (r : ByteArray), tm.getD 2 undef = .string r → r = res → bodyPostM Fence.wide 6 Tryd.prog Tryd.f31 (fun e w' => e = .returned (.string res) ∧ Below w.heap.size w w') .ret { tmps := tm, defers := [{ target := .collected D, args := #[] }] } W5 := fun tm r e1 e2 => by
            refine ⟨by simp, .inl ⟨_, _, rfl, run_takeDeferred HX5.out.2.2, ?_⟩⟩
            refine ⟨_, results_tmp rfl _ _ _, ?_, HX5.out.2.1.trans (belowK_b (w := w) (Nat.le_refl _) W5 D _ _ (by omega) HX5.out.2.2 rfl rfl)⟩
            rw [e1, e2]
          have HRt := Lib.hid hret
          clear hret
          cases neg with
          | true =>
            have HP2 := Lib.hid (show (⟨#[45]⟩ : ByteArray) ++ t2 = res from by rw [HP.out]; rfl)
            gi_wp2_with fail
            refine HRt.out _ _ ?_ HP2.out
            rfl
          | false =>
            have HP2 := Lib.hid (show t2 = res from by rw [HP.out]; rfl)
            gi_wp2_with fail
            exact HRt.out _ _ rfl HP2.out
      · have hk1 : 0 < k := by omega
        have HD := Lib.hid Hr.out.2.start
        rw [← Hk.out] at HD
        have Hy0 := Lib.hid (show 0 < ofW y from by
          have h1 := trim_nil y
          rw [Hr.out.2.2.2.2.1] at h1
          have : y ≠ [] := fun e => by have := Hk.out; rw [e] at this; simp at this; omega
          have : ofW y ≠ 0 := fun e => this (h1.2 e)
          omega)
        have hp9 := pieces_few Hr.out.2.2.2.2.2.2.1 Hy0.out HNlt.out
        rw [← Hr.out.1] at hp9
        have hk9 : k ≤ 1000000 := by omega
        gi_wp2_with fail
        rename World => wo
        gi_loopg [5, 6] k (fun gg v5 v6 wr => ∃ (kk r : Nat), kk ≤ k ∧ v5 = .int .u32 r ∧ v6 = .int .i64 ((kk : Int) - 1) ∧ r < 1000000000 ∧ gg = kk ∧ Hid (DivR w2 wr g c (.slice a4 p c4) y ps kk r))
        case atStart => exact ⟨k, 0, Nat.le_refl _, rfl, by go_num, by decide, rfl, HD⟩
        case round =>
          obtain ⟨kk, r, hkk, rfl, rfl, hr9, hgg2, Hr2⟩ := hrel
          cases kk with
          | zero =>
            have hr8 : r < 1000000000 := hr9
            have e : (((0 : Nat) : Int) - 1) = -1 := by decide
            rw [e]
            clear e
            have Hl := Lib.hid (Hr.out.1)
            have HRow := Lib.hid (show RowO wr w2.heap.size (.slice a4 p c4) ps from by
              obtain ⟨l, h1, h2, h3, h4, h5, h6, h7, h8⟩ := Hr2.out
              exact h6)
            have hsz : w2.heap.size ≤ wr.heap.size := by
              obtain ⟨l, h1, h2, h3, h4, h5, h6, h7, h8⟩ := Hr2.out
              exact h8
            have HS := Lib.hid (show ∀ (g4 c4 : Nat) (w' : World), RowW w' g4 c4 (ps ++ [r]) → w2.heap.size ≤ g4 → Below w2.heap.size wr w' → _ from fun g4 c4 w' q1 q2 q3 => Hr2.out.done hr9 Hr.out.2.2.2.2.2.1 Hr.out.2.2.2.2.2.2.1 hR2 q1 q2 q3)
            gi_wp2_with first
              | (refine wpListIn_app1 wr rfl _ _ rfl w2.heap.size (.slice a4 p c4) ps _ r rfl rfl HRow.out rfl (by rw [← Hl.out]; omega) hsz ?_; intro g' cap' w' q1 q2 q3; rw [← Hl.out]; have HQ := Lib.hid (HS.out g' cap' w' q1 q2 q3); clear q1 q2 q3)
              | (gi_at_call 54; refine hold ?_)
            refine Hold.mk ⟨trivial, ?_⟩
            obtain ⟨l, l1, l2, l3, l4⟩ := HQ.out
            rw [← Hk.out] at l1
            refine (callsIn_wide.2 (trim_any _ _ c l w' l1 (by omega) hkc)).mono ?_
            rintro e w9 ⟨rfl, rfl⟩
            obtain ⟨k', Hk'⟩ : ∃ k', Hid (k' = (trimZ l).length ∧ k' ≤ k) := ⟨_, Lib.hid ⟨rfl, by have := trim_le l; have := l1.1; omega⟩⟩
            rw [← Hk'.out.1]
            have HX := Lib.hid (And.intro l3 l4)
            have hk'9 := Hk'.out.2
            clear l1 l2 l3 l4
            gi_wp2_with fail
            gi_roundg (ofW (trimZ l))
            case measure => rw [hgg]; exact HX.out.1 Hy0.out
            case rel => exact ⟨trimZ l, ps ++ [r], k', p + 1, cap', some ⟨g', 0, none⟩, Hk'.out.1, rfl, rfl, rfl, by omega, by omega, by omega, Lib.hid ⟨by rw [Hl.out]; simp, by have := HX.out.2; rw [← Hl.out] at this; exact this⟩⟩
          | succ kk =>
            have e : (((kk + 1 : Nat) : Int) - 1) = (kk : Int) := by omega
            rw [e]
            clear e
            obtain ⟨x, Hx⟩ : ∃ x, Hid (y.getD kk 0 = x) := ⟨_, Lib.hid rfl⟩
            have hky : kk < y.length := by have := Hk.out; omega
            obtain ⟨hcell, hfz⟩ := Hr2.out.cell hky
            rw [Hx.out] at hcell
            have hx9 : x < 4294967296 := by rw [← Hx.out]; exact Hr.out.2.2.2.1.get kk
            have HK := Lib.hid (div32_any r x wr hr9 hx9)
            have Hky := Lib.hid hky
            clear hky
            gi_wp2_with (gi_at_call 55; refine hold ?_)
            refine Hold.mk ⟨trivial, ?_⟩
            refine (callsIn_wide.2 HK.out).mono ?_
            rintro e w5 ⟨rfl, hb5⟩
            clear hcell hfz
            have HD5 := Lib.hid (Hr2.out.below hb5 (by obtain ⟨l, h1, _⟩ := Hr2.out; have := h1.lt; omega))
            obtain ⟨hcell, hfz⟩ := HD5.out.cell Hky.out
            have HD6 := Lib.hid (HD5.out.step Hky.out hr9 Hx.out hx9 hR2)
            obtain ⟨q, Hq⟩ : ∃ q, Hid ((r * 4294967296 + x) / 1000000000 = q) := ⟨_, Lib.hid rfl⟩
            obtain ⟨r', Hr'⟩ : ∃ q, Hid ((r * 4294967296 + x) % 1000000000 = q) := ⟨_, Lib.hid rfl⟩
            rw [Hq.out, Hr'.out] at HD6 ⊢
            rw [Hx.out] at hcell
            have hr9' : r' < 1000000000 := by have := Hr'.out; omega
            clear hb5
            gi_wp2_with fail
            gi_roundg kk
            case measure => omega
            case rel => exact ⟨kk, r', by omega, rfl, by go_num, hr9', rfl, HD6⟩
end Go.Proofs.YtahgbbnpbhfaeaaDoor
