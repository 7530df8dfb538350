/- exact.Small. No condition. -/
import Derived.Test.YtcnakbhogmnddaaDoorExBack
namespace Go.Proofs.YtcnakbhogmnddaaDoor
open Go.RowKit Go.Shelf
attribute [local go_sem] Oper.semAt_some

def foldU : List Nat → Nat
  | [] => 0
  | [x] => x
  | x :: y :: _ => x * 4294967296 + y
theorem foldU_two (z : List Nat) (hl : z.length ≤ 2) : foldU z.reverse = ofW z := by
  match z, hl with
  | [], _ => rfl
  | [x], _ => simp [foldU, ofW]
  | [x, y], _ => simp [foldU, ofW]; omega
  | _ :: _ :: _ :: _, hl => simp at hl
theorem foldU_step (l : List Nat) (x : Nat) (hl : l.length < 2) (h : Words l) (hx : x < 4294967296) : foldU l < 4294967296 ∧ foldU (l ++ [x]) = foldU l * 4294967296 + x := by
  match l, hl, h with
  | [], _, _ => simp [foldU]
  | [y], _, h =>
    have hy := h y (by simp)
    simp [foldU, hy]
  | _ :: _ :: _, hl, _ => simp at hl; omega
theorem bits_or_u64 (y x : Nat) (hy : y < 4294967296) (hx : x < 4294967296) : bits .or .u64 ((y * 4294967296 : Nat) : Int) (x : Int) = ((y * 4294967296 + x : Nat) : Int) := by
  have h := (bits_nat .u64 64 (by decide) (fun n h0 h1 => wrap_u64_id n h0 (by omega)) (y * 4294967296) x (by omega) (by omega)).2
  rw [h]
  have := Nat.two_pow_add_eq_or_of_lt (i := 32) (b := x) (by omega) y
  rw [show y * 4294967296 = 2 ^ 32 * y by rw [Nat.mul_comm], ← this]

def fits64 (i : Int) : Bool := decide (-9223372036854775808 ≤ i ∧ i ≤ 9223372036854775807)

set_option maxRecDepth 100000 in
set_option maxHeartbeats 2000000 in
theorem small_any (v : Value) (neg : Bool) (z : List Nat) (w : World) (h : IntV w v neg z) :
    Calls Tryd.prog 42 #[v] w fun e w' => e = .returned (.tuple #[.int .i64 (if fits64 (valI neg z) then valI neg z else 0), .bool (fits64 (valI neg z))]) ∧ Below w.heap.size w w' := by
  obtain ⟨a, n, cap, rfl, hw, hc, hn⟩ := h
  obtain ⟨w1, Hw1⟩ : ∃ w1, Hid (w1 = w.alloc (.cells #[.bool neg, .slice a n cap] 25)) := ⟨_, Lib.hid rfl⟩
  obtain ⟨bn, Hbn⟩ : ∃ b, Hid (b = w.heap.size) := ⟨_, Lib.hid rfl⟩
  have hB : Below w.heap.size w w1 := by
    rw [Hw1.out]
    exact (Below.refl _ w).alloc (Nat.le_refl _) _
  have HT := Lib.hid (trim_any a n cap z w1 (hw.below hB) (by omega) hc)
  have HB := Lib.hid hB
  have HW := Lib.hid (hw.below hB).trim
  have HWd := Lib.hid hw.2.1
  obtain ⟨m, Hm⟩ : ∃ m, Hid ((trimZ z).length = m) := ⟨_, Lib.hid rfl⟩
  have hm9 : m ≤ 1000000 := by have := trim_le z; have := hw.1; have := Hm.out; omega
  rw [Hm.out] at HT HW
  have q1 : w1.heap[bn]? = some (.cells #[.bool neg, .slice a n cap] 25 (0, 0)) := by rw [Hw1.out, Hbn.out]; exact heap_alloc_new w _
  obtain ⟨⟨s0, s1⟩, _, _⟩ := box_cells q1
  have HQ := Lib.hid q1
  clear hw hB q1
  obtain ⟨rb, Hrb⟩ : ∃ b, Hid (fits64 (valI neg z) = b) := ⟨_, Lib.hid rfl⟩
  rw [Hrb.out]
  obtain ⟨rv, Hrv⟩ : ∃ r : Int, Hid ((if rb then valI neg z else 0) = r) := ⟨_, Lib.hid rfl⟩
  rw [Hrv.out]
  refine (callsIn_wide (n := 6)).1 ?_
  refine callsIn_of_wp_marks Tryd.func42 rfl trivial ?_ rfl
  simp only [Tryd.ntmps42, List.size_toArray, List.length_cons, List.length_nil, Nat.reduceAdd, Nat.reduceSub, Array.replicate_succ, Array.replicate_zero, List.push_toArray, List.append_toArray, List.nil_append, List.cons_append]
  gi_wp2_with (gi_at_call 76; refine hold ?_)
  rw [← Hw1.out]
  try rw [← Hbn.out]
  refine Hold.mk ⟨trivial, ?_⟩
  refine (callsIn_wide.2 HT.out).mono ?_
  rintro e w2 ⟨rfl, rfl⟩
  by_cases hm2 : 2 < m
  · gi_wp2
    refine ⟨_, results_tmp2 rfl _ _ _, ?_, HB.out⟩
    have hbig : fits64 (valI neg z) = false := by
      refine decide_eq_false fun h => ?_
      have h1 := trim_top (l := trimZ z) trim_idem (fun e => by have := Hm.out; rw [e] at this; simp at this; omega)
      rw [ofW_trim, Hm.out] at h1
      have h2 : (4294967296 : Nat) ^ 2 ≤ 4294967296 ^ (m - 1) := Nat.pow_le_pow_right (by decide) (by omega)
      have h3 : (4294967296 : Nat) ^ 2 = 18446744073709551616 := by decide
      have h4 := valI_abs neg z
      omega
    have e1 : rb = false := by rw [← Hrb.out, hbig]
    subst e1
    have e2 : rv = 0 := by rw [← Hrv.out]; rfl
    rw [e2]
    rfl
  · have hm3 : m ≤ 2 := by omega
    clear hm2
    obtain ⟨bu, Hbu⟩ : ∃ b, Hid (b = w1.heap.size) := ⟨_, Lib.hid rfl⟩
    obtain ⟨w4, Hw4⟩ : ∃ w4, Hid (w4 = (w1.alloc (.cells #[.int .u64 0] 89)).alloc (.cells #[.slice a m cap] 23)) := ⟨_, Lib.hid rfl⟩
    have hB4 : Below w1.heap.size w1 w4 := by
      rw [Hw4.out]
      exact ((Below.refl _ w1).alloc (Nat.le_refl _) _).alloc (by simp) _
    have hsz : w4.heap.size = bu + 2 := by rw [Hw4.out, Hbu.out]; simp
    have hb3 : w4.heap[bu]? = some (.cells #[.int .u64 0] 89 (0, 0)) := by
      rw [Hw4.out, Hbu.out]
      exact (Below.heap_alloc _ _ _ (by simp)).trans (heap_alloc_new w1 _)
    have hb4 : w4.heap[bu + 1]? = some (.cells #[.slice a m cap] 23 (0, 0)) := by
      have h1 := heap_alloc_new (w1.alloc (.cells #[.int .u64 0] 89)) (.cells #[.slice a m cap] 23)
      rw [World.size_alloc, ← Hbu.out] at h1
      rw [Hw4.out]
      exact h1
    gi_wp2_with (gi_at_call 89; refine hold ?_)
    refine Hold.mk ⟨trivial, ?_⟩
    refine (callsIn_wide.2 (back_any a m cap (w1.alloc (.cells #[.int .u64 0] 89)))).mono ?_
    rintro e w' ⟨rfl, rfl⟩
    rw [← Hw4.out, World.size_alloc, ← Hbu.out]
    have hG : BackG (bu + 1) a m cap (trimZ z) w4 := ⟨by simp only [World.cell?, hb4]; rfl, HW.out.below hB4⟩
    have hst := back_stops 5 (by decide) (bu + 1) a m cap (trimZ z) (by omega) w4 (by omega) hG
    have hc3 : w4.cell? ⟨bu, 0, none⟩ = some (.int .u64 0) ∧ w4.frozen? ⟨bu, 0, none⟩ = false := by constructor <;> simp [World.cell?, World.frozen?, hb3]
    have hB0 : Below w.heap.size w w4 := HB.out.trans (Below.mono hB4 HB.out.size)
    have hbu : w.heap.size ≤ bu := by rw [Hbu.out]; exact HB.out.size
    gi_wp2
    refine wpIn_rangeFunc_ownG rfl (by decide) (gf := 107) (lb := #[.pointer (some ⟨bu + 1, 0, none⟩)]) rfl trivial (enters_of Tryd.func107 (by kernel_rfl) rfl)
      hst (fun h k => fun g => k (h g)) (fun W l o o' _ h hc _ => BackK.put W l o o' h hc) (Below.refl _ _) (fun _ => rfl)
      (fun pre W => (W.cell? ⟨bu, 0, none⟩ = some (.int .u64 (foldU (pre.map (fun x => x.2.1)) : Nat)) ∧ W.frozen? ⟨bu, 0, none⟩ = false ∧ W.cell? ⟨bn, 0, none⟩ = some (.bool neg)) ∧ Below w.heap.size w W)
      (fun _ _ _ => False)
      (OwnFrom.and (Own.from (fun s A B row hs hg hr => ⟨cell_kept hs.1 hg hr, (frozen_kept hs.1 hg hr).trans hs.2.1, cell_kept hs.2.2 hg hr⟩) _) (ownFrom_below (Nat.le_refl _) (by omega)))
      (fun _ _ _ _ _ hs _ _ => hs)
      ⟨⟨hc3.1, hc3.2, cellB hB4 rfl s0⟩, hB0⟩
      (fun x => { tmps := #[.agg #[.bool neg, .slice a n cap], .pointer (some ⟨bn, 0, none⟩), .int .i64 0, .bool false, .slice a m cap, .pointer (some ⟨bu, 0, none⟩), undef, .int .u32 ((x.2.1 : Nat) : Int), .pointer (some ⟨bn, 1, none⟩), .slice a n cap, .slice a m cap, .slice a m cap, .int .i64 m, .bool (decide (2 < (m : Int))), .slice a m cap, .func (.func 107) #[] #[.pointer (some ⟨bu + 1, 0, none⟩)], .int .i64 (x.1 : Int), .int .u32 ((x.2.1 : Nat) : Int), undef, undef, undef, undef, undef, undef, undef, undef, undef, undef, undef, undef, undef, undef, undef, undef, undef, undef, undef, undef, undef, undef, undef, undef, undef], defers := [] }) ?assign ?body ?done ?stop
    case assign =>
      intro l x W K hK
      unfold encW
      rw [List.zip_toArray, List.foldl_toArray]
      simp only [List.zip_cons_cons, List.zip_nil_left, List.foldl_cons, List.foldl_nil, List.setIfInBounds_toArray, List.set_cons_succ, List.set_cons_zero]
      gi_wp2
      exact hK
    case body =>
      rintro l pre x W ⟨⟨h1, h2, hbn⟩, h3⟩ hlt
      obtain ⟨y, Hy⟩ : ∃ y, Hid (foldU (pre.map (fun x => x.2.1)) = y) := ⟨_, Lib.hid rfl⟩
      obtain ⟨x1, ⟨u, hu⟩⟩ := x
      have hst := foldU_step (pre.map (fun x => x.2.1)) u (by simp; omega) (fun v hv => by
        obtain ⟨q, _, e⟩ := List.mem_map.1 hv
        have := q.2.2
        omega) hu
      rw [Hy.out] at hst h1
      have HS := Lib.hid hst.2
      have hy9 := hst.1
      clear hst
      have e1 : IntKind.u64.wrap ((y : Int) * 4294967296) = ((y * 4294967296 : Nat) : Int) := by
        rw [wrap_u64_id _ (by omega) (by omega)]
        omega
      have e2 : IntKind.u64.wrap (u : Int) = (u : Int) := wrap_u64_id _ (by omega) (by omega)
      have e3 := bits_or_u64 y u hy9 hu
      rw [Int.natCast_mul] at e3
      gi_wp2
      have h9 : ∀ V : Value, BackK (bu + 1) a m cap (trimZ z) W (W.setCell ⟨bu, 0, none⟩ V) := fun V hg => by
        refine ⟨?_, hg.2.set (fun q i _ _ e => ?_) V⟩
        · rw [World.cell?_setCell_other _ _ _ _ (by simp)]
          exact hg.1
        · obtain ⟨q', e', hc'⟩ := hg.2.2.2 i (by assumption)
          simp_all
      refine ⟨(KeepsOthers.setCell _ _ _).from _, ?_, ⟨?_, ?_, ?_⟩, h3.setCell (by simp only; omega) _⟩
      · exact h9 _
      · rw [World.cell?_setCell_same' _ _ _ (by rw [h1]; rfl)]
        simp only [List.map_append, List.map_cons, List.map_nil]
        rw [HS.out]
        exact congrArg (fun q => some (Value.int .u64 q)) e3
      · rw [World.frozen?_setCell]; exact h2
      · rw [World.cell?_setCell_other _ _ _ _ (fun e => by have := Hbn.out; have := Hbu.out; have := HB.out.size; have hsw : w1.heap.size = w.heap.size + 1 := (by rw [Hw1.out]; simp); cases e; omega)]; exact hbn
    case done =>
      rintro D ys W hD rfl ⟨⟨h1, _, hbn⟩, h3⟩ hK
      have hfold : foldU ((backN (trimZ z) m 0).map (fun x => x.2.1)) = ofW z := by
        have e := backN_words (trimZ z) HWd.out.trim
        rw [Hm.out] at e
        rw [e, foldU_two _ (by rw [Hm.out]; exact hm3), ofW_trim]
      rw [hfold] at h1
      obtain ⟨U, HU⟩ : ∃ u, Hid (ofW z = u) := ⟨_, Lib.hid rfl⟩
      rw [HU.out] at h1
      have hU9 : U < 18446744073709551616 := by
        have h8 := ofW_lt HWd.out.trim
        rw [ofW_trim, Hm.out, HU.out] at h8
        have h2 : (4294967296 : Nat) ^ m ≤ 4294967296 ^ 2 := Nat.pow_le_pow_right (by decide) hm3
        have h3 : (4294967296 : Nat) ^ 2 = 18446744073709551616 := by decide
        omega
      have HF := Lib.hid (And.intro hK h3)
      have Hend := Lib.hid (show ∀ (r : Int) (b : Bool), r = rv → b = rb → Ending.returned (.tuple #[.int .i64 r, .bool b]) = .returned (.tuple #[.int .i64 rv, .bool rb]) from fun r b h1 h2 => by rw [h1, h2])
      have HFit := Lib.hid (show (neg = true → (rb = decide (U ≤ 9223372036854775808) ∧ rv = if U ≤ 9223372036854775808 then -(U : Int) else 0)) ∧ (neg = false → (rb = decide (U < 9223372036854775808) ∧ rv = if U < 9223372036854775808 then (U : Int) else 0)) from by
        rw [← Hrv.out, ← Hrb.out]
        unfold fits64 valI
        rw [HU.out]
        constructor
        · rintro rfl
          by_cases h : U ≤ 9223372036854775808
          · simp [h]; omega
          · simp [h]; omega
        · rintro rfl
          by_cases h : U < 9223372036854775808
          · simp [h]; omega
          · simp [h]; omega)
      have hret : ∀ (tm : Array Value) (r : Int) (b : Bool), tm.getD 2 undef = .int .i64 r → tm.getD 3 undef = .bool b → r = rv → b = rb → bodyPostM Fence.wide 6 Tryd.prog Tryd.f42 (fun e w' => e = .returned (.tuple #[.int .i64 rv, .bool rb]) ∧ Below w.heap.size w w') .ret { tmps := tm, defers := [{ target := .collected D, args := #[] }] } W := fun tm r b h1 h2 hr hb => by
        refine ⟨by simp, .inl ⟨_, _, rfl, run_takeDeferred HF.out.1, ?_⟩⟩
        refine ⟨_, results_tmp2 rfl _ _ _, ?_, HF.out.2.trans (belowK_b (w := w) (Nat.le_refl _) W D _ _ (by omega) HF.out.1 rfl rfl)⟩
        rw [h1, h2, hr, hb]
      have HR := Lib.hid hret
      have HFit2 := Lib.hid HFit.out
      clear hret hK
      clear HFit
      cases neg with
      | true =>
        have HX := Lib.hid (HFit2.out.1 rfl)
        clear HFit2
        by_cases hle : (U : Int) ≤ 9223372036854775808
        · have hv : wrap64 (IntKind.u64.wrap (-(U : Int))) = rv ∧ rb = true := by
            rw [HX.out.2, HX.out.1, if_pos (by omega), decide_eq_true (by omega)]
            refine ⟨?_, rfl⟩
            simp [wrap64, IntKind.wrap, IntKind.bits, IntKind.signed]
            omega
          have HY := Lib.hid hv
          clear hv
          gi_wp2
          exact HR.out _ _ _ rfl rfl HY.out.1 HY.out.2.symm
        · have hv : (0 : Int) = rv ∧ rb = false := by
            rw [HX.out.2, HX.out.1, if_neg (by omega), decide_eq_false (by omega)]
            exact ⟨rfl, rfl⟩
          have HY := Lib.hid hv
          clear hv
          gi_wp2
          exact HR.out _ _ _ rfl rfl HY.out.1 HY.out.2.symm
      | false =>
        have HX := Lib.hid (HFit2.out.2 rfl)
        clear HFit2
        by_cases hle : (U : Int) < 9223372036854775808
        · have hv : (U : Int) = rv ∧ rb = true := by
            rw [HX.out.2, HX.out.1, if_pos (by omega), decide_eq_true (by omega)]
            exact ⟨rfl, rfl⟩
          have HY := Lib.hid hv
          clear hv
          gi_wp2
          exact HR.out _ _ _ rfl rfl (by rw [← HY.out.1]; first | done | (simp [wrap64]; omega)) HY.out.2.symm
        · have hv : (0 : Int) = rv ∧ rb = false := by
            rw [HX.out.2, HX.out.1, if_neg (by omega), decide_eq_false (by omega)]
            exact ⟨rfl, rfl⟩
          have HY := Lib.hid hv
          clear hv
          gi_wp2
          exact HR.out _ _ _ rfl rfl HY.out.1 HY.out.2.symm
    case stop =>
      rintro D c pre W _ _ h _
      exact h.elim
end Go.Proofs.YtcnakbhogmnddaaDoor
