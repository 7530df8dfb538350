/- recastref2.Text. No condition. -/
import Derived.Test.YtahgbbnpbhfaeaaDoorJ7
import Derived.Test.YtahgbbnpbhfaeaaDoorJ5
namespace Go.Proofs.YtahgbbnpbhfaeaaDoor
open Go.RowKit

set_option maxRecDepth 100000 in
set_option maxHeartbeats 4000000 in
theorem rtext_any (v : Value) (neg : Bool) (z : List Nat) (w : World) (h : IntV w v neg z) :
    Calls Tryd.prog 33 #[v] w fun e w' => e = .returned (.string (strL (decI (valI neg z)))) ∧ Below w.heap.size w w' := by
  obtain ⟨a, n, cap, rfl, hw, hc, hn⟩ := h
  obtain ⟨w1, Hw1⟩ : ∃ w1, Hid (w1 = w.alloc (.cells #[.bool neg, .slice a n cap] 24)) := ⟨_, Lib.hid rfl⟩
  obtain ⟨bn, Hbn⟩ : ∃ b, Hid (b = w.heap.size) := ⟨_, Lib.hid rfl⟩
  have hB : Below w.heap.size w w1 := by
    rw [Hw1.out]
    exact (Below.refl _ w).alloc (Nat.le_refl _) _
  have HT := Lib.hid (rtrim_any a n cap z w1 (hw.below hB) (by omega) hc)
  have HB := Lib.hid hB
  have HWd := Lib.hid hw.2.1
  obtain ⟨m, Hm⟩ : ∃ m, Hid ((trimZ z).length = m ∧ m ≤ 1000000) := ⟨_, Lib.hid ⟨rfl, by have := trim_le z; have := hw.1; omega⟩⟩
  have q1 : w1.heap[bn]? = some (.cells #[.bool neg, .slice a n cap] 24 (0, 0)) := by rw [Hw1.out, Hbn.out]; exact heap_alloc_new w _
  obtain ⟨⟨s0, s1⟩, _, _⟩ := box_cells q1
  have HQ := Lib.hid q1
  obtain ⟨res, Hres⟩ : ∃ r, Hid (strL (decI (valI neg z)) = r) := ⟨_, Lib.hid rfl⟩
  rw [Hres.out]
  clear hw hB q1
  go_enter Tryd.func33, Tryd.ntmps33
  go_wp2_with (go_at_call 63; refine hold ?_)
  rw [← Hw1.out]
  try rw [← Hbn.out]
  refine Hold.mk ?_
  refine HT.out.mono ?_
  rintro e w2 ⟨v3, rfl, hr2, hb2⟩
  obtain ⟨a3, c3, rfl, hc3, _⟩ := hr2.shape
  rw [Hm.out.1] at hc3 hr2 ⊢
  have HX0 := Lib.hid (HB.out.trans (Below.mono hb2 HB.out.size))
  have hm9 : m ≤ 1000000 := Hm.out.2
  by_cases hm0 : m = 0
  · have HZ := Lib.hid (show res = ⟨#[48]⟩ from by
      rw [← Hres.out]
      refine decI_zero ?_
      rw [← trim_nil, ← List.length_eq_zero_iff]
      exact Hm.out.1.trans hm0)
    subst hm0
    clear hr2 hb2
    go_wp2_with fail
    go_ret
    refine ⟨?_, HX0.out⟩
    rw [HZ.out]
    rfl
  · have hmq : ((m : Int) == 0) = false := by simp; omega
    obtain ⟨N, HN⟩ : ∃ N, Hid (ofW z = N) := ⟨_, Lib.hid rfl⟩
    have hz0 : 0 < ofW z := by
      have := trim_nil z
      have h1 : trimZ z ≠ [] := fun e => by have := Hm.out.1; rw [e] at this; exact hm0 this.symm
      have : ofW z ≠ 0 := fun e => h1 (this.2 e)
      omega
    have HP := Lib.hid (decI_nz (neg := neg) hz0)
    rw [HN.out] at HP hz0
    have Hz0 := Lib.hid hz0
    clear hz0
    have HNlt := Lib.hid (show N < 4294967296 ^ m from by
      have := ofW_lt (HWd.out).trim
      rwa [ofW_trim, HN.out, Hm.out.1] at this)
    have hst : TxtD w1 w2 (.slice a3 m c3) (.slice none 0 0) (trimZ z) [] N :=
      ⟨_, Nat.le_refl _, hr2, .inl ⟨rfl, rfl⟩, (fun k e => by cases e), (HWd.out).trim, trim_idem, ⟨by rw [ofW_trim, HN.out]; simp, by rw [ofW_trim, HN.out]; simp, (fun x hx => by cases hx)⟩, hb2⟩
    have HS := Lib.hid hst
    clear hst hr2 hb2 s0 s1
    go_wp2_with fail
    go_loopg [3, 4] N (fun gg v3 v4 wr => ∃ (y b : List Nat) (k p c3 c4 : Nat) (a3 a4 : Option Addr), v3 = .slice a3 k c3 ∧ v4 = .slice a4 p c4 ∧ gg = ofW y ∧ k ≤ m ∧ p ≤ 11000001 ∧ Hid (k = y.length ∧ p = b.length ∧ TxtD w1 wr (.slice a3 k c3) (.slice a4 p c4) y b N))
    case atStart => exact ⟨trimZ z, [], m, 0, c3, 0, a3, none, rfl, rfl, by rw [ofW_trim, HN.out], Nat.le_refl _, by omega, Lib.hid ⟨Hm.out.1.symm, rfl, HS.out⟩⟩
    case round =>
      obtain ⟨y, b, k, p, c3, c4, a3, a4, rfl, rfl, hgg, hkm, hp9, Hr⟩ := hrel
      by_cases hk0 : k = 0
      · subst hk0
        have HF := Lib.hid (show b.reverse = decN N ∧ b ≠ [] ∧ p = b.length ∧ BytO wr w1.heap.size (.slice a4 p c4) b ∧ (∀ x ∈ b, 48 ≤ x ∧ x ≤ 57) ∧ Below w.heap.size w wr ∧ wr.heap[bn]? = some (.cells #[.bool neg, .slice a n cap] 24 (0, 0)) from by
          obtain ⟨e0, e1, s, h1, h2, h3, h4, h5, h6, h7, h8⟩ := Hr.out
          have hy : y = [] := List.length_eq_zero_iff.1 e0.symm
          rw [hy] at h7
          have e2 : decD N = b.reverse := h7.1
          unfold decD at e2
          rw [if_neg (by have := Hz0.out; omega)] at e2
          refine ⟨e2.symm, fun e => ?_, e1, h3, h7.2.2, HB.out.trans (Below.mono h8 HB.out.size), (h8.block bn (Array.getElem?_eq_some_iff.1 HQ.out).1).trans HQ.out⟩
          rw [e] at e2
          exact decN_ne N e2)
        obtain ⟨⟨s0, s1⟩, _, _⟩ := box_cells HF.out.2.2.2.2.2.2
        have hsz : w1.heap.size ≤ wr.heap.size := by
          obtain ⟨e0, e1, s, h1, h2, h3, h4, h5, h6, h7, h8⟩ := Hr.out
          exact h8.size
        clear hgg hkm
        cases neg with
        | false =>
          obtain ⟨g', cap', e9, HG⟩ : ∃ g' cap', Value.slice a4 p c4 = .slice (some ⟨g', 0, none⟩) p cap' ∧ Hid (BytW wr g' cap' b ∧ Below w.heap.size w wr ∧ p = b.length) := by
            obtain ⟨h1, h2, h3, h4, h5, h6, h7⟩ := HF.out
            rcases h4 with ⟨_, h4⟩ | ⟨g', cap', e, _, h9⟩
            · exact absurd h4 h2
            · exact ⟨g', cap', by rw [h3]; exact h3 ▸ e, Lib.hid ⟨h9, h6, h3⟩⟩
          cases e9
          obtain ⟨b2, Hb2⟩ : ∃ b2, Hid (b = b2) := ⟨_, Lib.hid rfl⟩
          obtain ⟨p2, Hp2⟩ : ∃ p2, Hid (p = p2) := ⟨_, Lib.hid rfl⟩
          rw [Hb2.out, Hp2.out] at HG
          obtain ⟨w', Hw'⟩ : ∃ w', Hid (wr = w') := ⟨_, Lib.hid rfl⟩
          rw [Hw'.out] at HG s0 ⊢
          rw [Hp2.out]
          have HBy := Lib.hid (show ∀ x ∈ b2, x < 256 from by rw [← Hb2.out]; intro x hx; have := HF.out.2.2.2.2.1 x hx; omega)
          have Hres2 := Lib.hid (show strL (toB b2.reverse) = res from by
            rw [← Hres.out, HP.out, ← Hb2.out]
            simp [HF.out.1])
          have hp29 : p2 ≤ 11000002 := by have := Hp2.out; omega
          have hp21 : 0 < p2 := by have h1 := HF.out.2.1; have h2 := List.length_pos_iff.2 h1; have h3 := HF.out.2.2.1; have := Hp2.out; omega
          go_wp2_with fail
          go_loopg [7, 8] p2 (fun gg v7 v8 wr => ∃ (j q c7 : Nat) (a7 : Option Addr), j ≤ p2 ∧ v7 = .slice a7 q c7 ∧ v8 = .int .i64 ((j : Int) - 1) ∧ gg = j ∧ q ≤ 11000002 ∧ Hid (q = (b2.drop j).length ∧ RevD w' wr (.slice a7 q c7) b2 j))
          case atStart => exact ⟨p2, 0, 0, none, Nat.le_refl _, rfl, by go_num, rfl, by omega, Lib.hid ⟨by have := HG.out.2.2; rw [this]; simp, by have := RevD.start w' b2; rwa [← HG.out.2.2] at this⟩⟩
          case round =>
            obtain ⟨j, q, c7, a7, hj, rfl, rfl, hgg3, hq9, Hr3⟩ := hrel
            cases j with
            | zero =>
              have e : (((0 : Nat) : Int) - 1) = -1 := by decide
              rw [e]
              clear e
              obtain ⟨g7, e7, H7⟩ : ∃ g7, a7 = some ⟨g7, 0, none⟩ ∧ Hid (BytW wr g7 c7 b2.reverse ∧ q = b2.reverse.length) := by
                obtain ⟨h0, h1, h2⟩ := Hr3.out
                rw [List.drop_zero] at h0
                rcases h1 with ⟨_, h1⟩ | ⟨g7, c8, e, _, h9⟩
                · rw [List.drop_zero, List.reverse_eq_nil_iff] at h1
                  have := HG.out.2.2
                  rw [h1] at this
                  simp at this
                  omega
                · rw [List.drop_zero] at h9 e
                  cases e
                  exact ⟨g7, rfl, Lib.hid ⟨h9, by simp⟩⟩
              subst e7
              have HBl := Lib.hid (show Below w.heap.size w wr from HG.out.2.1.trans (Below.mono Hr3.out.2.2 HG.out.2.1.size))
              go_wp2_with first
                | (refine wpList_str wr rfl _ rfl g7 c7 q b2.reverse rfl H7.out.2 H7.out.1 (fun y hy => HBy.out y (List.mem_reverse.1 hy)) ?_; rw [Hres2.out])
                | fail
              go_ret
              exact ⟨rfl, HBl.out⟩
            | succ j =>
              have e : (((j + 1 : Nat) : Int) - 1) = (j : Int) := by omega
              rw [e]
              clear e
              have hjb : j < b2.length := by have := HG.out.2.2; omega
              have hb3 := Hr3.out.2.2
              obtain ⟨u, Hu⟩ : ∃ u, Hid (b2.getD j 0 = u) := ⟨_, Lib.hid rfl⟩
              have hcell := (HG.out.1.below hb3 HG.out.1.lt).cell j hjb
              rw [Hu.out] at hcell
              have Hjb := Lib.hid hjb
              have hsz3 := hb3.size
              have Hq := Lib.hid (show q = ((b2.drop (j + 1)).reverse).length from by rw [List.length_reverse]; exact Hr3.out.1)
              clear hb3 hjb
              go_wp2_with first
                | (refine wpList_appB wr rfl _ _ rfl w'.heap.size (.slice a7 q c7) (b2.drop (j + 1)).reverse _ u rfl rfl Hr3.out.2.1 rfl (by rw [← Hq.out]; omega) hsz3 ?_; intro g8 c8 w8 q1 q2 q3 q4 q5; rw [← Hq.out]; have HQ8 := Lib.hid (Hr3.out.2.step Hjb.out Hu.out q1 q2 q3); clear q1 q2 q3 q4 q5)
                | fail
              have hqq := Lib.hid (show q + 1 = b2.length - j from by have := Hr3.out.1; have h9 := Hjb.out; rw [List.length_drop] at this; omega)
              rw [← hqq.out] at HQ8
              have hqb := Lib.hid (show q + 1 ≤ 11000002 from by have := hqq.out; have := HG.out.2.2; omega)
              go_roundg j
              case measure => omega
              case rel => exact ⟨j, q + 1, c8, some ⟨g8, 0, none⟩, by omega, rfl, by go_num, rfl, hqb.out, Lib.hid ⟨by rw [hqq.out, List.length_drop], HQ8.out⟩⟩
        | true =>
          obtain ⟨p2, Hp2⟩ : ∃ p2, Hid (p + 1 = p2) := ⟨_, Lib.hid rfl⟩
          have hp29 : p2 ≤ 11000002 := by have := Hp2.out; omega
          have hp21 : 0 < p2 := by have h1 := HF.out.2.1; have h2 := List.length_pos_iff.2 h1; have h3 := HF.out.2.2.1; have := Hp2.out; omega
          go_wp2_with first
            | (refine wpList_appB wr rfl _ _ rfl w1.heap.size (.slice a4 p c4) b _ 45 rfl rfl HF.out.2.2.2.1 (by omega) (by rw [← HF.out.2.2.1]; omega) hsz ?_; intro g' cap' w' q1 q2 q3 q4 q5; rw [← HF.out.2.2.1, Hp2.out]; have HQ2 := Lib.hid (And.intro q1 (And.intro q2 (And.intro q3 q4))); clear q1 q2 q3 q4 q5)
            | fail
          have HG := Lib.hid (show BytW w' g' cap' (b ++ [45]) ∧ Below w.heap.size w w' ∧ p + 1 = (b ++ [45]).length from ⟨HQ2.out.1, HF.out.2.2.2.2.2.1.trans (Below.mono HQ2.out.2.2.1 HB.out.size), by rw [HF.out.2.2.1]; simp⟩)
          obtain ⟨b2, Hb2⟩ : ∃ b2, Hid (b ++ [45] = b2) := ⟨_, Lib.hid rfl⟩
          rw [Hb2.out, Hp2.out] at HG
          have HBy := Lib.hid (show ∀ x ∈ b2, x < 256 from by rw [← Hb2.out]; intro x hx; exact (List.mem_append.1 hx).elim (fun hx => by have := HF.out.2.2.2.2.1 x hx; omega) (fun hx => by simp at hx; omega))
          have Hres2 := Lib.hid (show strL (toB b2.reverse) = res from by
            rw [← Hres.out, HP.out, ← Hb2.out]
            simp [HF.out.1])
          go_wp2_with fail
          go_loopg [7, 8] p2 (fun gg v7 v8 wr => ∃ (j q c7 : Nat) (a7 : Option Addr), j ≤ p2 ∧ v7 = .slice a7 q c7 ∧ v8 = .int .i64 ((j : Int) - 1) ∧ gg = j ∧ q ≤ 11000002 ∧ Hid (q = (b2.drop j).length ∧ RevD w' wr (.slice a7 q c7) b2 j))
          case atStart => exact ⟨p2, 0, 0, none, Nat.le_refl _, rfl, by go_num, rfl, by omega, Lib.hid ⟨by have := HG.out.2.2; rw [this]; simp, by have := RevD.start w' b2; rwa [← HG.out.2.2] at this⟩⟩
          case round =>
            obtain ⟨j, q, c7, a7, hj, rfl, rfl, hgg3, hq9, Hr3⟩ := hrel
            cases j with
            | zero =>
              have e : (((0 : Nat) : Int) - 1) = -1 := by decide
              rw [e]
              clear e
              obtain ⟨g7, e7, H7⟩ : ∃ g7, a7 = some ⟨g7, 0, none⟩ ∧ Hid (BytW wr g7 c7 b2.reverse ∧ q = b2.reverse.length) := by
                obtain ⟨h0, h1, h2⟩ := Hr3.out
                rw [List.drop_zero] at h0
                rcases h1 with ⟨_, h1⟩ | ⟨g7, c8, e, _, h9⟩
                · rw [List.drop_zero, List.reverse_eq_nil_iff] at h1
                  have := HG.out.2.2
                  rw [h1] at this
                  simp at this
                  omega
                · rw [List.drop_zero] at h9 e
                  cases e
                  exact ⟨g7, rfl, Lib.hid ⟨h9, by simp⟩⟩
              subst e7
              have HBl := Lib.hid (show Below w.heap.size w wr from HG.out.2.1.trans (Below.mono Hr3.out.2.2 HG.out.2.1.size))
              go_wp2_with first
                | (refine wpList_str wr rfl _ rfl g7 c7 q b2.reverse rfl H7.out.2 H7.out.1 (fun y hy => HBy.out y (List.mem_reverse.1 hy)) ?_; rw [Hres2.out])
                | fail
              go_ret
              exact ⟨rfl, HBl.out⟩
            | succ j =>
              have e : (((j + 1 : Nat) : Int) - 1) = (j : Int) := by omega
              rw [e]
              clear e
              have hjb : j < b2.length := by have := HG.out.2.2; omega
              have hb3 := Hr3.out.2.2
              obtain ⟨u, Hu⟩ : ∃ u, Hid (b2.getD j 0 = u) := ⟨_, Lib.hid rfl⟩
              have hcell := (HG.out.1.below hb3 HG.out.1.lt).cell j hjb
              rw [Hu.out] at hcell
              have Hjb := Lib.hid hjb
              have hsz3 := hb3.size
              have Hq := Lib.hid (show q = ((b2.drop (j + 1)).reverse).length from by rw [List.length_reverse]; exact Hr3.out.1)
              clear hb3 hjb
              go_wp2_with first
                | (refine wpList_appB wr rfl _ _ rfl w'.heap.size (.slice a7 q c7) (b2.drop (j + 1)).reverse _ u rfl rfl Hr3.out.2.1 rfl (by rw [← Hq.out]; omega) hsz3 ?_; intro g8 c8 w8 q1 q2 q3 q4 q5; rw [← Hq.out]; have HQ8 := Lib.hid (Hr3.out.2.step Hjb.out Hu.out q1 q2 q3); clear q1 q2 q3 q4 q5)
                | fail
              have hqq := Lib.hid (show q + 1 = b2.length - j from by have := Hr3.out.1; have h9 := Hjb.out; rw [List.length_drop] at this; omega)
              rw [← hqq.out] at HQ8
              have hqb := Lib.hid (show q + 1 ≤ 11000002 from by have := hqq.out; have := HG.out.2.2; omega)
              go_roundg j
              case measure => omega
              case rel => exact ⟨j, q + 1, c8, some ⟨g8, 0, none⟩, by omega, rfl, by go_num, rfl, hqb.out, Lib.hid ⟨by rw [hqq.out, List.length_drop], HQ8.out⟩⟩
      · have hk1 : 0 < k := by omega
        have hy0 : y ≠ [] := fun e => by have := Hr.out.1; rw [e] at this; exact hk0 this
        obtain ⟨g, c3', e3, hkc, hg, hv, hD⟩ := Hr.out.2.2.start hy0
        rw [← Hr.out.1] at e3 hkc hD
        cases e3
        have Hy0 := Lib.hid (show 0 < ofW y from by
          obtain ⟨s, h1, h2, h3, h4, h5, h6, h7, h8⟩ := Hr.out.2.2
          have h1 := trim_nil y
          rw [h6] at h1
          have : ofW y ≠ 0 := fun e => hy0 (h1.2 e)
          omega)
        have HD := Lib.hid (show DivD w1 wr g c3 (.slice a4 p c4) y b k 0 from hD)
        have HV := Lib.hid (And.intro hg hv)
        have hNN := Lib.hid (show decD N = decD (ofW y) ++ b.reverse ∧ 10 ^ b.length * ofW y ≤ N ∧ ∀ x ∈ b, 48 ≤ x ∧ x ≤ 57 from by
          obtain ⟨s, h1, h2, h3, h4, h5, h6, h7, h8⟩ := Hr.out.2.2
          exact h7)
        have HWy := Lib.hid (show Words y from by
          obtain ⟨s, h1, h2, h3, h4, h5, h6, h7, h8⟩ := Hr.out.2.2
          exact h5)
        have hpf := digits_few hNN.out.2.1 Hy0.out HNlt.out
        rw [← Hr.out.2.1] at hpf
        have hp8 : p ≤ 11000000 := by omega
        have hk9 : k ≤ 1000000 := by omega
        have Hgg := Lib.hid hgg
        clear hgg hD hg hv hpf hy0
        go_wp2_with fail
        rename World => wo
        go_loopg [5, 6] k (fun gg v5 v6 wr => ∃ (kk r : Nat), kk ≤ k ∧ v5 = .int .u64 r ∧ v6 = .int .i64 ((kk : Int) - 1) ∧ r < 10 ∧ gg = kk ∧ Hid (DivD w1 wr g c3 (.slice a4 p c4) y b kk r))
        case atStart => exact ⟨k, 0, Nat.le_refl _, rfl, by go_num, by decide, rfl, HD⟩
        case round =>
          obtain ⟨kk, r, hkk, rfl, rfl, hr9, hgg2, Hr2⟩ := hrel
          cases kk with
          | zero =>
            have e : (((0 : Nat) : Int) - 1) = -1 := by decide
            rw [e]
            clear e
            have Hl := Lib.hid Hr.out.2.1
            have HRow := Lib.hid (show BytO wr w1.heap.size (.slice a4 p c4) b from by
              obtain ⟨l, h1, h2, h3, h4, h5, h6, h7⟩ := Hr2.out
              exact h6)
            have hsz : w1.heap.size ≤ wr.heap.size := by
              obtain ⟨l, h1, h2, h3, h4, h5, h6, h7⟩ := Hr2.out
              exact h7.size
            have Hrn := Lib.hid hr9
            go_wp2_with first
              | (refine wpList_appB wr rfl _ _ rfl w1.heap.size (.slice a4 p c4) b _ (48 + r) rfl rfl HRow.out (by omega) (by rw [← Hl.out]; omega) hsz ?_; intro g' cap' w' q1 q2 q3 q4 q5; rw [← Hl.out]; have HQ2 := Lib.hid (And.intro q1 (And.intro q2 (And.intro q3 q4))); clear q1 q2 q3 q4 q5)
              | (go_at_call 63; refine hold ?_)
            refine Hold.mk ?_
            obtain ⟨l, l1, l2, l3, l4⟩ := Hr2.out.done Hrn.out Hy0.out hNN.out HV.out.1 HV.out.2 HQ2.out.1 HQ2.out.2.1 HQ2.out.2.2.1 HQ2.out.2.2.2
            rw [← Hr.out.1] at l1
            refine (rtrim_any _ _ c3 l w' l1 (by omega) hkc).mono ?_
            rintro e w9 ⟨v9, rfl, h9, hb9⟩
            have HX := Lib.hid (l4 w9 v9 h9 hb9)
            obtain ⟨a9, c9, rfl, _, _⟩ := h9.shape
            obtain ⟨k', Hk'⟩ : ∃ k', Hid (k' = (trimZ l).length ∧ k' ≤ k) := ⟨_, Lib.hid ⟨rfl, by have := trim_le l; have := l1.1; omega⟩⟩
            rw [← Hk'.out.1] at HX ⊢
            have HX2 := Lib.hid l2
            have hk'9 := Hk'.out.2
            clear l1 l2 l3 l4 h9 hb9
            go_wp2_with fail
            go_roundg (ofW (trimZ l))
            case measure => rw [Hgg.out, ofW_trim]; exact HX2.out
            case rel => exact ⟨trimZ l, b ++ [48 + r], k', p + 1, c9, cap', a9, some ⟨g', 0, none⟩, rfl, rfl, rfl, by omega, by omega, Lib.hid ⟨Hk'.out.1, by rw [Hl.out]; simp, by have := HX.out; rw [← Hl.out] at this; exact this⟩⟩
          | succ kk =>
            have e : (((kk + 1 : Nat) : Int) - 1) = (kk : Int) := by omega
            rw [e]
            clear e
            obtain ⟨u, Hu⟩ : ∃ u, Hid (y.getD kk 0 = u) := ⟨_, Lib.hid rfl⟩
            have hky : kk < y.length := by have := Hr.out.1; omega
            obtain ⟨hcell, hfz⟩ := Hr2.out.cell hky
            rw [Hu.out] at hcell
            have hu9 : u < 4294967296 := by rw [← Hu.out]; exact HWy.out.get kk
            have Hky := Lib.hid hky
            clear hky
            have e1 : IntKind.u64.wrap ((r : Int) * 4294967296) = ((r * 4294967296 : Nat) : Int) := by
              rw [wrap_u64_id _ (by omega) (by omega)]
              omega
            have e2 : IntKind.u64.wrap (u : Int) = (u : Int) := wrap_u64_id _ (by omega) (by omega)
            obtain ⟨X, HX⟩ : ∃ X, Hid (r * 4294967296 + u = X) := ⟨_, Lib.hid rfl⟩
            have e3 := bits_or_u64 r u (by omega) hu9
            rw [Int.natCast_mul, HX.out] at e3
            have e3 : bits BinOp.or IntKind.u64 ((r : Int) * 4294967296) (u : Int) = (X : Int) := e3
            have hX9 : X < 42949672960 := by have := HX.out; omega
            have HD6 := Lib.hid (Hr2.out.step Hky.out hr9 Hu.out hu9 HX.out HV.out.1 HV.out.2)
            obtain ⟨q, Hq⟩ : ∃ q, Hid (X / 10 = q) := ⟨_, Lib.hid rfl⟩
            obtain ⟨r', Hr'⟩ : ∃ q, Hid (X % 10 = q) := ⟨_, Lib.hid rfl⟩
            rw [Hq.out, Hr'.out] at HD6
            have hr9' : r' < 10 := by have := Hr'.out; omega
            have e4 : (X : Int) / 10 = (q : Int) := by
              have := Hq.out
              omega
            have e5 : (X : Int) % 10 = (r' : Int) := by
              have := Hr'.out
              omega
            rw [← e4] at HD6
            have E5 := Lib.hid e5
            clear e4 e5
            go_wp2_with fail
            go_roundg kk
            case measure => omega
            case rel => exact ⟨kk, r', by omega, congrArg (Value.int .u64) E5.out, by go_num, hr9', rfl, HD6⟩
end Go.Proofs.YtahgbbnpbhfaeaaDoor
