/- exact.minus. No condition. -/
import Derived.Test.YtahgbbnpbhfaeaaDoorExRow
namespace Go.Proofs.YtahgbbnpbhfaeaaDoor
open Go.RowKit

theorem sub32_int (x c y : Nat) (Y : Int) (hY : Y = (y : Int)) (w : World) (hx : x < 4294967296) (hy : y < 4294967296) (hc : c ≤ 1) :
    Calls Tryd.prog 90 #[.int .u32 x, .int .u32 Y, .int .u32 c] w fun e w' => e = .returned (.tuple #[.int .u32 ((x + 4294967296 - y - c) % 4294967296 : Nat), .int .u32 (borrow x y c : Nat)]) ∧ w = w' := by
  subst hY
  exact sub32_any x y c w hx hy hc
theorem borrow_eq (x y c : Nat) (hx : x < 4294967296) (hy : y < 4294967296) (hc : c ≤ 1) : (x + 4294967296 - y - c) % 4294967296 + y + c = x + 4294967296 * borrow x y c ∧ borrow x y c ≤ 1 := by
  unfold borrow
  split <;> omega
/-- The difference so far: i words are told, c is borrowed. -/
def MinR (w wr : World) (g : Nat) (z z2 : List Nat) (n i c : Nat) : Prop :=
  ∃ l, OwnW wr g l ∧ l.length = n ∧ Words l ∧ ofW (l.take i) + ofW (z2.take i) = ofW (z.take i) + 4294967296 ^ i * c ∧ Below w.heap.size w wr

set_option maxRecDepth 100000 in
set_option maxHeartbeats 1600000 in
theorem minus_any (a1 a2 : Option Addr) (n1 n2 cap1 cap2 : Nat) (z1 z2 : List Nat) (w : World) (h1 : WordsAt w a1 n1 z1) (h2 : WordsAt w a2 n2 z2) (hn1 : n1 ≤ 1000000) (hn2 : n2 ≤ 1000000) (hc1 : n1 ≤ cap1) (hc2 : n2 ≤ cap2) (hle : ofW z2 ≤ ofW z1) :
    Calls Tryd.prog 81 #[.slice a1 n1 cap1, .slice a2 n2 cap2] w fun e w' => ∃ g l, e = .returned (.slice (some ⟨g, 0, none⟩) l.length l.length) ∧ w.heap.size ≤ g ∧ OwnW w' g l ∧ Words l ∧ ofW l = ofW z1 - ofW z2 ∧ l.length ≤ n1 ∧ Below w.heap.size w w' := by
  have HT1 := Lib.hid (trim_any a1 n1 cap1 z1 w h1 (by omega) hc1)
  have HT2 := Lib.hid (trim_any a2 n2 cap2 z2 w h2 (by omega) hc2)
  obtain ⟨m1, Hm1⟩ : ∃ m, Hid ((trimZ z1).length = m) := ⟨_, Lib.hid rfl⟩
  obtain ⟨m2, Hm2⟩ : ∃ m, Hid ((trimZ z2).length = m) := ⟨_, Lib.hid rfl⟩
  have hm1 : m1 ≤ 1000000 := by have := trim_le z1; have := h1.1; have := Hm1.out; omega
  have hm2 : m2 ≤ 1000000 := by have := trim_le z2; have := h2.1; have := Hm2.out; omega
  have Hmn : Hid (m1 ≤ n1) := Lib.hid (by have := trim_le z1; have := h1.1; have := Hm1.out; omega)
  have t1 := h1.trim
  have t2 := h2.trim
  rw [Hm1.out] at HT1 t1
  rw [Hm2.out] at HT2 t2
  have H1 := Lib.hid t1
  have H2 := Lib.hid t2
  obtain ⟨y1, Hy1⟩ : ∃ y, Hid (trimZ z1 = y ∧ trimZ y = y ∧ ofW y = ofW z1) := ⟨_, Lib.hid ⟨rfl, trim_idem, ofW_trim _⟩⟩
  obtain ⟨y2, Hy2⟩ : ∃ y, Hid (trimZ z2 = y ∧ trimZ y = y ∧ ofW y = ofW z2) := ⟨_, Lib.hid ⟨rfl, trim_idem, ofW_trim _⟩⟩
  rw [Hy1.out.1] at H1
  rw [Hy2.out.1] at H2
  rw [← Hy1.out.2.2, ← Hy2.out.2.2] at hle ⊢
  have hmm : m2 ≤ m1 := by
    refine Nat.le_of_not_lt fun h => ?_
    have := ofW_len_lt (l := y1) (m := y2) H1.out.2.1 Hy2.out.2.1 (by rw [H1.out.1, H2.out.1]; exact h)
    omega
  have HL := Lib.hid hle
  clear h1 h2 t1 t2 Hm1 Hm2 hle
  go_enter Tryd.func81, Tryd.ntmps81
  go_wp2_with (go_at_call 54; refine hold ?_)
  refine Hold.mk ?_
  refine HT1.out.mono ?_
  rintro e w2 ⟨rfl, rfl⟩
  go_wp2_with (go_at_call 54; refine hold ?_)
  refine Hold.mk ?_
  refine HT2.out.mono ?_
  rintro e w2 ⟨rfl, rfl⟩
  go_wp2_with (refine wpList_makeW _ rfl _ _ rfl _ _ m1 rfl rfl (by go_num) (by go_num) (by omega) ?_; intro w1 ho hb; have HO := Lib.hid (And.intro ho hb); clear ho hb)
  obtain ⟨g, Hg⟩ : ∃ g, Hid (g = w.heap.size) := ⟨_, Lib.hid rfl⟩
  rw [← Hg.out]
  go_loopg [6, 19] m1 (fun gg v6 v19 wr => ∃ (i c : Nat), i ≤ m1 ∧ v19 = .int .i64 i ∧ v6 = .int .u32 c ∧ c ≤ 1 ∧ gg = m1 - i ∧ Hid (MinR w wr g y1 y2 m1 i c))
  case atStart => exact ⟨0, 0, Nat.zero_le _, rfl, rfl, by omega, rfl, Lib.hid ⟨_, by rw [Hg.out]; exact HO.out.1, by simp, words_zero _, by simp [ofW], HO.out.2⟩⟩
  case round =>
    obtain ⟨i, c, hi, rfl, rfl, hc1, hgg, Hr⟩ := hrel
    by_cases hli : i < m1
    · obtain ⟨l, r1, r2, r3, r4, r5⟩ := Hr.out
      obtain ⟨x, e1, hx⟩ := (H1.out.below r5).2.2 i hli
      have H0 := Lib.hid (show ∀ i, i < m2 → _ from (H2.out.below r5).2.2)
      obtain ⟨u, Hu⟩ : ∃ u, Hid (y1.getD i 0 = u) := ⟨_, Lib.hid rfl⟩
      have hu9 : u < 4294967296 := by rw [← Hu.out]; exact H1.out.2.1.get i
      rw [Hu.out] at hx
      subst e1
      obtain ⟨u2, Hu2⟩ : ∃ u, Hid (y2.getD i 0 = u) := ⟨_, Lib.hid rfl⟩
      have hu29 : u2 < 4294967296 := by rw [← Hu2.out]; exact H2.out.2.1.get i
      have HA := Lib.hid (sub32_any u u2 c wr hu9 hu29 hc1)
      have hcell := r1.cell i (by omega)
      have hfz := r1.frozen i
      obtain ⟨t, Ht⟩ : ∃ t, Hid ((u + 4294967296 - u2 - c) % 4294967296 = t) := ⟨_, Lib.hid rfl⟩
      obtain ⟨b, Hb⟩ : ∃ t, Hid (borrow u u2 c = t) := ⟨_, Lib.hid rfl⟩
      have Hbe := Lib.hid (borrow_eq u u2 c hu9 hu29 hc1)
      have HF := Lib.hid (show MinR w (wr.setCell ⟨g, i, none⟩ (.int .u32 (t : Int))) g y1 y2 m1 (i + 1) b from by
        refine ⟨l.set i t, r1.set i _, by simpa using r2, r3.set (by rw [← Ht.out]; exact Nat.mod_lt _ (by decide)), ?_, r5.setCell (by have := Hg.out; simp only; omega) _⟩
        rw [ofW_take, ofW_take y1, ofW_take y2, take_set, getD_set (by omega), Hu.out, Hu2.out, Nat.pow_succ]
        have hd := Hbe.out.1
        rw [Ht.out, Hb.out] at hd
        have e := congrArg (fun q => 4294967296 ^ i * q) hd
        simp only [Nat.mul_add] at e
        rw [← Nat.mul_assoc] at e
        omega)
      have hb1 : b ≤ 1 := by rw [← Hb.out]; exact Hbe.out.2
      rw [Ht.out, Hb.out] at HA
      clear r1 r2 r3 r4 r5 Hr
      by_cases hl2 : i < m2
      · obtain ⟨x2, e2, hx2⟩ := H0.out i hl2
        rw [Hu2.out] at hx2
        subst e2
        go_wp2_with (go_at_call 90; refine HA.out.mono ?_; rintro e w5 ⟨rfl, rfl⟩)
        go_roundg (m1 - (i + 1))
        case measure => omega
        case rel => exact ⟨i + 1, b, by omega, by go_num, rfl, by omega, rfl, HF⟩
      · have h00 : u2 = 0 := by
          rw [← Hu2.out]
          simp [List.getD, List.getElem?_eq_none (show y2.length ≤ i by have := H2.out.1; omega)]
        subst h00
        have HA := Lib.hid (sub32_int u c 0 0 rfl wr hu9 (by decide) hc1)
        rw [Ht.out, Hb.out] at HA
        have hge2 : m2 ≤ i := by omega
        clear hl2
        go_wp2_with (go_at_call 90; refine HA.out.mono ?_; rintro e w5 ⟨rfl, rfl⟩)
        go_roundg (m1 - (i + 1))
        case measure => omega
        case rel => exact ⟨i + 1, b, by omega, by go_num, rfl, by omega, rfl, HF⟩
    · have hge : m1 ≤ i := by omega
      have hie : i = m1 := by omega
      have Hr2 := Lib.hid (show MinR w wr g y1 y2 m1 m1 c from hie ▸ Hr.out)
      clear Hr hli hie
      go_wp2_with fail
      go_ret
      obtain ⟨l, r1, r2, r3, r4, r5⟩ := Hr2.out
      refine ⟨g, l, by rw [r2]; rfl, by have := Hg.out; omega, r1, r3, ?_, by rw [r2]; exact Hmn.out, r5⟩
      rw [List.take_of_length_le (by omega), List.take_of_length_le (by have := H2.out.1; omega), List.take_of_length_le (by have := H1.out.1; omega)] at r4
      have hlt := ofW_lt r3
      rw [r2] at hlt
      have := HL.out
      match c, hc1 with
      | 0, _ => omega
      | 1, _ => omega
end Go.Proofs.YtahgbbnpbhfaeaaDoor
