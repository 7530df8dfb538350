/- exact.twice. No condition. -/
import Derived.Test.YtahgbbnpbhfaeaaDoorExMul
namespace Go.Proofs.YtahgbbnpbhfaeaaDoor
open Go.RowKit

/-- Twice so far: i words are told, one digit is carried. -/
def TwR (w wr : World) (g cap : Nat) (z : List Nat) (d i c : Nat) : Prop :=
  ∃ l, RowW wr g cap l ∧ w.heap.size ≤ g ∧ l.length = i ∧ Words l ∧ ofW l + 4294967296 ^ i * c = 2 * ofW (z.take i) + d ∧ Below w.heap.size w wr
theorem TwR.step {w w' : World} {g' cap' d i c u x y : Nat} {z l : List Nat} (hl : l.length = i) (hw : Words l) (h : ofW l + 4294967296 ^ i * c = 2 * ofW (z.take i) + d) (hu : z.getD i 0 = u) (hx : x + 4294967296 * y = 2 * u + c) (hx9 : x < 4294967296) (h1 : RowW w' g' cap' (l ++ [x])) (h2 : w.heap.size ≤ g') (h3 : Below w.heap.size w w') : TwR w w' g' cap' z d (i + 1) y := by
  refine ⟨l ++ [x], h1, h2, by simp [hl], Words.append.2 ⟨hw, Words.cons.2 ⟨hx9, Words.nil⟩⟩, ?_, h3⟩
  rw [ofW_append, ofW_take, hu, hl]
  simp only [ofW, Nat.mul_zero, Nat.add_zero]
  have e := congrArg (fun q => 4294967296 ^ i * q) hx
  simp only [Nat.mul_add] at e
  rw [Nat.pow_succ, Nat.mul_assoc]
  have e2 : 2 * (4294967296 ^ i * u) = 4294967296 ^ i * (2 * u) := Nat.mul_left_comm _ _ _
  rw [Nat.mul_add, e2]
  omega
theorem or_bit (e d : Nat) (hd : d ≤ 1) : 2 * e ||| d = 2 * e + d := by
  have := Nat.two_pow_add_eq_or_of_lt (i := 1) (b := d) (by omega) e
  simpa using this.symm

set_option maxRecDepth 100000 in
set_option maxHeartbeats 1600000 in
theorem twice_any (a : Option Addr) (n cap d : Nat) (z : List Nat) (w : World) (h : WordsAt w a n z) (hn : n ≤ 1000000) (hd : d ≤ 1) :
    Calls Tryd.prog 83 #[.slice a n cap, .int .u32 (d : Int)] w fun e w' => ∃ v, e = .returned v ∧ RowO w' w.heap.size v (canW (2 * ofW z + d)) ∧ Below w.heap.size w w' := by
  have HZ := Lib.hid h
  clear h
  go_enter Tryd.func83, Tryd.ntmps83
  go_wp2_with (refine wpList_make0 _ rfl _ _ rfl _ (n + 1) rfl rfl (by go_num) (by omega) ?_; intro w1 ho hb; have HO := Lib.hid (And.intro ho hb); clear ho hb)
  obtain ⟨g0, Hg0⟩ : ∃ g, Hid (g = w.heap.size) := ⟨_, Lib.hid rfl⟩
  rw [← Hg0.out]
  go_loopg [1, 5, 14] n (fun gg v1 v5 v14 wr => ∃ (i c g cap : Nat), i ≤ n ∧ v14 = .int .i64 i ∧ v1 = .int .u32 c ∧ v5 = .slice (some ⟨g, 0, none⟩) i cap ∧ c ≤ 1 ∧ gg = n - i ∧ Hid (TwR w wr g cap z d i c))
  case atStart => exact ⟨0, d, g0, n + 1, Nat.zero_le _, rfl, rfl, by go_num, hd, rfl, Lib.hid ⟨[], by rw [Hg0.out]; exact HO.out.1, by rw [Hg0.out]; exact Nat.le_refl _, rfl, Words.nil, by simp [ofW], HO.out.2⟩⟩
  case round =>
    obtain ⟨i, c, g, cap, hi, rfl, rfl, rfl, hc1, hgg, Hr⟩ := hrel
    by_cases hli : i < n
    · obtain ⟨l, r1, r2, r3, r4, r5, r6⟩ := Hr.out
      obtain ⟨x, e1, hx⟩ := (HZ.out.below r6).2.2 i hli
      obtain ⟨u, Hu⟩ : ∃ u, Hid (z.getD i 0 = u) := ⟨_, Lib.hid rfl⟩
      have hu9 : u < 4294967296 := by rw [← Hu.out]; exact HZ.out.2.1.get i
      rw [Hu.out] at hx
      subst e1
      obtain ⟨X, HX⟩ : ∃ X, Hid (X = 2 * (u % 2147483648) + c) := ⟨_, Lib.hid rfl⟩
      have HbU := Lib.hid (show bits .or .u32 ((u : Int) * 2 % 4294967296) (c : Int) = (X : Int) from by
        rw [show ((u : Int) * 2 % 4294967296) = ((2 * (u % 2147483648) : Nat) : Int) by omega, (bits_u32_nat _ _ (by omega) (by omega)).2, or_bit _ _ hc1, HX.out])
      have Hl3 := Lib.hid r3
      have HRow := Lib.hid (show RowO wr w.heap.size (.slice (some ⟨g, 0, none⟩) i cap) l from .inr ⟨g, cap, by rw [r3], r2, r1⟩)
      have HS := Lib.hid (show ∀ g' cap' w', RowW w' g' cap' (l ++ [X]) → w.heap.size ≤ g' → Below w.heap.size wr w' → TwR w w' g' cap' z d (i + 1) (u / 2147483648) from fun g' cap' w' q1 q2 q3 =>
        TwR.step r3 r4 r5 Hu.out (by rw [HX.out]; omega) (by rw [HX.out]; omega) q1 q2 (r6.trans q3))
      have hsz := r6.size
      clear r1 r2 r3 r4 r5 r6 Hr
      go_wp2_with (refine wpList_app1 wr rfl _ _ rfl w.heap.size (.slice (some ⟨g, 0, none⟩) i cap) l _ X rfl rfl HRow.out HbU.out (by rw [Hl3.out]; omega) hsz ?_; intro g' cap' w' q1 q2 q3; rw [Hl3.out]; have HQ := Lib.hid (HS.out g' cap' w' q1 q2 q3); clear q1 q2 q3)
      go_roundg (n - (i + 1))
      case measure => omega
      case rel => exact ⟨i + 1, u / 2147483648, g', cap', by omega, by go_num, congrArg (Value.int .u32) (by omega), rfl, by omega, rfl, HQ⟩
    · have hge : n ≤ i := by omega
      have hie : i = n := by omega
      obtain ⟨l, r1, r2, r3, r4, r5, r6⟩ := Hr.out
      have Hl3 := Lib.hid r3
      have HRow := Lib.hid (show RowO wr w.heap.size (.slice (some ⟨g, 0, none⟩) i cap) l from .inr ⟨g, cap, by rw [r3], r2, r1⟩)
      have HS := Lib.hid (show Words (l ++ [c]) ∧ ofW (l ++ [c]) = 2 * ofW z + d ∧ Below w.heap.size w wr from by
        refine ⟨Words.append.2 ⟨r4, Words.cons.2 ⟨by omega, Words.nil⟩⟩, ?_, r6⟩
        rw [ofW_append, r3]
        simp only [ofW, Nat.mul_zero, Nat.add_zero]
        rw [r5, hie, List.take_of_length_le (by have := HZ.out.1; omega)])
      have hsz := r6.size
      clear r1 r2 r3 r4 r5 r6 Hr hie hli
      go_wp2_with first
        | (refine wpList_app1 wr rfl _ _ rfl w.heap.size (.slice (some ⟨g, 0, none⟩) i cap) l _ c rfl rfl HRow.out rfl (by rw [Hl3.out]; omega) hsz ?_; intro g' cap' w' q1 q2 q3; rw [Hl3.out]; have HQ := Lib.hid (And.intro q1 (And.intro q2 q3)); clear q1 q2 q3)
        | (go_at_call 54; refine hold ?_)
      refine Hold.mk ?_
      obtain ⟨q1, q2, q3⟩ := HQ.out
      have hw := q1.words HS.out.1
      rw [List.length_append, Hl3.out] at hw
      refine (trim_any _ _ _ _ w' hw (by simp; omega) (by have := q1.1; simp at this; rw [Hl3.out] at this; simpa using this)).mono ?_
      rintro e w9 ⟨rfl, rfl⟩
      have HR := Lib.hid (show RowW w' g' cap' (trimZ (l ++ [c])) ∧ Below w.heap.size w w' from ⟨by have := q1.cut (trimZ (l ++ [c])).length; rw [← trim_pre] at this; exact this, HS.out.2.2.trans q3⟩)
      clear q1 q3 hw
      go_wp2_with fail
      go_ret
      refine ⟨_, rfl, .inr ⟨g', cap', ?_, q2, ?_⟩, HR.out.2⟩
      · rw [← HS.out.2.1, ← trim_can HS.out.1]
        rfl
      · rw [← HS.out.2.1, ← trim_can HS.out.1]
        exact HR.out.1
end Go.Proofs.YtahgbbnpbhfaeaaDoor
