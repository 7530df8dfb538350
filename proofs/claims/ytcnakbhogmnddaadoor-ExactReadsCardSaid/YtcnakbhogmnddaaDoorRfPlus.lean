/- recastref2.plus, minus. No condition. -/
import Derived.Test.YtcnakbhogmnddaaDoorRfTrim
namespace Go.Proofs.YtcnakbhogmnddaaDoor
open Go.RowKit

set_option maxRecDepth 100000 in
set_option maxHeartbeats 3200000 in
theorem rplus_any (a1 a2 : Option Addr) (n1 n2 cap1 cap2 : Nat) (z1 z2 : List Nat) (w : World) (h1 : WordsAt w a1 n1 z1) (h2 : WordsAt w a2 n2 z2) (hn1 : n1 ≤ 1000000) (hn2 : n2 ≤ 1000000) :
    Calls Tryd.prog 85 #[.slice a1 n1 cap1, .slice a2 n2 cap2] w fun e w' => ∃ a n c l, e = .returned (.slice a n c) ∧ WordsAt w' a n l ∧ n ≤ c ∧ n ≤ max n1 n2 + 1 ∧ ofW l = ofW z1 + ofW z2 ∧ Below w.heap.size w w' := by
  have H1 := Lib.hid h1
  have H2 := Lib.hid h2
  clear h1 h2
  obtain ⟨N, HN⟩ : ∃ N, Hid (N = max n1 n2) := ⟨_, Lib.hid rfl⟩
  have hN1 : n1 ≤ N := by rw [HN.out]; exact Nat.le_max_left _ _
  have hN2 : n2 ≤ N := by rw [HN.out]; exact Nat.le_max_right _ _
  have hN : N ≤ 1000000 := by rw [HN.out]; exact Nat.max_le.2 ⟨hn1, hn2⟩
  rw [← HN.out]
  go_enter Tryd.func85, Tryd.ntmps85
  go_wp2_with fail
  go_loopg [5, 6, 7] N (fun gg v5 v6 v7 wr => ∃ (i c : Nat), i ≤ N ∧ v7 = .int .i64 i ∧ v6 = .int .u64 c ∧ c ≤ 1 ∧ gg = N - i ∧ Hid (∃ l, RfR w wr v5 l i ∧ SumL z1 z2 l i c))
  case atStart => exact ⟨0, 0, Nat.zero_le _, rfl, rfl, by omega, rfl, Lib.hid ⟨[], RfR.start w, SumL.start _ _⟩⟩
  case round =>
    obtain ⟨i, c, hi, rfl, rfl, hc1, hgg, Hr⟩ := hrel
    obtain ⟨l, r1, r2⟩ := Hr.out
    obtain ⟨a5, c5, rfl, hc5⟩ := r1.shape
    obtain ⟨u1, Hu1⟩ : ∃ u, Hid (z1.getD i 0 = u) := ⟨_, Lib.hid rfl⟩
    obtain ⟨u2, Hu2⟩ : ∃ u, Hid (z2.getD i 0 = u) := ⟨_, Lib.hid rfl⟩
    have hu19 : u1 < 4294967296 := by rw [← Hu1.out]; exact H1.out.2.1.get i
    have hu29 : u2 < 4294967296 := by rw [← Hu2.out]; exact H2.out.2.1.get i
    have HR := Lib.hid r1
    have HL := Lib.hid (r2.step r1.2.1 Hu1.out Hu2.out)
    have HE := Lib.hid r2
    have X1 := Lib.hid (fun hlt : i < n1 => (H1.out.below r1.2.2.2).2.2 i hlt)
    have X2 := Lib.hid (fun hlt : i < n2 => (H2.out.below r1.2.2.2).2.2 i hlt)
    have Hsz := Lib.hid r1.2.2.2.size
    have Hll := Lib.hid r1.2.1
    clear r1 r2
    obtain ⟨s, Hs⟩ : ∃ s, Hid (c + u1 + u2 = s) := ⟨_, Lib.hid rfl⟩
    have hs9 : s ≤ 8589934591 := by have := Hs.out; omega
    by_cases hl1 : i < n1
    · obtain ⟨x1, e1, hx1⟩ := X1.out hl1
      subst e1
      rw [Hu1.out] at hx1
      by_cases hl2 : i < n2
      · obtain ⟨x2, e2, hx2⟩ := X2.out hl2
        subst e2
        rw [Hu2.out] at hx2
        obtain ⟨t, Ht⟩ : ∃ t, Hid (c + u1 = t) := ⟨_, Lib.hid rfl⟩
        have e1 : IntKind.u64.wrap ((c : Int) + (u1 : Int)) = (t : Int) := by
          rw [← Int.natCast_add, Ht.out, wrap_u64_id _ (by omega) (by have := Ht.out; omega)]
        have e2 : IntKind.u64.wrap ((t : Int) + (u2 : Int)) = (s : Int) := by
          rw [← Int.natCast_add, show t + u2 = s by rw [← Ht.out]; exact Hs.out, wrap_u64_id _ (by omega) (by omega)]
        go_wp2_with (refine wpList_app1 wr rfl _ _ rfl w.heap.size (.slice a5 i c5) l _ (s % 4294967296) rfl rfl HR.out.1 (by omega) (by rw [Hll.out]; omega) Hsz.out ?_; intro g' cap' w' q1 q2 q3; rw [Hll.out]; have HQ := Lib.hid (HR.out.step (Nat.mod_lt s (by decide)) q1 q2 q3); clear q1 q2 q3)
        go_roundg (N - (i + 1))
        case measure => omega
        case rel => exact ⟨i + 1, s / 4294967296, by omega, by go_num, congrArg (Value.int .u64) (by omega), by omega, rfl, Lib.hid ⟨_, HQ.out, by have := HL.out; rw [Hs.out] at this; exact this⟩⟩
      · have hge2 : n2 ≤ i := by omega
        have h00 : u2 = 0 := by rw [← Hu2.out]; exact getD_over (by have := H2.out.1; omega)
        subst h00
        have e1 : IntKind.u64.wrap ((c : Int) + (u1 : Int)) = (s : Int) := by
          rw [← Int.natCast_add, show c + u1 = s from Hs.out, wrap_u64_id _ (by omega) (by omega)]
        clear hl2
        go_wp2_with (refine wpList_app1 wr rfl _ _ rfl w.heap.size (.slice a5 i c5) l _ (s % 4294967296) rfl rfl HR.out.1 (by omega) (by rw [Hll.out]; omega) Hsz.out ?_; intro g' cap' w' q1 q2 q3; rw [Hll.out]; have HQ := Lib.hid (HR.out.step (Nat.mod_lt s (by decide)) q1 q2 q3); clear q1 q2 q3)
        go_roundg (N - (i + 1))
        case measure => omega
        case rel => exact ⟨i + 1, s / 4294967296, by omega, by go_num, congrArg (Value.int .u64) (by omega), by omega, rfl, Lib.hid ⟨_, HQ.out, by have := HL.out; rw [Hs.out] at this; exact this⟩⟩
    · have hge1 : n1 ≤ i := by omega
      have h01 : u1 = 0 := by rw [← Hu1.out]; exact getD_over (by have := H1.out.1; omega)
      subst h01
      clear hl1
      by_cases hl2 : i < n2
      · obtain ⟨x2, e2, hx2⟩ := X2.out hl2
        subst e2
        rw [Hu2.out] at hx2
        have e1 : IntKind.u64.wrap ((c : Int) + (u2 : Int)) = (s : Int) := by
          rw [← Int.natCast_add, show c + u2 = s by have := Hs.out; omega, wrap_u64_id _ (by omega) (by omega)]
        go_wp2_with (refine wpList_app1 wr rfl _ _ rfl w.heap.size (.slice a5 i c5) l _ (s % 4294967296) rfl rfl HR.out.1 (by omega) (by rw [Hll.out]; omega) Hsz.out ?_; intro g' cap' w' q1 q2 q3; rw [Hll.out]; have HQ := Lib.hid (HR.out.step (Nat.mod_lt s (by decide)) q1 q2 q3); clear q1 q2 q3)
        go_roundg (N - (i + 1))
        case measure => omega
        case rel => exact ⟨i + 1, s / 4294967296, by omega, by go_num, congrArg (Value.int .u64) (by omega), by omega, rfl, Lib.hid ⟨_, HQ.out, by have := HL.out; rw [Hs.out] at this; exact this⟩⟩
      · have hge2 : n2 ≤ i := by omega
        clear hl2 X1 X2 HL
        have HD := Lib.hid (show ∀ l, SumL z1 z2 l i c → l.length = i → ofW (l ++ [c]) = ofW z1 + ofW z2 from fun l h hl => h.done hl (by have := H1.out.1; omega) (by have := H2.out.1; omega))
        go_wp2_with (refine wpList_app1 wr rfl _ _ rfl w.heap.size (.slice a5 i c5) l _ c rfl rfl HR.out.1 (by omega) (by rw [Hll.out]; omega) Hsz.out ?_; intro g' cap' w' q1 q2 q3; rw [Hll.out]; have HQ := Lib.hid (HR.out.step (show c < 4294967296 by omega) q1 q2 q3); clear q1 q2 q3)
        go_ret
        obtain ⟨q1, q2, q3, q4⟩ := HQ.out
        refine ⟨_, _, _, l ++ [c], rfl, by have := q1.wordsAt q3; exact this, ?_, by omega, HD.out l HE.out Hll.out, q4⟩
        obtain ⟨a, c', e, h, _⟩ := q1.shape
        rw [q2] at e h
        cases e
        exact h

set_option maxRecDepth 100000 in
set_option maxHeartbeats 3200000 in
theorem rminus_any (a1 a2 : Option Addr) (n1 n2 cap1 cap2 : Nat) (z1 z2 : List Nat) (w : World) (h1 : WordsAt w a1 n1 z1) (h2 : WordsAt w a2 n2 z2) (hn1 : n1 ≤ 1000000) (hle : n2 ≤ n1) (hv : ofW z2 ≤ ofW z1) :
    Calls Tryd.prog 88 #[.slice a1 n1 cap1, .slice a2 n2 cap2] w fun e w' => ∃ a c l, e = .returned (.slice a n1 c) ∧ WordsAt w' a n1 l ∧ n1 ≤ c ∧ ofW l = ofW z1 - ofW z2 ∧ Below w.heap.size w w' := by
  have H1 := Lib.hid h1
  have H2 := Lib.hid h2
  have HV := Lib.hid hv
  clear h1 h2 hv
  go_enter Tryd.func88, Tryd.ntmps88
  go_wp2_with fail
  go_loopg [5, 6, 7] n1 (fun gg v5 v6 v7 wr => ∃ (i c : Nat), i ≤ n1 ∧ v7 = .int .i64 i ∧ v6 = .int .u64 c ∧ c ≤ 1 ∧ gg = n1 - i ∧ Hid (∃ l, RfR w wr v5 l i ∧ DifL z1 z2 l i c))
  case atStart => exact ⟨0, 0, Nat.zero_le _, rfl, rfl, by omega, rfl, Lib.hid ⟨[], RfR.start w, DifL.start _ _⟩⟩
  case round =>
    obtain ⟨i, c, hi, rfl, rfl, hc1, hgg, Hr⟩ := hrel
    by_cases hl1 : i < n1
    · obtain ⟨l, r1, r2⟩ := Hr.out
      obtain ⟨a5, c5, rfl, hc5⟩ := r1.shape
      obtain ⟨u1, Hu1⟩ : ∃ u, Hid (z1.getD i 0 = u) := ⟨_, Lib.hid rfl⟩
      obtain ⟨u2, Hu2⟩ : ∃ u, Hid (z2.getD i 0 = u) := ⟨_, Lib.hid rfl⟩
      have hu19 : u1 < 4294967296 := by rw [← Hu1.out]; exact H1.out.2.1.get i
      have hu29 : u2 < 4294967296 := by rw [← Hu2.out]; exact H2.out.2.1.get i
      obtain ⟨t1, Ht1⟩ : ∃ t, Hid (t = if c ≤ u1 then u1 - c else 18446744073709551616 + u1 - c) := ⟨_, Lib.hid rfl⟩
      obtain ⟨t, Ht⟩ : ∃ t, Hid (t = if u2 + c ≤ u1 then u1 - (u2 + c) else 18446744073709551616 + u1 - (u2 + c)) := ⟨_, Lib.hid rfl⟩
      have HR := Lib.hid r1
      have HL := Lib.hid (show DifL z1 z2 (l ++ [t % 4294967296]) (i + 1) (t / 9223372036854775808) from r2.step r1.2.1 Hu1.out Hu2.out (by
        rw [Ht.out]
        split <;> omega))
      have X2 := Lib.hid (fun hlt : i < n2 => (H2.out.below r1.2.2.2).2.2 i hlt)
      obtain ⟨x1, e1, hx1⟩ := (H1.out.below r1.2.2.2).2.2 i hl1
      subst e1
      rw [Hu1.out] at hx1
      have Hsz := Lib.hid r1.2.2.2.size
      have Hll := Lib.hid r1.2.1
      clear r1 r2
      have ht9 : t < 18446744073709551616 ∧ t / 9223372036854775808 ≤ 1 := by
        have := Ht.out
        split at this <;> omega
      obtain ⟨ht9, hc9⟩ := ht9
      have e1 : IntKind.u64.wrap ((u1 : Int) - (c : Int)) = (t1 : Int) := by
        simp [IntKind.wrap, IntKind.bits, IntKind.signed]
        have := Ht1.out
        split at this <;> omega
      by_cases hl2 : i < n2
      · obtain ⟨x2, e2, hx2⟩ := X2.out hl2
        subst e2
        rw [Hu2.out] at hx2
        have e2 : IntKind.u64.wrap ((t1 : Int) - (u2 : Int)) = (t : Int) := by
          simp [IntKind.wrap, IntKind.bits, IntKind.signed]
          have h1 := Ht1.out
          have h2 := Ht.out
          split at h1 <;> split at h2 <;> omega
        go_wp2_with (refine wpList_app1 wr rfl _ _ rfl w.heap.size (.slice a5 i c5) l _ (t % 4294967296) rfl rfl HR.out.1 (by omega) (by rw [Hll.out]; omega) Hsz.out ?_; intro g' cap' w' q1 q2 q3; rw [Hll.out]; have HQ := Lib.hid (HR.out.step (Nat.mod_lt t (by decide)) q1 q2 q3); clear q1 q2 q3)
        go_roundg (n1 - (i + 1))
        case measure => omega
        case rel => exact ⟨i + 1, t / 9223372036854775808, by omega, by go_num, congrArg (Value.int .u64) (by omega), hc9, rfl, Lib.hid ⟨_, HQ.out, HL.out⟩⟩
      · have hge2 : n2 ≤ i := by omega
        have h00 : u2 = 0 := by rw [← Hu2.out]; exact getD_over (by have := H2.out.1; omega)
        subst h00
        have ett : t1 = t := by
          have h1 := Ht1.out
          have h2 := Ht.out
          rw [Nat.zero_add] at h2
          omega
        subst ett
        clear hl2
        go_wp2_with (refine wpList_app1 wr rfl _ _ rfl w.heap.size (.slice a5 i c5) l _ (t1 % 4294967296) rfl rfl HR.out.1 (by omega) (by rw [Hll.out]; omega) Hsz.out ?_; intro g' cap' w' q1 q2 q3; rw [Hll.out]; have HQ := Lib.hid (HR.out.step (Nat.mod_lt t1 (by decide)) q1 q2 q3); clear q1 q2 q3)
        go_roundg (n1 - (i + 1))
        case measure => omega
        case rel => exact ⟨i + 1, t1 / 9223372036854775808, by omega, by go_num, congrArg (Value.int .u64) (by omega), hc9, rfl, Lib.hid ⟨_, HQ.out, HL.out⟩⟩
    · have hie : i = n1 := by omega
      subst hie
      obtain ⟨l, r1, r2⟩ := Hr.out
      obtain ⟨a5, c5, rfl, hc5⟩ := r1.shape
      have HQ := Lib.hid (And.intro r1 r2)
      clear r1 r2 Hr hl1
      go_wp2_with fail
      go_ret
      obtain ⟨⟨q1, q2, q3, q4⟩, q5⟩ := HQ.out
      have e1 := H1.out.1
      have e2 := H2.out.1
      rw [← e1] at q5 q2
      have hw := q1.wordsAt q3
      exact ⟨_, _, l, rfl, hw, hc5, q5.done q3 q2 (by omega) HV.out, q4⟩
end Go.Proofs.YtcnakbhogmnddaaDoor
