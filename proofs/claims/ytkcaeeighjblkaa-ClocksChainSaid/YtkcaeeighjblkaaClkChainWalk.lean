/- The law ClocksChain: the walk. No condition. -/
import Derived.Test.YtkcaeeighjblkaaClkClock
namespace Go.Proofs.Ytkcaeeighjblkaa
open Go.RowKit

def StartRel (w : World) (bo i : Nat) (wr : World) : Prop :=
  ∃ (st : OSt) (K : List (List Int)), st.bo = bo ∧ Ord wr st K acc0 i ∧ K.length = i + 1 ∧ Below w.heap.size w wr ∧ (∀ k, st.fp k → w.heap.size ≤ k) ∧ ∀ j, K.getD j [] = []

def ChainAcc (P : Acc) : Prop := ∀ k : Int, P 5 k = if k = 0 then (0, 1) else (0, 0)
def Chained (K : List (List Int)) (i broken : Nat) : Prop := ∀ j, (K.getD j []).getD 0 0 = if j ≤ i ∧ j ≤ broken then 1 else 0

def ChainRel (w : World) (bo n broken i : Nat) (wr : World) : Prop :=
  ∃ (st : OSt) (K : List (List Int)) (P : Acc), st.bo = bo ∧ Ord wr st K P (n + 3) ∧ K.length = n + 1 ∧ Below w.heap.size w wr ∧ (∀ k, st.fp k → w.heap.size ≤ k) ∧ ChainAcc P ∧ Chained K i broken
def ChainSent (w : World) (bo bc n broken i : Nat) (wr : World) : Prop :=
  ∃ (st : OSt) (K : List (List Int)) (P : Acc) (B : Nat), st.bo = bo ∧ Ord wr st K P (n + 3) ∧ K.length = n + 1 ∧ Below w.heap.size w wr ∧ (∀ k, st.fp k → w.heap.size ≤ k) ∧ ChainAcc P ∧ Chained K i broken ∧ ClockAt wr B bc (K.getD i [])

theorem new_chain (w : World) : Calls Try.prog 14 #[] w fun e w' => ∃ bo, e = .returned (.pointer (some ⟨bo, 0, none⟩)) ∧ StartRel w bo 0 w' := by
  refine (new_any w).mono ?_
  rintro e w' ⟨st, rfl, hO, hb, hp⟩
  refine ⟨st.bo, rfl, st, [[]], rfl, hO, rfl, hb, hp, fun j => ?_⟩
  cases j <;> simp

theorem start_chain {w wr : World} {bo i : Nat} (h : StartRel w bo i wr) (hi : i < 1000) :
    Calls Try.prog 17 #[.pointer (some ⟨bo, 0, none⟩), .int .i64 0] wr fun e w' => e = .returned (.int .i64 (i + 1 : Nat)) ∧ StartRel w bo (i + 1) w' := by
  obtain ⟨st, K, hbo, hO, hL, hb, hp, hK⟩ := h
  refine (start_at bo st K acc0 i 0 wr hbo hO (by omega) (by omega)).mono ?_
  rintro e w' ⟨st', rfl, hbo', hO', hf, hp'⟩
  have hs := hb.size
  refine ⟨by rw [hL], st', _, hbo'.trans hbo, hO', by simp [hL], hb.trans (hf.below hs hp), fun k hk => ?_, fun j => ?_⟩
  · rcases hp' k hk with e | e
    · exact hp k e
    · omega
  · rw [hK 0]
    by_cases e : j < K.length
    · rw [getD_snoc_lt e, hK]
    · by_cases e' : j = K.length
      · rw [getD_snoc_eq e']
      · simp [List.getD, List.getElem?_eq_none (l := K ++ [[]]) (i := j) (by simp; omega)]

theorem write_chain {w wr : World} {bo n broken : Nat} (h : StartRel w bo n wr) (hn : n < 1000) :
    Calls Try.prog 16 #[.pointer (some ⟨bo, 0, none⟩), .int .i64 0, .int .i64 5] wr fun e w' => (∃ ok : Bool, e = .returned (.bool ok)) ∧ ChainRel w bo n broken 0 w' := by
  obtain ⟨st, K, hbo, hO, hL, hb, hp, hK⟩ := h
  refine (write_any bo st K acc0 n 0 5 wr hbo hO (by omega) (by omega) (wfi_small (by omega))).mono ?_
  rintro e w' ⟨st', ok, rfl, hbo', hO', hf, hp', _⟩
  have hs := hb.size
  refine ⟨⟨ok, rfl⟩, st', _, _, hbo'.trans hbo, hO', by rw [List.length_set]; exact hL, hb.trans (hf.below hs hp), fun k hk => ?_, fun k => ?_, fun j => ?_⟩
  · rcases hp' k hk with e | e
    · exact hp k e
    · omega
  · rw [hK 0]
    by_cases e : k = 0
    · subst e; rfl
    · show (if (5 : Int) = 5 ∧ k = ((0 : Nat) : Int) then _ else _) = _
      rw [if_neg (fun h => e h.2), if_neg e]; rfl
  · rw [getD_set_cases _ _ _ _ _ (by omega), hK 0, hK j]
    by_cases e : j = 0
    · subst e; simp [bump, padTo]
    · rw [if_neg (by omega), if_neg (by omega)]; rfl

theorem send_chain {w wr : World} {bo n broken i : Nat} (h : ChainRel w bo n broken i wr) (hi : i < n) :
    Calls Try.prog 19 #[.pointer (some ⟨bo, 0, none⟩), .int .i64 i] wr fun e w' => ∃ bc, e = .returned (.pointer (some ⟨bc, 0, none⟩)) ∧ ChainSent w bo bc n broken i w' := by
  obtain ⟨st, K, P, hbo, hO, hL, hb, hp, hP, hC⟩ := h
  refine (send_any bo st K P _ i wr hbo hO (by omega)).mono ?_
  rintro e w' ⟨bc, rfl, hc, hb'⟩
  exact ⟨bc, rfl, st, K, P, _, hbo, hO.of_below hb', hL, hb.trans (hb'.mono hb.size), hp, hP, hC, hc⟩

theorem receive_chain {w wr : World} {bo bc n broken i : Nat} (h : ChainSent w bo bc n broken i wr) (hi : i < n) (hb : i ≠ broken) :
    Calls Try.prog 18 #[.pointer (some ⟨bo, 0, none⟩), .int .i64 (i + 1 : Nat), .pointer (some ⟨bc, 0, none⟩)] wr fun e w' => e = .returned (.tuple #[]) ∧ ChainRel w bo n broken (i + 1) w' := by
  obtain ⟨st, K, P, B, hbo, hO, hL, hbe, hp, hP, hC, hc⟩ := h
  refine (receive_any bo bc B st K P _ (i + 1) _ wr hbo hO (by omega) hc (hO.rlen i) (hO.rval i)).mono ?_
  rintro e w' ⟨st', rfl, hbo', hO', hf, hp'⟩
  have hs := hbe.size
  refine ⟨rfl, st', _, P, hbo'.trans hbo, hO', by rw [List.length_set]; exact hL, hbe.trans (hf.below hs hp), fun k hk => ?_, hP, fun j => ?_⟩
  · rcases hp' k hk with e | e
    · exact hp k e
    · omega
  · rw [getD_set_cases _ _ _ _ _ (by omega)]
    by_cases e : i + 1 = j
    · subst e
      rw [if_pos rfl, maxL_getD, hC, hC]
      by_cases h1 : i + 1 ≤ broken
      · rw [if_neg (by omega), if_pos (by omega), if_pos (by omega)]; rfl
      · rw [if_neg (by omega), if_neg (by omega), if_neg (by omega)]; rfl
    · rw [if_neg e, hC]
      by_cases h1 : j ≤ i ∧ j ≤ broken
      · rw [if_pos h1, if_pos (by omega)]
      · rw [if_neg h1, if_neg (by omega)]

theorem ChainRel.skip {w wr : World} {bo n i : Nat} (h : ChainRel w bo n i i wr) : ChainRel w bo n i (i + 1) wr := by
  obtain ⟨st, K, P, hbo, hO, hL, hb, hp, hP, hC⟩ := h
  refine ⟨st, K, P, hbo, hO, hL, hb, hp, hP, fun j => ?_⟩
  rw [hC]
  by_cases h1 : j ≤ i ∧ j ≤ i
  · rw [if_pos h1, if_pos (by omega)]
  · rw [if_neg h1, if_neg (by omega)]

theorem read_chain {w wr : World} {bo n broken : Nat} (h : ChainRel w bo n broken n wr) (hn : n < 1000) (h1 : 1 ≤ n) :
    Calls Try.prog 15 #[.pointer (some ⟨bo, 0, none⟩), .int .i64 n, .int .i64 5] wr fun e w' => e = .returned (.bool (decide (n ≤ broken))) ∧ Below w.heap.size w w' := by
  obtain ⟨st, K, P, hbo, hO, hL, hb, hp, hP, hC⟩ := h
  refine (read_any bo st K P _ n 5 wr hbo hO (by omega) (by omega) (wfi_small (by omega))).mono ?_
  rintro e w' ⟨st', ok, rfl, hbo', hO', hf, hp', hok⟩
  have hs := hb.size
  refine ⟨?_, hb.trans (hf.below hs hp)⟩
  refine eret_bool ?_
  rw [Bool.eq_iff_iff, hok, decide_eq_true_iff]
  have hn0 := hC n
  constructor
  · intro h
    have := h 0 (wfi_small (by omega))
    rw [hP, if_pos rfl, bump_getD] at this
    rcases this with h | h
    · omega
    · have e : needOf' (0, 1) false = 1 := rfl
      rw [e, if_neg (by simp; omega)] at h
      by_cases hh : n ≤ broken
      · exact hh
      · rw [show (0 : Int).toNat = 0 from rfl, hn0, if_neg (by omega)] at h
        omega
  · intro h k _
    refine .inr ?_
    rw [hP, bump_getD]
    have hr := (hO.rval n k.toNat).1
    by_cases e : k = 0
    · subst e
      rw [if_pos rfl, show (0 : Int).toNat = 0 from rfl, if_neg (by omega), hn0, if_pos (by omega)]
      exact Int.le_refl _
    · rw [if_neg e]
      have e : needOf' (0, 0) false = 0 := rfl
      rw [e]
      split <;> omega

theorem ChainRel.below {w wr : World} {bo n broken i : Nat} (h : ChainRel w bo n broken i wr) : Below w.heap.size w wr := by
  obtain ⟨_, _, _, _, _, _, hb, _⟩ := h; exact hb
set_option maxHeartbeats 1600000 in
set_option maxRecDepth 100000 in
theorem clocksChain_in (n broken : Nat) (w : World) (h1 : 1 ≤ n) (h2 : n ≤ 30) (h3 : broken ≤ 40) :
    Calls Try.prog 6 #[.int .i64 n, .int .i64 broken] w fun e w' => e = .returned (.bool true) ∧ Below w.heap.size w w' := by
  go_enter Try.func6, Try.ntmps6
  go_wp2_with (go_at_call 14; refine (new_chain w).mono ?_; rintro e w1 ⟨bo, rfl, hp⟩; have HP := Lib.hid hp; clear hp)
  go_loopg [6] n (fun g v6 wr => ∃ i : Nat, i ≤ n ∧ v6 = .int .i64 i ∧ g = n - i ∧ Hid (StartRel w bo i wr))
  case atStart => exact ⟨0, Nat.zero_le _, rfl, rfl, HP⟩
  case round =>
    obtain ⟨i, hi, rfl, hg, hrel⟩ := hrel
    by_cases hlt : i < n
    · go_wp2_with (go_at_call 17; refine (start_chain (i := i) hrel.out (by omega)).mono ?_; rintro e w' ⟨rfl, hA⟩; have HA := Lib.hid hA; clear hA)
      go_roundg (n - (i + 1))
      case measure => omega
      case rel => exact ⟨i + 1, by omega, by go_num, rfl, HA⟩
    · have HR := Lib.hid (show StartRel w bo n wr from (show i = n by omega) ▸ hrel.out)
      clear hrel
      go_wp2_with (go_at_call 16; refine (write_chain (broken := broken) HR.out (by omega)).mono ?_; rintro e w2 ⟨⟨ok, rfl⟩, hA⟩; have HA := Lib.hid hA; clear hA)
      go_loopg [7] n (fun g v7 wr => ∃ i : Nat, i ≤ n ∧ v7 = .int .i64 i ∧ g = n - i ∧ Hid (ChainRel w bo n broken i wr))
      case atStart => exact ⟨0, Nat.zero_le _, rfl, rfl, HA⟩
      case round =>
        obtain ⟨i, hi, rfl, hg, hrel⟩ := hrel
        by_cases hlt : i < n
        · by_cases hb : (i : Int) = broken
          · have hi' : broken = i := by omega
            subst hi'
            go_wp2_with fail
            go_roundg (n - (broken + 1))
            case measure => omega
            case rel => exact ⟨broken + 1, by omega, by go_num, rfl, Lib.hid hrel.out.skip⟩
          · go_wp2_with first
              | (go_at_call 19; refine (send_chain (i := i) hrel.out hlt).mono ?_; rintro e w3 ⟨bc, rfl, hA⟩; have HB := Lib.hid hA; clear hA)
              | (go_at_call 18; refine (receive_chain (i := i) HB.out hlt (by omega)).mono ?_; rintro e w4 ⟨rfl, hA⟩; have HC := Lib.hid hA; clear hA)
            go_roundg (n - (i + 1))
            case measure => omega
            case rel => exact ⟨i + 1, by omega, by go_num, rfl, HC⟩
        · have HR := Lib.hid (show ChainRel w bo n broken n wr from (show i = n by omega) ▸ hrel.out)
          clear hrel
          go_wp2_with first
            | (go_at_call 15; refine (read_chain HR.out (by omega) h1).mono ?_; rintro e w5 ⟨rfl, hb⟩; have HB := Lib.hid hb; clear hb)
            | (go_at_call 13; refine (awake_any _).mono ?_; rintro e w' ⟨rfl, hb⟩)
          go_ret
          exact ⟨rfl, HB.out.trans (Below.mono hb HB.out.size)⟩

set_option maxHeartbeats 800000 in
set_option maxRecDepth 100000 in
theorem clocksChain_out (n b : Int) (w : World) (h : (decide (n < 1) || decide (30 < n) || decide (b < 0) || decide (40 < b)) = true) :
    Calls Try.prog 6 #[.int .i64 n, .int .i64 b] w fun e w' => e = .returned (.bool true) ∧ Below w.heap.size w w' := by
  have fin : ∀ (P : Ending → World → Prop), (∀ w', Below w.heap.size w w' → P (.returned (.bool true)) w') → Calls Try.prog 13 #[] w P := fun P hP => (awake_any w).mono fun e w' ⟨e1, e2⟩ => e1 ▸ hP w' e2
  by_cases h1 : n < 1
  · clear h
    go_enter Try.func6, Try.ntmps6
    go_wp2_with (go_at_call 13; refine fin _ ?_; intro w' hb)
    go_ret
    exact ⟨rfl, hb⟩
  · by_cases h2 : 30 < n
    · clear h
      go_enter Try.func6, Try.ntmps6
      go_wp2_with (go_at_call 13; refine fin _ ?_; intro w' hb)
      go_ret
      exact ⟨rfl, hb⟩
    · by_cases h3 : b < 0
      · clear h
        go_enter Try.func6, Try.ntmps6
        go_wp2_with (go_at_call 13; refine fin _ ?_; intro w' hb)
        go_ret
        exact ⟨rfl, hb⟩
      · have h4 : 40 < b := by simpa [h1, h2, h3] using h
        clear h
        go_enter Try.func6, Try.ntmps6
        go_wp2_with (go_at_call 13; refine fin _ ?_; intro w' hb)
        go_ret
        exact ⟨rfl, hb⟩

theorem clocksChain_any (n b : Int) (w : World) :
    Calls Try.prog 6 #[.int .i64 n, .int .i64 b] w fun e w' => e = .returned (.bool true) ∧ Below w.heap.size w w' := by
  by_cases h : (decide (n < 1) || decide (30 < n) || decide (b < 0) || decide (40 < b)) = true
  · exact clocksChain_out n b w h
  · simp only [Bool.or_eq_true, decide_eq_true_iff, not_or] at h
    obtain ⟨⟨⟨h1, h2⟩, h3⟩, h4⟩ := h
    obtain ⟨n, rfl⟩ := Int.eq_ofNat_of_zero_le (show 0 ≤ n by omega)
    obtain ⟨b, rfl⟩ := Int.eq_ofNat_of_zero_le (show 0 ≤ b by omega)
    exact clocksChain_in n b w (by omega) (by omega) (by omega)

end Go.Proofs.Ytkcaeeighjblkaa
