/- The law ClocksPassed: the walk. No condition. -/
import Derived.Test.YtkcaeeighjblkaaClkAloneWalk
namespace Go.Proofs.Ytkcaeeighjblkaa
open Go.RowKit

/-- All accesses are known to one that knows r. -/
def AllKnown (P : Acc) (r : List Int) : Prop := (∀ j, 0 ≤ r.getD j 0) ∧ ∀ c k : Int, needOf' (P c k) true ≤ r.getD k.toNat 0

def PassRel (w : World) (bo who L M : Nat) (wr : World) : Prop :=
  ∃ (st : OSt) (K : List (List Int)) (P : Acc) (N : Nat), st.bo = bo ∧ Ord wr st K P N ∧ N ≤ M ∧ K.length = L ∧ Below w.heap.size w wr ∧ (∀ k, st.fp k → w.heap.size ≤ k) ∧ AllKnown P (K.getD who [])

theorem need_le (p : Int × Int) (write : Bool) : needOf' p write ≤ needOf' p true := by
  cases write
  · show p.2 ≤ max p.2 p.1
    omega
  · exact Int.le_refl _

theorem AllKnown.next {P : Acc} {r : List Int} (h : AllKnown P r) (who : Nat) (cell : Int) (write : Bool) : AllKnown (AccNew P cell who write ((bump r who).getD who 0)) (bump r who) := by
  obtain ⟨h1, h2⟩ := h
  refine ⟨fun j => ?_, fun c k => ?_⟩
  · rw [bump_getD]
    have := h1 j
    split <;> omega
  · have hk := h2 c k
    rw [bump_getD, bump_getD, if_pos rfl]
    unfold AccNew
    by_cases e : c = cell ∧ k = who
    · rw [if_pos e]
      obtain ⟨rfl, rfl⟩ := e
      have hn : max (P c who).2 (P c who).1 ≤ r.getD who 0 := by
        have := h2 c who
        rw [Int.toNat_natCast] at this
        exact this
      rw [Int.toNat_natCast, if_pos rfl]
      cases write
      · show max (P c who).2 (r.getD who 0 + 1) ≤ _
        omega
      · show max (r.getD who 0 + 1) (P c who).1 ≤ _
        omega
    · rw [if_neg e]
      split <;> omega

theorem PassRel.acc {w wr w' : World} {bo who L M : Nat} {cell : Int} {write : Bool} {e : Ending} {st : OSt} {K : List (List Int)} {P : Acc} {N : Nat} (hw : who < L) (hM : N ≤ M) (hL : K.length = L) (hbo : st.bo = bo)
    (hb : Below w.heap.size w wr) (hp : ∀ k, st.fp k → w.heap.size ≤ k) (hP : AllKnown P (K.getD who []))
    (h : AccPost st K P N who cell write wr e w') : e = .returned (.bool true) ∧ PassRel w bo who L (M + 3) w' := by
  obtain ⟨st', ok, rfl, hbo', hO, hf, hp', hok⟩ := h
  have h3 : ok = true := hok.2 (fun k _ => .inr (by
    have h1 := need_le (P cell k) write
    have h2 := hP.2 cell k
    rw [bump_getD]
    split <;> omega))
  subst h3
  have hs := hb.size
  refine ⟨rfl, st', _, _, _, hbo'.trans hbo, hO, by omega, by rw [List.length_set]; exact hL, hb.trans (hf.below hs hp), fun k hk => ?_, ?_⟩
  · rcases hp' k hk with e | e
    · exact hp k e
    · omega
  · rw [getD_set_eq (by omega)]
    exact hP.next _ _ _

theorem write_pass {w wr : World} {bo who L M : Nat} {cell : Int} (h : PassRel w bo who L M wr) (hw : who < L) (hM : M ≤ 90000) (hc : wfi cell) :
    Calls Try.prog 16 #[.pointer (some ⟨bo, 0, none⟩), .int .i64 who, .int .i64 cell] wr fun e w' => e = .returned (.bool true) ∧ PassRel w bo who L (M + 3) w' := by
  obtain ⟨st, K, P, N, hbo, hO, hN, hL, hb, hp, hP⟩ := h
  exact (write_any bo st K P N who cell wr hbo hO (by omega) (by omega) hc).mono fun e w' h => PassRel.acc hw hN hL hbo hb hp hP h

/-- A start: the new one knows what the old one knew. -/
theorem start_pass {w wr : World} {bo L M : Nat} (h : PassRel w bo 0 L M wr) (hw : 0 < L) (hM : M ≤ 90000) :
    Calls Try.prog 17 #[.pointer (some ⟨bo, 0, none⟩), .int .i64 0] wr fun e w' => e = .returned (.int .i64 L) ∧ PassRel w bo L (L + 1) (M + 1) w' ∧ PassRel w bo 0 (L + 1) (M + 1) w' := by
  obtain ⟨st, K, P, N, hbo, hO, hN, hL, hb, hp, hP⟩ := h
  refine (start_at bo st K P N 0 wr hbo hO (by omega) (by omega)).mono ?_
  rintro e w' ⟨st', rfl, hbo', hO', hf, hp'⟩
  have hs := hb.size
  have hb' := hb.trans (hf.below hs hp)
  have hq : ∀ k, st'.fp k → w.heap.size ≤ k := fun k hk => by
    rcases hp' k hk with e | e
    · exact hp k e
    · omega
  refine ⟨by rw [hL], ⟨st', _, P, N + 1, hbo'.trans hbo, hO', by omega, by simp [hL], hb', hq, ?_⟩, ⟨st', _, P, N + 1, hbo'.trans hbo, hO', by omega, by simp [hL], hb', hq, ?_⟩⟩
  · rw [getD_snoc_eq hL.symm]; exact hP
  · rw [getD_snoc_lt (by omega)]; exact hP

/-- A send by the first and its receipt by the second. -/
def SentRel (w : World) (bo bc L M : Nat) (wr : World) : Prop :=
  ∃ (st : OSt) (K : List (List Int)) (P : Acc) (N B : Nat), st.bo = bo ∧ Ord wr st K P N ∧ N ≤ M ∧ K.length = L ∧ Below w.heap.size w wr ∧ (∀ k, st.fp k → w.heap.size ≤ k) ∧ AllKnown P (K.getD 0 []) ∧ ClockAt wr B bc (K.getD 0 [])

theorem send_pass {w wr : World} {bo L M : Nat} (h : PassRel w bo 0 L M wr) (hw : 0 < L) :
    Calls Try.prog 19 #[.pointer (some ⟨bo, 0, none⟩), .int .i64 0] wr fun e w' => ∃ bc, e = .returned (.pointer (some ⟨bc, 0, none⟩)) ∧ SentRel w bo bc L M w' := by
  obtain ⟨st, K, P, N, hbo, hO, hN, hL, hb, hp, hP⟩ := h
  refine (send_any bo st K P N 0 wr hbo hO (by omega)).mono ?_
  rintro e w' ⟨bc, rfl, hc, hb'⟩
  exact ⟨bc, rfl, st, K, P, N, _, hbo, hO.of_below hb', hN, hL, hb.trans (hb'.mono hb.size), hp, hP, hc⟩

theorem receive_pass {w wr : World} {bo bc L M who : Nat} (h : SentRel w bo bc L M wr) (hw : who < L) (hM : M ≤ 90000) :
    Calls Try.prog 18 #[.pointer (some ⟨bo, 0, none⟩), .int .i64 who, .pointer (some ⟨bc, 0, none⟩)] wr fun e w' => e = .returned (.tuple #[]) ∧ PassRel w bo who L M w' := by
  obtain ⟨st, K, P, N, B, hbo, hO, hN, hL, hb, hp, hP, hc⟩ := h
  refine (receive_any bo bc B st K P N who _ wr hbo hO (by omega) hc (hO.rlen 0) (hO.rval 0)).mono ?_
  rintro e w' ⟨st', rfl, hbo', hO', hf, hp'⟩
  have hs := hb.size
  refine ⟨rfl, st', _, P, N, hbo'.trans hbo, hO', hN, by rw [List.length_set]; exact hL, hb.trans (hf.below hs hp), fun k hk => ?_, ?_⟩
  · rcases hp' k hk with e | e
    · exact hp k e
    · omega
  · rw [getD_set_eq (by omega)]
    refine ⟨fun j => ?_, fun c k => ?_⟩
    · rw [maxL_getD]; have := hP.1 j; omega
    · rw [maxL_getD]; have := hP.2 c k; omega

theorem new_pass (w : World) : Calls Try.prog 14 #[] w fun e w' => ∃ bo, e = .returned (.pointer (some ⟨bo, 0, none⟩)) ∧ PassRel w bo 0 1 0 w' := by
  refine (new_any w).mono ?_
  rintro e w' ⟨st, rfl, hO, hb, hp⟩
  exact ⟨st.bo, rfl, st, [[]], acc0, 0, rfl, hO, Nat.le_refl _, rfl, hb, hp, fun j => by simp, fun c k => by simp [acc0, needOf']⟩

theorem PassRel.below {w wr : World} {bo who L M : Nat} (h : PassRel w bo who L M wr) : Below w.heap.size w wr := by
  obtain ⟨_, _, _, _, _, _, _, _, hb, _⟩ := h; exact hb

theorem PassRel.mono {w wr : World} {bo who L M M' : Nat} (h : PassRel w bo who L M wr) (hM : M ≤ M') : PassRel w bo who L M' wr := by
  obtain ⟨st, K, P, N, h1, h2, h3, h4⟩ := h
  exact ⟨st, K, P, N, h1, h2, Nat.le_trans h3 hM, h4⟩

set_option maxHeartbeats 1600000 in
set_option maxRecDepth 100000 in
theorem clocksPassed_true (a : Option Addr) (len cap : Nat) (f : Nat → Int × Int × Int) (a' : Option Addr) (len' cap' : Nat) (f' : Nat → Int × Int × Int) (w : World) (hs : IsSteps w a len cap f) (hs' : IsSteps w a' len' cap' f') (hl : len ≤ 200) (hl' : len' ≤ 200) :
    Calls Try.prog 5 #[.slice a len cap, .slice a' len' cap', .bool true] w fun e w' => e = .returned (.bool true) ∧ Below w.heap.size w w' := by
  have HS := Lib.hid hs
  have HS' := Lib.hid hs'
  clear hs hs'
  go_enter Try.func5, Try.ntmps5
  go_wp2_with (go_at_call 14; refine (new_pass w).mono ?_; rintro e w1 ⟨bo, rfl, hp⟩; have HP := Lib.hid hp; clear hp)

  go_loopg [9] len (fun g v9 wr => ∃ i : Nat, i ≤ len ∧ v9 = .int .i64 i ∧ g = len - i ∧ Hid (PassRel w bo 0 1 (0 + 3 * i) wr))
  case atStart => exact ⟨0, Nat.zero_le _, rfl, rfl, HP⟩
  case round =>
    obtain ⟨i, hi, rfl, hg, hrel⟩ := hrel
    by_cases hlt : i < len
    · have hbel := hrel.out.below
      rcases HS.out with ⟨_, h, _⟩ | ⟨x, hx, hl1, hl2, hcs⟩
      · omega
      subst hx
      obtain ⟨_, _, hc2, _, _, hw2⟩ := hcs i hlt
      obtain ⟨sb, Hf⟩ : ∃ t, Hid ((f i).2.2 = t) := ⟨_, Lib.hid rfl⟩
      rw [Hf.out] at hc2 hw2
      have hr2 := cell_below hbel rfl hc2
      rw [add_fld _ _ _ (by decide)] at hr2
      have HW := Lib.hid hw2
      clear hcs hc2 hbel hw2
      go_wp2_with (go_at_call 16; refine (write_pass (who := 0) hrel.out (by decide) (by omega) HW.out).mono ?_; rintro e w' ⟨rfl, hA⟩; have HA := Lib.hid hA; clear hA)
      go_roundg (len - (i + 1))
      case measure => omega
      case rel => exact ⟨i + 1, by omega, by go_num, rfl, Lib.hid (HA.out.mono (by omega))⟩
    · have HR := hrel
      clear hrel
      go_wp2_with (go_at_call 17; refine (start_pass (L := 1) (M := 0 + 3 * i) HR.out (by decide) (by omega)).mono ?_; rintro e w2 ⟨rfl, hA, hB⟩; have HA := Lib.hid hA; clear hA hB)
      have H2 : Hid (PassRel w bo 1 2 (601 + 3 * 0) w2) := Lib.hid (HA.out.mono (by omega))
      go_loopg [10] len' (fun g v10 wr => ∃ i : Nat, i ≤ len' ∧ v10 = .int .i64 i ∧ g = len' - i ∧ Hid (PassRel w bo 1 2 (601 + 3 * i) wr))
      case atStart => exact ⟨0, Nat.zero_le _, rfl, rfl, H2⟩
      case round =>
        obtain ⟨i, hi, rfl, hg, hrel⟩ := hrel
        by_cases hlt : i < len'
        · have hbel := hrel.out.below
          rcases HS'.out with ⟨_, h, _⟩ | ⟨x, hx, hl1, hl2, hcs⟩
          · omega
          subst hx
          obtain ⟨_, _, hc2, _, _, hw2⟩ := hcs i hlt
          obtain ⟨sb, Hf⟩ : ∃ t, Hid ((f' i).2.2 = t) := ⟨_, Lib.hid rfl⟩
          rw [Hf.out] at hc2 hw2
          have hr2 := cell_below hbel rfl hc2
          rw [add_fld _ _ _ (by decide)] at hr2
          have HW := Lib.hid hw2
          clear hcs hc2 hbel hw2
          go_wp2_with (go_at_call 16; refine (write_pass (who := 1) hrel.out (by decide) (by omega) HW.out).mono ?_; rintro e w' ⟨rfl, hA⟩; have HA := Lib.hid hA; clear hA)
          go_roundg (len' - (i + 1))
          case measure => omega
          case rel => exact ⟨i + 1, by omega, by go_num, rfl, Lib.hid (HA.out.mono (by omega))⟩
        · have HR := hrel
          clear hrel
          go_wp2_with (go_at_call 13; refine (awake_any _).mono ?_; rintro e w' ⟨rfl, hb⟩)
          go_ret
          exact ⟨rfl, HR.out.below.trans (Below.mono hb HR.out.below.size)⟩

set_option maxHeartbeats 1600000 in
set_option maxRecDepth 100000 in
theorem clocksPassed_false (a : Option Addr) (len cap : Nat) (f : Nat → Int × Int × Int) (a' : Option Addr) (len' cap' : Nat) (f' : Nat → Int × Int × Int) (w : World) (hs : IsSteps w a len cap f) (hs' : IsSteps w a' len' cap' f') (hl : len ≤ 200) (hl' : len' ≤ 200) :
    Calls Try.prog 5 #[.slice a len cap, .slice a' len' cap', .bool false] w fun e w' => e = .returned (.bool true) ∧ Below w.heap.size w w' := by
  have HS := Lib.hid hs
  have HS' := Lib.hid hs'
  clear hs hs'
  go_enter Try.func5, Try.ntmps5
  go_wp2_with first
    | (go_at_call 14; refine (new_pass w).mono ?_; rintro e w1 ⟨bo, rfl, hp⟩; have HP := Lib.hid hp; clear hp)
    | (go_at_call 17; refine (start_pass (L := 1) (M := 0) HP.out (by decide) (by omega)).mono ?_; rintro e w2 ⟨rfl, hA, hB⟩; have HA := Lib.hid hB; clear hA hB)

  go_loopg [9] len (fun g v9 wr => ∃ i : Nat, i ≤ len ∧ v9 = .int .i64 i ∧ g = len - i ∧ Hid (PassRel w bo 0 2 (1 + 3 * i) wr))
  case atStart => exact ⟨0, Nat.zero_le _, rfl, rfl, HA⟩
  case round =>
    obtain ⟨i, hi, rfl, hg, hrel⟩ := hrel
    by_cases hlt : i < len
    · have hbel := hrel.out.below
      rcases HS.out with ⟨_, h, _⟩ | ⟨x, hx, hl1, hl2, hcs⟩
      · omega
      subst hx
      obtain ⟨_, _, hc2, _, _, hw2⟩ := hcs i hlt
      obtain ⟨sb, Hf⟩ : ∃ t, Hid ((f i).2.2 = t) := ⟨_, Lib.hid rfl⟩
      rw [Hf.out] at hc2 hw2
      have hr2 := cell_below hbel rfl hc2
      rw [add_fld _ _ _ (by decide)] at hr2
      have HW := Lib.hid hw2
      clear hcs hc2 hbel hw2
      go_wp2_with (go_at_call 16; refine (write_pass (who := 0) hrel.out (by decide) (by omega) HW.out).mono ?_; rintro e w' ⟨rfl, hA⟩; have HA := Lib.hid hA; clear hA)
      go_roundg (len - (i + 1))
      case measure => omega
      case rel => exact ⟨i + 1, by omega, by go_num, rfl, Lib.hid (HA.out.mono (by omega))⟩
    · have HR := hrel
      clear hrel
      go_wp2_with first
        | (go_at_call 19; refine (send_pass (L := 2) (M := 1 + 3 * i) HR.out (by decide)).mono ?_; rintro e w3 ⟨bc, rfl, hA⟩; have HB := Lib.hid hA; clear hA)
        | (go_at_call 18; refine (receive_pass (L := 2) (M := 1 + 3 * i) (who := 1) HB.out (by decide) (by omega)).mono ?_; rintro e w4 ⟨rfl, hA⟩; have HC := Lib.hid hA; clear hA)
      have H2 : Hid (PassRel w bo 1 2 (601 + 3 * 0) w4) := Lib.hid (HC.out.mono (by omega))
      go_loopg [10] len' (fun g v10 wr => ∃ i : Nat, i ≤ len' ∧ v10 = .int .i64 i ∧ g = len' - i ∧ Hid (PassRel w bo 1 2 (601 + 3 * i) wr))
      case atStart => exact ⟨0, Nat.zero_le _, rfl, rfl, H2⟩
      case round =>
        obtain ⟨i, hi, rfl, hg, hrel⟩ := hrel
        by_cases hlt : i < len'
        · have hbel := hrel.out.below
          rcases HS'.out with ⟨_, h, _⟩ | ⟨x, hx, hl1, hl2, hcs⟩
          · omega
          subst hx
          obtain ⟨_, _, hc2, _, _, hw2⟩ := hcs i hlt
          obtain ⟨sb, Hf⟩ : ∃ t, Hid ((f' i).2.2 = t) := ⟨_, Lib.hid rfl⟩
          rw [Hf.out] at hc2 hw2
          have hr2 := cell_below hbel rfl hc2
          rw [add_fld _ _ _ (by decide)] at hr2
          have HW := Lib.hid hw2
          clear hcs hc2 hbel hw2
          go_wp2_with (go_at_call 16; refine (write_pass (who := 1) hrel.out (by decide) (by omega) HW.out).mono ?_; rintro e w' ⟨rfl, hA⟩; have HA := Lib.hid hA; clear hA)
          go_roundg (len' - (i + 1))
          case measure => omega
          case rel => exact ⟨i + 1, by omega, by go_num, rfl, Lib.hid (HA.out.mono (by omega))⟩
        · have HR := hrel
          clear hrel
          go_wp2_with (go_at_call 13; refine (awake_any _).mono ?_; rintro e w' ⟨rfl, hb⟩)
          go_ret
          exact ⟨rfl, HR.out.below.trans (Below.mono hb HR.out.below.size)⟩

set_option maxHeartbeats 1600000 in
set_option maxRecDepth 100000 in
theorem clocksPassed_any (a : Option Addr) (len cap : Nat) (f : Nat → Int × Int × Int) (a' : Option Addr) (len' cap' : Nat) (f' : Nat → Int × Int × Int) (s : Bool) (w : World) (hs : IsSteps w a len cap f) (hs' : IsSteps w a' len' cap' f') :
    Calls Try.prog 5 #[.slice a len cap, .slice a' len' cap', .bool s] w fun e w' => e = .returned (.bool true) ∧ Below w.heap.size w w' := by
  have hlm : len ≤ maxLen := by rcases hs with ⟨_, h, _⟩ | ⟨x, _, h1, h2, _⟩ <;> omega
  have hlm' : len' ≤ maxLen := by rcases hs' with ⟨_, h, _⟩ | ⟨x, _, h1, h2, _⟩ <;> omega
  by_cases hl : (200 : Int) < len
  · clear hs hs'
    go_enter Try.func5, Try.ntmps5
    go_wp2_with (go_at_call 13; refine (awake_any _).mono ?_; rintro e w' ⟨rfl, hb⟩)
    go_ret
    exact ⟨rfl, hb⟩
  · by_cases hl' : (200 : Int) < len'
    · clear hs hs'
      go_enter Try.func5, Try.ntmps5
      go_wp2_with (go_at_call 13; refine (awake_any _).mono ?_; rintro e w' ⟨rfl, hb⟩)
      go_ret
      exact ⟨rfl, hb⟩
    · cases s
      · exact clocksPassed_false a len cap f a' len' cap' f' w hs hs' (by omega) (by omega)
      · exact clocksPassed_true a len cap f a' len' cap' f' w hs hs' (by omega) (by omega)

end Go.Proofs.Ytkcaeeighjblkaa
