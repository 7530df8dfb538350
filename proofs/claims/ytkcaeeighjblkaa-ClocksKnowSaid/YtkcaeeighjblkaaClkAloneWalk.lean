/- The law ClocksAlone: the walk. No condition. -/
import Derived.Test.YtkcaeeighjblkaaClkClock
namespace Go.Proofs.Ytkcaeeighjblkaa
open Go.RowKit

/-- WHAT A WALK IS TOLD OF A SLICE OF STEPS THAT CAME IN. -/
def IsSteps (w : World) (a : Option Addr) (len cap : Nat) (f : Nat → Int × Int × Int) : Prop :=
  (a = none ∧ len = 0 ∧ cap = 0) ∨
  ∃ x, a = some x ∧ len ≤ cap ∧ cap ≤ maxLen ∧ ∀ i, i < len →
    w.cell? (x.add (i * 3)) = some (.int .i64 (f i).1) ∧ w.cell? (x.add (i * 3 + 1)) = some (.int .i64 (f i).2.1) ∧ w.cell? (x.add (i * 3 + 2)) = some (.int .i64 (f i).2.2) ∧ wfi (f i).1 ∧ wfi (f i).2.1 ∧ wfi (f i).2.2

theorem add_fld (x : Addr) (a j : Nat) (h : 0 < j) : x.add (a + j) = ⟨(x.add a).block, (x.add a).off + j, none⟩ := by
  unfold Addr.add
  by_cases h0 : a = 0
  · subst h0; rw [if_neg (by omega), if_pos rfl, Nat.zero_add]
  · rw [if_neg (by omega), if_neg h0, Nat.add_assoc]

def AloneRel (w : World) (bo i : Nat) (wr : World) : Prop :=
  ∃ (st : OSt) (r : List Int) (P : Acc), st.bo = bo ∧ Ord wr st [r] P (3 * i) ∧ Below w.heap.size w wr ∧ (∀ k, st.fp k → w.heap.size ≤ k) ∧ ∀ c k : Int, k ≠ 0 → P c k = (0, 0)

/-- One more access. -/
theorem AloneRel.next {w wr w' : World} {bo i : Nat} {st : OSt} {r : List Int} {P : Acc} {cell : Int} {write : Bool} {e : Ending} (hbo : st.bo = bo) (hr : ∀ j, 0 ≤ r.getD j 0) (hb : Below w.heap.size w wr) (hp : ∀ k, st.fp k → w.heap.size ≤ k) (hP : ∀ c k : Int, k ≠ 0 → P c k = (0, 0))
    (h : AccPost st [r] P (3 * i) 0 cell write wr e w') : e = .returned (.bool true) ∧ AloneRel w bo (i + 1) w' := by
  obtain ⟨st', ok, rfl, hbo', hO, hf, hp', hok⟩ := h
  have h3 : ok = true := hok.2 (fun k _ => by
    by_cases e : k = 0
    · exact .inl e
    · refine .inr ?_
      rw [hP _ _ e, need0]
      show 0 ≤ (bump r 0).getD k.toNat 0
      rw [bump_getD]
      have := hr k.toNat
      split <;> omega)
  subst h3
  have hs := hb.size
  refine ⟨rfl, st', bump r 0, _, hbo'.trans hbo, hO, hb.trans (hf.below hs hp), fun k hk => ?_, fun c k e => ?_⟩
  · rcases hp' k hk with e | e
    · exact hp k e
    · omega
  · show (if c = cell ∧ k = 0 then _ else _) = _
    rw [if_neg (fun h => e h.2)]
    exact hP c k e

set_option maxHeartbeats 800000 in
set_option maxRecDepth 100000 in
theorem clocksAlone_any (a : Option Addr) (len cap : Nat) (f : Nat → Int × Int × Int) (w : World) (hs : IsSteps w a len cap f) :
    Calls Try.prog 4 #[.slice a len cap] w fun e w' => e = .returned (.bool true) ∧ Below w.heap.size w w' := by
  have hlm : len ≤ maxLen := by rcases hs with ⟨_, h, _⟩ | ⟨x, _, h1, h2, _⟩ <;> omega
  by_cases hlen : (200 : Int) < len
  · clear hs
    go_enter Try.func4, Try.ntmps4
    go_wp2_with (go_at_call 13; refine (awake_any _).mono ?_; rintro e w' ⟨rfl, hb⟩)
    go_ret
    exact ⟨rfl, hb⟩
  have HS := Lib.hid hs
  clear hs
  go_enter Try.func4, Try.ntmps4
  go_wp2_with (go_at_call 14; refine (new_any w).mono ?_; rintro e w1 ⟨st1, rfl, hO1, hb1, hp1⟩; refine hold ?_)
  obtain ⟨bo, hbo⟩ : ∃ bo, st1.bo = bo := ⟨_, rfl⟩
  have H0 : AloneRel w bo 0 w1 := ⟨st1, [], acc0, hbo, hO1, hb1, hp1, fun _ _ _ => rfl⟩
  have HH0 := Lib.hid H0
  rw [hbo]
  clear hO1 hb1 hp1 hbo H0
  refine Hold.mk ?_
  go_wp2_with fail
  go_loopg [4] len (fun g v4 wr => ∃ i : Nat, i ≤ len ∧ v4 = .int .i64 i ∧ g = len - i ∧ Hid (AloneRel w bo i wr))
  case atStart => exact ⟨0, Nat.zero_le _, rfl, rfl, HH0⟩
  case round =>
    obtain ⟨i, hi, rfl, hg, hrel⟩ := hrel
    by_cases hlt : i < len
    · obtain ⟨st, r, P, hbo, hO, hbel, hfp, hP⟩ := hrel.out
      rcases HS.out with ⟨_, h, _⟩ | ⟨x, hx, hl1, hl2, hcs⟩
      · omega
      subst hx
      obtain ⟨hc0, hc1, hc2, hw0, _, hw2⟩ := hcs i hlt
      obtain ⟨⟨kd, sa, sb⟩, Hf⟩ : ∃ t, Hid (f i = t) := ⟨_, Lib.hid rfl⟩
      rw [Hf.out] at hc0 hc1 hc2 hw0 hw2
      have hr0 := cell_below hbel rfl hc0
      have hr2 := cell_below hbel rfl hc2
      rw [add_fld _ _ _ (by decide)] at hr2
      have HN := Lib.hid (show ∀ (write : Bool) (e : Ending) (w' : World), AccPost st [r] P (3 * i) 0 sb write wr e w' → e = .returned (.bool true) ∧ AloneRel w bo (i + 1) w' ∧ w'.cell? (x.add (i * 3)) = some (.int .i64 kd) from
        fun write e w' h => by
          have h1 := AloneRel.next hbo (fun j => (hO.rval 0 j).1) hbel hfp hP h
          obtain ⟨_, _, _, _, _, hb', _⟩ := h1.2
          exact ⟨h1.1, h1.2, cell_below hb' rfl hc0⟩)
      have HB := Lib.hid hbo
      have HO := Lib.hid hO
      have HW := Lib.hid hw2
      clear hcs hc0 hc1 hc2 hO hbel hfp hP hrel hw0 hw2 hbo
      by_cases hk : kd.tmod 2 = 0
      · go_wp2_with (go_at_call 15; refine (read_any bo st [r] P (3 * i) 0 sb wr HB.out HO.out (by simp) (by omega) HW.out).mono ?_; rintro e w' hp; obtain ⟨rfl, hA, hr0'⟩ := HN.out _ _ _ hp; have HA := Lib.hid hA; clear hA hp)
        go_roundg (len - (i + 1))
        case measure => omega
        case rel => exact ⟨i + 1, by omega, by go_num, rfl, HA⟩
      · go_wp2_with (go_at_call 16; refine (write_any bo st [r] P (3 * i) 0 sb wr HB.out HO.out (by simp) (by omega) HW.out).mono ?_; rintro e w' hp; obtain ⟨rfl, hA, hr0'⟩ := HN.out _ _ _ hp; have HA := Lib.hid hA; clear hA hp)
        go_roundg (len - (i + 1))
        case measure => omega
        case rel => exact ⟨i + 1, by omega, by go_num, rfl, HA⟩
    · obtain ⟨_, _, _, _, _, hbel, _⟩ := hrel.out
      have Hb := Lib.hid hbel
      clear hbel
      go_wp2_with (go_at_call 13; refine (awake_any _).mono ?_; rintro e w' ⟨rfl, hb⟩)
      go_ret
      exact ⟨rfl, Hb.out.trans (Below.mono hb Hb.out.size)⟩
end Go.Proofs.Ytkcaeeighjblkaa
