/- (*clocks.Order).Read, Write: by access; access of a goroutine that is none; recastlaw16.awake. -/
import Derived.Test.YtkcaeeighjblkaaClkAcc
namespace Go.Proofs.Ytkcaeeighjblkaa
open Go.RowKit

theorem wfi_small {k : Int} (h : -1000000 ≤ k ∧ k ≤ 1000000) : wfi k := WalkArith.wf_i64 ⟨by omega, by omega⟩

theorem access_bad (st : OSt) (K : List (List Int)) (P : Acc) (N : Nat) (who cell : Int) (write : Bool) (w : World) (h : Ord w st K P N) (hb : who < 0 ∨ (K.length : Int) ≤ who) :
    Calls Try.prog 28 #[.pointer (some ⟨st.bo, 0, none⟩), .int .i64 who, .int .i64 cell, .bool write] w fun e w' => e = .returned (.bool true) ∧ w = w' := by
  have hk := h.klen
  have hs := h.small
  have h0 := h.c0
  have hd : (decide (0 ≤ who) && decide (who < (K.length : Int))) = false := by grind
  clear h hb
  go_enter Try.func28, Try.ntmps28
  go_wp2_with (go_at_call 29; refine (is_any _ _ _ _ _ _ h0 (by omega)).mono ?_; rintro e w' ⟨rfl, rfl⟩)
  go_ret
  exact ⟨rfl, rfl⟩
theorem access_nil (who cell : Int) (write : Bool) (w : World) :
    Calls Try.prog 28 #[.pointer none, .int .i64 who, .int .i64 cell, .bool write] w fun e w' => e = .returned (.bool true) ∧ w = w' := by
  go_enter Try.func28, Try.ntmps28
  go_wp2_with (go_at_call 29; refine (is_nil _ _).mono ?_; rintro e w' ⟨rfl, rfl⟩)
  go_ret
  exact ⟨rfl, rfl⟩

/-- Read and Write hand on what access tells. -/
theorem read_of (p : Value) (who cell : Int) (w : World) (R : Ending → World → Prop) (h : Calls Try.prog 28 #[p, .int .i64 who, .int .i64 cell, .bool false] w (fun e w' => ∃ ok : Bool, e = .returned (.bool ok) ∧ R e w')) :
    Calls Try.prog 15 #[p, .int .i64 who, .int .i64 cell] w R := by
  have H := Lib.hid h
  clear h
  go_enter Try.func15, Try.ntmps15
  go_wp2_with fail
  refine H.out.mono ?_
  rintro e w' ⟨ok, rfl, hR⟩
  have HR := Lib.hid hR
  clear hR H
  go_wp2_with fail
  exact HR.out
theorem write_of (p : Value) (who cell : Int) (w : World) (R : Ending → World → Prop) (h : Calls Try.prog 28 #[p, .int .i64 who, .int .i64 cell, .bool true] w (fun e w' => ∃ ok : Bool, e = .returned (.bool ok) ∧ R e w')) :
    Calls Try.prog 16 #[p, .int .i64 who, .int .i64 cell] w R := by
  have H := Lib.hid h
  clear h
  go_enter Try.func16, Try.ntmps16
  go_wp2_with fail
  refine H.out.mono ?_
  rintro e w' ⟨ok, rfl, hR⟩
  have HR := Lib.hid hR
  clear hR H
  go_wp2_with fail
  exact HR.out

theorem read_any (bo : Nat) (st : OSt) (K : List (List Int)) (P : Acc) (N who : Nat) (cell : Int) (w : World) (hbo : st.bo = bo) (h : Ord w st K P N) (hw : who < K.length) (hN : N + 3 ≤ 100000) (hc : wfi cell) :
    Calls Try.prog 15 #[.pointer (some ⟨bo, 0, none⟩), .int .i64 who, .int .i64 cell] w (AccPost st K P N who cell false w) := by
  subst hbo
  exact read_of _ _ _ _ _ ((access_any st K P N who cell false w h hw hN hc).mono fun e w' hp => by obtain ⟨st', ok, rfl, r⟩ := hp; exact ⟨ok, rfl, st', ok, rfl, r⟩)
theorem write_any (bo : Nat) (st : OSt) (K : List (List Int)) (P : Acc) (N who : Nat) (cell : Int) (w : World) (hbo : st.bo = bo) (h : Ord w st K P N) (hw : who < K.length) (hN : N + 3 ≤ 100000) (hc : wfi cell) :
    Calls Try.prog 16 #[.pointer (some ⟨bo, 0, none⟩), .int .i64 who, .int .i64 cell] w (AccPost st K P N who cell true w) := by
  subst hbo
  exact write_of _ _ _ _ _ ((access_any st K P N who cell true w h hw hN hc).mono fun e w' hp => by obtain ⟨st', ok, rfl, r⟩ := hp; exact ⟨ok, rfl, st', ok, rfl, r⟩)
theorem read_nil (who cell : Int) (w : World) : Calls Try.prog 15 #[.pointer none, .int .i64 who, .int .i64 cell] w fun e w' => e = .returned (.bool true) ∧ w = w' :=
  read_of _ _ _ _ _ ((access_nil who cell false w).mono fun e w' ⟨h1, h2⟩ => ⟨true, h1, h1, h2⟩)
theorem write_nil (who cell : Int) (w : World) : Calls Try.prog 16 #[.pointer none, .int .i64 who, .int .i64 cell] w fun e w' => e = .returned (.bool true) ∧ w = w' :=
  write_of _ _ _ _ _ ((access_nil who cell true w).mono fun e w' ⟨h1, h2⟩ => ⟨true, h1, h1, h2⟩)

theorem start_at (bo : Nat) (st : OSt) (K : List (List Int)) (P : Acc) (N b : Nat) (w : World) (hbo : st.bo = bo) (h : Ord w st K P N) (hb : b < K.length) (hN : N < 100000) :
    Calls Try.prog 17 #[.pointer (some ⟨bo, 0, none⟩), .int .i64 b] w (StartPost st K P N b w) := by
  subst hbo; exact start_any st K P N b w h hb hN

def Awake (w : World) (e : Ending) (w' : World) : Prop := e = .returned (.bool true) ∧ Below w.heap.size w w'

theorem need0 (write : Bool) : needOf' (0, 0) write = 0 := by cases write <;> rfl

set_option maxHeartbeats 800000 in
theorem awake_any (w : World) : Calls Try.prog 13 #[] w (Awake w) := by
  go_enter Try.func13, Try.ntmps13
  go_wp2_with fail
  refine (new_any w).mono ?_
  rintro e w1 ⟨st1, rfl, hO1, hb1, hp1⟩
  have HP1 := Lib.hid hp1
  have Hb1 := Lib.hid hb1
  clear hp1 hb1
  go_wp2_with fail
  refine (start_at _ st1 _ _ 0 0 w1 rfl hO1 (by decide) (by decide)).mono ?_
  rintro e w2 ⟨st2, rfl, hbo2, hO2, hf2, hp2⟩
  have HH2 := Lib.hid (And.intro hbo2 (And.intro hf2 hp2))
  clear hbo2 hf2 hp2 hO1
  go_wp2_with fail
  refine (write_any _ st2 _ _ 1 0 7 w2 HH2.out.1 hO2 (by decide) (by decide) (wfi_small (by omega))).mono ?_
  rintro e w3 ⟨st3, ok3, rfl, hbo3, hO3, hf3, hp3, hok3⟩
  have h3 : ok3 = true := hok3.2 (fun k _ => .inr (by
    have : needOf' (acc0 7 k) true = 0 := need0 true
    rw [this]
    have := (hO3.rval 0 k.toNat).1
    simpa using this))
  subst h3
  have HH3 := Lib.hid (And.intro hbo3 (And.intro hf3 hp3))
  clear hbo3 hf3 hp3 hok3 hO2
  go_wp2_with fail
  refine (read_any _ st3 _ _ 4 1 7 w3 (HH3.out.1.trans HH2.out.1) hO3 (by simp) (by decide) (wfi_small (by omega))).mono ?_
  rintro e w4 ⟨st4, ok4, rfl, hbo4, hO4, hf4, hp4, hok4⟩
  have h4 : ok4 = false := by
    cases ok4 with
    | false => rfl
    | true =>
      have h := hok4.1 rfl 0 (wfi_small (by omega))
      rcases h with h | h
      · cases h
      · revert h
        simp [AccNew, needOf', acc0, bump, padTo]
  subst h4
  have hfin : Below w.heap.size w w4 := by
    have hF1 := Hb1.out
    have f2 := HH2.out.2.1
    have f3 := HH3.out.2.1
    have p2 := HH2.out.2.2
    have p3 := HH3.out.2.2
    have hs1 := hF1.size
    have hs2 := f2.size
    have b2 : Below w.heap.size w1 w2 := f2.below hs1 HP1.out
    have q2 : ∀ k, st2.fp k → w.heap.size ≤ k := fun k hk => by rcases p2 k hk with e | e; exact HP1.out k e; omega
    have b3 : Below w.heap.size w2 w3 := f3.below (by omega) q2
    have q3 : ∀ k, st3.fp k → w.heap.size ≤ k := fun k hk => by rcases p3 k hk with e | e; exact q2 k e; omega
    have hs3 := f3.size
    have b4 : Below w.heap.size w3 w4 := hf4.below (by omega) q3
    exact ((hF1.trans b2).trans b3).trans b4
  have Hfin := Lib.hid hfin
  clear hfin hok4 hO4 hf4 hp4 hbo4 hO3
  go_wp2
  go_ret
  exact ⟨rfl, Hfin.out⟩

end Go.Proofs.Ytkcaeeighjblkaa
