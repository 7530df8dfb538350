/- The walk of recastlaw18.PlanNames: it returns true at every text, and leaves the world as it is. -/
import Derived.Test.YtkcaeeighjblkaaScanIdent
namespace Go.Proofs.Ytkcaeeighjblkaa
open Go.RowKit

def univT (l : List UInt8) : Bool := l == [105, 110, 116] || l == [115, 116, 114, 105, 110, 103] || l == [98, 111, 111, 108] || l == [97, 110, 121]
def univC (l : List UInt8) : Bool := l == [116, 114, 117, 101] || l == [102, 97, 108, 115, 101]
def univF (l : List UInt8) : Bool := l == [97, 112, 112, 101, 110, 100] || l == [99, 108, 111, 115, 101] || l == [108, 101, 110] || l == [109, 97, 107, 101] || l == [110, 101, 119] || l == [112, 97, 110, 105, 99] || l == [112, 114, 105, 110, 116] || l == [114, 101, 97, 100] || l == [114, 101, 99, 111, 118, 101, 114]
def univV (l : List UInt8) : Bool := l == [110, 105, 108]
def univP (l : List UInt8) : Bool := l == [99, 111, 109, 112, 97, 114, 97, 98, 108, 101]
/-- What a name of the universe is. -/
def univ (l : List UInt8) : Int := if univT l then 4 else if univP l then 9 else if univC l then 3 else if univV l then 2 else if univF l then 5 else 0

theorem univ_of {l m : List UInt8} {n : Int} (h : (l == m) = true) (hm : univ m = n) : univ l = n := by
  have : l = m := by simpa using h
  rw [this]; exact hm

set_option maxHeartbeats 400000 in
theorem universe_any (s : ByteArray) (w : World) :
    Calls Try.prog 25 #[.string s] w fun e w' => e = .returned (.int .i64 (univ s.toList)) ∧ w = w' := by
  go_enter Try.func25, Try.ntmps25
  go_wp2
  all_goals (go_ret; refine ⟨ret_int ?_, rfl⟩; first | (symm; refine univ_of ‹(_ == _) = true› ?_; decide) | simp_all [univ, univT, univP, univC, univV, univF])

set_option maxHeartbeats 400000 in
theorem runiverse_any (s : ByteArray) (w : World) :
    Calls Try.prog 27 #[.string s] w fun e w' => e = .returned (.int .i64 (univ s.toList)) ∧ w = w' := by
  go_enter Try.func27, Try.ntmps27
  go_wp2
  all_goals (go_ret; refine ⟨ret_int ?_, rfl⟩; first | (symm; refine univ_of ‹(_ == _) = true› ?_; decide) | simp_all [univ, univT, univP, univC, univV, univF])

/-- May a name be given? -/
def nameB (s : ByteArray) : Bool := identB s && (!(s.toList == [95]) && (univ s.toList == 0))

theorem name10_any (s : ByteArray) (w : World) (hs : s.size ≤ maxLen) :
    Calls Try.prog 10 #[.string s] w fun e w' => e = .returned (.bool (nameB s)) ∧ w = w' := by
  go_enter Try.func10, Try.ntmps10
  go_wp2_with (first | (go_at_call 24; refine (ident_any _ _ hs).mono ?_; rintro e w' ⟨rfl, rfl⟩) | (go_at_call 25; refine (universe_any _ _).mono ?_; rintro e w' ⟨rfl, rfl⟩))
  all_goals (go_ret; refine ⟨ret_bool ?_, rfl⟩; unfold nameB; grind)

theorem name11_any (s : ByteArray) (w : World) (hs : s.size ≤ maxLen) :
    Calls Try.prog 11 #[.string s] w fun e w' => e = .returned (.bool (nameB s)) ∧ w = w' := by
  go_enter Try.func11, Try.ntmps11
  go_wp2_with (first | (go_at_call 26; refine (rident_any _ _ hs).mono ?_; rintro e w' ⟨rfl, rfl⟩) | (go_at_call 27; refine (runiverse_any _ _).mono ?_; rintro e w' ⟨rfl, rfl⟩))
  all_goals (go_ret; refine ⟨ret_bool ?_, rfl⟩; unfold nameB; grind)

theorem nm1 : nameB ⟨#[97, 98, 99]⟩ = true := by decide +kernel
theorem nm2 : nameB ⟨#[105, 110, 116]⟩ = false := by decide +kernel
theorem nm3 : nameB ⟨#[95]⟩ = false := by decide +kernel
theorem nm4 : nameB ⟨#[102, 117, 110, 99]⟩ = false := by decide +kernel
theorem n3 : (ByteArray.mk #[97, 98, 99]).size ≤ maxLen := by decide

theorem planAwake_any (w : World) :
    Calls Try.prog 12 #[] w fun e w' => e = .returned (.bool true) ∧ w = w' := by
  have h1 := nm1
  have h2 := nm2
  have h3 := nm3
  have h4 := nm4
  go_enter Try.func12, Try.ntmps12
  go_wp2_with (first | (go_at_call 10; refine (name10_any _ _ (by decide)).mono ?_; rintro e w' ⟨rfl, rfl⟩))
  go_ret
  exact ⟨rfl, rfl⟩

theorem planNames_any (s : ByteArray) (w : World) (hs : s.size ≤ maxLen) :
    Calls Try.prog 3 #[.string s] w fun e w' => e = .returned (.bool true) ∧ w = w' := by
  have hm := hs
  unfold maxLen at hm
  go_enter Try.func3, Try.ntmps3
  go_wp2_with (first | (go_at_call 10; refine (name10_any _ _ hs).mono ?_; rintro e w' ⟨rfl, rfl⟩) | (go_at_call 11; refine (name11_any _ _ hs).mono ?_; rintro e w' ⟨rfl, rfl⟩) | (go_at_call 12; refine (planAwake_any _).mono ?_; rintro e w' ⟨rfl, rfl⟩))
  all_goals (go_ret; exact ⟨by simp, rfl⟩)

end Go.Proofs.Ytkcaeeighjblkaa
