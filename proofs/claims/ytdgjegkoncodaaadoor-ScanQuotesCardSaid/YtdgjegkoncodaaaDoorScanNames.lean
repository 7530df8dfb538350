/- The contracts of the functions that tell names: letters, digits, words, identifiers, in the program's scan and in the reference. No condition. -/
import Derived.Test.YtdgjegkoncodaaaDoorRows
import Derived.WalkKit
import Derived.WalkSpells
import Derived.WalkLawsBesides
import Derived.Lib.Hide
namespace Go.Proofs.YtdgjegkoncodaaaDoor
open Go.RowKit

def letterB (n : Int) : Bool := (decide (97 ≤ n) && decide (n ≤ 122)) || (decide (65 ≤ n) && decide (n ≤ 90)) || (n == 95)
def digitB (n : Int) : Bool := decide (48 ≤ n) && decide (n ≤ 57)
def wordB (l : List UInt8) : Bool := (l == [98, 114, 101, 97, 107]) || (l == [99, 97, 115, 101]) || (l == [99, 104, 97, 110]) || (l == [99, 111, 110, 115, 116]) || (l == [99, 111, 110, 116, 105, 110, 117, 101]) || (l == [100, 101, 102, 97, 117, 108, 116]) || (l == [100, 101, 102, 101, 114]) || (l == [101, 108, 115, 101]) || (l == [102, 97, 108, 108, 116, 104, 114, 111, 117, 103, 104]) || (l == [102, 111, 114]) || (l == [102, 117, 110, 99]) || (l == [103, 111]) || (l == [103, 111, 116, 111]) || (l == [105, 102]) || (l == [105, 109, 112, 111, 114, 116]) || (l == [105, 110, 116, 101, 114, 102, 97, 99, 101]) || (l == [109, 97, 112]) || (l == [112, 97, 99, 107, 97, 103, 101]) || (l == [114, 97, 110, 103, 101]) || (l == [114, 101, 116, 117, 114, 110]) || (l == [115, 101, 108, 101, 99, 116]) || (l == [115, 116, 114, 117, 99, 116]) || (l == [115, 119, 105, 116, 99, 104]) || (l == [116, 121, 112, 101]) || (l == [118, 97, 114])

theorem ret_bool {a b : Bool} (h : a = b) : Ending.returned (.bool a) = .returned (.bool b) := by rw [h]
theorem ret_int {k : IntKind} {a b : Int} (h : a = b) : Ending.returned (.int k a) = .returned (.int k b) := by rw [h]

theorem letter_any (n : Int) (w : World) :
    Calls Tryd.prog 45 #[.int .u8 n] w fun e w' => e = .returned (.bool (letterB n)) ∧ w = w' := by
  go_enter Tryd.func45, Tryd.ntmps45
  go_wp2
  all_goals (go_ret; exact ⟨ret_bool (by rw [Bool.eq_iff_iff]; simp [letterB]; omega), rfl⟩)

theorem rletter_any (n : Int) (w : World) :
    Calls Tryd.prog 28 #[.int .u8 n] w fun e w' => e = .returned (.bool (letterB n)) ∧ w = w' := by
  go_enter Tryd.func28, Tryd.ntmps28
  go_wp2
  all_goals (go_ret; exact ⟨ret_bool (by rw [Bool.eq_iff_iff]; simp [letterB]; omega), rfl⟩)

theorem digit_any (n : Int) (w : World) :
    Calls Tryd.prog 46 #[.int .u8 n] w fun e w' => e = .returned (.bool (digitB n)) ∧ w = w' := by
  go_enter Tryd.func46, Tryd.ntmps46
  go_wp2
  all_goals (go_ret; exact ⟨ret_bool (by rw [Bool.eq_iff_iff]; simp [digitB]; omega), rfl⟩)

theorem rdigit_any (n : Int) (w : World) :
    Calls Tryd.prog 29 #[.int .u8 n] w fun e w' => e = .returned (.bool (digitB n)) ∧ w = w' := by
  go_enter Tryd.func29, Tryd.ntmps29
  go_wp2
  all_goals (go_ret; exact ⟨ret_bool (by rw [Bool.eq_iff_iff]; simp [digitB]; omega), rfl⟩)

theorem word_any (s : ByteArray) (w : World) :
    Calls Tryd.prog 16 #[.string s] w fun e w' => e = .returned (.bool (wordB s.toList)) ∧ w = w' := by
  go_enter Tryd.func16, Tryd.ntmps16
  go_wp2
  all_goals (go_ret; exact ⟨ret_bool (by simp_all [wordB]), rfl⟩)

theorem rword_any (s : ByteArray) (w : World) :
    Calls Tryd.prog 17 #[.string s] w fun e w' => e = .returned (.bool (wordB s.toList)) ∧ w = w' := by
  go_enter Tryd.func17, Tryd.ntmps17
  go_wp2
  all_goals (go_ret; exact ⟨ret_bool (by simp_all [wordB]), rfl⟩)

end Go.Proofs.YtdgjegkoncodaaaDoor
