/- The reference's at: does a text stand at the place? Conditions: the place is in the text; the texts fit. -/
import Derived.Test.YtdgjegkoncodaaaDoorRsNum
namespace Go.Proofs.YtdgjegkoncodaaaDoor
open Go.RowKit

theorem hasPrefix_take (r p : List UInt8) : Lib.hasPrefix r p = (decide (p.length ≤ r.length) && (r.take p.length == p)) := by
  unfold Lib.hasPrefix
  rw [Bool.eq_iff_iff, List.isPrefixOf_iff_prefix, Bool.and_eq_true, decide_eq_true_iff, beq_iff_eq, List.prefix_iff_eq_take]
  constructor
  · intro h
    refine ⟨?_, h.symm⟩
    have := congrArg List.length h
    rw [List.length_take] at this
    omega
  · exact fun h => h.2.symm
set_option maxRecDepth 100000 in
set_option maxHeartbeats 1600000 in
theorem at_any {w0 W : World} {p a : Nat} {src t : ByteArray} {l : List Tok} {c : List (Nat × Nat)} {fk fa : Int} {b : Bool} (h : RsE w0 W p src a l c fk fa) (ha : a ≤ src.size) (hs : src.size ≤ 70000) (ht : t.size ≤ 1000) (hb : Lib.hasPrefix (src.data.toList.drop a) t.data.toList = b) :
    Calls Tryd.prog 38 #[.pointer (some ⟨p, 0, none⟩), .string t] W fun e W' => e = .returned (.bool b) ∧ ∃ m, W' = W.drewN m := by
  obtain ⟨c0, c1, _⟩ := h.cells
  clear h
  obtain ⟨d, Hd⟩ : ∃ d, Hid (src.size - a = d) := ⟨_, Lib.hid rfl⟩
  have hw : IntKind.i64.wrap ((src.size : Int) - (a : Int)) = (d : Int) := by rw [IntKind.wrap_i64, ← Hd.out]; omega
  rw [hasPrefix_take, List.length_drop, bytes_len, bytes_len, Hd.out] at hb
  by_cases hle : (t.size : Int) ≤ (d : Int)
  · have hled : decide ((t.size : Int) ≤ (d : Int)) = true := decide_eq_true hle
    have hleN : t.size ≤ d := by omega
    have hleB : decide (t.size ≤ d) = true := decide_eq_true hleN
    obtain ⟨e1, He1⟩ : ∃ e1, Hid (a + t.size = e1) := ⟨_, Lib.hid rfl⟩
    have hw2 : IntKind.i64.wrap ((a : Int) + (t.size : Int)) = (e1 : Int) := by rw [IntKind.wrap_i64, ← He1.out]; omega
    have hae : (a : Int) ≤ (e1 : Int) := by have := He1.out; omega
    have hes : (e1 : Int) ≤ (src.size : Int) := by have := He1.out; have := Hd.out; omega
    obtain ⟨X, hX⟩ : ∃ X, src.extract a e1 = X := ⟨_, rfl⟩
    have HX := Lib.hid (show X.toList = (src.data.toList.drop a).take t.size from by rw [← hX, extract_at, toList_strB, ← He1.out, show a + t.size - a = t.size by omega])
    rw [decide_eq_true (show t.size ≤ d by omega), Bool.true_and] at hb
    have hv : (X.toList == t.toList) = b := by rw [HX.out, Lib.toList_data t]; exact hb
    have hv2 : (X == t) = b := by rw [beq_toListBytes]; exact hv
    have HV := Lib.hid (And.intro hv hv2)
    clear hb
    go_enter Tryd.func38, Tryd.ntmps38
    go_wp2_with fail
    go_quiet (fail)
    go_wp2_with fail
    go_ret
    exact ⟨by first | rfl | (rw [HV.out.1]) | (rw [HV.out.2]), _, rfl⟩
  · have hleB : decide (t.size ≤ d) = false := decide_eq_false (by omega)
    have hlef : decide ((t.size : Int) ≤ (d : Int)) = false := decide_eq_false hle
    rw [decide_eq_false (show ¬ t.size ≤ d by omega), Bool.false_and] at hb
    subst hb
    go_enter Tryd.func38, Tryd.ntmps38
    go_wp2_with fail
    go_quiet (fail)
    go_wp2_with fail
    go_ret
    exact ⟨rfl, _, rfl⟩
end Go.Proofs.YtdgjegkoncodaaaDoor
