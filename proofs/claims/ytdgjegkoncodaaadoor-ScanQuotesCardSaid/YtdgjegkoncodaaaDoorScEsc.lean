/- scan's escape. Condition: the backslash stands in the text; the text fits. -/
import Derived.Test.YtdgjegkoncodaaaDoorScSign
namespace Go.Proofs.YtdgjegkoncodaaaDoor
open Go.RowKit

/-- What escape tells of what stands behind a backslash at place q. -/
def escE (r : List UInt8) (q : Nat) : Ending := match r.head?.bind escB with
  | some x => .returned (.int .u8 (x.toNat : Int))
  | none => pan q
theorem drop_at {s : ByteArray} {k : Nat} (hk : k < s.size) : s.data.toList.drop k = s[k] :: s.data.toList.drop (k + 1) := by
  rw [List.drop_eq_getElem_cons (by simpa using hk)]; rfl
theorem drop_end {s : ByteArray} {k : Nat} (hk : ¬ k < s.size) : s.data.toList.drop k = [] := by
  apply List.drop_eq_nil_of_le; rw [bytes_len]; omega
theorem eret_u8 {c : UInt8} {n : Int} (h : n = (c.toNat : Int)) : Ending.returned (.int .u8 n) = .returned (.int .u8 (c.toNat : Int)) := by rw [h]
theorem u8_eq {c : UInt8} {n : Nat} (h : ((c.toNat : Int) == (n : Int)) = true) (hn : n < 256) : c = UInt8.ofNat n := by
  have h1 : (c.toNat : Int) = (n : Int) := by simpa using h
  apply UInt8.toNat_inj.1
  simp
  omega
theorem u8_ne {c : UInt8} {n : Nat} (h : ((c.toNat : Int) == (n : Int)) = false) (hn : n < 256) : (c == UInt8.ofNat n) = false := by
  rw [beq_eq_false_iff_ne]
  rintro rfl
  simp at h
  omega
set_option maxHeartbeats 800000 in
theorem escape_any {w0 W : World} {p a : Nat} {src : ByteArray} {l : List Tok} {c : List (Nat × Nat)} (h : ScE w0 W p src a l c) (q : Nat) (hq : q < src.size) (hs : src.size ≤ 65536) :
    Calls Tryd.prog 64 #[.pointer (some ⟨p, 0, none⟩), .int .i64 (q : Int)] W fun e W' => e = escE (src.data.toList.drop (q + 1)) q ∧ W = W' := by
  obtain ⟨tv, rv, h⟩ := h
  obtain ⟨c0, _, _, _⟩ := h.cells
  clear h
  obtain ⟨q1, Hq1⟩ : ∃ q1, Hid (q + 1 = q1) := ⟨_, Lib.hid rfl⟩
  have hw : IntKind.i64.wrap ((q : Int) + 1) = (q1 : Int) := by rw [IntKind.wrap_i64, ← Hq1.out]; omega
  have HB := Lib.hid (fun W => bad_any (W := W) (p := p) q)
  by_cases h1 : q1 < src.size
  · have Hd := Lib.hid (show escE (src.data.toList.drop (q + 1)) q = escE [src[q1]] q from by rw [Hq1.out, drop_at h1]; rfl)
    rw [Hd.out]
    obtain ⟨d, hd⟩ : ∃ d, src[q1] = d := ⟨_, rfl⟩
    rw [hd]
    have Hd2 := Lib.hid hd
    cases e1 : ((d.toNat : Int) == 92) with
    | true =>
      obtain rfl := u8_eq (n := 92) e1 (by decide)
      go_enter Tryd.func64, Tryd.ntmps64
      go_wp2_with (go_at_call 52; refine (HB.out _).mono ?_; rintro e W' ⟨rfl, rfl⟩)
      go_ret
      exact ⟨rfl, rfl⟩
    | false =>
      cases e2 : ((d.toNat : Int) == 34) with
      | true =>
        obtain rfl := u8_eq (n := 34) e2 (by decide)
        go_enter Tryd.func64, Tryd.ntmps64
        go_wp2_with (go_at_call 52; refine (HB.out _).mono ?_; rintro e W' ⟨rfl, rfl⟩)
        go_ret
        exact ⟨rfl, rfl⟩
      | false =>
        cases e3 : ((d.toNat : Int) == 110) with
        | true =>
          obtain rfl := u8_eq (n := 110) e3 (by decide)
          go_enter Tryd.func64, Tryd.ntmps64
          go_wp2_with (go_at_call 52; refine (HB.out _).mono ?_; rintro e W' ⟨rfl, rfl⟩)
          go_ret
          exact ⟨rfl, rfl⟩
        | false =>
          cases e4 : ((d.toNat : Int) == 116) with
          | true =>
            obtain rfl := u8_eq (n := 116) e4 (by decide)
            go_enter Tryd.func64, Tryd.ntmps64
            go_wp2_with (go_at_call 52; refine (HB.out _).mono ?_; rintro e W' ⟨rfl, rfl⟩)
            go_ret
            exact ⟨rfl, rfl⟩
          | false =>
            have He := Lib.hid (show escE [d] q = pan q from by
              unfold escE
              simp only [List.head?_cons, Option.bind_some]
              have a1 := u8_ne (n := 92) e1 (by decide)
              have a2 := u8_ne (n := 34) e2 (by decide)
              have a3 := u8_ne (n := 110) e3 (by decide)
              have a4 := u8_ne (n := 116) e4 (by decide)
              have hn : escB d = none := by
                unfold escB
                rw [show (d == 92) = false from a1, show (d == 34) = false from a2, show (d == 110) = false from a3, show (d == 116) = false from a4]
                rfl
              rw [hn])
            rw [He.out]
            go_enter Tryd.func64, Tryd.ntmps64
            go_wp2_with (go_at_call 52; refine (HB.out _).mono ?_; rintro e W' ⟨rfl, rfl⟩)
            exact ⟨rfl, (by first | assumption | exact Eq.symm (by assumption)), rfl⟩
  · have Hd := Lib.hid (show escE (src.data.toList.drop (q + 1)) q = pan q from by rw [Hq1.out, drop_end h1]; rfl)
    rw [Hd.out]
    go_enter Tryd.func64, Tryd.ntmps64
    go_wp2_with (go_at_call 52; refine (HB.out _).mono ?_; rintro e W' ⟨rfl, rfl⟩)
    exact ⟨rfl, (by first | assumption | exact Eq.symm (by assumption)), rfl⟩
end Go.Proofs.YtdgjegkoncodaaaDoor
