/- Rows of words in memory; exact.trim. No condition. -/
import Derived.Test.YtahgbbnpbhfaeaaDoorJ1
namespace Go.Proofs.YtahgbbnpbhfaeaaDoor
open Go.RowKit

/-- Row a holds the words z. -/
def WordsAt (w : World) (a : Option Addr) (n : Nat) (z : List Nat) : Prop :=
  z.length = n ∧ Words z ∧ ∀ i, i < n → ∃ x, a = some x ∧ w.cell? (x.add i) = some (.int .u32 ((z.getD i 0 : Nat) : Int))
section
variable {w w' : World} {a : Option Addr} {n m : Nat} {z : List Nat}
theorem WordsAt.cells (hc : ∀ p v, w.cell? p = some v → w'.cell? p = some v) (h : WordsAt w a n z) : WordsAt w' a n z :=
  ⟨h.1, h.2.1, fun i hi => by
    obtain ⟨x, e, h⟩ := h.2.2 i hi
    exact ⟨x, e, hc _ _ h⟩⟩
theorem cellB {B : Nat} {p : Addr} {v : Value} (hb : Below B w w') (hB : B = w.heap.size) (h : w.cell? p = some v) : w'.cell? p = some v := by
  subst hB
  refine (World.cell?_of_block (hb.block p.block (World.block_lt_of_cell? _ _ h))).trans h
theorem WordsAt.below (h : WordsAt w a n z) (hb : Below w.heap.size w w') : WordsAt w' a n z := h.cells fun _ _ hc => cellB hb rfl hc
theorem WordsAt.take (h : WordsAt w a n z) (hm : m ≤ n) : WordsAt w a m (z.take m) :=
  ⟨by rw [List.length_take, h.1]; omega, h.2.1.take m, fun i hi => by
    obtain ⟨x, e, hc⟩ := h.2.2 i (by omega)
    refine ⟨x, e, ?_⟩
    rw [hc]
    simp [List.getD, List.getElem?_take, hi]⟩
theorem WordsAt.nil (w : World) (a : Option Addr) : WordsAt w a 0 [] := ⟨rfl, Words.nil, fun i hi => absurd hi (by omega)⟩
theorem WordsAt.trim (h : WordsAt w a n z) : WordsAt w a (trimZ z).length (trimZ z) := by
  have := h.take (m := (trimZ z).length) (by rw [← h.1]; exact trim_le z)
  rw [← trim_pre] at this
  exact this
end

set_option maxHeartbeats 800000 in
theorem trim_any (a : Option Addr) (n cap : Nat) (z : List Nat) (w : World) (h : WordsAt w a n z) (hn : n ≤ 4000000) (hc : n ≤ cap) :
    Calls Tryd.prog 54 #[.slice a n cap] w fun e w' => e = .returned (.slice a (trimZ z).length cap) ∧ w = w' := by
  have HZ := Lib.hid h
  clear h
  go_enter Tryd.func54, Tryd.ntmps54
  go_wp2_with fail
  go_loopg [0] n (fun g v0 wr => ∃ m : Nat, m ≤ n ∧ v0 = .slice a m cap ∧ g = m ∧ wr = w ∧ Hid (trimZ (z.take m) = trimZ z))
  case atStart => exact ⟨n, Nat.le_refl _, rfl, rfl, rfl, Lib.hid (by rw [← HZ.out.1, List.take_length])⟩
  case round =>
    obtain ⟨m, hm, rfl, hgm, rfl, Hr⟩ := hrel
    cases m with
    | zero =>
      go_wp2_with fail
      go_ret
      have := Hr.out
      rw [List.take_zero] at this
      rw [← this]
      exact ⟨rfl, rfl⟩
    | succ m =>
      obtain ⟨x, rfl, hx⟩ := HZ.out.2.2 m (by omega)
      have hst := trim_step z m (by rw [HZ.out.1]; omega)
      obtain ⟨y, Hy⟩ : ∃ y, Hid (z.getD m 0 = y) := ⟨_, Lib.hid rfl⟩
      rw [Hy.out] at hx hst
      have HS := Lib.hid hst
      clear hst
      by_cases h0 : y = 0
      · subst h0
        go_wp2_with fail
        go_roundg m
        case measure => omega
        case rel =>
          refine ⟨m, by omega, rfl, rfl, rfl, Lib.hid ?_⟩
          have h1 := HS.out
          rw [if_pos trivial, Hr.out] at h1
          exact h1.symm
      · have hyb : ((y : Int) == 0) = false := by simp; omega
        go_wp2_with fail
        go_ret
        have h1 := HS.out
        rw [if_neg h0, Hr.out] at h1
        rw [h1, List.length_take, HZ.out.1, Nat.min_eq_left hm]
        exact ⟨rfl, rfl⟩
end Go.Proofs.YtahgbbnpbhfaeaaDoor
