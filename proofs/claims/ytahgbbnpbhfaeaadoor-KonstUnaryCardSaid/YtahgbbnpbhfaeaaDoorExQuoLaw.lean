/- A quotient bit by bit: plain lists and rows. No condition. -/
import Derived.Test.YtahgbbnpbhfaeaaDoorExTwice
namespace Go.Proofs.YtahgbbnpbhfaeaaDoor
open Go.RowKit

theorem getD_div : ∀ {l : List Nat}, Words l → ∀ q, l.getD q 0 = ofW l / 4294967296 ^ q % 4294967296
  | [], _, q => by simp [ofW]
  | x :: l, h, 0 => by
    have := (Words.cons.1 h).1
    simp only [ofW, List.getD_cons_zero, Nat.pow_zero, Nat.div_one]
    omega
  | x :: l, h, q + 1 => by
    have h1 := (Words.cons.1 h).1
    simp only [ofW, List.getD_cons_succ, getD_div (Words.cons.1 h).2 q]
    rw [Nat.pow_succ, Nat.mul_comm (4294967296 ^ q), ← Nat.div_div_eq_div_mul]
    congr 2
    omega
theorem ofW_bit {l : List Nat} (h : Words l) (q r : Nat) (hr : r < 32) : (l.getD q 0).testBit r = (ofW l).testBit (32 * q + r) := by
  rw [getD_div h, show (4294967296 : Nat) ^ q = 2 ^ (32 * q) by rw [Nat.pow_mul], show (4294967296 : Nat) = 2 ^ 32 by decide, Nat.testBit_mod_two_pow, Nat.testBit_div_two_pow]
  simp [hr, Nat.add_comm]
theorem digit_at {l : List Nat} (h : Words l) (q r : Nat) (hr : r < 32) : l.getD q 0 / 2 ^ r % 2 = ofW l / 2 ^ (32 * q + r) % 2 := by
  rw [← Nat.toNat_testBit, ← Nat.toNat_testBit, ofW_bit h q r hr]
theorem or_pow (x r : Nat) (h : x.testBit r = false) : x ||| 2 ^ r = x + 2 ^ r := by
  have h1 : x / 2 ^ r % 2 = 0 := by
    rw [← Nat.toNat_testBit, h]
    rfl
  have hlo : x % 2 ^ (r + 1) < 2 ^ r := by
    have e := Nat.mod_mul (x := x) (a := 2 ^ r) (b := 2)
    rw [← Nat.pow_succ, h1] at e
    rw [e]
    have := Nat.mod_lt x (Nat.two_pow_pos r)
    omega
  have hp : 2 ^ (r + 1) = 2 ^ r + 2 ^ r := by rw [Nat.pow_succ]; omega
  have hx : 2 ^ (r + 1) * (x / 2 ^ (r + 1)) + x % 2 ^ (r + 1) = x := Nat.div_add_mod _ _
  obtain ⟨hi, ehi⟩ : ∃ hi, x / 2 ^ (r + 1) = hi := ⟨_, rfl⟩
  obtain ⟨lo, elo⟩ : ∃ lo, x % 2 ^ (r + 1) = lo := ⟨_, rfl⟩
  rw [ehi, elo] at hx
  rw [elo] at hlo
  have a1 := Nat.two_pow_add_eq_or_of_lt (i := r + 1) (b := lo) (by omega) hi
  have a2 := Nat.two_pow_add_eq_or_of_lt (i := r) (b := lo) hlo 1
  have a3 := Nat.two_pow_add_eq_or_of_lt (i := r + 1) (b := 2 ^ r + lo) (by omega) hi
  rw [Nat.mul_one] at a2
  rw [← hx, a1, Nat.or_assoc, Nat.or_comm lo, ← a2, ← a3, ← a1]
  omega
theorem ofW_or {l : List Nat} (h : Words l) (q r X : Nat) (hr : r < 32) (hq : q < l.length) (hl : ofW l = X * 2 ^ (32 * q + r + 1)) : ofW (l.set q (l.getD q 0 ||| 2 ^ r)) = (2 * X + 1) * 2 ^ (32 * q + r) ∧ Words (l.set q (l.getD q 0 ||| 2 ^ r)) := by
  have hb : (l.getD q 0).testBit r = false := by
    rw [ofW_bit h q r hr, Nat.testBit_eq_decide_div_mod_eq, hl, Nat.pow_succ, show X * (2 ^ (32 * q + r) * 2) = 2 ^ (32 * q + r) * (2 * X) by rw [Nat.mul_left_comm, Nat.mul_comm X 2], Nat.mul_div_cancel_left _ (Nat.two_pow_pos _)]
    simp
  constructor
  · have h1 := ofW_set l q (l.getD q 0 ||| 2 ^ r) hq
    rw [or_pow _ _ hb, Nat.mul_add] at h1
    have e : 4294967296 ^ q * 2 ^ r = 2 ^ (32 * q + r) := by rw [Nat.pow_add, Nat.pow_mul]
    rw [e] at h1
    rw [or_pow _ _ hb]
    have e2 : X * 2 ^ (32 * q + r + 1) = 2 * X * 2 ^ (32 * q + r) := by rw [Nat.pow_succ, ← Nat.mul_assoc, Nat.mul_comm _ 2, Nat.mul_assoc]
    rw [Nat.add_mul, Nat.one_mul, ← e2, ← hl]
    omega
  · exact h.set (Nat.or_lt_two_pow (n := 32) (h.get q) (Nat.pow_lt_pow_of_lt (by decide) hr))
theorem div_step {b : Nat} (hb : 0 < b) (T c : Nat) (hc : c ≤ 1) : (2 * (T % b) + c < b → (2 * T + c) / b = 2 * (T / b) ∧ (2 * T + c) % b = 2 * (T % b) + c) ∧ (b ≤ 2 * (T % b) + c → (2 * T + c) / b = 2 * (T / b) + 1 ∧ (2 * T + c) % b = 2 * (T % b) + c - b) := by
  have h1 := Nat.div_add_mod T b
  have h2 := Nat.mod_lt T hb
  have key : ∀ n x y, n = b * x + y → y < b → n / b = x ∧ n % b = y := fun n x y h hy => by
    subst h
    rw [Nat.mul_add_div hb, Nat.mul_add_mod, Nat.div_eq_of_lt hy, Nat.mod_eq_of_lt hy]
    exact ⟨rfl, rfl⟩
  refine ⟨fun h => key _ _ _ ?_ h, fun h => key _ _ _ ?_ (by omega)⟩
  · rw [Nat.mul_left_comm]
    omega
  · rw [Nat.mul_add, Nat.mul_left_comm]
    omega
theorem half_at (A k : Nat) : A / 2 ^ k = 2 * (A / 2 ^ (k + 1)) + A / 2 ^ k % 2 := by
  rw [Nat.pow_succ, ← Nat.div_div_eq_div_mul]
  omega

/-- The quotient so far: the digits from k on are told. -/
def QuoL (w wr : World) (g m A b k : Nat) : Prop := ∃ l, OwnW wr g l ∧ l.length = m ∧ Words l ∧ ofW l = A / 2 ^ k / b * 2 ^ k ∧ Below w.heap.size w wr
theorem QuoL.below {w wr w' : World} {g m A b k : Nat} (h : QuoL w wr g m A b k) (hb : Below wr.heap.size wr w') : QuoL w w' g m A b k := by
  obtain ⟨l, h1, h2, h3, h4, h5⟩ := h
  exact ⟨l, h1.below hb, h2, h3, h4, h5.trans (Below.mono hb h5.size)⟩
theorem QuoL.no {w wr : World} {g m A b k : Nat} (h : QuoL w wr g m A b (k + 1)) (hb : 0 < b) (hlt : 2 * (A / 2 ^ (k + 1) % b) + A / 2 ^ k % 2 < b) : QuoL w wr g m A b k ∧ A / 2 ^ k % b = 2 * (A / 2 ^ (k + 1) % b) + A / 2 ^ k % 2 := by
  obtain ⟨l, h1, h2, h3, h4, h5⟩ := h
  have hs := (div_step hb (A / 2 ^ (k + 1)) (A / 2 ^ k % 2) (by omega)).1 hlt
  rw [← half_at] at hs
  refine ⟨⟨l, h1, h2, h3, ?_, h5⟩, hs.2⟩
  rw [h4, hs.1, Nat.pow_succ, ← Nat.mul_assoc, Nat.mul_comm _ 2, Nat.mul_assoc]
theorem QuoL.yes {w wr : World} {g m A b k q r x : Nat} (h : QuoL w wr g m A b (k + 1)) (hb : 0 < b) (hge : b ≤ 2 * (A / 2 ^ (k + 1) % b) + A / 2 ^ k % 2) (hk : k = 32 * q + r) (hr : r < 32) (hq : q < m) (hg : w.heap.size ≤ g) (hx : wr.cell? ⟨g, q, none⟩ = some (.int .u32 (x : Int))) :
    QuoL w (wr.setCell ⟨g, q, none⟩ (.int .u32 ((x ||| 2 ^ r : Nat) : Int))) g m A b k ∧ A / 2 ^ k % b = 2 * (A / 2 ^ (k + 1) % b) + A / 2 ^ k % 2 - b := by
  obtain ⟨l, h1, h2, h3, h4, h5⟩ := h
  have hs := (div_step hb (A / 2 ^ (k + 1)) (A / 2 ^ k % 2) (by omega)).2 hge
  rw [← half_at] at hs
  have hc := h1.cell q (by omega)
  rw [hx] at hc
  have hc : (x : Int) = ((l.getD q 0 : Nat) : Int) := by simpa using hc
  have hc : x = l.getD q 0 := by omega
  subst hc
  have ho := ofW_or h3 q r _ hr (by omega) (by rw [← hk]; exact h4)
  refine ⟨⟨_, h1.set _ _, by simpa using h2, ho.2, ?_, h5.setCell (by simpa using hg) _⟩, hs.2⟩
  rw [ho.1, hs.1, hk]

theorem results_cell3 {fn : Func} {p q u : Tmp} (h : fn.results = #[.cell p 24, .cell q 24, .tmp u]) (tmps : Array Value) (w : World) (g g2 : Nat) (t t2 : TypeId) (x y x2 y2 : Value) (fr fr2 : Nat × Nat)
    (hp : tmps.getD p undef = .pointer (some ⟨g, 0, none⟩)) (hp2 : tmps.getD q undef = .pointer (some ⟨g2, 0, none⟩)) (hg : w.heap[g]? = some (.cells #[x, y] t fr)) (hg2 : w.heap[g2]? = some (.cells #[x2, y2] t2 fr2)) : (results fn tmps).run Tryd.prog w = .ok (.tuple #[.agg #[x, y], .agg #[x2, y2], tmps.getD u undef]) w := by
  simp only [results, h]
  simp [Sem.run_bind, Result.andThen]
  rw [show tmps[p]?.getD undef = tmps.getD p undef by simp [Array.getD_eq_getD_getElem?], show tmps[q]?.getD undef = tmps.getD q undef by simp [Array.getD_eq_getD_getElem?], hp, hp2]
  simp only [asAddr, Sem.run_pure, Result.andThen_ok]
  rw [run_loadVar_row w g t 24 #[x, y] fr _ hg Tryd.underlying24 rfl (by kernel_rfl)]
  simp only [asAddr, Sem.run_pure, Result.andThen_ok]
  rw [run_loadVar_row w g2 t2 24 #[x2, y2] fr2 _ hg2 Tryd.underlying24 rfl (by kernel_rfl)]
end Go.Proofs.YtahgbbnpbhfaeaaDoor
