/- Texts that a claim's limit of files puts together: ExOpen, KnOpen. -/
import Derived.Test.YtahgbbnpbhfaeaaDoorExTrim
import Derived.Deep.Slices
import Derived.Deep.Fields
import Derived.ChangeSame
/- A number that came in, opened. No condition. -/
namespace Go.Proofs.YtahgbbnpbhfaeaaDoor
open Go.RowKit Go.ChangeShapes Go.WideShapes Go.Deep

theorem intCells : Tryd.prog.cellsOf 24 = 2 := by kernel_rfl
theorem boolCell1 : Tryd.prog.cellsOf 4 = 1 := by kernel_rfl
theorem wordCell1 : Tryd.prog.cellsOf 68 = 1 := by kernel_rfl
theorem magCell1 : Tryd.prog.cellsOf 22 = 1 := by kernel_rfl

theorem words_of (f : Nat → Nat → Prop) : ∀ (n : Nat), (∀ i, i < n → ∃ x, f i x) → ∃ z : List Nat, z.length = n ∧ ∀ i, i < n → f i (z.getD i 0)
  | 0, _ => ⟨[], rfl, fun i hi => by omega⟩
  | n + 1, h => by
    obtain ⟨z, h1, h2⟩ := words_of f n fun i hi => h i (by omega)
    obtain ⟨x, hx⟩ := h n (by omega)
    refine ⟨z ++ [x], by simp [h1], fun i hi => ?_⟩
    by_cases hin : i < n
    · have := h2 i hin
      rwa [show (z ++ [x]).getD i 0 = z.getD i 0 by simp [List.getD, List.getElem?_append_left (show i < z.length by omega)]]
    · have : i = n := by omega
      subst this
      rwa [show (z ++ [x]).getD i 0 = x by simp [List.getD, ← h1]]

theorem open_mag {H : Type} {enc : TypeId × Value → H} {w : World} {base : Nat} {spare : Nat → Bool} {held : Bool} {fuel : Nat} {cs : List Value} {x : DataW H × List MemPlace}
    (h : DataW.trod enc Tryd.prog w base spare held fuel 22 cs = some x) : ∃ (a : Option Addr) (n cap : Nat) (z : List Nat), cs = [.slice a n cap] ∧ WordsAt w a n z ∧ n ≤ cap ∧ cap ≤ maxLen := by
  rcases DataW.trod_slice Tryd.underlying22 h with ⟨e4, _⟩ | ⟨a, len, cap, el, rest, m, hm, e4, _, _, hl, hcm, hel, hi, _⟩
  · cases e4
    exact ⟨none, 0, 0, [], rfl, WordsAt.nil _ _, Nat.le_refl _, Nat.zero_le _⟩
  · cases e4
    obtain ⟨z, hz1, hz2⟩ := words_of (fun i x => x < 4294967296 ∧ w.cell? (a.add i) = some (.int .u32 (x : Int))) len (fun j hj => by
      have h1 := hi j hj
      rw [List.getElem?_eq_getElem (by omega)] at h1
      obtain ⟨cs', hc, ht⟩ := Option.bind_eq_some_iff.1 h1
      rw [wordCell1] at hc
      obtain ⟨n0, e0, _, hwf⟩ := DataW.trod_int Tryd.underlying68 ht
      subst e0
      obtain ⟨_, _, hat⟩ := World.cells?_some hc
      have c0 := hat 0 (by decide)
      rw [Go.Deep.add_add, Nat.mul_one, Nat.add_zero] at c0
      have hb : 0 ≤ n0 ∧ n0 < 4294967296 := by
        have h2 : IntKind.u32.min = 0 := by decide
        have h3 : IntKind.u32.max = 4294967295 := by decide
        simp [Lit.wf, h2, h3] at hwf
        omega
      refine ⟨n0.toNat, by omega, ?_⟩
      rw [Int.toNat_of_nonneg hb.1]
      simpa using c0)
    refine ⟨some a, len, cap, z, rfl, ⟨hz1, fun y hy => ?_, fun i hin => ⟨a, rfl, (hz2 i hin).2⟩⟩, hl, hcm⟩
    obtain ⟨i, hi1, rfl⟩ := List.mem_iff_getElem.1 hy
    have := (hz2 i (by omega)).1
    rwa [show z.getD i 0 = z[i] by simp [List.getD, hi1]] at this

set_option maxRecDepth 100000 in
theorem open_num1 {H : Type} {enc : TypeId × Value → H} {w : World} {base : Nat} {spare : Nat → Bool} {held : Bool} {fuel : Nat} {cs : List Value} {x : DataW H × List MemPlace}
    (hf : DataW.trod enc Tryd.prog w base spare held fuel 24 cs = some x) :
    ∃ (g : Bool) (a : Option Addr) (n cap : Nat) (z : List Nat), cs = [.bool g, .slice a n cap] ∧ WordsAt w a n z ∧ n ≤ cap := by
  obtain ⟨ys, m, hfu, _, hlen, hyl, hf2⟩ := DataW.trod_struct Tryd.underlying24 hf
  rw [intCells] at hlen
  match cs, hlen with
  | [c0, c1], _ =>
    have g0 : DataW.trod enc Tryd.prog w base spare held m 4 [c0] = some (ys[0]'(by rw [hyl]; decide)) := by
      have this : DataW.trod enc Tryd.prog w base spare held m 4 (([c0, c1].drop 0).take (Tryd.prog.cellsOf 4)) = ys[0]? := hf2 0 _ rfl
      rw [boolCell1] at this
      exact this.trans (List.getElem?_eq_getElem _)
    have g1 : DataW.trod enc Tryd.prog w base spare held m 22 [c1] = some (ys[1]'(by rw [hyl]; decide)) := by
      have this : DataW.trod enc Tryd.prog w base spare held m 22 (([c0, c1].drop 1).take (Tryd.prog.cellsOf 22)) = ys[1]? := hf2 1 _ rfl
      rw [magCell1] at this
      exact this.trans (List.getElem?_eq_getElem _)
    obtain ⟨b, e0, _⟩ := DataW.trod_bool Tryd.underlying4 g0
    cases e0
    obtain ⟨a, n, cap, z, e1, hw, hc, _⟩ := open_mag g1
    cases e1
    exact ⟨b, a, n, cap, z, rfl, hw, hc⟩
set_option maxRecDepth 100000 in
theorem open_num {H : Type} {enc : TypeId × Value → H} {w : World} {base : Nat} {spare : Nat → Bool} {held : Bool} {r : Reach} {b0 : Nat} {v : Value} {d : DataW H} {p : List MemPlace}
    (hv : Value.okWide Tryd.prog w r b0 24 v) (h : DataW.Trod enc Tryd.prog w base spare held 24 v d p) :
    ∃ (g : Bool) (a : Option Addr) (n cap : Nat) (z : List Nat), v = .agg #[.bool g, .slice a n cap] ∧ WordsAt w a n z ∧ n ≤ cap := by
  obtain ⟨cs, rfl, _⟩ := okWide_struct Tryd.underlying24 hv
  obtain ⟨fuel, hf⟩ := h
  obtain ⟨g, a, n, cap, z, e, h1, h2⟩ := open_num1 hf
  obtain ⟨l⟩ := cs
  simp [Value.cells] at e
  subst e
  exact ⟨g, a, n, cap, z, rfl, h1, h2⟩
end Go.Proofs.YtahgbbnpbhfaeaaDoor

/- A constant that came in, opened. No condition. -/
namespace Go.Proofs.YtahgbbnpbhfaeaaDoor
open Go.RowKit Go.ChangeShapes Go.WideShapes Go.Deep

theorem constCells : Tryd.prog.cellsOf 26 = 5 := by kernel_rfl
theorem kindCell1 : Tryd.prog.cellsOf 3 = 1 := by kernel_rfl
theorem strCell1 : Tryd.prog.cellsOf 9 = 1 := by kernel_rfl
set_option maxRecDepth 100000 in
theorem open_const1 {H : Type} {enc : TypeId × Value → H} {w : World} {base : Nat} {spare : Nat → Bool} {held : Bool} {fuel : Nat} {cs : List Value} {x : DataW H × List MemPlace}
    (hf : DataW.trod enc Tryd.prog w base spare held fuel 26 cs = some x) :
    ∃ (k : Int) (g : Bool) (a : Option Addr) (n cap : Nat) (z : List Nat) (s : ByteArray) (t : Bool), cs = [.int .i64 k, .bool g, .slice a n cap, .string s, .bool t] ∧ WordsAt w a n z ∧ n ≤ cap := by
  obtain ⟨ys, m, hfu, _, hlen, hyl, hf2⟩ := DataW.trod_struct Tryd.underlying26 hf
  rw [constCells] at hlen
  match cs, hlen with
  | [c0, c1, c2, c3, c4], _ =>
    have g0 : DataW.trod enc Tryd.prog w base spare held m 3 [c0] = some (ys[0]'(by rw [hyl]; decide)) := by
      have this : DataW.trod enc Tryd.prog w base spare held m 3 (([c0, c1, c2, c3, c4].drop 0).take (Tryd.prog.cellsOf 3)) = ys[0]? := hf2 0 _ rfl
      rw [kindCell1] at this
      exact this.trans (List.getElem?_eq_getElem _)
    have g1 : DataW.trod enc Tryd.prog w base spare held m 24 [c1, c2] = some (ys[1]'(by rw [hyl]; decide)) := by
      have this : DataW.trod enc Tryd.prog w base spare held m 24 (([c0, c1, c2, c3, c4].drop 1).take (Tryd.prog.cellsOf 24)) = ys[1]? := hf2 1 _ rfl
      rw [intCells] at this
      exact this.trans (List.getElem?_eq_getElem _)
    have g3 : DataW.trod enc Tryd.prog w base spare held m 9 [c3] = some (ys[2]'(by rw [hyl]; decide)) := by
      have this : DataW.trod enc Tryd.prog w base spare held m 9 (([c0, c1, c2, c3, c4].drop 3).take (Tryd.prog.cellsOf 9)) = ys[2]? := hf2 2 _ rfl
      rw [strCell1] at this
      exact this.trans (List.getElem?_eq_getElem _)
    have g4 : DataW.trod enc Tryd.prog w base spare held m 4 [c4] = some (ys[3]'(by rw [hyl]; decide)) := by
      have this : DataW.trod enc Tryd.prog w base spare held m 4 (([c0, c1, c2, c3, c4].drop 4).take (Tryd.prog.cellsOf 4)) = ys[3]? := hf2 3 _ rfl
      rw [boolCell1] at this
      exact this.trans (List.getElem?_eq_getElem _)
    obtain ⟨k, e0, _, _⟩ := DataW.trod_int Tryd.underlying3 g0
    cases e0
    obtain ⟨b, a, n, cap, z, e1, hw, hc⟩ := open_num1 g1
    cases e1
    obtain ⟨s, e3, _, _⟩ := DataW.trod_string Tryd.underlying9 g3
    cases e3
    obtain ⟨t, e4, _⟩ := DataW.trod_bool Tryd.underlying4 g4
    cases e4
    exact ⟨k, b, a, n, cap, z, s, t, rfl, hw, hc⟩
set_option maxRecDepth 100000 in
theorem open_const {H : Type} {enc : TypeId × Value → H} {w : World} {base : Nat} {spare : Nat → Bool} {held : Bool} {r : Reach} {b0 : Nat} {v : Value} {d : DataW H} {p : List MemPlace}
    (hv : Value.okWide Tryd.prog w r b0 26 v) (h : DataW.Trod enc Tryd.prog w base spare held 26 v d p) :
    ∃ (k : Int) (g : Bool) (a : Option Addr) (n cap : Nat) (z : List Nat) (s : ByteArray) (t : Bool), v = .agg #[.int .i64 k, .bool g, .slice a n cap, .string s, .bool t] ∧ WordsAt w a n z ∧ n ≤ cap := by
  obtain ⟨cs, rfl, _⟩ := okWide_struct Tryd.underlying26 hv
  obtain ⟨fuel, hf⟩ := h
  obtain ⟨k, g, a, n, cap, z, s, t, e, h1, h2⟩ := open_const1 hf
  obtain ⟨l⟩ := cs
  simp [Value.cells] at e
  subst e
  exact ⟨k, g, a, n, cap, z, s, t, rfl, h1, h2⟩
end Go.Proofs.YtahgbbnpbhfaeaaDoor
