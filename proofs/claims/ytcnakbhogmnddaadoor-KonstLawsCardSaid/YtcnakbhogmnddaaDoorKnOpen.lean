/- A constant that came in, opened. No condition. -/
import Derived.Test.YtcnakbhogmnddaaDoorExOpen
namespace Go.Proofs.YtcnakbhogmnddaaDoor
open Go.RowKit Go.ChangeShapes Go.WideShapes Go.Deep

theorem constCells : Tryd.prog.cellsOf 27 = 5 := by kernel_rfl
theorem kindCell1 : Tryd.prog.cellsOf 3 = 1 := by kernel_rfl
theorem strCell1 : Tryd.prog.cellsOf 9 = 1 := by kernel_rfl
set_option maxRecDepth 100000 in
theorem open_const1 {H : Type} {enc : TypeId × Value → H} {w : World} {base : Nat} {spare : Nat → Bool} {held : Bool} {fuel : Nat} {cs : List Value} {x : DataW H × List MemPlace}
    (hf : DataW.trod enc Tryd.prog w base spare held fuel 27 cs = some x) :
    ∃ (k : Int) (g : Bool) (a : Option Addr) (n cap : Nat) (z : List Nat) (s : ByteArray) (t : Bool), cs = [.int .i64 k, .bool g, .slice a n cap, .string s, .bool t] ∧ WordsAt w a n z ∧ n ≤ cap := by
  obtain ⟨ys, m, hfu, _, hlen, hyl, hf2⟩ := DataW.trod_struct Tryd.underlying27 hf
  rw [constCells] at hlen
  match cs, hlen with
  | [c0, c1, c2, c3, c4], _ =>
    have g0 : DataW.trod enc Tryd.prog w base spare held m 3 [c0] = some (ys[0]'(by rw [hyl]; decide)) := by
      have this : DataW.trod enc Tryd.prog w base spare held m 3 (([c0, c1, c2, c3, c4].drop 0).take (Tryd.prog.cellsOf 3)) = ys[0]? := hf2 0 _ rfl
      rw [kindCell1] at this
      exact this.trans (List.getElem?_eq_getElem _)
    have g1 : DataW.trod enc Tryd.prog w base spare held m 25 [c1, c2] = some (ys[1]'(by rw [hyl]; decide)) := by
      have this : DataW.trod enc Tryd.prog w base spare held m 25 (([c0, c1, c2, c3, c4].drop 1).take (Tryd.prog.cellsOf 25)) = ys[1]? := hf2 1 _ rfl
      rw [intCells] at this
      exact this.trans (List.getElem?_eq_getElem _)
    have g3 : DataW.trod enc Tryd.prog w base spare held m 9 [c3] = some (ys[2]'(by rw [hyl]; decide)) := by
      have this : DataW.trod enc Tryd.prog w base spare held m 9 (([c0, c1, c2, c3, c4].drop 3).take (Tryd.prog.cellsOf 9)) = ys[2]? := hf2 2 _ rfl
      rw [strCell1] at this
      exact this.trans (List.getElem?_eq_getElem _)
    have g4 : DataW.trod enc Tryd.prog w base spare held m 4 [c4] = some (ys[3]'(by rw [hyl]; decide)) := by
      have this : DataW.trod enc Tryd.prog w base spare held m 4 (([c0, c1, c2, c3, c4].drop 4).take (Tryd.prog.cellsOf 4)) = ys[3]? := hf2 3 _ rfl
      rw [boolCell1] at this
      exact this.trans (List.getElem?_eq_getElem _)
    obtain ⟨k, e0, _, _⟩ := DataW.trod_int Tryd.underlying3 g0
    cases e0
    obtain ⟨b, a, n, cap, z, e1, hw, hc⟩ := open_num1 g1
    cases e1
    obtain ⟨s, e3, _, _⟩ := DataW.trod_string Tryd.underlying9 g3
    cases e3
    obtain ⟨t, e4, _⟩ := DataW.trod_bool Tryd.underlying4 g4
    cases e4
    exact ⟨k, b, a, n, cap, z, s, t, rfl, hw, hc⟩
set_option maxRecDepth 100000 in
theorem open_const {H : Type} {enc : TypeId × Value → H} {w : World} {base : Nat} {spare : Nat → Bool} {held : Bool} {r : Reach} {b0 : Nat} {v : Value} {d : DataW H} {p : List MemPlace}
    (hv : Value.okWide Tryd.prog w r b0 27 v) (h : DataW.Trod enc Tryd.prog w base spare held 27 v d p) :
    ∃ (k : Int) (g : Bool) (a : Option Addr) (n cap : Nat) (z : List Nat) (s : ByteArray) (t : Bool), v = .agg #[.int .i64 k, .bool g, .slice a n cap, .string s, .bool t] ∧ WordsAt w a n z ∧ n ≤ cap := by
  obtain ⟨cs, rfl, _⟩ := okWide_struct Tryd.underlying27 hv
  obtain ⟨fuel, hf⟩ := h
  obtain ⟨k, g, a, n, cap, z, s, t, e, h1, h2⟩ := open_const1 hf
  obtain ⟨l⟩ := cs
  simp [Value.cells] at e
  subst e
  exact ⟨k, g, a, n, cap, z, s, t, rfl, h1, h2⟩
end Go.Proofs.YtcnakbhogmnddaaDoor
