/- A slice of steps that came in, opened to its cells. No condition. -/
import Derived.Test.YtkcaeeighjblkaaClkAloneWalk
import Derived.Deep.Slices
import Derived.Deep.Fields
import Derived.ChangeSame
namespace Go.Proofs.Ytkcaeeighjblkaa
open Go.RowKit Go.ChangeShapes Go.WideShapes Go.Deep

theorem stepCells : Try.prog.cellsOf 28 = 3 := by kernel_rfl

theorem intCells : Try.prog.cellsOf 3 = 1 := by kernel_rfl
def intAt (w : World) (p : Addr) : Int := match w.cell? p with | some (.int _ n) => n | _ => 0

theorem open_steps {H : Type} {enc : TypeId × Value → H} {w : World} {base : Nat} {spare : Nat → Bool} {held : Bool} {fuel : Nat} {cs : List Value} {x : DataW H × List MemPlace}
    (h : DataW.trod enc Try.prog w base spare held fuel 24 cs = some x) : ∃ a len cap f, cs = [.slice a len cap] ∧ IsSteps w a len cap f := by
  rcases open_slice Try.underlying24 h with h0 | ⟨a, len, cap, m, n, D, Pl, hcs, hb, hl, hm, hmm, hx, hi⟩
  · exact ⟨none, 0, 0, fun _ => (0, 0, 0), h0.1, .inl ⟨rfl, rfl, rfl⟩⟩
  · refine ⟨some a, len, cap, fun i => (intAt w (a.add (i * 3)), intAt w (a.add (i * 3 + 1)), intAt w (a.add (i * 3 + 2))), hcs, .inr ⟨a, rfl, hl, hm, fun i hil => ?_⟩⟩
    have him : i < m := by rw [hmm]; split <;> omega
    obtain ⟨cs', hc, ht'⟩ := hi i him
    rw [stepCells] at hc
    obtain ⟨ys, n', hn', hy, hlen, hyl, hf⟩ := DataW.trod_struct Try.underlying28 ht'
    obtain ⟨_, hcl, hat⟩ := World.cells?_some hc
    match cs', hcl with
    | [c0, c1, c2], _ =>
      have g0 : DataW.trod enc Try.prog w base spare held n' 3 [c0] = some (ys[0]'(by rw [hyl]; decide)) := by
        have this : DataW.trod enc Try.prog w base spare held n' 3 (([c0, c1, c2].drop 0).take (Try.prog.cellsOf 3)) = ys[0]? := hf 0 _ rfl
        rw [intCells] at this
        exact this.trans (List.getElem?_eq_getElem _)
      have g1 : DataW.trod enc Try.prog w base spare held n' 3 [c1] = some (ys[1]'(by rw [hyl]; decide)) := by
        have this : DataW.trod enc Try.prog w base spare held n' 3 (([c0, c1, c2].drop 1).take (Try.prog.cellsOf 3)) = ys[1]? := hf 1 _ rfl
        rw [intCells] at this
        exact this.trans (List.getElem?_eq_getElem _)
      have g2 : DataW.trod enc Try.prog w base spare held n' 3 [c2] = some (ys[2]'(by rw [hyl]; decide)) := by
        have this : DataW.trod enc Try.prog w base spare held n' 3 (([c0, c1, c2].drop 2).take (Try.prog.cellsOf 3)) = ys[2]? := hf 2 _ rfl
        rw [intCells] at this
        exact this.trans (List.getElem?_eq_getElem _)
      obtain ⟨n0, e0, _, w0⟩ := DataW.trod_int Try.underlying3 g0
      obtain ⟨n1, e1, _, w1⟩ := DataW.trod_int Try.underlying3 g1
      obtain ⟨n2, e2, _, w2⟩ := DataW.trod_int Try.underlying3 g2
      cases e0
      cases e1
      cases e2
      have c0 := hat 0 (by decide)
      have c1 := hat 1 (by decide)
      have c2 := hat 2 (by decide)
      rw [Go.Deep.add_add] at c0 c1 c2
      have c0 : w.cell? (a.add (i * 3)) = some (.int .i64 n0) := c0
      have c1 : w.cell? (a.add (i * 3 + 1)) = some (.int .i64 n1) := c1
      have c2 : w.cell? (a.add (i * 3 + 2)) = some (.int .i64 n2) := c2
      simp only [intAt, c0, c1, c2]
      exact ⟨trivial, trivial, trivial, w0, w1, w2⟩
end Go.Proofs.Ytkcaeeighjblkaa
