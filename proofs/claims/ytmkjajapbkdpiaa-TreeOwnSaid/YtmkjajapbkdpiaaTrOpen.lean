/- A node that came in, opened to its tree. No condition. -/
import Derived.Test.YtmkjajapbkdpiaaTrBase
import Derived.Deep.Slices
import Derived.Deep.Fields
import Derived.ChangeSame
namespace Go.Proofs.Ytmkjajapbkdpiaa
open Go.RowKit Go.ChangeShapes Go.WideShapes Go.Deep

theorem nodeCells : Try.prog.cellsOf 24 = 5 := by kernel_rfl
theorem intCell1 : Try.prog.cellsOf 3 = 1 := by kernel_rfl
theorem strCell1 : Try.prog.cellsOf 9 = 1 := by kernel_rfl
theorem kidCell1 : Try.prog.cellsOf 22 = 1 := by kernel_rfl

/-- A tree at a place of a row. -/
def KidAt (w : World) (a : Option Addr) (i : Nat) (n : Nd) : Prop :=
  ∃ ad a' cap, a = some ad ∧ w.cell? (ad.add (i * 5)) = some (.int .i64 n.k) ∧ w.cell? ⟨(ad.add (i * 5)).block, (ad.add (i * 5)).off + 1, none⟩ = some (.int .i64 n.f) ∧
    w.cell? ⟨(ad.add (i * 5)).block, (ad.add (i * 5)).off + 2, none⟩ = some (.int .i64 n.t) ∧ w.cell? ⟨(ad.add (i * 5)).block, (ad.add (i * 5)).off + 3, none⟩ = some (.string n.s) ∧
    w.cell? ⟨(ad.add (i * 5)).block, (ad.add (i * 5)).off + 4, none⟩ = some (.slice a' n.c.len cap) ∧ n.c.len ≤ cap ∧ cap ≤ maxLen ∧ KidsAt w a' 0 n.c

theorem kids_of {w : World} {a : Option Addr} : ∀ (len i : Nat), (∀ j, j < len → ∃ n, KidAt w a (i + j) n) → ∃ F : Fo, F.len = len ∧ KidsAt w a i F
  | 0, _, _ => ⟨.nil, rfl, trivial⟩
  | len + 1, i, h => by
    obtain ⟨⟨k, f, t, s, c⟩, hn⟩ := h 0 (by omega)
    obtain ⟨F, h1, h2⟩ := kids_of len (i + 1) (fun j hj => by
      have := h (j + 1) (by omega)
      rwa [show i + (j + 1) = i + 1 + j by omega] at this)
    exact ⟨.cons k f t s c F, by simp [Fo.len, h1], hn, h2⟩

theorem fld1 (x : Addr) (a j : Nat) (h : 0 < j) : x.add (a + j) = ⟨(x.add a).block, (x.add a).off + j, none⟩ := by
  unfold Addr.add
  by_cases h0 : a = 0
  · subst h0; rw [if_neg (by omega), if_pos rfl, Nat.zero_add]
  · rw [if_neg (by omega), if_neg h0, Nat.add_assoc]

theorem open_node {H : Type} {enc : TypeId × Value → H} {w : World} {base : Nat} {spare : Nat → Bool} {held : Bool} : ∀ (fuel : Nat) {cs : List Value} {x : DataW H × List MemPlace},
    DataW.trod enc Try.prog w base spare held fuel 24 cs = some x → ∃ (n : Nd) (a : Option Addr) (cap : Nat), cs = [.int .i64 n.k, .int .i64 n.f, .int .i64 n.t, .string n.s, .slice a n.c.len cap] ∧ n.c.len ≤ cap ∧ cap ≤ maxLen ∧ KidsAt w a 0 n.c := by
  intro fuel
  induction fuel using Nat.strongRecOn with
  | _ fuel ih =>
    intro cs x h
    obtain ⟨ys, n, hfu, _, hlen, hyl, hf⟩ := DataW.trod_struct Try.underlying24 h
    rw [nodeCells] at hlen
    match cs, hlen with
    | [c0, c1, c2, c3, c4], _ =>
      have g0 : DataW.trod enc Try.prog w base spare held n 3 [c0] = some (ys[0]'(by rw [hyl]; decide)) := by
        have this : DataW.trod enc Try.prog w base spare held n 3 (([c0, c1, c2, c3, c4].drop 0).take (Try.prog.cellsOf 3)) = ys[0]? := hf 0 _ rfl
        rw [intCell1] at this
        exact this.trans (List.getElem?_eq_getElem _)
      have g1 : DataW.trod enc Try.prog w base spare held n 3 [c1] = some (ys[1]'(by rw [hyl]; decide)) := by
        have this : DataW.trod enc Try.prog w base spare held n 3 (([c0, c1, c2, c3, c4].drop 1).take (Try.prog.cellsOf 3)) = ys[1]? := hf 1 _ rfl
        rw [intCell1] at this
        exact this.trans (List.getElem?_eq_getElem _)
      have g2 : DataW.trod enc Try.prog w base spare held n 3 [c2] = some (ys[2]'(by rw [hyl]; decide)) := by
        have this : DataW.trod enc Try.prog w base spare held n 3 (([c0, c1, c2, c3, c4].drop 2).take (Try.prog.cellsOf 3)) = ys[2]? := hf 2 _ rfl
        rw [intCell1] at this
        exact this.trans (List.getElem?_eq_getElem _)
      have g3 : DataW.trod enc Try.prog w base spare held n 9 [c3] = some (ys[3]'(by rw [hyl]; decide)) := by
        have this : DataW.trod enc Try.prog w base spare held n 9 (([c0, c1, c2, c3, c4].drop 3).take (Try.prog.cellsOf 9)) = ys[3]? := hf 3 _ rfl
        rw [strCell1] at this
        exact this.trans (List.getElem?_eq_getElem _)
      have g4 : DataW.trod enc Try.prog w base spare held n 22 [c4] = some (ys[4]'(by rw [hyl]; decide)) := by
        have this : DataW.trod enc Try.prog w base spare held n 22 (([c0, c1, c2, c3, c4].drop 4).take (Try.prog.cellsOf 22)) = ys[4]? := hf 4 _ rfl
        rw [kidCell1] at this
        exact this.trans (List.getElem?_eq_getElem _)
      obtain ⟨n0, e0, _, _⟩ := DataW.trod_int Try.underlying3 g0
      obtain ⟨n1, e1, _, _⟩ := DataW.trod_int Try.underlying3 g1
      obtain ⟨n2, e2, _, _⟩ := DataW.trod_int Try.underlying3 g2
      obtain ⟨s3, e3, _, _⟩ := DataW.trod_string Try.underlying9 g3
      cases e0
      cases e1
      cases e2
      cases e3
      rcases DataW.trod_slice Try.underlying22 g4 with ⟨e4, _⟩ | ⟨a, len, cap, el, rest, m, hm, e4, _, _, hl, hcm, hel, hi, _⟩
      · cases e4
        exact ⟨⟨n0, n1, n2, s3, .nil⟩, none, 0, rfl, Nat.le_refl _, Nat.zero_le _, trivial⟩
      · cases e4
        obtain ⟨F, hF, hK⟩ := kids_of (w := w) (a := some a) len 0 (fun j hj => by
          have h1 := hi j hj
          rw [List.getElem?_eq_getElem (by omega)] at h1
          obtain ⟨cs', hc, ht⟩ := Option.bind_eq_some_iff.1 h1
          rw [nodeCells] at hc
          obtain ⟨nd, a', cap', rfl, q1, q2, q3⟩ := ih m (by omega) ht
          obtain ⟨_, _, hat⟩ := World.cells?_some hc
          have c0 := hat 0 (by decide)
          have c1 := hat 1 (by decide)
          have c2 := hat 2 (by decide)
          have c3 := hat 3 (by decide)
          have c4 := hat 4 (by decide)
          rw [Go.Deep.add_add] at c0 c1 c2 c3 c4
          rw [Nat.add_zero] at c0
          rw [fld1 _ _ _ (by decide)] at c1 c2 c3 c4
          rw [Nat.zero_add]
          exact ⟨nd, a, a', cap', rfl, c0, c1, c2, c3, c4, q1, q2, q3⟩)
        subst hF
        exact ⟨⟨n0, n1, n2, s3, F⟩, some a, cap, rfl, hl, hcm, hK⟩

/-- An argument that is a node. -/
theorem open_nodeV {H : Type} {enc : TypeId × Value → H} {w : World} {base : Nat} {spare : Nat → Bool} {held : Bool} {r : Reach} {b0 : Nat} {v : Value} {d : DataW H} {p : List MemPlace}
    (hv : Value.okWide Try.prog w r b0 24 v) (h : DataW.Trod enc Try.prog w base spare held 24 v d p) : ∃ n, NodeV w n v := by
  obtain ⟨cs, rfl, _⟩ := okWide_struct Try.underlying24 hv
  obtain ⟨fuel, hf⟩ := h
  obtain ⟨n, a, cap, e, h1, h2, h3⟩ := open_node fuel hf
  obtain ⟨l⟩ := cs
  simp [Value.cells] at e
  subst e
  exact ⟨n, a, cap, rfl, h1, h2, h3⟩
end Go.Proofs.Ytmkjajapbkdpiaa
