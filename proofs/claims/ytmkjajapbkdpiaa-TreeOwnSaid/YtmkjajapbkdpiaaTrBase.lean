/- Nodes in memory: read as trees. No condition. -/
import Derived.Test.YtmkjajapbkdpiaaRegion
import Derived.Deep.Slices
import Derived.Deep.Fields
namespace Go.Proofs.Ytmkjajapbkdpiaa
open Go.RowKit Go.ChangeShapes Go.WideShapes Go.Deep

/-- A row of trees: the first one's kind, span, text and kids; the rest. -/
inductive Fo where
  | nil
  | cons (k f t : Int) (s : ByteArray) (kids rest : Fo)

namespace Fo
def len : Fo → Nat
  | .nil => 0
  | .cons _ _ _ _ _ r => r.len + 1
/-- How many nodes. -/
def cnt : Fo → Nat
  | .nil => 0
  | .cons _ _ _ _ c r => c.cnt + 1 + r.cnt
def drop : Nat → Fo → Fo
  | 0, F => F
  | _ + 1, .nil => .nil
  | n + 1, .cons _ _ _ _ _ r => drop n r
end Fo

structure Nd where
  k : Int
  f : Int
  t : Int
  s : ByteArray
  c : Fo

/-- Row a, from place i on, holds the trees F. -/
def KidsAt (w : World) (a : Option Addr) : Nat → Fo → Prop
  | _, .nil => True
  | i, .cons k f t s c r => (∃ ad a' cap, a = some ad ∧ w.cell? (ad.add (i * 5)) = some (.int .i64 k) ∧ w.cell? ⟨(ad.add (i * 5)).block, (ad.add (i * 5)).off + 1, none⟩ = some (.int .i64 f) ∧
      w.cell? ⟨(ad.add (i * 5)).block, (ad.add (i * 5)).off + 2, none⟩ = some (.int .i64 t) ∧ w.cell? ⟨(ad.add (i * 5)).block, (ad.add (i * 5)).off + 3, none⟩ = some (.string s) ∧
      w.cell? ⟨(ad.add (i * 5)).block, (ad.add (i * 5)).off + 4, none⟩ = some (.slice a' c.len cap) ∧ c.len ≤ cap ∧ cap ≤ maxLen ∧ KidsAt w a' 0 c) ∧ KidsAt w a (i + 1) r

/-- A node, as a value. -/
def NodeV (w : World) (n : Nd) (v : Value) : Prop :=
  ∃ a cap, v = .agg #[.int .i64 n.k, .int .i64 n.f, .int .i64 n.t, .string n.s, .slice a n.c.len cap] ∧ n.c.len ≤ cap ∧ cap ≤ maxLen ∧ KidsAt w a 0 n.c

theorem cell_below {w w' : World} {B : Nat} (h : Below B w w') (hB : B = w.heap.size) {a : Addr} {v : Value} (hc : w.cell? a = some v) : w'.cell? a = some v := by
  subst hB; exact (h.cell (World.block_lt_of_cell? _ _ hc)).trans hc

theorem keep3 {w w1 : World} {a b : Addr} {v u : Value} (hbel : Below w.heap.size w w1) (h0 : w.cell? a = some v) (h1 : w.cell? b = some u) (hf : w.frozen? a = false) : w1.cell? a = some v ∧ w1.cell? b = some u ∧ w1.frozen? a = false :=
  ⟨cell_below hbel rfl h0, cell_below hbel rfl h1, (hbel.frozen (World.block_lt_of_cell? _ _ h0)).trans hf⟩

section
variable {w w' : World}
theorem KidsAt.below {B : Nat} (hb : Below B w w') (hB : B = w.heap.size) : ∀ {F : Fo} {a : Option Addr} {i : Nat}, KidsAt w a i F → KidsAt w' a i F := by
  subst hB
  have cb : ∀ {p : Addr} {v : Value}, w.cell? p = some v → w'.cell? p = some v := fun {p v} hc => cell_below hb rfl hc
  intro F
  induction F with
  | nil => intro _ _ _; trivial
  | cons k f t s c r ihc ihr =>
    rintro a i ⟨⟨ad, a', cap, h0, h1, h2, h3, h4, h5, h6, h7, h8⟩, hr⟩
    exact ⟨⟨ad, a', cap, h0, cb h1, cb h2, cb h3, cb h4, cb h5, h6, h7, ihc h8⟩, ihr hr⟩
theorem NodeV.below {n : Nd} {v : Value} (h : NodeV w n v) (hb : Below w.heap.size w w') : NodeV w' n v := by
  obtain ⟨a, cap, e, h1, h2, h3⟩ := h
  exact ⟨a, cap, e, h1, h2, h3.below hb rfl⟩

/-- The tree at a place of a row. -/
def Fo.get : Fo → Nat → Nd
  | .nil, _ => ⟨0, 0, 0, ByteArray.empty, .nil⟩
  | .cons k f t s c _, 0 => ⟨k, f, t, s, c⟩
  | .cons _ _ _ _ _ r, i + 1 => r.get i
theorem KidsAt.get {a : Option Addr} : ∀ {F : Fo} {i : Nat} (j : Nat), KidsAt w a i F → j < F.len → ∃ ad a' cap, a = some ad ∧ w.cell? (ad.add ((i + j) * 5)) = some (.int .i64 (F.get j).k) ∧
    w.cell? ⟨(ad.add ((i + j) * 5)).block, (ad.add ((i + j) * 5)).off + 1, none⟩ = some (.int .i64 (F.get j).f) ∧ w.cell? ⟨(ad.add ((i + j) * 5)).block, (ad.add ((i + j) * 5)).off + 2, none⟩ = some (.int .i64 (F.get j).t) ∧
    w.cell? ⟨(ad.add ((i + j) * 5)).block, (ad.add ((i + j) * 5)).off + 3, none⟩ = some (.string (F.get j).s) ∧ w.cell? ⟨(ad.add ((i + j) * 5)).block, (ad.add ((i + j) * 5)).off + 4, none⟩ = some (.slice a' (F.get j).c.len cap) ∧
    (F.get j).c.len ≤ cap ∧ cap ≤ maxLen ∧ KidsAt w a' 0 (F.get j).c
  | .nil, _, _, _, hj => absurd hj (by simp [Fo.len])
  | .cons k f t s c r, i, 0, h, _ => by
    obtain ⟨⟨ad, a', cap, h0⟩, _⟩ := h
    exact ⟨ad, a', cap, h0⟩
  | .cons k f t s c r, i, j + 1, h, hj => by
    have := KidsAt.get j h.2 (by simp [Fo.len] at hj; omega)
    rw [show i + 1 + j = i + (j + 1) by omega] at this
    exact this
theorem Fo.drop_get : ∀ (F : Fo) (i : Nat), i < F.len → F.drop i = .cons (F.get i).k (F.get i).f (F.get i).t (F.get i).s (F.get i).c (F.drop (i + 1))
  | .nil, _, h => absurd h (by simp [Fo.len])
  | .cons _ _ _ _ _ r, 0, _ => by cases r <;> rfl
  | .cons _ _ _ _ _ r, i + 1, h => Fo.drop_get r i (by simp [Fo.len] at h; omega)
theorem Fo.drop_len : ∀ (F : Fo) (i : Nat), F.len ≤ i → F.drop i = .nil
  | .nil, 0, _ => rfl
  | .nil, _ + 1, _ => rfl
  | .cons _ _ _ _ _ _, 0, h => absurd h (by simp [Fo.len])
  | .cons _ _ _ _ _ r, i + 1, h => Fo.drop_len r i (by simp [Fo.len] at h; omega)
theorem Fo.get_cnt : ∀ (F : Fo) (i : Nat), i < F.len → (F.get i).c.cnt < F.cnt
  | .nil, _, h => absurd h (by simp [Fo.len])
  | .cons _ _ _ _ _ r, 0, _ => by simp [Fo.get, Fo.cnt]; omega
  | .cons _ _ _ _ _ r, i + 1, h => by
    have := Fo.get_cnt r i (by simp [Fo.len] at h; omega)
    simp [Fo.get, Fo.cnt]; omega
end
end Go.Proofs.Ytmkjajapbkdpiaa
