/- What the loop over the pieces keeps. No condition. -/
import Derived.Test.YtahgbbnpbhfaeaaDoorExTxtLaw
namespace Go.Proofs.YtahgbbnpbhfaeaaDoor
open Go.RowKit

/-- The digits of pieces in the order in which they are told. -/
def digO (pre : List WItem) : List Nat := pre.flatMap fun x => padN 9 x.2.1
theorem digO_snoc (pre : List WItem) (x : WItem) : digO (pre ++ [x]) = digO pre ++ padN 9 x.2.1 := by simp [digO]
theorem digO_len : ∀ pre : List WItem, (digO pre).length = 9 * pre.length
  | [] => rfl
  | x :: l => by
    have := digO_len l
    unfold digO at this ⊢
    rw [List.flatMap_cons, List.length_append, padN_len, this, List.length_cons]
    omega
theorem digP_flat : ∀ l : List Nat, digP l = l.reverse.flatMap (padN 9)
  | [] => rfl
  | x :: l => by rw [digP, digP_flat l, List.reverse_cons, List.flatMap_append]; simp
theorem digO_back (ps : List Nat) (h : Words ps) : digO (backN ps ps.length 0) = digP ps := by
  rw [digP_flat, ← backN_words ps h]
  unfold digO
  rw [List.flatMap_map]

def TxtB (b : Nat) (pre : List WItem) (W : World) : Prop := (pre = [] ∧ Bld b b [] W) ∨ BldU b b (mapB (digO pre)) W
def TxtJ (B2 b Bs bn : Nat) (box : Array Value) (v4 : Value) (ps : List Nat) (pre : List WItem) (W : World) : Prop :=
  TxtB b pre W ∧ RowO W B2 v4 ps ∧ W.heap[Bs]? = some (.cells #[v4] 22 (0, 0)) ∧ W.heap[bn]? = some (.cells box 24 (0, 0))
theorem TxtB.bld {b : Nat} {pre : List WItem} {W : World} (h : TxtB b pre W) : Bld b b (mapB (digO pre)) W := by
  rcases h with ⟨rfl, h⟩ | h
  · exact h
  · exact .inr h
theorem builderAt_kept {b : Nat} {p : Value} {bs : List Value} {W W' : World} {row : Option Nat} (h : Lib.BuilderAt 76 5 b b p bs W) (hg : W.grownBy W' row) (hr : ∀ r, row = some r → ∃ o : Obj, W.heap[r]? = some o ∧ o.isCells = false) : Lib.BuilderAt 76 5 b b p bs W' := by
  obtain ⟨h1, v, h2, h3, h4⟩ := h
  refine ⟨h1, v, (grownBy_keeps_cells hg hr h2 rfl).trans h2, h3.kept hg ?_, h4⟩
  rcases h3.2 with ⟨rfl, _⟩ | ⟨g, cap, cur, rfl, _, h5, _⟩
  · exact .inl rfl
  · refine .inr fun e => ?_
    have e2 : row = some g := by rw [← e]; rfl
    obtain ⟨o, ho, hc⟩ := hr g e2
    rw [h5] at ho
    cases ho
    cases hc
theorem TxtB.kept {b : Nat} {pre : List WItem} {W W' : World} {row : Option Nat} (h : TxtB b pre W) (hg : W.grownBy W' row) (hr : ∀ r, row = some r → ∃ o : Obj, W.heap[r]? = some o ∧ o.isCells = false) : TxtB b pre W' := by
  rcases h with ⟨e, h | h⟩ | h
  · exact .inl ⟨e, .inl (builderAt_kept h hg hr)⟩
  · exact .inl ⟨e, .inr (builderAt_kept h hg hr)⟩
  · exact .inr (builderAt_kept h hg hr)
theorem rowO_kept {B2 : Nat} {v4 : Value} {ps : List Nat} {W W' : World} {row : Option Nat} (h : RowO W B2 v4 ps) (hg : W.grownBy W' row) (hr : ∀ r, row = some r → ∃ o : Obj, W.heap[r]? = some o ∧ o.isCells = false) : RowO W' B2 v4 ps := by
  rcases h with h | ⟨g, cap, h1, h2, h3⟩
  · exact .inl h
  · obtain ⟨_, _, cur, h4, _⟩ := id h3
    exact .inr ⟨g, cap, h1, h2, h3.heap (grownBy_keeps_cells hg hr h4 rfl)⟩
theorem TxtJ.own {B2 b Bs bn : Nat} {box : Array Value} {v4 : Value} {ps : List Nat} : Own (TxtJ B2 b Bs bn box v4 ps) := fun _ _ _ _ h hg hr =>
  ⟨h.1.kept hg hr, rowO_kept h.2.1 hg hr, (grownBy_keeps_cells hg hr h.2.2.1 rfl).trans h.2.2.1, (grownBy_keeps_cells hg hr h.2.2.2 rfl).trans h.2.2.2⟩
theorem grown_of_below {W W' : World} (h : Below W.heap.size W W') : W.grownBy W' none := ⟨h.os, h.tape, h.output, h.size, fun k hk _ => h.block k hk⟩
theorem TxtJ.below {B2 b Bs bn : Nat} {box : Array Value} {v4 : Value} {ps : List Nat} {pre : List WItem} {W W' : World} (h : TxtJ B2 b Bs bn box v4 ps pre W) (hb : Below W.heap.size W W') : TxtJ B2 b Bs bn box v4 ps pre W' :=
  TxtJ.own _ _ _ _ h (grown_of_below hb) (fun r e => by cases e)
theorem TxtJ.write {B2 b Bs bn : Nat} {box : Array Value} {v4 : Value} {ps : List Nat} {pre : List WItem} {x : WItem} {W W' : World} (h : TxtJ B2 b Bs bn box v4 ps pre W) (hb : BldU b b (mapB (digO pre) ++ mapB (padN 9 x.2.1)) W') (ho : Lib.OthersKept 5 (some b) W W')
    (hBs : Bs ≠ b) (hbn : bn ≠ b) (hB2 : ∀ g, v4.ownBlock = some g → g ≠ b) : TxtJ B2 b Bs bn box v4 ps (pre ++ [x]) W' := by
  refine ⟨.inr ?_, ?_, ?_, ?_⟩
  · rw [digO_snoc]
    unfold mapB at hb ⊢
    rw [List.map_append]
    exact hb
  · rcases h.2.1 with h | ⟨g, cap, h1, h2, h3⟩
    · exact .inl h
    · obtain ⟨_, _, cur, h4, _⟩ := id h3
      have hg := hB2 g (by rw [h1]; rfl)
      exact .inr ⟨g, cap, h1, h2, h3.heap (by rw [h4]; exact ho g _ h4 (by simpa using hg) (fun c fz e => by cases e))⟩
  · exact ho Bs _ h.2.2.1 (by simpa using hBs) (fun c fz e => by cases e)
  · exact ho bn _ h.2.2.2 (by simpa using hbn) (fun c fz e => by cases e)
theorem TxtJ.backG {B2 b Bs bn p c4 : Nat} {a4 : Option Addr} {box : Array Value} {ps : List Nat} {pre : List WItem} {W : World} (h : TxtJ B2 b Bs bn box (.slice a4 p c4) ps pre W) (hw : Words ps) : BackG Bs a4 p c4 ps W :=
  ⟨by simp only [World.cell?, h.2.2.1]; rfl, h.2.1.wordsAt hw⟩
theorem others_keeps {W W' : World} {b B : Nat} (ho : Lib.OthersKept 5 (some b) W W') (hs : W.heap.size ≤ W'.heap.size) (hb : ∃ o : Obj, W.heap[b]? = some o ∧ o.isCells = true) : KeepsFrom B W W' :=
  ⟨hs, fun k o _ hk hc => ho k o hk (fun e => by
    cases e
    obtain ⟨o', h1, h2⟩ := hb
    rw [hk] at h1
    cases h1
    rw [hc] at h2
    cases h2) (fun c fz e => by rw [e] at hc; cases hc)⟩
theorem below_keeps {W W' : World} {B : Nat} (h : Below W.heap.size W W') : KeepsFrom B W W' :=
  ⟨h.size, fun k _ _ hk _ => (h.block k (Array.getElem?_eq_some_iff.1 hk).1).trans hk⟩
theorem TxtB.isCells {b : Nat} {pre : List WItem} {W : World} (h : TxtB b pre W) : ∃ o : Obj, W.heap[b]? = some o ∧ o.isCells = true := by
  rcases h.bld with ⟨_, v, h, _⟩ | ⟨_, v, h, _⟩
  · exact ⟨_, h, rfl⟩
  · exact ⟨_, h, rfl⟩
theorem DivR.below {w2 wr w' : World} {g c k r : Nat} {v4 : Value} {y0 ps : List Nat} (h : DivR w2 wr g c v4 y0 ps k r) (hb : Below wr.heap.size wr w') (hg : g ≤ wr.heap.size) : DivR w2 w' g c v4 y0 ps k r := by
  obtain ⟨l, h1, h2, h3, h4, h5, h6, h7, h8⟩ := h
  exact ⟨l, h1.below hb h1.lt, h2, h3, h4, h5, h6.below hb (Nat.le_refl _), h7.trans (Below.mono hb (by omega)), by have := hb.size; omega⟩
theorem str_neg (l : List UInt8) : (⟨#[45]⟩ : ByteArray) ++ strL l = strL (45 :: l) := by
  unfold strL
  apply ByteArray.ext
  simp
theorem decI_pos {neg : Bool} {z : List Nat} (h : 0 < ofW z) : strL (decI (valI neg z)) = if neg then (⟨#[45]⟩ : ByteArray) ++ strL (toB (decN (ofW z))) else strL (toB (decN (ofW z))) := by
  have e : (valI neg z).natAbs = ofW z := valI_abs neg z
  unfold decI
  rw [e]
  cases neg with
  | false =>
    have : ¬ valI false z < 0 := by unfold valI; simp
    rw [if_neg this]
    rfl
  | true =>
    have : valI true z < 0 := by unfold valI; simp; omega
    rw [if_pos this, str_neg]
    rfl
theorem decI_zero {neg : Bool} {z : List Nat} (h : ofW z = 0) : strL (decI (valI neg z)) = ⟨#[48]⟩ := by
  have e : valI neg z = 0 := by unfold valI; rw [h]; cases neg <;> rfl
  rw [e]
  unfold decI
  rw [if_neg (by decide), decN_small (by decide)]
  rfl
end Go.Proofs.YtahgbbnpbhfaeaaDoor
