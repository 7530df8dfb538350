/- Texts that a claim's limit of files puts together: ExTxtLaw, ExTxtJ. -/
import Derived.Test.YtahgbbnpbhfaeaaDoorExDec
import Derived.Test.YtahgbbnpbhfaeaaDoorExDiv32
/- What exact.Text keeps, round by round. No condition. -/
namespace Go.Proofs.YtahgbbnpbhfaeaaDoor
open Go.RowKit

/-- The words that are left and the pieces that are told. -/
def TxtR (w2 wr : World) (g c : Nat) (v4 : Value) (y ps : List Nat) (N : Nat) : Prop :=
  RowW wr g c y ∧ RowO wr w2.heap.size v4 ps ∧ Words y ∧ trimZ y = y ∧ (∀ p ∈ ps, p < 1000000000) ∧ ofP ps + 1000000000 ^ ps.length * ofW y = N ∧ Below g w2 wr ∧ w2.heap.size ≤ wr.heap.size
/-- The words from k on are divided. -/
def DivR (w2 wr : World) (g c : Nat) (v4 : Value) (y0 ps : List Nat) (k r : Nat) : Prop :=
  ∃ l, RowW wr g c l ∧ l.length = y0.length ∧ Words l ∧ l.take k = y0.take k ∧ 1000000000 * ofW (l.drop k) + r = ofW (y0.drop k) ∧ RowO wr w2.heap.size v4 ps ∧ Below g w2 wr ∧ w2.heap.size ≤ wr.heap.size
theorem RowO.other {w : World} {base : Nat} {v : Value} {l : List Nat} (h : RowO w base v l) {p : Addr} (hp : p.block < base) (u : Value) : RowO (w.setCell p u) base v l := by
  rcases h with h | ⟨g, cap, h1, h2, h3⟩
  · exact .inl h
  · exact .inr ⟨g, cap, h1, h2, h3.other (by omega) u⟩
theorem drop_getD {l : List Nat} {k : Nat} (h : k < l.length) : l.drop k = l.getD k 0 :: l.drop (k + 1) := by
  rw [List.drop_eq_getElem_cons h]
  simp [List.getD, h]
theorem drop_set_self {l : List Nat} {k x : Nat} (h : k < l.length) : (l.set k x).drop k = x :: l.drop (k + 1) := by
  rw [drop_getD (by simpa using h), getD_set h]
  congr 1
  apply List.ext_getElem?
  intro j
  simp only [List.getElem?_drop]
  rw [List.getElem?_set_ne (by omega)]
theorem TxtR.start {w2 wr : World} {g c : Nat} {v4 : Value} {y ps : List Nat} {N : Nat} (h : TxtR w2 wr g c v4 y ps N) : DivR w2 wr g c v4 y ps y.length 0 := by
  obtain ⟨h1, h2, h3, h4, h5, h6, h7, h8⟩ := h
  exact ⟨y, h1, rfl, h3, rfl, by simp [ofW], h2, h7, h8⟩
theorem DivR.cell {w2 wr : World} {g c k r : Nat} {v4 : Value} {y0 ps : List Nat} (h : DivR w2 wr g c v4 y0 ps (k + 1) r) (hk : k < y0.length) : wr.cell? ⟨g, k, none⟩ = some (.int .u32 ((y0.getD k 0 : Nat) : Int)) ∧ wr.frozen? ⟨g, k, none⟩ = false := by
  obtain ⟨l, h1, h2, h3, h4, _⟩ := h
  have e := congrArg (fun q => q.getD k 0) h4
  simp only [List.getD, List.getElem?_take, show k < k + 1 by omega, if_true] at e
  have := h1.cell k (by omega)
  rw [show l.getD k 0 = y0.getD k 0 from e] at this
  exact ⟨this, h1.frozen k⟩
theorem DivR.step {w2 wr : World} {g c k r x : Nat} {v4 : Value} {y0 ps : List Nat} (h : DivR w2 wr g c v4 y0 ps (k + 1) r) (hk : k < y0.length) (hr : r < 1000000000) (hx : y0.getD k 0 = x) (hx9 : x < 4294967296) (hg2 : g < w2.heap.size) :
    DivR w2 (wr.setCell ⟨g, k, none⟩ (.int .u32 (((r * 4294967296 + x) / 1000000000 : Nat) : Int))) g c v4 y0 ps k ((r * 4294967296 + x) % 1000000000) := by
  obtain ⟨l, h1, h2, h3, h4, h5, h6, h7, h8⟩ := h
  refine ⟨l.set k ((r * 4294967296 + x) / 1000000000), h1.set _ _, by simpa using h2, h3.set (by omega), ?_, ?_, h6.other hg2 _, h7.setCell (Nat.le_refl _) _, by simpa [World.setCell] using h8⟩
  · rw [take_set]
    have := congrArg (List.take k) h4
    rwa [List.take_take, List.take_take, show min k (k + 1) = k by omega] at this
  · rw [drop_set_self (by omega), drop_getD hk, hx]
    simp only [ofW]
    have := Nat.div_add_mod (r * 4294967296 + x) 1000000000
    omega
theorem trim_of_ge {l : List Nat} (hw : Words l) (h : l ≠ [] → 4294967296 ^ (l.length - 1) ≤ ofW l) : trimZ l = l := by
  by_cases h0 : l = []
  · subst h0; rfl
  · have hl := trim_le l
    have h1 := ofW_lt hw.trim
    rw [ofW_trim] at h1
    have h2 := (Nat.pow_lt_pow_iff_right (show 1 < 4294967296 by decide)).1 (Nat.lt_of_le_of_lt (h h0) h1)
    have h3 : 0 < l.length := List.length_pos_iff.2 h0
    have h4 := trim_pre l
    rw [h4, List.take_of_length_le (by omega)]
/-- A round's end. -/
theorem DivR.done {w2 wr w' : World} {g c r g4 c4 : Nat} {v4 : Value} {y0 ps : List Nat} {N : Nat} (h : DivR w2 wr g c v4 y0 ps 0 r) (hr : r < 1000000000) (hp : ∀ p ∈ ps, p < 1000000000) (hN : ofP ps + 1000000000 ^ ps.length * ofW y0 = N) (hg2 : g < w2.heap.size)
    (q1 : RowW w' g4 c4 (ps ++ [r])) (q2 : w2.heap.size ≤ g4) (q3 : Below w2.heap.size wr w') :
    ∃ l, WordsAt w' (some ⟨g, 0, none⟩) y0.length l ∧ l.length ≤ c ∧ (0 < ofW y0 → ofW (trimZ l) < ofW y0) ∧ TxtR w2 w' g c (.slice (some ⟨g4, 0, none⟩) (ps.length + 1) c4) (trimZ l) (ps ++ [r]) N := by
  obtain ⟨l, h1, h2, h3, h4, h5, h6, h7, h8⟩ := h
  simp only [List.drop_zero] at h5
  have h1' := h1.below q3 hg2
  refine ⟨l, ?_, h1'.1, ?_, ?_, ?_, h3.trim, trim_idem, ?_, ?_, h7.trans (Below.mono q3 (by omega)), by have := q3.size; omega⟩
  · have := h1'.words h3
    rwa [h2] at this
  · rw [ofW_trim]
    omega
  · have := h1'.cut (trimZ l).length
    rwa [← trim_pre] at this
  · exact .inr ⟨g4, c4, by simp, q2, q1⟩
  · intro p hp'
    rcases List.mem_append.1 hp' with hp' | hp'
    · exact hp p hp'
    · simp at hp'
      omega
  · rw [ofP_snoc, ofW_trim, List.length_append, List.length_singleton, Nat.pow_succ, ← hN, ← h5, Nat.mul_add, Nat.mul_assoc]
    omega
/-- How many pieces there may be. -/
theorem pieces_few {ps y : List Nat} {N n : Nat} (hN : ofP ps + 1000000000 ^ ps.length * ofW y = N) (hy : 0 < ofW y) (hlt : N < 4294967296 ^ n) : ps.length ≤ 2 * n := by
  have h1 : (1000000000 : Nat) ^ ps.length ≤ N := by
    have : 1000000000 ^ ps.length * 1 ≤ 1000000000 ^ ps.length * ofW y := Nat.mul_le_mul_left _ hy
    omega
  have h2 : (2 : Nat) ^ (29 * ps.length) ≤ 1000000000 ^ ps.length := by
    rw [Nat.pow_mul]
    exact Nat.pow_le_pow_left (by decide) _
  have h3 : (4294967296 : Nat) ^ n = 2 ^ (32 * n) := by
    rw [Nat.pow_mul]
  rw [h3] at hlt
  have := (Nat.pow_lt_pow_iff_right (show 1 < 2 by decide)).1 (Nat.lt_of_le_of_lt (Nat.le_trans h2 h1) hlt)
  omega
end Go.Proofs.YtahgbbnpbhfaeaaDoor

/- What the loop over the pieces keeps. No condition. -/
namespace Go.Proofs.YtahgbbnpbhfaeaaDoor
open Go.RowKit

/-- The digits of pieces in the order in which they are told. -/
def digO (pre : List WItem) : List Nat := pre.flatMap fun x => padN 9 x.2.1
theorem digO_snoc (pre : List WItem) (x : WItem) : digO (pre ++ [x]) = digO pre ++ padN 9 x.2.1 := by simp [digO]
theorem digO_len : ∀ pre : List WItem, (digO pre).length = 9 * pre.length
  | [] => rfl
  | x :: l => by
    have := digO_len l
    unfold digO at this ⊢
    rw [List.flatMap_cons, List.length_append, padN_len, this, List.length_cons]
    omega
theorem digP_flat : ∀ l : List Nat, digP l = l.reverse.flatMap (padN 9)
  | [] => rfl
  | x :: l => by rw [digP, digP_flat l, List.reverse_cons, List.flatMap_append]; simp
theorem digO_back (ps : List Nat) (h : Words ps) : digO (backN ps ps.length 0) = digP ps := by
  rw [digP_flat, ← backN_words ps h]
  unfold digO
  rw [List.flatMap_map]

def TxtB (b : Nat) (pre : List WItem) (W : World) : Prop := (pre = [] ∧ Bld b b [] W) ∨ BldU b b (mapB (digO pre)) W
def TxtJ (B2 b Bs bn : Nat) (box : Array Value) (v4 : Value) (ps : List Nat) (pre : List WItem) (W : World) : Prop :=
  TxtB b pre W ∧ RowO W B2 v4 ps ∧ W.heap[Bs]? = some (.cells #[v4] 22 (0, 0)) ∧ W.heap[bn]? = some (.cells box 24 (0, 0))
theorem TxtB.bld {b : Nat} {pre : List WItem} {W : World} (h : TxtB b pre W) : Bld b b (mapB (digO pre)) W := by
  rcases h with ⟨rfl, h⟩ | h
  · exact h
  · exact .inr h
theorem builderAt_kept {b : Nat} {p : Value} {bs : List Value} {W W' : World} {row : Option Nat} (h : Lib.BuilderAt 76 5 b b p bs W) (hg : W.grownBy W' row) (hr : ∀ r, row = some r → ∃ o : Obj, W.heap[r]? = some o ∧ o.isCells = false) : Lib.BuilderAt 76 5 b b p bs W' := by
  obtain ⟨h1, v, h2, h3, h4⟩ := h
  refine ⟨h1, v, (grownBy_keeps_cells hg hr h2 rfl).trans h2, h3.kept hg ?_, h4⟩
  rcases h3.2 with ⟨rfl, _⟩ | ⟨g, cap, cur, rfl, _, h5, _⟩
  · exact .inl rfl
  · refine .inr fun e => ?_
    have e2 : row = some g := by rw [← e]; rfl
    obtain ⟨o, ho, hc⟩ := hr g e2
    rw [h5] at ho
    cases ho
    cases hc
theorem TxtB.kept {b : Nat} {pre : List WItem} {W W' : World} {row : Option Nat} (h : TxtB b pre W) (hg : W.grownBy W' row) (hr : ∀ r, row = some r → ∃ o : Obj, W.heap[r]? = some o ∧ o.isCells = false) : TxtB b pre W' := by
  rcases h with ⟨e, h | h⟩ | h
  · exact .inl ⟨e, .inl (builderAt_kept h hg hr)⟩
  · exact .inl ⟨e, .inr (builderAt_kept h hg hr)⟩
  · exact .inr (builderAt_kept h hg hr)
theorem rowO_kept {B2 : Nat} {v4 : Value} {ps : List Nat} {W W' : World} {row : Option Nat} (h : RowO W B2 v4 ps) (hg : W.grownBy W' row) (hr : ∀ r, row = some r → ∃ o : Obj, W.heap[r]? = some o ∧ o.isCells = false) : RowO W' B2 v4 ps := by
  rcases h with h | ⟨g, cap, h1, h2, h3⟩
  · exact .inl h
  · obtain ⟨_, _, cur, h4, _⟩ := id h3
    exact .inr ⟨g, cap, h1, h2, h3.heap (grownBy_keeps_cells hg hr h4 rfl)⟩
theorem TxtJ.own {B2 b Bs bn : Nat} {box : Array Value} {v4 : Value} {ps : List Nat} : Own (TxtJ B2 b Bs bn box v4 ps) := fun _ _ _ _ h hg hr =>
  ⟨h.1.kept hg hr, rowO_kept h.2.1 hg hr, (grownBy_keeps_cells hg hr h.2.2.1 rfl).trans h.2.2.1, (grownBy_keeps_cells hg hr h.2.2.2 rfl).trans h.2.2.2⟩
theorem grown_of_below {W W' : World} (h : Below W.heap.size W W') : W.grownBy W' none := ⟨h.os, h.tape, h.output, h.size, fun k hk _ => h.block k hk⟩
theorem TxtJ.below {B2 b Bs bn : Nat} {box : Array Value} {v4 : Value} {ps : List Nat} {pre : List WItem} {W W' : World} (h : TxtJ B2 b Bs bn box v4 ps pre W) (hb : Below W.heap.size W W') : TxtJ B2 b Bs bn box v4 ps pre W' :=
  TxtJ.own _ _ _ _ h (grown_of_below hb) (fun r e => by cases e)
theorem TxtJ.write {B2 b Bs bn : Nat} {box : Array Value} {v4 : Value} {ps : List Nat} {pre : List WItem} {x : WItem} {W W' : World} (h : TxtJ B2 b Bs bn box v4 ps pre W) (hb : BldU b b (mapB (digO pre) ++ mapB (padN 9 x.2.1)) W') (ho : Lib.OthersKept 5 (some b) W W')
    (hBs : Bs ≠ b) (hbn : bn ≠ b) (hB2 : ∀ g, v4.ownBlock = some g → g ≠ b) : TxtJ B2 b Bs bn box v4 ps (pre ++ [x]) W' := by
  refine ⟨.inr ?_, ?_, ?_, ?_⟩
  · rw [digO_snoc]
    unfold mapB at hb ⊢
    rw [List.map_append]
    exact hb
  · rcases h.2.1 with h | ⟨g, cap, h1, h2, h3⟩
    · exact .inl h
    · obtain ⟨_, _, cur, h4, _⟩ := id h3
      have hg := hB2 g (by rw [h1]; rfl)
      exact .inr ⟨g, cap, h1, h2, h3.heap (by rw [h4]; exact ho g _ h4 (by simpa using hg) (fun c fz e => by cases e))⟩
  · exact ho Bs _ h.2.2.1 (by simpa using hBs) (fun c fz e => by cases e)
  · exact ho bn _ h.2.2.2 (by simpa using hbn) (fun c fz e => by cases e)
theorem TxtJ.backG {B2 b Bs bn p c4 : Nat} {a4 : Option Addr} {box : Array Value} {ps : List Nat} {pre : List WItem} {W : World} (h : TxtJ B2 b Bs bn box (.slice a4 p c4) ps pre W) (hw : Words ps) : BackG Bs a4 p c4 ps W :=
  ⟨by simp only [World.cell?, h.2.2.1]; rfl, h.2.1.wordsAt hw⟩
theorem others_keeps {W W' : World} {b B : Nat} (ho : Lib.OthersKept 5 (some b) W W') (hs : W.heap.size ≤ W'.heap.size) (hb : ∃ o : Obj, W.heap[b]? = some o ∧ o.isCells = true) : KeepsFrom B W W' :=
  ⟨hs, fun k o _ hk hc => ho k o hk (fun e => by
    cases e
    obtain ⟨o', h1, h2⟩ := hb
    rw [hk] at h1
    cases h1
    rw [hc] at h2
    cases h2) (fun c fz e => by rw [e] at hc; cases hc)⟩
theorem below_keeps {W W' : World} {B : Nat} (h : Below W.heap.size W W') : KeepsFrom B W W' :=
  ⟨h.size, fun k _ _ hk _ => (h.block k (Array.getElem?_eq_some_iff.1 hk).1).trans hk⟩
theorem TxtB.isCells {b : Nat} {pre : List WItem} {W : World} (h : TxtB b pre W) : ∃ o : Obj, W.heap[b]? = some o ∧ o.isCells = true := by
  rcases h.bld with ⟨_, v, h, _⟩ | ⟨_, v, h, _⟩
  · exact ⟨_, h, rfl⟩
  · exact ⟨_, h, rfl⟩
theorem DivR.below {w2 wr w' : World} {g c k r : Nat} {v4 : Value} {y0 ps : List Nat} (h : DivR w2 wr g c v4 y0 ps k r) (hb : Below wr.heap.size wr w') (hg : g ≤ wr.heap.size) : DivR w2 w' g c v4 y0 ps k r := by
  obtain ⟨l, h1, h2, h3, h4, h5, h6, h7, h8⟩ := h
  exact ⟨l, h1.below hb h1.lt, h2, h3, h4, h5, h6.below hb (Nat.le_refl _), h7.trans (Below.mono hb (by omega)), by have := hb.size; omega⟩
theorem str_neg (l : List UInt8) : (⟨#[45]⟩ : ByteArray) ++ strL l = strL (45 :: l) := by
  unfold strL
  apply ByteArray.ext
  simp
theorem decI_pos {neg : Bool} {z : List Nat} (h : 0 < ofW z) : strL (decI (valI neg z)) = if neg then (⟨#[45]⟩ : ByteArray) ++ strL (toB (decN (ofW z))) else strL (toB (decN (ofW z))) := by
  have e : (valI neg z).natAbs = ofW z := valI_abs neg z
  unfold decI
  rw [e]
  cases neg with
  | false =>
    have : ¬ valI false z < 0 := by unfold valI; simp
    rw [if_neg this]
    rfl
  | true =>
    have : valI true z < 0 := by unfold valI; simp; omega
    rw [if_pos this, str_neg]
    rfl
theorem decI_zero {neg : Bool} {z : List Nat} (h : ofW z = 0) : strL (decI (valI neg z)) = ⟨#[48]⟩ := by
  have e : valI neg z = 0 := by unfold valI; rw [h]; cases neg <;> rfl
  rw [e]
  unfold decI
  rw [if_neg (by decide), decN_small (by decide)]
  rfl
end Go.Proofs.YtahgbbnpbhfaeaaDoor
