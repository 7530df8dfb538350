/- Texts that a claim's limit of files puts together: RfByte, RfLaw, RfTextL. -/
import Derived.Test.YtahgbbnpbhfaeaaDoorJ3
import Derived.Test.YtahgbbnpbhfaeaaDoorExDec
import Derived.Laws.IdiomStrings
import Derived.Test.YtahgbbnpbhfaeaaDoorJ5
import Derived.Test.YtahgbbnpbhfaeaaDoorRfTrim
/- Rows of bytes of one's own: appended to, made a text. No condition. -/
namespace Go.Proofs.YtahgbbnpbhfaeaaDoor
open Go.RowKit

theorem infoB : (Tryd.prog.info? 5).map (fun i => (i.zero, i.size, i.bytes)) = some (some (.int .u8 0), 1, 1) := by kernel_rfl
/-- Block g's first bytes are these. -/
def BytW (w : World) (g cap : Nat) (l : List Nat) : Prop := l.length ≤ cap ∧ cap ≤ maxLen ∧ ∃ cur, w.heap[g]? = some (.cells cur 5 (0, 0)) ∧ cur.size = cap ∧ cur.toList.take l.length = mapB l
/-- A row of bytes of one's own: none, or a block's first bytes. -/
def BytO (w : World) (base : Nat) (v : Value) (l : List Nat) : Prop := (v = .slice none 0 0 ∧ l = []) ∨ ∃ g cap, v = .slice (some ⟨g, 0, none⟩) l.length cap ∧ base ≤ g ∧ BytW w g cap l
section
variable {w w' : World} {g cap base : Nat} {v : Value} {l : List Nat}
theorem BytW.lt (h : BytW w g cap l) : g < w.heap.size := by
  obtain ⟨_, _, cur, h, _⟩ := h
  exact (Array.getElem?_eq_some_iff.1 h).1
theorem BytW.heap (h : BytW w g cap l) (e : w'.heap[g]? = w.heap[g]?) : BytW w' g cap l := by
  obtain ⟨h1, h2, cur, h3, h4⟩ := h
  exact ⟨h1, h2, cur, e.trans h3, h4⟩
theorem BytW.below {B : Nat} (h : BytW w g cap l) (hb : Below B w w') (hg : g < B) : BytW w' g cap l := h.heap (hb.block g hg)
theorem BytW.cell (h : BytW w g cap l) (i : Nat) (hi : i < l.length) : w.cell? ⟨g, i, none⟩ = some (.int .u8 ((l.getD i 0 : Nat) : Int)) := by
  obtain ⟨h1, h2, cur, h3, h4, h5⟩ := h
  rw [cell_of_row w g i cur _ (0, 0) h3]
  have h6 : (cur.toList.take l.length)[i]? = some (.int .u8 ((l.getD i 0 : Nat) : Int)) := by
    rw [h5]
    simp [mapB, List.getD, hi]
  rw [List.getElem?_take, if_pos hi] at h6
  simpa using h6
theorem BytW.frozen (h : BytW w g cap l) (i : Nat) : w.frozen? ⟨g, i, none⟩ = false := by
  obtain ⟨h1, h2, cur, h3, h4⟩ := h
  simp only [World.frozen?, h3]
  simp
theorem BytW.set (h : BytW w g cap l) (i x : Nat) : BytW (w.setCell ⟨g, i, none⟩ (.int .u8 (x : Int))) g cap (l.set i x) := by
  obtain ⟨h1, h2, cur, h3, h4, h5⟩ := h
  refine ⟨by simpa using h1, h2, _, setCell_same2 h3 _, by simpa using h4, ?_⟩
  rw [Array.toList_setIfInBounds, List.take_set, List.length_set, h5]
  simp [mapB, List.map_set]
theorem BytW.other (h : BytW w g cap l) {p : Addr} (hp : p.block ≠ g) (u : Value) : BytW (w.setCell p u) g cap l := h.heap (Below.heap_setCell _ _ _ _ (Ne.symm hp))
theorem BytW.cut (h : BytW w g cap l) (m : Nat) : BytW w g cap (l.take m) := by
  obtain ⟨h1, h2, cur, h3, h4, h5⟩ := h
  refine ⟨by rw [List.length_take]; omega, h2, cur, h3, h4, ?_⟩
  rw [List.length_take]
  have := congrArg (List.take (min m l.length)) h5
  rw [List.take_take, show min (min m l.length) l.length = min m l.length by omega] at this
  rw [this]
  unfold mapB
  rw [← List.map_take]
  congr 1
  by_cases hm : m ≤ l.length
  · rw [Nat.min_eq_left hm]
  · rw [Nat.min_eq_right (by omega), List.take_length, List.take_of_length_le (by omega)]
theorem BytO.nil : BytO w base (.slice none 0 0) [] := .inl ⟨rfl, rfl⟩
theorem BytO.below {B : Nat} (h : BytO w base v l) (hb : Below B w w') (hB : w.heap.size ≤ B) : BytO w' base v l := by
  rcases h with h | ⟨g, cap, h1, h2, h3⟩
  · exact .inl h
  · exact .inr ⟨g, cap, h1, h2, h3.below hb (by have := h3.lt; omega)⟩
theorem BytO.shape (h : BytO w base v l) : ∃ a c, v = .slice a l.length c ∧ l.length ≤ c ∧ c ≤ maxLen := by
  rcases h with ⟨rfl, rfl⟩ | ⟨g, cap, rfl, h2, h3, h4, _⟩
  · exact ⟨_, _, rfl, Nat.le_refl _, by simp [maxLen]⟩
  · exact ⟨_, _, rfl, h3, h4⟩
theorem BytO.mono {b : Nat} (h : BytO w base v l) (hb : b ≤ base) : BytO w b v l := by
  rcases h with h | ⟨g, cap, h1, h2, h3⟩
  · exact .inl h
  · exact .inr ⟨g, cap, h1, by omega, h3⟩
theorem mapB_append (l m : List Nat) : mapB (l ++ m) = mapB l ++ mapB m := by simp [mapB]
theorem BytO.owns (h : BytO w base v l) : w.ownsRow base 5 1 v l.length (mapB l) := by
  rcases h with ⟨rfl, rfl⟩ | ⟨g, cap, rfl, h2, h3, h4, cur, h5, h6, h7⟩
  · exact ⟨rfl, .inl ⟨rfl, rfl⟩⟩
  · exact ⟨by simp [mapB], .inr ⟨g, cap, cur, rfl, h2, h5, h3, h4, by omega, by rw [Nat.mul_one]; exact h7⟩⟩
theorem BytW.of_owns {n : Nat} (h : w.ownsRow base 5 1 (.slice (some ⟨g, 0, none⟩) n cap) n (mapB l)) (hn : n = l.length) : base ≤ g ∧ BytW w g cap l := by
  subst hn
  rcases h.2 with ⟨e, _⟩ | ⟨g', cap', cur, e, h2, h3, h4, h5, h6, h7⟩
  · cases e
  · cases e
    exact ⟨h2, h4, h5, cur, h3, by omega, by rw [Nat.mul_one] at h7; exact h7⟩
theorem BytO.own (h : BytO w base v l) : ∀ g, v.ownBlock = some g → base ≤ g := by
  rcases h with ⟨rfl, rfl⟩ | ⟨g, cap, rfl, h2, _⟩
  · intro g hg; cases hg
  · intro g' hg
    have : g = g' := by simpa [Value.ownBlock] using hg
    omega
end

/-- 'append(row, byte)' -/
theorem wpList_appB (w : World) {ops : Array Oper} {rest : List Oper} {o : Oper} {a : Act} {Q : Exit → Act → World → Prop} (hgd : o.guard = none) (s x : Operand)
    (ho : o.op = .call { callee := .builtin .append, args := #[s, x], argTypes := #[48, 48] })
    (base : Nat) (v : Value) (l : List Nat) (U : Int) (u : Nat) (hs : a.eval s = v) (hx : a.eval x = .slice (some ⟨w.heap.size, 0, none⟩) 1 1) (hown : BytO w base v l) (hU : U = (u : Int)) (hl : l.length ≤ 40000000) (hb : base ≤ w.heap.size)
    (h : ∀ g cap w', BytW w' g cap (l ++ [u]) → base ≤ g → Below base w w' → (∀ k, k < w.heap.size → v.ownBlock ≠ some k → w'.heap[k]? = w.heap[k]?) → (v.ownBlock = some g ∨ w.heap.size ≤ g) → wpList Tryd.prog ops Q rest (a.put o.dst (.slice (some ⟨g, 0, none⟩) (l.length + 1) cap)) w') :
    wpList Tryd.prog ops Q (o :: rest) a (w.alloc (.cells #[.int .u8 U] 5)) := by
  subst hU
  obtain ⟨i, hi, hz, hsz, hby⟩ := info_parts infoB
  have hb1 := (Below.refl base w).alloc (by omega) (.cells #[.int .u8 (u : Int)] 5)
  have hb2 := (Below.refl w.heap.size w).alloc (Nat.le_refl _) (.cells #[.int .u8 (u : Int)] 5)
  have h1 := hown.below hb2 (Nat.le_refl _)
  refine wpList_app _ hgd s x _ ho base 5 i _ 1 1 Tryd.underlying48 hi hz hsz hby rfl v l.length (mapB l) hs h1.owns ⟨w.heap.size, 0, none⟩ 1 1 [.int .u8 (u : Int)] hx rfl ?_ (by simp [Value.oneCell']) (by omega) (by unfold maxLen; omega) (by omega) (by simp; omega) ?_
  · intro j y hj
    match j with
    | 0 =>
      rw [addW]
      rw [cell_of_row _ _ _ _ _ _ (heap_alloc_new w _)]
      simpa using hj
    | j + 1 => simp at hj
  · intro g cap w' h2 h3
    have h4 := BytW.of_owns (l := l ++ [u]) (by rw [mapB_append]; exact h2) (by simp)
    refine h g cap w' h4.2 h4.1 (hb1.trans (grown_below (v := v) h3.grown hown.own (by simp; omega))) (fun k hk hv => (h3.grown.block k (by simp; omega) (fun e => hv e.symm)).trans (hb2.block k hk)) ?_
    rcases h3.at with h5 | h5
    · exact .inl h5
    · right
      rw [h5]
      simp


/-- 'string(row)' -/
theorem wpList_str (w : World) {ops : Array Oper} {rest : List Oper} {o : Oper} {a : Act} {Q : Exit → Act → World → Prop} (hgd : o.guard = none) (x : Operand)
    (ho : o.op = .convert 48 9 x) (g cap n : Nat) (l : List Nat) (hx : a.eval x = .slice (some ⟨g, 0, none⟩) n cap) (hn : n = l.length) (h : BytW w g cap l) (hl : ∀ y ∈ l, y < 256)
    (hK : wpList Tryd.prog ops Q rest (a.put o.dst (.string (strL (toB l)))) w) : wpList Tryd.prog ops Q (o :: rest) a w :=
  wpList_plain hgd fun K hK' => by
    subst hn
    have e : l.length = (toB l).length := by simp [toB]
    have hr := run_convert_bytes_back (P := Tryd.prog) w 48 9 5 ⟨g, 0, none⟩ cap (toB l) Tryd.underlying48 Tryd.underlying5 Tryd.underlying9 (fun j hj => by
      rw [addW, h.cell j (by rw [e]; exact hj)]
      have hj2 : j < l.length := by rw [e]; exact hj
      have h9 := hl l[j] (List.getElem_mem hj2)
      simp [toB, List.getD, hj2, Nat.mod_eq_of_lt h9])
    rw [← e] at hr
    unfold Oper.wp execOp
    simp only [ho, execOp, hx, Sem.run_bind, Sem.run_pure, hr, Result.andThen_ok]
    exact hK' _ _ hK
end Go.Proofs.YtahgbbnpbhfaeaaDoor

/- Reading decimal digits, plain. No condition. -/
namespace Go.Proofs.YtahgbbnpbhfaeaaDoor

def valS (l : List Nat) : Nat := l.foldl (fun a d => 10 * a + (d - 48)) 0
theorem valS_snoc (l : List Nat) (d : Nat) : valS (l ++ [d]) = 10 * valS l + (d - 48) := by simp [valS]
theorem valS_more (l : List Nat) : ∀ r : List Nat, valS l ≤ valS (l ++ r.reverse)
  | [] => by simp
  | d :: r => by
    have := valS_more l r
    rw [List.reverse_cons, ← List.append_assoc, valS_snoc]
    omega
theorem valS_take (l : List Nat) (i : Nat) : valS (l.take i) ≤ valS l := by
  have h := valS_more (l.take i) (l.drop i).reverse
  rwa [List.reverse_reverse, List.take_append_drop] at h
theorem valS_step {l : List Nat} {i : Nat} (h : i < l.length) : valS (l.take (i + 1)) = 10 * valS (l.take i) + (l.getD i 0 - 48) := by
  have e : l.take (i + 1) = l.take i ++ [l.getD i 0] := by
    rw [List.take_add_one, List.getElem?_eq_getElem h]
    simp [List.getD, h]
  rw [e, valS_snoc]
theorem valS_dec : ∀ r : List Nat, r ≠ [] → (∀ x ∈ r, 48 ≤ x ∧ x ≤ 57) → (2 ≤ r.length → r.getLast? ≠ some 48) → decN (valS r.reverse) = r.reverse
  | [], h, _, _ => absurd rfl h
  | [d], _, h, _ => by
    have := h d (by simp)
    simp only [List.reverse_cons, List.reverse_nil, List.nil_append, valS, List.foldl_cons, List.foldl_nil]
    rw [decN_small (by omega)]
    congr 1
    omega
  | d :: e :: r, _, h, h0 => by
    have hl : (e :: r).getLast? ≠ some 48 := by
      have := h0 (by simp)
      rwa [List.getLast?_cons_cons] at this
    have ih := valS_dec (e :: r) (by simp) (fun x hx => h x (List.mem_cons_of_mem _ hx)) (fun _ => hl)
    have hd := h d (by simp)
    rw [List.reverse_cons, valS_snoc]
    have hv : 0 < valS (e :: r).reverse := by
      refine Nat.pos_of_ne_zero fun h0 => hl ?_
      rw [h0, decN_small (by decide)] at ih
      have e2 := congrArg List.reverse ih
      rw [List.reverse_reverse] at e2
      rw [← e2]
      rfl
    rw [decN_big (by omega), show (10 * valS (e :: r).reverse + (d - 48)) / 10 = valS (e :: r).reverse by omega, ih]
    congr 2
    omega
theorem valS_big : ∀ r : List Nat, r ≠ [] → (∀ x ∈ r, 48 ≤ x ∧ x ≤ 57) → r.getLast? ≠ some 48 → 10 ^ (r.length - 1) ≤ valS r.reverse
  | [], h, _, _ => absurd rfl h
  | [d], _, h, h0 => by
    have := h d (by simp)
    have h1 : d ≠ 48 := fun e => h0 (by rw [e]; rfl)
    simp only [List.reverse_cons, List.reverse_nil, List.nil_append, valS, List.foldl_cons, List.foldl_nil, List.length_singleton, Nat.sub_self, Nat.pow_zero]
    omega
  | d :: e :: r, _, h, h0 => by
    have ih := valS_big (e :: r) (by simp) (fun x hx => h x (List.mem_cons_of_mem _ hx)) (by rwa [List.getLast?_cons_cons] at h0)
    rw [List.reverse_cons, valS_snoc, List.length_cons, Nat.add_sub_cancel, show (e :: r).length = ((e :: r).length - 1) + 1 by simp, Nat.pow_succ]
    omega
theorem pow200 : 2 ^ 512 ≤ 10 ^ 200 := by
  have h1 : (8 : Nat) ^ 171 = 2 ^ 513 := pow_as 8 2 3 171 513 (by decide) (by decide)
  have h2 : (8 : Nat) ^ 171 ≤ 10 ^ 171 := Nat.pow_le_pow_left (by decide) 171
  have h3 : (10 : Nat) ^ 171 ≤ 10 ^ 200 := pow_mono 10 171 200 (by decide) (by decide)
  have h4 : (2 : Nat) ^ 512 ≤ 2 ^ 513 := pow_mono 2 512 513 (by decide) (by decide)
  rw [h1] at h2
  exact Nat.le_trans h4 (Nat.le_trans h2 h3)

/-- Digits told from the end. -/
def decD (n : Nat) : List Nat := if n = 0 then [] else decN n
theorem decD_zero : decD 0 = [] := rfl
theorem decD_step {n : Nat} (h : 0 < n) : decD n = decD (n / 10) ++ [48 + n % 10] := by
  unfold decD
  rw [if_neg (by omega)]
  by_cases h10 : n < 10
  · rw [if_pos (by omega), decN_small h10, Nat.mod_eq_of_lt h10]
    rfl
  · rw [if_neg (by omega), decN_big (by omega)]
end Go.Proofs.YtahgbbnpbhfaeaaDoor

/- What recastref2.Text keeps, round by round. No condition. -/
namespace Go.Proofs.YtahgbbnpbhfaeaaDoor
open Go.RowKit

theorem BytO.other {w : World} {base : Nat} {v : Value} {l : List Nat} (h : BytO w base v l) {p : Addr} (hp : v.ownBlock ≠ some p.block) (u : Value) : BytO (w.setCell p u) base v l := by
  rcases h with h | ⟨g, cap, rfl, h2, h3⟩
  · exact .inl h
  · exact .inr ⟨g, cap, rfl, h2, h3.other (fun e => hp (by rw [e]; simp [Value.ownBlock])) u⟩
/-- The words that are left and the digits that are told. -/
def TxtD (w wr : World) (v3 v4 : Value) (y b : List Nat) (N : Nat) : Prop :=
  ∃ s, w.heap.size ≤ s ∧ RowO wr s v3 y ∧ BytO wr w.heap.size v4 b ∧ (∀ k, v4.ownBlock = some k → k < s) ∧ Words y ∧ trimZ y = y ∧ (decD N = decD (ofW y) ++ b.reverse ∧ 10 ^ b.length * ofW y ≤ N ∧ ∀ x ∈ b, 48 ≤ x ∧ x ≤ 57) ∧ Below w.heap.size w wr
/-- The words from k on are divided. -/
def DivD (w wr : World) (g c : Nat) (v4 : Value) (y0 b : List Nat) (k r : Nat) : Prop :=
  ∃ l, RowW wr g c l ∧ l.length = y0.length ∧ Words l ∧ l.take k = y0.take k ∧ 10 * ofW (l.drop k) + r = ofW (y0.drop k) ∧ BytO wr w.heap.size v4 b ∧ Below w.heap.size w wr
theorem TxtD.start {w wr : World} {v3 v4 : Value} {y b : List Nat} {N : Nat} (h : TxtD w wr v3 v4 y b N) (hy : y ≠ []) : ∃ g c, v3 = .slice (some ⟨g, 0, none⟩) y.length c ∧ y.length ≤ c ∧ w.heap.size ≤ g ∧ v4.ownBlock ≠ some g ∧ DivD w wr g c v4 y b y.length 0 := by
  obtain ⟨s, h1, h2, h3, h4, h5, h6, h7, h8⟩ := h
  rcases h2 with ⟨_, h2⟩ | ⟨g, c, rfl, q1, q2⟩
  · exact absurd h2 hy
  · exact ⟨g, c, rfl, q2.1, by omega, fun e => by have := h4 g e; omega, y, q2, rfl, h5, rfl, by simp [ofW], h3, h8⟩
theorem DivD.cell {w wr : World} {g c k r : Nat} {v4 : Value} {y0 b : List Nat} (h : DivD w wr g c v4 y0 b (k + 1) r) (hk : k < y0.length) : wr.cell? ⟨g, k, none⟩ = some (.int .u32 ((y0.getD k 0 : Nat) : Int)) ∧ wr.frozen? ⟨g, k, none⟩ = false := by
  obtain ⟨l, h1, h2, h3, h4, _⟩ := h
  have e := congrArg (fun q => q.getD k 0) h4
  simp only [List.getD, List.getElem?_take, show k < k + 1 by omega, if_true] at e
  have := h1.cell k (by omega)
  rw [show l.getD k 0 = y0.getD k 0 from e] at this
  exact ⟨this, h1.frozen k⟩
theorem DivD.step {w wr : World} {g c k r x X : Nat} {v4 : Value} {y0 b : List Nat} (h : DivD w wr g c v4 y0 b (k + 1) r) (hk : k < y0.length) (hr : r < 10) (hx : y0.getD k 0 = x) (hx9 : x < 4294967296) (hX : r * 4294967296 + x = X) (hg : w.heap.size ≤ g) (hv : v4.ownBlock ≠ some g) :
    DivD w (wr.setCell ⟨g, k, none⟩ (.int .u32 ((X / 10 : Nat) : Int))) g c v4 y0 b k (X % 10) := by
  subst hX
  obtain ⟨l, h1, h2, h3, h4, h5, h6, h7⟩ := h
  refine ⟨l.set k ((r * 4294967296 + x) / 10), h1.set _ _, by simpa using h2, h3.set (by omega), ?_, ?_, h6.other hv _, h7.setCell hg _⟩
  · rw [take_set]
    have := congrArg (List.take k) h4
    rwa [List.take_take, List.take_take, show min k (k + 1) = k by omega] at this
  · rw [drop_set_self (by omega), drop_getD hk, hx]
    simp only [ofW]
    have := Nat.div_add_mod (r * 4294967296 + x) 10
    omega
theorem RowO.ofNil {w : World} {s : Nat} : RowO w s (.slice none 0 0) [] := RowO.nil
/-- A round's end: the digit is told. -/
theorem DivD.done {w wr w' : World} {g c r g4 c4 N : Nat} {v4 : Value} {y0 b : List Nat} (h : DivD w wr g c v4 y0 b 0 r) (hr : r < 10) (hy : 0 < ofW y0)
    (hN : decD N = decD (ofW y0) ++ b.reverse ∧ 10 ^ b.length * ofW y0 ≤ N ∧ ∀ x ∈ b, 48 ≤ x ∧ x ≤ 57) (hg : w.heap.size ≤ g) (hv : v4.ownBlock ≠ some g)
    (q1 : BytW w' g4 c4 (b ++ [48 + r])) (q2 : w.heap.size ≤ g4) (q3 : Below w.heap.size wr w') (q4 : ∀ k, k < wr.heap.size → v4.ownBlock ≠ some k → w'.heap[k]? = wr.heap[k]?) :
    ∃ l, WordsAt w' (some ⟨g, 0, none⟩) y0.length l ∧ (ofW l < ofW y0) ∧ l.length = y0.length ∧
      ∀ w9 v3, RowO w9 w'.heap.size v3 (trimZ l) → Below w'.heap.size w' w9 → TxtD w w9 v3 (.slice (some ⟨g4, 0, none⟩) (b.length + 1) c4) (trimZ l) (b ++ [48 + r]) N := by
  obtain ⟨l, h1, h2, h3, h4, h5, h6, h7⟩ := h
  simp only [List.drop_zero] at h5
  have h1' := h1.heap (q4 g h1.lt hv)
  refine ⟨l, ?_, by omega, h2, fun w9 v3 p1 p2 => ?_⟩
  · have := h1'.words h3
    rwa [h2] at this
  · have hs := q3.size
    have hs7 := h7.size
    refine ⟨w'.heap.size, by omega, p1, .inr ⟨g4, c4, by simp, q2, ?_⟩, fun k e => ?_, h3.trim, trim_idem, ⟨?_, ?_, ?_⟩, (h7.trans (Below.mono q3 (by omega))).trans (Below.mono p2 (by omega))⟩
    · exact q1.below p2 q1.lt
    · have e2 : g4 = k := by simpa [Value.ownBlock] using e
      rw [← e2]
      exact q1.lt
    · rw [hN.1, decD_step hy, ofW_trim, ← h5, show (10 * ofW l + r) / 10 = ofW l by omega, show (10 * ofW l + r) % 10 = r by omega]
      simp
    · rw [ofW_trim, List.length_append, List.length_singleton, Nat.pow_succ, Nat.mul_assoc]
      exact Nat.le_trans (Nat.mul_le_mul_left _ (by omega)) hN.2.1
    · intro x hx
      rcases List.mem_append.1 hx with hx | hx
      · exact hN.2.2 x hx
      · simp at hx
        omega
/-- How many digits there may be. -/
theorem digits_few {b y : List Nat} {N n : Nat} (hN : 10 ^ b.length * ofW y ≤ N) (hy : 0 < ofW y) (hlt : N < 4294967296 ^ n) : b.length ≤ 11 * n := by
  have h1 : (10 : Nat) ^ b.length ≤ N := by
    have : 10 ^ b.length * 1 ≤ 10 ^ b.length * ofW y := Nat.mul_le_mul_left _ hy
    omega
  have h2 : (2 : Nat) ^ (3 * b.length) ≤ 10 ^ b.length := by
    rw [Nat.pow_mul]
    exact Nat.pow_le_pow_left (by decide) _
  have h3 : (4294967296 : Nat) ^ n = 2 ^ (32 * n) := by
    rw [Nat.pow_mul]
  rw [h3] at hlt
  have := (Nat.pow_lt_pow_iff_right (show 1 < 2 by decide)).1 (Nat.lt_of_le_of_lt (Nat.le_trans h2 h1) hlt)
  omega
/-- The digits from j on stand turned round. -/
def RevD (w wr : World) (v7 : Value) (b : List Nat) (j : Nat) : Prop := BytO wr w.heap.size v7 (b.drop j).reverse ∧ Below w.heap.size w wr
theorem RevD.start (w : World) (b : List Nat) : RevD w w (.slice none 0 0) b b.length := ⟨.inl ⟨rfl, by simp⟩, Below.refl _ _⟩
theorem RevD.step {w wr w' : World} {v7 : Value} {b : List Nat} {j g c u : Nat} (h : RevD w wr v7 b (j + 1)) (hj : j < b.length) (hu : b.getD j 0 = u)
    (q1 : BytW w' g c ((b.drop (j + 1)).reverse ++ [u])) (q2 : w.heap.size ≤ g) (q3 : Below w.heap.size wr w') : RevD w w' (.slice (some ⟨g, 0, none⟩) (b.length - j) c) b j := by
  have e : (b.drop j).reverse = (b.drop (j + 1)).reverse ++ [u] := by
    rw [drop_getD hj, hu, List.reverse_cons]
  refine ⟨.inr ⟨g, c, ?_, q2, by rw [e]; exact q1⟩, h.2.trans (Below.mono q3 (by omega))⟩
  rw [List.length_reverse, List.length_drop]
theorem decI_nz {neg : Bool} {z : List Nat} (h : 0 < ofW z) : decI (valI neg z) = toB (if neg then 45 :: decN (ofW z) else decN (ofW z)) := by
  unfold decI valI
  cases neg with
  | false =>
    simp only [Bool.false_eq_true, if_false]
    rw [if_neg (by omega)]
    simp
  | true =>
    simp only [if_true]
    rw [if_pos (by omega)]
    simp
end Go.Proofs.YtahgbbnpbhfaeaaDoor
