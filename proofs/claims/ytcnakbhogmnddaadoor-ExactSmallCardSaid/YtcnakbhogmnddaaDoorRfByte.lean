/- Rows of bytes of one's own: appended to, made a text. No condition. -/
import Derived.Test.YtcnakbhogmnddaaDoorExOwn
import Derived.Test.YtcnakbhogmnddaaDoorExDec
import Derived.Laws.IdiomStrings
namespace Go.Proofs.YtcnakbhogmnddaaDoor
open Go.RowKit

theorem infoB : (Tryd.prog.info? 5).map (fun i => (i.zero, i.size, i.bytes)) = some (some (.int .u8 0), 1, 1) := by kernel_rfl
/-- Block g's first bytes are these. -/
def BytW (w : World) (g cap : Nat) (l : List Nat) : Prop := l.length ≤ cap ∧ cap ≤ maxLen ∧ ∃ cur, w.heap[g]? = some (.cells cur 5 (0, 0)) ∧ cur.size = cap ∧ cur.toList.take l.length = mapB l
/-- A row of bytes of one's own: none, or a block's first bytes. -/
def BytO (w : World) (base : Nat) (v : Value) (l : List Nat) : Prop := (v = .slice none 0 0 ∧ l = []) ∨ ∃ g cap, v = .slice (some ⟨g, 0, none⟩) l.length cap ∧ base ≤ g ∧ BytW w g cap l
section
variable {w w' : World} {g cap base : Nat} {v : Value} {l : List Nat}
theorem BytW.lt (h : BytW w g cap l) : g < w.heap.size := by
  obtain ⟨_, _, cur, h, _⟩ := h
  exact (Array.getElem?_eq_some_iff.1 h).1
theorem BytW.heap (h : BytW w g cap l) (e : w'.heap[g]? = w.heap[g]?) : BytW w' g cap l := by
  obtain ⟨h1, h2, cur, h3, h4⟩ := h
  exact ⟨h1, h2, cur, e.trans h3, h4⟩
theorem BytW.below {B : Nat} (h : BytW w g cap l) (hb : Below B w w') (hg : g < B) : BytW w' g cap l := h.heap (hb.block g hg)
theorem BytW.cell (h : BytW w g cap l) (i : Nat) (hi : i < l.length) : w.cell? ⟨g, i, none⟩ = some (.int .u8 ((l.getD i 0 : Nat) : Int)) := by
  obtain ⟨h1, h2, cur, h3, h4, h5⟩ := h
  rw [cell_of_row w g i cur _ (0, 0) h3]
  have h6 : (cur.toList.take l.length)[i]? = some (.int .u8 ((l.getD i 0 : Nat) : Int)) := by
    rw [h5]
    simp [mapB, List.getD, hi]
  rw [List.getElem?_take, if_pos hi] at h6
  simpa using h6
theorem BytW.frozen (h : BytW w g cap l) (i : Nat) : w.frozen? ⟨g, i, none⟩ = false := by
  obtain ⟨h1, h2, cur, h3, h4⟩ := h
  simp only [World.frozen?, h3]
  simp
theorem BytW.set (h : BytW w g cap l) (i x : Nat) : BytW (w.setCell ⟨g, i, none⟩ (.int .u8 (x : Int))) g cap (l.set i x) := by
  obtain ⟨h1, h2, cur, h3, h4, h5⟩ := h
  refine ⟨by simpa using h1, h2, _, setCell_same2 h3 _, by simpa using h4, ?_⟩
  rw [Array.toList_setIfInBounds, List.take_set, List.length_set, h5]
  simp [mapB, List.map_set]
theorem BytW.other (h : BytW w g cap l) {p : Addr} (hp : p.block ≠ g) (u : Value) : BytW (w.setCell p u) g cap l := h.heap (Below.heap_setCell _ _ _ _ (Ne.symm hp))
theorem BytW.cut (h : BytW w g cap l) (m : Nat) : BytW w g cap (l.take m) := by
  obtain ⟨h1, h2, cur, h3, h4, h5⟩ := h
  refine ⟨by rw [List.length_take]; omega, h2, cur, h3, h4, ?_⟩
  rw [List.length_take]
  have := congrArg (List.take (min m l.length)) h5
  rw [List.take_take, show min (min m l.length) l.length = min m l.length by omega] at this
  rw [this]
  unfold mapB
  rw [← List.map_take]
  congr 1
  by_cases hm : m ≤ l.length
  · rw [Nat.min_eq_left hm]
  · rw [Nat.min_eq_right (by omega), List.take_length, List.take_of_length_le (by omega)]
theorem BytO.nil : BytO w base (.slice none 0 0) [] := .inl ⟨rfl, rfl⟩
theorem BytO.below {B : Nat} (h : BytO w base v l) (hb : Below B w w') (hB : w.heap.size ≤ B) : BytO w' base v l := by
  rcases h with h | ⟨g, cap, h1, h2, h3⟩
  · exact .inl h
  · exact .inr ⟨g, cap, h1, h2, h3.below hb (by have := h3.lt; omega)⟩
theorem BytO.shape (h : BytO w base v l) : ∃ a c, v = .slice a l.length c ∧ l.length ≤ c ∧ c ≤ maxLen := by
  rcases h with ⟨rfl, rfl⟩ | ⟨g, cap, rfl, h2, h3, h4, _⟩
  · exact ⟨_, _, rfl, Nat.le_refl _, by simp [maxLen]⟩
  · exact ⟨_, _, rfl, h3, h4⟩
theorem BytO.mono {b : Nat} (h : BytO w base v l) (hb : b ≤ base) : BytO w b v l := by
  rcases h with h | ⟨g, cap, h1, h2, h3⟩
  · exact .inl h
  · exact .inr ⟨g, cap, h1, by omega, h3⟩
theorem mapB_append (l m : List Nat) : mapB (l ++ m) = mapB l ++ mapB m := by simp [mapB]
theorem BytO.owns (h : BytO w base v l) : w.ownsRow base 5 1 v l.length (mapB l) := by
  rcases h with ⟨rfl, rfl⟩ | ⟨g, cap, rfl, h2, h3, h4, cur, h5, h6, h7⟩
  · exact ⟨rfl, .inl ⟨rfl, rfl⟩⟩
  · exact ⟨by simp [mapB], .inr ⟨g, cap, cur, rfl, h2, h5, h3, h4, by omega, by rw [Nat.mul_one]; exact h7⟩⟩
theorem BytW.of_owns {n : Nat} (h : w.ownsRow base 5 1 (.slice (some ⟨g, 0, none⟩) n cap) n (mapB l)) (hn : n = l.length) : base ≤ g ∧ BytW w g cap l := by
  subst hn
  rcases h.2 with ⟨e, _⟩ | ⟨g', cap', cur, e, h2, h3, h4, h5, h6, h7⟩
  · cases e
  · cases e
    exact ⟨h2, h4, h5, cur, h3, by omega, by rw [Nat.mul_one] at h7; exact h7⟩
theorem BytO.own (h : BytO w base v l) : ∀ g, v.ownBlock = some g → base ≤ g := by
  rcases h with ⟨rfl, rfl⟩ | ⟨g, cap, rfl, h2, _⟩
  · intro g hg; cases hg
  · intro g' hg
    have : g = g' := by simpa [Value.ownBlock] using hg
    omega
end

/-- 'append(row, byte)' -/
theorem wpList_appB (w : World) {ops : Array Oper} {rest : List Oper} {o : Oper} {a : Act} {Q : Exit → Act → World → Prop} (hgd : o.guard = none) (s x : Operand)
    (ho : o.op = .call { callee := .builtin .append, args := #[s, x], argTypes := #[70, 70] })
    (base : Nat) (v : Value) (l : List Nat) (U : Int) (u : Nat) (hs : a.eval s = v) (hx : a.eval x = .slice (some ⟨w.heap.size, 0, none⟩) 1 1) (hown : BytO w base v l) (hU : U = (u : Int)) (hl : l.length ≤ 40000000) (hb : base ≤ w.heap.size)
    (h : ∀ g cap w', BytW w' g cap (l ++ [u]) → base ≤ g → Below base w w' → (∀ k, k < w.heap.size → v.ownBlock ≠ some k → w'.heap[k]? = w.heap[k]?) → (v.ownBlock = some g ∨ w.heap.size ≤ g) → wpList Tryd.prog ops Q rest (a.put o.dst (.slice (some ⟨g, 0, none⟩) (l.length + 1) cap)) w') :
    wpList Tryd.prog ops Q (o :: rest) a (w.alloc (.cells #[.int .u8 U] 5)) := by
  subst hU
  obtain ⟨i, hi, hz, hsz, hby⟩ := info_parts infoB
  have hb1 := (Below.refl base w).alloc (by omega) (.cells #[.int .u8 (u : Int)] 5)
  have hb2 := (Below.refl w.heap.size w).alloc (Nat.le_refl _) (.cells #[.int .u8 (u : Int)] 5)
  have h1 := hown.below hb2 (Nat.le_refl _)
  refine wpList_app _ hgd s x _ ho base 5 i _ 1 1 Tryd.underlying70 hi hz hsz hby rfl v l.length (mapB l) hs h1.owns ⟨w.heap.size, 0, none⟩ 1 1 [.int .u8 (u : Int)] hx rfl ?_ (by simp [Value.oneCell']) (by omega) (by unfold maxLen; omega) (by omega) (by simp; omega) ?_
  · intro j y hj
    match j with
    | 0 =>
      rw [addW]
      rw [cell_of_row _ _ _ _ _ _ (heap_alloc_new w _)]
      simpa using hj
    | j + 1 => simp at hj
  · intro g cap w' h2 h3
    have h4 := BytW.of_owns (l := l ++ [u]) (by rw [mapB_append]; exact h2) (by simp)
    refine h g cap w' h4.2 h4.1 (hb1.trans (grown_below (v := v) h3.grown hown.own (by simp; omega))) (fun k hk hv => (h3.grown.block k (by simp; omega) (fun e => hv e.symm)).trans (hb2.block k hk)) ?_
    rcases h3.at with h5 | h5
    · exact .inl h5
    · right
      rw [h5]
      simp


/-- 'string(row)' -/
theorem wpList_str (w : World) {ops : Array Oper} {rest : List Oper} {o : Oper} {a : Act} {Q : Exit → Act → World → Prop} (hgd : o.guard = none) (x : Operand)
    (ho : o.op = .convert 70 9 x) (g cap n : Nat) (l : List Nat) (hx : a.eval x = .slice (some ⟨g, 0, none⟩) n cap) (hn : n = l.length) (h : BytW w g cap l) (hl : ∀ y ∈ l, y < 256)
    (hK : wpList Tryd.prog ops Q rest (a.put o.dst (.string (strL (toB l)))) w) : wpList Tryd.prog ops Q (o :: rest) a w :=
  wpList_plain hgd fun K hK' => by
    subst hn
    have e : l.length = (toB l).length := by simp [toB]
    have hr := run_convert_bytes_back (P := Tryd.prog) w 70 9 5 ⟨g, 0, none⟩ cap (toB l) Tryd.underlying70 Tryd.underlying5 Tryd.underlying9 (fun j hj => by
      rw [addW, h.cell j (by rw [e]; exact hj)]
      have hj2 : j < l.length := by rw [e]; exact hj
      have h9 := hl l[j] (List.getElem_mem hj2)
      simp [toB, List.getD, hj2, Nat.mod_eq_of_lt h9])
    rw [← e] at hr
    unfold Oper.wp execOp
    simp only [ho, execOp, hx, Sem.run_bind, Sem.run_pure, hr, Result.andThen_ok]
    exact hK' _ _ hK
end Go.Proofs.YtcnakbhogmnddaaDoor
