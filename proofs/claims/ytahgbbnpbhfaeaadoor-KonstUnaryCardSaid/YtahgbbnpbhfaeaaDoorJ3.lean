/- Texts that a claim's limit of files puts together: ExMinus, ExOwn. -/
import Derived.Test.YtahgbbnpbhfaeaaDoorExRow
import Derived.ArgAppend
import Derived.Deep.Upon
/- exact.minus. No condition. -/
namespace Go.Proofs.YtahgbbnpbhfaeaaDoor
open Go.RowKit

theorem sub32_int (x c y : Nat) (Y : Int) (hY : Y = (y : Int)) (w : World) (hx : x < 4294967296) (hy : y < 4294967296) (hc : c ≤ 1) :
    Calls Tryd.prog 90 #[.int .u32 x, .int .u32 Y, .int .u32 c] w fun e w' => e = .returned (.tuple #[.int .u32 ((x + 4294967296 - y - c) % 4294967296 : Nat), .int .u32 (borrow x y c : Nat)]) ∧ w = w' := by
  subst hY
  exact sub32_any x y c w hx hy hc
theorem borrow_eq (x y c : Nat) (hx : x < 4294967296) (hy : y < 4294967296) (hc : c ≤ 1) : (x + 4294967296 - y - c) % 4294967296 + y + c = x + 4294967296 * borrow x y c ∧ borrow x y c ≤ 1 := by
  unfold borrow
  split <;> omega
/-- The difference so far: i words are told, c is borrowed. -/
def MinR (w wr : World) (g : Nat) (z z2 : List Nat) (n i c : Nat) : Prop :=
  ∃ l, OwnW wr g l ∧ l.length = n ∧ Words l ∧ ofW (l.take i) + ofW (z2.take i) = ofW (z.take i) + 4294967296 ^ i * c ∧ Below w.heap.size w wr

set_option maxRecDepth 100000 in
set_option maxHeartbeats 1600000 in
theorem minus_any (a1 a2 : Option Addr) (n1 n2 cap1 cap2 : Nat) (z1 z2 : List Nat) (w : World) (h1 : WordsAt w a1 n1 z1) (h2 : WordsAt w a2 n2 z2) (hn1 : n1 ≤ 1000000) (hn2 : n2 ≤ 1000000) (hc1 : n1 ≤ cap1) (hc2 : n2 ≤ cap2) (hle : ofW z2 ≤ ofW z1) :
    Calls Tryd.prog 81 #[.slice a1 n1 cap1, .slice a2 n2 cap2] w fun e w' => ∃ g l, e = .returned (.slice (some ⟨g, 0, none⟩) l.length l.length) ∧ w.heap.size ≤ g ∧ OwnW w' g l ∧ Words l ∧ ofW l = ofW z1 - ofW z2 ∧ l.length ≤ n1 ∧ Below w.heap.size w w' := by
  have HT1 := Lib.hid (trim_any a1 n1 cap1 z1 w h1 (by omega) hc1)
  have HT2 := Lib.hid (trim_any a2 n2 cap2 z2 w h2 (by omega) hc2)
  obtain ⟨m1, Hm1⟩ : ∃ m, Hid ((trimZ z1).length = m) := ⟨_, Lib.hid rfl⟩
  obtain ⟨m2, Hm2⟩ : ∃ m, Hid ((trimZ z2).length = m) := ⟨_, Lib.hid rfl⟩
  have hm1 : m1 ≤ 1000000 := by have := trim_le z1; have := h1.1; have := Hm1.out; omega
  have hm2 : m2 ≤ 1000000 := by have := trim_le z2; have := h2.1; have := Hm2.out; omega
  have Hmn : Hid (m1 ≤ n1) := Lib.hid (by have := trim_le z1; have := h1.1; have := Hm1.out; omega)
  have t1 := h1.trim
  have t2 := h2.trim
  rw [Hm1.out] at HT1 t1
  rw [Hm2.out] at HT2 t2
  have H1 := Lib.hid t1
  have H2 := Lib.hid t2
  obtain ⟨y1, Hy1⟩ : ∃ y, Hid (trimZ z1 = y ∧ trimZ y = y ∧ ofW y = ofW z1) := ⟨_, Lib.hid ⟨rfl, trim_idem, ofW_trim _⟩⟩
  obtain ⟨y2, Hy2⟩ : ∃ y, Hid (trimZ z2 = y ∧ trimZ y = y ∧ ofW y = ofW z2) := ⟨_, Lib.hid ⟨rfl, trim_idem, ofW_trim _⟩⟩
  rw [Hy1.out.1] at H1
  rw [Hy2.out.1] at H2
  rw [← Hy1.out.2.2, ← Hy2.out.2.2] at hle ⊢
  have hmm : m2 ≤ m1 := by
    refine Nat.le_of_not_lt fun h => ?_
    have := ofW_len_lt (l := y1) (m := y2) H1.out.2.1 Hy2.out.2.1 (by rw [H1.out.1, H2.out.1]; exact h)
    omega
  have HL := Lib.hid hle
  clear h1 h2 t1 t2 Hm1 Hm2 hle
  go_enter Tryd.func81, Tryd.ntmps81
  go_wp2_with (go_at_call 54; refine hold ?_)
  refine Hold.mk ?_
  refine HT1.out.mono ?_
  rintro e w2 ⟨rfl, rfl⟩
  go_wp2_with (go_at_call 54; refine hold ?_)
  refine Hold.mk ?_
  refine HT2.out.mono ?_
  rintro e w2 ⟨rfl, rfl⟩
  go_wp2_with (refine wpList_makeW _ rfl _ _ rfl _ _ m1 rfl rfl (by go_num) (by go_num) (by omega) ?_; intro w1 ho hb; have HO := Lib.hid (And.intro ho hb); clear ho hb)
  obtain ⟨g, Hg⟩ : ∃ g, Hid (g = w.heap.size) := ⟨_, Lib.hid rfl⟩
  rw [← Hg.out]
  go_loopg [6, 19] m1 (fun gg v6 v19 wr => ∃ (i c : Nat), i ≤ m1 ∧ v19 = .int .i64 i ∧ v6 = .int .u32 c ∧ c ≤ 1 ∧ gg = m1 - i ∧ Hid (MinR w wr g y1 y2 m1 i c))
  case atStart => exact ⟨0, 0, Nat.zero_le _, rfl, rfl, by omega, rfl, Lib.hid ⟨_, by rw [Hg.out]; exact HO.out.1, by simp, words_zero _, by simp [ofW], HO.out.2⟩⟩
  case round =>
    obtain ⟨i, c, hi, rfl, rfl, hc1, hgg, Hr⟩ := hrel
    by_cases hli : i < m1
    · obtain ⟨l, r1, r2, r3, r4, r5⟩ := Hr.out
      obtain ⟨x, e1, hx⟩ := (H1.out.below r5).2.2 i hli
      have H0 := Lib.hid (show ∀ i, i < m2 → _ from (H2.out.below r5).2.2)
      obtain ⟨u, Hu⟩ : ∃ u, Hid (y1.getD i 0 = u) := ⟨_, Lib.hid rfl⟩
      have hu9 : u < 4294967296 := by rw [← Hu.out]; exact H1.out.2.1.get i
      rw [Hu.out] at hx
      subst e1
      obtain ⟨u2, Hu2⟩ : ∃ u, Hid (y2.getD i 0 = u) := ⟨_, Lib.hid rfl⟩
      have hu29 : u2 < 4294967296 := by rw [← Hu2.out]; exact H2.out.2.1.get i
      have HA := Lib.hid (sub32_any u u2 c wr hu9 hu29 hc1)
      have hcell := r1.cell i (by omega)
      have hfz := r1.frozen i
      obtain ⟨t, Ht⟩ : ∃ t, Hid ((u + 4294967296 - u2 - c) % 4294967296 = t) := ⟨_, Lib.hid rfl⟩
      obtain ⟨b, Hb⟩ : ∃ t, Hid (borrow u u2 c = t) := ⟨_, Lib.hid rfl⟩
      have Hbe := Lib.hid (borrow_eq u u2 c hu9 hu29 hc1)
      have HF := Lib.hid (show MinR w (wr.setCell ⟨g, i, none⟩ (.int .u32 (t : Int))) g y1 y2 m1 (i + 1) b from by
        refine ⟨l.set i t, r1.set i _, by simpa using r2, r3.set (by rw [← Ht.out]; exact Nat.mod_lt _ (by decide)), ?_, r5.setCell (by have := Hg.out; simp only; omega) _⟩
        rw [ofW_take, ofW_take y1, ofW_take y2, take_set, getD_set (by omega), Hu.out, Hu2.out, Nat.pow_succ]
        have hd := Hbe.out.1
        rw [Ht.out, Hb.out] at hd
        have e := congrArg (fun q => 4294967296 ^ i * q) hd
        simp only [Nat.mul_add] at e
        rw [← Nat.mul_assoc] at e
        omega)
      have hb1 : b ≤ 1 := by rw [← Hb.out]; exact Hbe.out.2
      rw [Ht.out, Hb.out] at HA
      clear r1 r2 r3 r4 r5 Hr
      by_cases hl2 : i < m2
      · obtain ⟨x2, e2, hx2⟩ := H0.out i hl2
        rw [Hu2.out] at hx2
        subst e2
        go_wp2_with (go_at_call 90; refine HA.out.mono ?_; rintro e w5 ⟨rfl, rfl⟩)
        go_roundg (m1 - (i + 1))
        case measure => omega
        case rel => exact ⟨i + 1, b, by omega, by go_num, rfl, by omega, rfl, HF⟩
      · have h00 : u2 = 0 := by
          rw [← Hu2.out]
          simp [List.getD, List.getElem?_eq_none (show y2.length ≤ i by have := H2.out.1; omega)]
        subst h00
        have HA := Lib.hid (sub32_int u c 0 0 rfl wr hu9 (by decide) hc1)
        rw [Ht.out, Hb.out] at HA
        have hge2 : m2 ≤ i := by omega
        clear hl2
        go_wp2_with (go_at_call 90; refine HA.out.mono ?_; rintro e w5 ⟨rfl, rfl⟩)
        go_roundg (m1 - (i + 1))
        case measure => omega
        case rel => exact ⟨i + 1, b, by omega, by go_num, rfl, by omega, rfl, HF⟩
    · have hge : m1 ≤ i := by omega
      have hie : i = m1 := by omega
      have Hr2 := Lib.hid (show MinR w wr g y1 y2 m1 m1 c from hie ▸ Hr.out)
      clear Hr hli hie
      go_wp2_with fail
      go_ret
      obtain ⟨l, r1, r2, r3, r4, r5⟩ := Hr2.out
      refine ⟨g, l, by rw [r2]; rfl, by have := Hg.out; omega, r1, r3, ?_, by rw [r2]; exact Hmn.out, r5⟩
      rw [List.take_of_length_le (by omega), List.take_of_length_le (by have := H2.out.1; omega), List.take_of_length_le (by have := H1.out.1; omega)] at r4
      have hlt := ofW_lt r3
      rw [r2] at hlt
      have := HL.out
      match c, hc1 with
      | 0, _ => omega
      | 1, _ => omega
end Go.Proofs.YtahgbbnpbhfaeaaDoor

/- Rows of words of one's own: made, appended to, written, cut. No condition. -/
namespace Go.Proofs.YtahgbbnpbhfaeaaDoor
open Go.RowKit

def mapW (l : List Nat) : List Value := l.map fun (x : Nat) => Value.int .u32 (x : Int)
/-- Block g's first words are these. -/
def RowW (w : World) (g cap : Nat) (l : List Nat) : Prop := l.length ≤ cap ∧ cap ≤ maxLen ∧ ∃ cur, w.heap[g]? = some (.cells cur 68 (0, 0)) ∧ cur.size = cap ∧ cur.toList.take l.length = mapW l
/-- A row of words of one's own: none, or a block's first words. -/
def RowO (w : World) (base : Nat) (v : Value) (l : List Nat) : Prop := (v = .slice none 0 0 ∧ l = []) ∨ ∃ g cap, v = .slice (some ⟨g, 0, none⟩) l.length cap ∧ base ≤ g ∧ RowW w g cap l
section
variable {w w' : World} {g cap base : Nat} {v : Value} {l : List Nat}
theorem RowW.lt (h : RowW w g cap l) : g < w.heap.size := by
  obtain ⟨_, _, cur, h, _⟩ := h
  exact (Array.getElem?_eq_some_iff.1 h).1
theorem RowW.heap (h : RowW w g cap l) (e : w'.heap[g]? = w.heap[g]?) : RowW w' g cap l := by
  obtain ⟨h1, h2, cur, h3, h4⟩ := h
  exact ⟨h1, h2, cur, e.trans h3, h4⟩
theorem RowW.below {B : Nat} (h : RowW w g cap l) (hb : Below B w w') (hg : g < B) : RowW w' g cap l := h.heap (hb.block g hg)
theorem RowW.cell (h : RowW w g cap l) (i : Nat) (hi : i < l.length) : w.cell? ⟨g, i, none⟩ = some (.int .u32 ((l.getD i 0 : Nat) : Int)) := by
  obtain ⟨h1, h2, cur, h3, h4, h5⟩ := h
  rw [cell_of_row w g i cur _ (0, 0) h3]
  have h6 : (cur.toList.take l.length)[i]? = some (.int .u32 ((l.getD i 0 : Nat) : Int)) := by
    rw [h5]
    simp [mapW, List.getD, hi]
  rw [List.getElem?_take, if_pos hi] at h6
  simpa using h6
theorem RowW.frozen (h : RowW w g cap l) (i : Nat) : w.frozen? ⟨g, i, none⟩ = false := by
  obtain ⟨h1, h2, cur, h3, h4⟩ := h
  simp only [World.frozen?, h3]
  simp
theorem RowW.words (h : RowW w g cap l) (hw : Words l) : WordsAt w (some ⟨g, 0, none⟩) l.length l :=
  ⟨rfl, hw, fun i hi => ⟨_, rfl, by rw [addW]; exact h.cell i hi⟩⟩
theorem RowW.set (h : RowW w g cap l) (i x : Nat) : RowW (w.setCell ⟨g, i, none⟩ (.int .u32 (x : Int))) g cap (l.set i x) := by
  obtain ⟨h1, h2, cur, h3, h4, h5⟩ := h
  refine ⟨by simpa using h1, h2, _, setCell_same2 h3 _, by simpa using h4, ?_⟩
  rw [Array.toList_setIfInBounds, List.take_set, List.length_set, h5]
  simp [mapW, List.map_set]
theorem RowW.other (h : RowW w g cap l) {p : Addr} (hp : p.block ≠ g) (u : Value) : RowW (w.setCell p u) g cap l := h.heap (Below.heap_setCell _ _ _ _ (Ne.symm hp))
theorem RowW.cut (h : RowW w g cap l) (m : Nat) : RowW w g cap (l.take m) := by
  obtain ⟨h1, h2, cur, h3, h4, h5⟩ := h
  refine ⟨by rw [List.length_take]; omega, h2, cur, h3, h4, ?_⟩
  rw [List.length_take]
  have := congrArg (List.take (min m l.length)) h5
  rw [List.take_take, show min (min m l.length) l.length = min m l.length by omega] at this
  rw [this]
  unfold mapW
  rw [← List.map_take]
  congr 1
  by_cases hm : m ≤ l.length
  · rw [Nat.min_eq_left hm]
  · rw [Nat.min_eq_right (by omega), List.take_length, List.take_of_length_le (by omega)]
theorem OwnW.row (h : OwnW w g l) (hl : l.length ≤ maxLen) : RowW w g l.length l :=
  ⟨Nat.le_refl _, hl, _, h, by simp, by simp [mapW, List.take_of_length_le]⟩
theorem RowO.nil : RowO w base (.slice none 0 0) [] := .inl ⟨rfl, rfl⟩
theorem RowO.below {B : Nat} (h : RowO w base v l) (hb : Below B w w') (hB : w.heap.size ≤ B) : RowO w' base v l := by
  rcases h with h | ⟨g, cap, h1, h2, h3⟩
  · exact .inl h
  · exact .inr ⟨g, cap, h1, h2, h3.below hb (by have := h3.lt; omega)⟩
theorem RowO.shape (h : RowO w base v l) : ∃ a c, v = .slice a l.length c ∧ l.length ≤ c ∧ c ≤ maxLen := by
  rcases h with ⟨rfl, rfl⟩ | ⟨g, cap, rfl, h2, h3, h4, _⟩
  · exact ⟨_, _, rfl, Nat.le_refl _, by simp [maxLen]⟩
  · exact ⟨_, _, rfl, h3, h4⟩
theorem RowO.wordsAt {a : Option Addr} {n c : Nat} (h : RowO w base (.slice a n c) l) (hw : Words l) : WordsAt w a n l := by
  rcases h with ⟨e, rfl⟩ | ⟨g, cap, e, h2, h3⟩
  · cases e
    exact WordsAt.nil _ _
  · cases e
    exact h3.words hw
theorem RowO.mono {b : Nat} (h : RowO w base v l) (hb : b ≤ base) : RowO w b v l := by
  rcases h with h | ⟨g, cap, h1, h2, h3⟩
  · exact .inl h
  · exact .inr ⟨g, cap, h1, by omega, h3⟩
theorem RowO.owns (h : RowO w base v l) : w.ownsRow base 68 1 v l.length (mapW l) := by
  rcases h with ⟨rfl, rfl⟩ | ⟨g, cap, rfl, h2, h3, h4, cur, h5, h6, h7⟩
  · exact ⟨rfl, .inl ⟨rfl, rfl⟩⟩
  · exact ⟨by simp [mapW], .inr ⟨g, cap, cur, rfl, h2, h5, h3, h4, by omega, by rw [Nat.mul_one]; exact h7⟩⟩
theorem RowW.of_owns {n : Nat} (h : w.ownsRow base 68 1 (.slice (some ⟨g, 0, none⟩) n cap) n (mapW l)) (hn : n = l.length) : base ≤ g ∧ RowW w g cap l := by
  subst hn
  rcases h.2 with ⟨e, _⟩ | ⟨g', cap', cur, e, h2, h3, h4, h5, h6, h7⟩
  · cases e
  · cases e
    exact ⟨h2, h4, h5, cur, h3, by omega, by rw [Nat.mul_one] at h7; exact h7⟩
theorem mapW_append (l m : List Nat) : mapW (l ++ m) = mapW l ++ mapW m := by simp [mapW]
theorem grown_below {v : Value} (h : w.grownBy w' v.ownBlock) (hv : ∀ g, v.ownBlock = some g → base ≤ g) (hb : base ≤ w.heap.size) : Below base w w' :=
  ⟨h.os, h.tape, h.output, h.size, fun k hk => h.block k (by omega) fun e => by have := hv k e.symm; omega⟩
theorem RowO.own (h : RowO w base v l) : ∀ g, v.ownBlock = some g → base ≤ g := by
  rcases h with ⟨rfl, rfl⟩ | ⟨g, cap, rfl, h2, _⟩
  · intro g hg; cases hg
  · intro g' hg
    have : g = g' := by simpa [Value.ownBlock] using hg
    omega
end

/-- 'append(row, word)' -/
theorem wpList_app1 (w : World) {ops : Array Oper} {rest : List Oper} {o : Oper} {a : Act} {Q : Exit → Act → World → Prop} (hgd : o.guard = none) (s x : Operand)
    (ho : o.op = .call { callee := .builtin .append, args := #[s, x], argTypes := #[22, 22] })
    (base : Nat) (v : Value) (l : List Nat) (U : Int) (u : Nat) (hs : a.eval s = v) (hx : a.eval x = .slice (some ⟨w.heap.size, 0, none⟩) 1 1) (hown : RowO w base v l) (hU : U = (u : Int)) (hl : l.length ≤ 4000000) (hb : base ≤ w.heap.size)
    (h : ∀ g cap w', RowW w' g cap (l ++ [u]) → base ≤ g → Below base w w' → wpList Tryd.prog ops Q rest (a.put o.dst (.slice (some ⟨g, 0, none⟩) (l.length + 1) cap)) w') :
    wpList Tryd.prog ops Q (o :: rest) a (w.alloc (.cells #[.int .u32 U] 68)) := by
  subst hU
  obtain ⟨i, hi, hz, hsz, hby⟩ := info_parts infoU
  have hb1 := (Below.refl base w).alloc (by omega) (.cells #[.int .u32 (u : Int)] 68)
  have hb2 := (Below.refl w.heap.size w).alloc (Nat.le_refl _) (.cells #[.int .u32 (u : Int)] 68)
  have h1 := hown.below hb2 (Nat.le_refl _)
  refine wpList_app _ hgd s x _ ho base 68 i _ 1 4 Tryd.underlying22 hi hz hsz hby rfl v l.length (mapW l) hs h1.owns ⟨w.heap.size, 0, none⟩ 1 1 [.int .u32 (u : Int)] hx rfl ?_ (by simp [Value.oneCell']) (by omega) (by unfold maxLen; omega) (by omega) (by simp; omega) ?_
  · intro j y hj
    match j with
    | 0 =>
      rw [addW]
      rw [cell_of_row _ _ _ _ _ _ (heap_alloc_new w _)]
      simpa using hj
    | j + 1 => simp at hj
  · intro g cap w' h2 h3
    have h4 := RowW.of_owns (l := l ++ [u]) (by rw [mapW_append]; exact h2) (by simp)
    refine h g cap w' h4.2 h4.1 ?_
    exact hb1.trans (grown_below (v := v) h3.grown hown.own (by simp; omega))

/-- 'append(row, words...)', none: the row. -/
theorem wpList_appE (w : World) {ops : Array Oper} {rest : List Oper} {o : Oper} {a : Act} {Q : Exit → Act → World → Prop} (hgd : o.guard = none) (s x : Operand)
    (ho : o.op = .call { callee := .builtin .append, args := #[s, x], argTypes := #[22, 22] })
    (ad : Option Addr) (n c : Nat) (a2 : Option Addr) (c2 : Nat) (hs : a.eval s = .slice ad n c) (hx : a.eval x = .slice a2 0 c2) (hn : n ≤ c)
    (h : wpList Tryd.prog ops Q rest (a.put o.dst (.slice ad n c)) w) : wpList Tryd.prog ops Q (o :: rest) a w :=
  wpList_plain hgd fun K hK => by
    obtain ⟨i, hi, hz, hsz, hby⟩ := info_parts infoU
    have hr : (Builtin.append_ #[22, 22] o.type #[.slice ad n c, .slice a2 0 c2]).run Tryd.prog w = .ok (.slice ad n c) w := by
      cases ad <;> cases a2 <;> simp [Builtin.append_, run_underlying Tryd.underlying22, sizeOf, typeInfo, hi, Builtin.lenOf, Builtin.firstCells, hn, storeCells, loadCells, loadCellsFrom]
    unfold Oper.wp execOp
    simp only [ho, resolve, invoke, builtin, Sem.run_bind, Sem.run_pure, Result.andThen_ok, List.map_toArray, List.map_cons, List.map_nil, hs, hx, hr]
    exact hK _ _ h

theorem WordsAt.news {w : World} {ad : Addr} {n : Nat} {z : List Nat} (h : WordsAt w (some ad) n z) : ∀ j u, (mapW z)[j]? = some u → w.cell? (ad.add j) = some u := by
  intro j u hj
  have hlt : j < z.length := by
    have := (List.getElem?_eq_some_iff.1 hj).1
    simpa [mapW] using this
  obtain ⟨x, e, hx⟩ := h.2.2 j (by rw [← h.1]; exact hlt)
  cases e
  rw [hx, ← hj]
  simp [mapW, List.getD, hlt]

/-- 'append(row, words...)' -/
theorem wpList_appN (w : World) {ops : Array Oper} {rest : List Oper} {o : Oper} {a : Act} {Q : Exit → Act → World → Prop} (hgd : o.guard = none) (s x : Operand)
    (ho : o.op = .call { callee := .builtin .append, args := #[s, x], argTypes := #[22, 22] })
    (base : Nat) (v : Value) (l : List Nat) (ad : Addr) (n c : Nat) (z : List Nat) (hs : a.eval s = v) (hx : a.eval x = .slice (some ad) n c) (hown : RowO w base v l) (hz : WordsAt w (some ad) n z) (hn : 0 < n) (hl : l.length + n ≤ 4000000) (hb : base ≤ w.heap.size)
    (h : ∀ g cap w', RowW w' g cap (l ++ z) → base ≤ g → Below base w w' → wpList Tryd.prog ops Q rest (a.put o.dst (.slice (some ⟨g, 0, none⟩) (l.length + n) cap)) w') :
    wpList Tryd.prog ops Q (o :: rest) a w := by
  obtain ⟨i, hi, hz1, hsz, hby⟩ := info_parts infoU
  refine wpList_app _ hgd s x _ ho base 68 i _ 1 4 Tryd.underlying22 hi hz1 hsz hby rfl v l.length (mapW l) hs hown.owns ad n c (mapW z) hx (by simp [mapW, hz.1]) hz.news (by simp [mapW, Value.oneCell']) hn (by unfold maxLen; omega) (by omega) hb ?_
  intro g cap w' h2 h3
  have h4 := RowW.of_owns (l := l ++ z) (by rw [mapW_append]; exact h2) (by simp [hz.1])
  exact h g cap w' h4.2 h4.1 (grown_below h3.grown hown.own hb)

/-- 'make([]uint32, 0, n)' -/
theorem wpList_make0 (w : World) {ops : Array Oper} {rest : List Oper} {o : Oper} {a : Act} {Q : Exit → Act → World → Prop} (hg : o.guard = none) (l c : Operand) (hop : o.op = Op.makeSlice 22 l c)
    (C : Int) (n : Nat) (hl : a.eval l = .int .i64 0) (hc : a.eval c = .int .i64 C) (hC : C = (n : Int)) (hn : n ≤ 4000000)
    (hK : ∀ w', RowW w' w.heap.size n [] → Below w.heap.size w w' → wpList Tryd.prog ops Q rest (a.put o.dst (.slice (some ⟨w.heap.size, 0, none⟩) 0 n)) w') : wpList Tryd.prog ops Q (o :: rest) a w := by
  obtain ⟨i, hi, hz, hsz, hby⟩ := info_parts infoU
  refine wpList_make_own w hg l c _ hop w.heap.size 68 i _ 1 Tryd.underlying22 hi hz hsz .i64 .i64 C n hl hc hC (by rw [hby]; omega) (by unfold maxLen; omega) (Nat.le_refl _) ?_
  intro w' h1 h2
  exact hK w' (RowW.of_owns (l := []) h1 rfl).2 ⟨h2.os, h2.tape, h2.output, h2.size, fun k hk => h2.block k hk (by simp)⟩
end Go.Proofs.YtahgbbnpbhfaeaaDoor
