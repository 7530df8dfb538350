/- The function that TreeAll hands to what All tells: one step. No condition. -/
import Derived.Test.YtmkjajapbkdpiaaTrSeeAll
import Derived.Test.YtmkjajapbkdpiaaTrNodes
import Derived.Test.YtmkjajapbkdpiaaTrAwake
namespace Go.Proofs.Ytmkjajapbkdpiaa
open Go.RowKit Go.Shelf

/-- All but three blocks lie as they lay. -/
structure Fr3 (WA : World) (b1 b2 b3 : Nat) (W : World) : Prop where
  os : W.os = WA.os
  tape : W.tape = WA.tape
  output : W.output = WA.output
  size : WA.heap.size ≤ W.heap.size
  block : ∀ k, k < WA.heap.size → k ≠ b1 → k ≠ b2 → k ≠ b3 → W.heap[k]? = WA.heap[k]?
section
variable {w w' w2 : World} {b1 b2 b3 : Nat}
theorem Fr3.refl (w : World) (b1 b2 b3 : Nat) : Fr3 w b1 b2 b3 w := ⟨rfl, rfl, rfl, Nat.le_refl _, fun _ _ _ _ _ => rfl⟩
theorem Fr3.trans (h : Fr3 w b1 b2 b3 w') (k : Fr3 w' b1 b2 b3 w2) : Fr3 w b1 b2 b3 w2 :=
  ⟨k.os.trans h.os, k.tape.trans h.tape, k.output.trans h.output, Nat.le_trans h.size k.size, fun j hj h1 h2 h3 => (k.block j (Nat.lt_of_lt_of_le hj h.size) h1 h2 h3).trans (h.block j hj h1 h2 h3)⟩
theorem Fr3.below (h : Below w.heap.size w w') : Fr3 w b1 b2 b3 w' := ⟨h.os, h.tape, h.output, h.size, fun j hj _ _ _ => h.block j hj⟩
theorem Fr3.grown (h : w.grownBy w' none) : Fr3 w b1 b2 b3 w' := ⟨h.os, h.tape, h.output, h.size, fun j hj _ _ _ => h.block j hj (by simp)⟩
theorem Fr3.set (h : Fr3 w b1 b2 b3 w') {p : Addr} (hp : p.block = b1 ∨ p.block = b2 ∨ p.block = b3) (u : Value) : Fr3 w b1 b2 b3 (w'.setCell p u) :=
  ⟨h.os, h.tape, h.output, by simp [World.setCell]; exact h.size, fun k hk h1 h2 h3 => (Below.heap_setCell _ _ _ _ (fun e => by rcases hp with hp | hp | hp <;> omega)).trans (h.block k hk h1 h2 h3)⟩
theorem Fr3.cell (h : Fr3 w b1 b2 b3 w') {p : Addr} {v : Value} (h1 : p.block ≠ b1) (h2 : p.block ≠ b2) (h3 : p.block ≠ b3) (hc : w.cell? p = some v) : w'.cell? p = some v :=
  cell_same (fun _ _ _ e => (h.block p.block (World.block_lt_of_cell? _ _ hc) h1 h2 h3).trans e) hc
theorem Fr3.keep (h : Fr3 w b1 b2 b3 w') : Keep (triS b1 b2 b3) (triV b1 b2 b3) w w' :=
  ⟨h.size, fun ⟨v1, v2, v3⟩ => ⟨⟨by have := h.size; omega, by have := h.size; omega, by have := h.size; omega⟩, fun k hk hn => ⟨hn, fun cs t fr e => (h.block k hk (fun e => hn (.inl e)) (fun e => hn (.inr (.inl e))) (fun e => hn (.inr (.inr e)))).trans e⟩⟩⟩
end

/-- What a row holds, cell by cell. -/
theorem row_cell {w : World} {b s n cap : Nat} {e : TypeId} {a : Option Addr} {xs : List Value} (h : w.ownsRow b e s (.slice a n cap) n xs) {j : Nat} {u : Value} (hj : xs[j]? = some u) : ∃ g, a = some ⟨g, 0, none⟩ ∧ w.cell? ⟨g, j, none⟩ = some u := by
  rcases h.2 with ⟨e1, e2⟩ | ⟨g, cap', cur, e1, h3, h4, h5, h6, h7, h8⟩
  · exfalso
    have h9 := h.1
    cases e1
    simp at h9
    subst h9
    simp at hj
  · cases e1
    refine ⟨g, rfl, ?_⟩
    rw [← h8] at hj
    rw [List.getElem?_take] at hj
    split at hj
    · simp only [World.cell?, h4]
      simpa using hj
    · cases hj

theorem flatC_get : ∀ {L : List Item} {i : Nat} {x : Item}, (∀ y ∈ L, (itemC y).length = 5) → L[i]? = some x → ∀ j, j < 5 → (flatC L)[i * 5 + j]? = (itemC x)[j]?
  | [], i, x, _, h, _, _ => by simp at h
  | y :: L, 0, x, hl, h, j, hj => by
    have h : y = x := by simpa using h
    subst h
    have h5 := hl y (by simp)
    simp only [flatC, List.flatMap_cons, Nat.zero_mul, Nat.zero_add]
    rw [List.getElem?_append_left (by omega)]
  | y :: L, i + 1, x, hl, h, j, hj => by
    have h5 := hl y (by simp)
    have h : L[i]? = some x := by simpa using h
    have := flatC_get (fun y hy => hl y (by simp [hy])) h j hj
    simp only [flatC, List.flatMap_cons] at this ⊢
    rw [List.getElem?_append_right (by omega), ← this]
    congr 1
    omega

theorem box_set {w : World} {b : Nat} {v : Value} {t : TypeId} (h : w.heap[b]? = some (.cells #[v] t (0, 0))) (u : Value) : (w.setCell ⟨b, 0, none⟩ u).heap[b]? = some (.cells #[u] t (0, 0)) := by
  simp only [World.setCell, Array.getElem?_modify, h]; simp

/-- The caller's three: whether all was well, whether it is over, how many came. -/
structure See3 (WA : World) (b1 b2 b3 : Nat) (over : Bool) (k : Nat) (W : World) : Prop where
  ok : W.heap[b1]? = some (.cells #[.bool true] 4 (0, 0))
  ov : W.heap[b2]? = some (.cells #[.bool over] 4 (0, 0))
  ct : W.heap[b3]? = some (.cells #[.int .i64 k] 3 (0, 0))
  fr : Fr3 WA b1 b2 b3 W
theorem See3.grow {WA W W' : World} {b1 b2 b3 k : Nat} {over : Bool} (h : See3 WA b1 b2 b3 over k W) (hg : W.grownBy W' none) : See3 WA b1 b2 b3 over k W' :=
  ⟨(hg.block b1 (Array.getElem?_eq_some_iff.1 h.ok).1 (by simp)).trans h.ok, (hg.block b2 (Array.getElem?_eq_some_iff.1 h.ov).1 (by simp)).trans h.ov, (hg.block b3 (Array.getElem?_eq_some_iff.1 h.ct).1 (by simp)).trans h.ct, h.fr.trans (Fr3.grown hg)⟩

set_option maxRecDepth 100000 in
set_option maxHeartbeats 1600000 in
theorem see_any (WA W : World) (b1 b2 b3 b4 b5 b6 B n lc ac : Nat) (la aa : Addr) (st : Int) (nd : Nd) (v0 : Value) (L pre : List Item) (x : Item)
    (hL : LstN WA B 0 nd v0 L) (hn : L.length = n) (hn6 : n ≤ 1000000)
    (g1 : B ≤ b1) (g2 : B ≤ b2) (g3 : B ≤ b3) (d12 : b1 ≠ b2) (d13 : b1 ≠ b3) (d23 : b2 ≠ b3)
    (c4 : WA.cell? ⟨b4, 0, none⟩ = some (.slice (some la) n lc)) (e4 : b4 ≠ b1 ∧ b4 ≠ b2 ∧ b4 ≠ b3)
    (c5 : WA.cell? ⟨b5, 0, none⟩ = some (.slice (some aa) n ac)) (e5 : b5 ≠ b1 ∧ b5 ≠ b2 ∧ b5 ≠ b3)
    (c6 : WA.cell? ⟨b6, 0, none⟩ = some (.int .i64 st)) (e6 : b6 ≠ b1 ∧ b6 ≠ b2 ∧ b6 ≠ b3)
    (el : la.block ≠ b1 ∧ la.block ≠ b2 ∧ la.block ≠ b3) (ea : aa.block ≠ b1 ∧ aa.block ≠ b2 ∧ aa.block ≠ b3)
    (hrow : ∀ (i : Nat) (y : Item) (j : Nat) (u : Value), L[i]? = some y → j < 5 → (itemC y)[j]? = some u → WA.cell? ⟨(la.add (i * 5)).block, (la.add (i * 5)).off + j, none⟩ = some u)
    (hro2 : ∀ (i : Nat) (y : Item) (u : Value), L[i]? = some y → (itemC y)[0]? = some u → WA.cell? (la.add (i * 5)) = some u)
    (hdeep : ∀ (i : Nat) (y : Item), L[i]? = some y → WA.cell? (aa.add i) = some (.int .i64 y.1))
    (hS : See3 WA b1 b2 b3 false pre.length W) (hp : pre ++ [x] <+: L) :
    Calls Try.prog 12 #[.int .i64 x.1, x.2.2, .pointer (some ⟨b1, 0, none⟩), .pointer (some ⟨b2, 0, none⟩), .pointer (some ⟨b3, 0, none⟩), .pointer (some ⟨b4, 0, none⟩), .pointer (some ⟨b5, 0, none⟩), .pointer (some ⟨b6, 0, none⟩)] W fun e W' =>
      ∃ over : Bool, over = ((pre.length : Int) + 1 == st) ∧ e = .returned (.bool !over) ∧ See3 WA b1 b2 b3 over (pre.length + 1) W' ∧ Fr3 W b1 b2 b3 W' := by
  obtain ⟨i, Hi⟩ : ∃ i, Hid (pre.length = i) := ⟨_, Lib.hid rfl⟩
  have hx : L[i]? = some x := by
    obtain ⟨z, hz⟩ := hp
    rw [← hz, ← Hi.out]
    simp
  have hlt : i < n := by
    have := hp.length_le
    have := Hi.out
    simp at *; omega
  rw [Hi.out] at hS ⊢
  have hmem : x ∈ L := List.mem_of_getElem? hx
  have hLW : LstN W B 0 nd v0 L := hL.cells fun p v hpb hc => hS.fr.cell (by omega) (by omega) (by omega) hc
  have hnv := hLW.nodes.2 x hmem
  obtain ⟨d, xn, xv⟩ := x
  obtain ⟨k, f, t, s, c⟩ := xn
  have hnv0 := hnv
  obtain ⟨a', cap', e, -, -, -⟩ := hnv
  simp only at e hnv0
  obtain ⟨L1, HL1⟩ : ∃ l, Hid (c.len = l) := ⟨_, Lib.hid rfl⟩
  rw [HL1.out] at e
  subst e
  have hblk : (la.add (i * 5)).block = la.block := Addr.add_block _ _
  have hblk2 : (aa.add i).block = aa.block := Addr.add_block _ _
  have r0 := hS.fr.cell (by rw [hblk]; exact el.1) (by rw [hblk]; exact el.2.1) (by rw [hblk]; exact el.2.2) (hro2 i _ _ hx rfl)
  have r1 := hS.fr.cell (by rw [hblk]; exact el.1) (by rw [hblk]; exact el.2.1) (by rw [hblk]; exact el.2.2) (hrow i _ 1 _ hx (by omega) rfl)
  have r2 := hS.fr.cell (by rw [hblk]; exact el.1) (by rw [hblk]; exact el.2.1) (by rw [hblk]; exact el.2.2) (hrow i _ 2 _ hx (by omega) rfl)
  have r3 := hS.fr.cell (by rw [hblk]; exact el.1) (by rw [hblk]; exact el.2.1) (by rw [hblk]; exact el.2.2) (hrow i _ 3 _ hx (by omega) rfl)
  have r4 := hS.fr.cell (by rw [hblk]; exact el.1) (by rw [hblk]; exact el.2.1) (by rw [hblk]; exact el.2.2) (hrow i _ 4 _ hx (by omega) rfl)
  have r5 := hS.fr.cell (by rw [hblk2]; exact ea.1) (by rw [hblk2]; exact ea.2.1) (by rw [hblk2]; exact ea.2.2) (hdeep i _ hx)
  have r6 := hS.fr.cell e4.1 e4.2.1 e4.2.2 c4
  have r7 := hS.fr.cell e5.1 e5.2.1 e5.2.2 c5
  have r8 := hS.fr.cell e6.1 e6.2.1 e6.2.2 c6
  have r9 := (cell_of_box hS.ok).1
  have r10 := (cell_of_box hS.ov).1
  have r11 := (cell_of_box hS.ct).1
  simp only at r0 r1 r2 r3 r4 r5
  have hb1 := (Below.refl _ W).alloc (Nat.le_refl _) (.cells #[.int .i64 k, .int .i64 f, .int .i64 t, .string s, .slice a' L1 cap'] 24)
  obtain ⟨w1, Hw1⟩ : ∃ w1, Hid (w1 = W.alloc (.cells #[.int .i64 k, .int .i64 f, .int .i64 t, .string s, .slice a' L1 cap'] 24)) := ⟨_, Lib.hid rfl⟩
  obtain ⟨bx, Hbx⟩ : ∃ bx, Hid (bx = W.heap.size) := ⟨_, Lib.hid rfl⟩
  rw [← Hw1.out] at hb1
  have hbx : w1.heap[bx]? = some (.cells #[.int .i64 k, .int .i64 f, .int .i64 t, .string s, .slice a' L1 cap'] 24 (0, 0)) := by rw [Hw1.out, Hbx.out]; exact heap_alloc_new W _
  have HS : (fun w' => w'.cell? ⟨b1, 0, none⟩ = some (.bool true) ∧ w'.cell? ⟨b2, 0, none⟩ = some (.bool false) ∧ w'.cell? ⟨b3, 0, none⟩ = some (.int .i64 i) ∧ w'.cell? ⟨b4, 0, none⟩ = some (.slice (some la) n lc) ∧ w'.cell? ⟨b5, 0, none⟩ = some (.slice (some aa) n ac) ∧ w'.cell? (aa.add i) = some (.int .i64 d) ∧
      w'.cell? (la.add (i * 5)) = some (.int .i64 k) ∧ w'.cell? ⟨(la.add (i * 5)).block, (la.add (i * 5)).off + 1, none⟩ = some (.int .i64 f) ∧ w'.cell? ⟨(la.add (i * 5)).block, (la.add (i * 5)).off + 2, none⟩ = some (.int .i64 t) ∧ w'.cell? ⟨(la.add (i * 5)).block, (la.add (i * 5)).off + 3, none⟩ = some (.string s) ∧ w'.cell? ⟨(la.add (i * 5)).block, (la.add (i * 5)).off + 4, none⟩ = some (.slice a' L1 cap') ∧
      w'.cell? ⟨bx, 0, none⟩ = some (.int .i64 k) ∧ w'.cell? ⟨bx, 1, none⟩ = some (.int .i64 f) ∧ w'.cell? ⟨bx, 2, none⟩ = some (.int .i64 t) ∧ w'.cell? ⟨bx, 3, none⟩ = some (.string s) ∧ w'.cell? ⟨bx, 4, none⟩ = some (.slice a' L1 cap')) w1.drew := by
    have cb : ∀ {p u}, W.cell? p = some u → w1.drew.cell? p = some u := fun hc => cell_below hb1 rfl hc
    refine ⟨cb r9, cb r10, cb r11, cb r6, cb r7, cb r5, cb r0, cb r1, cb r2, cb r3, cb r4, ?_, ?_, ?_, ?_, ?_⟩ <;> (show w1.cell? _ = _; simp only [World.cell?, hbx]; rfl)
  have HB := Lib.hid (hb1.trans (Below.mono (Below.refl _ w1).drew hb1.size))
  have HV := Lib.hid (hnv0.below HB.out)
  have HX := Lib.hid (And.intro hS r8)
  have HN := Lib.hid (nodes_any (c.cnt + 1) ⟨k, f, t, s, c⟩ ⟨k, f, t, s, c⟩ _ _ w1.drew (Nat.lt_succ_self _) HV.out HV.out)
  rw [nodeN_refl] at HN
  clear r0 r1 r2 r3 r4 r5 r6 r7 r8 r9 r10 r11 hnv0 hx hmem hLW hS hL hrow hro2 hdeep c4 c5 c6 hb1 hbx hp hblk hblk2
  go_enter Try.func12, Try.ntmps12
  go_upto_region 1 with fail
  rw [← Hw1.out]
  try rw [← Hbx.out]
  refine wp_region_pi (fun w' => w'.cell? ⟨b1, 0, none⟩ = some (.bool true) ∧ w'.cell? ⟨b2, 0, none⟩ = some (.bool false) ∧ w'.cell? ⟨b3, 0, none⟩ = some (.int .i64 i) ∧ w'.cell? ⟨b4, 0, none⟩ = some (.slice (some la) n lc) ∧ w'.cell? ⟨b5, 0, none⟩ = some (.slice (some aa) n ac) ∧ w'.cell? (aa.add i) = some (.int .i64 d) ∧ w'.cell? (la.add (i * 5)) = some (.int .i64 k) ∧ w'.cell? ⟨(la.add (i * 5)).block, (la.add (i * 5)).off + 1, none⟩ = some (.int .i64 f) ∧ w'.cell? ⟨(la.add (i * 5)).block, (la.add (i * 5)).off + 2, none⟩ = some (.int .i64 t) ∧ w'.cell? ⟨(la.add (i * 5)).block, (la.add (i * 5)).off + 3, none⟩ = some (.string s) ∧ w'.cell? ⟨(la.add (i * 5)).block, (la.add (i * 5)).off + 4, none⟩ = some (.slice a' L1 cap') ∧ w'.cell? ⟨bx, 0, none⟩ = some (.int .i64 k) ∧ w'.cell? ⟨bx, 1, none⟩ = some (.int .i64 f) ∧ w'.cell? ⟨bx, 2, none⟩ = some (.int .i64 t) ∧ w'.cell? ⟨bx, 3, none⟩ = some (.string s) ∧ w'.cell? ⟨bx, 4, none⟩ = some (.slice a' L1 cap')) [(0, 0), (1, 1), (2, 0), (3, 1), (4, 1), (5, 1), (6, 0), (7, 0), (8, 1), (9, 1), (10, 1), (11, 1), (12, 1), (13, 0), (14, 0), (15, 1), (16, 0), (17, 1), (18, 1), (19, 1), (20, 0), (21, 0), (22, 0), (23, 1), (24, 0), (25, 3), (26, 3), (27, 3)] [(25, [19, 11, 5, 1, 0]), (25, [19, 11, 5, 4, 3, 2]), (25, [19, 11, 10, 9, 6]), (25, [19, 11, 10, 9, 8, 7]), (25, [19, 18, 17, 16, 15, 13]), (25, [19, 18, 17, 16, 15, 14]), (25, [19, 18, 17, 16]), (25, [20]), (25, [24, 23, 21]), (25, [24, 23, 22]), (25, [24]), (26, [19, 11, 5, 1, 0]), (26, [19, 11, 5, 4, 3, 2]), (26, [19, 11, 10, 9, 6]), (26, [19, 11, 10, 9, 8, 7]), (26, [19, 18, 17, 16, 15, 13]), (26, [19, 18, 17, 16, 15, 14]), (26, [19, 18, 17, 16]), (26, [25, 20]), (26, [25, 24, 23, 21]), (26, [25, 24, 23, 22]), (26, [25, 24]), (27, [0]), (27, [2]), (27, [6]), (27, [7]), (27, [13]), (27, [14]), (27, [16]), (27, [20]), (27, [21]), (27, [22]), (27, [24])] (by kernel_rfl) (by kernel_rfl) (fun _ _ _ _ _ h => h) (HS) ?_
  refine pd_ld (some 11) rfl rfl (by rfl) (fun ws HS => by go_split_ands; go_simp; try with_reducible rfl) ?_; go_frame   -- 0 Op.load 4 (Operand.tmp 2)
  refine pd_pu (some 12) rfl rfl (by rfl) (fun ws => by go_simp; try with_reducible rfl) ?_; go_frame   -- 1 Op.move (Operand.tmp 11)
  refine pd_ld (some 13) rfl rfl (by rfl) (fun ws HS => by go_split_ands; go_simp; try with_reducible rfl) ?_; go_frame   -- 2 Op.load 4 (Operand.tmp 3)
  refine pd_pu (some 14) rfl rfl (by rfl) (fun ws => by go_simp; try with_reducible rfl) ?_; go_frame   -- 3 Op.unOp UnOp.not 4 (Operand.tmp 13)
  refine pd_pu (some 15) rfl rfl (by rfl) (fun ws => by go_simp; try with_reducible rfl) ?_; go_frame   -- 4 Op.pick (Operand.tmp 12) (Operand.tmp 14) (Operand.const (Value.bool false))
  refine pd_pu (some 16) rfl rfl (by rfl) (fun ws => by go_simp; try with_reducible rfl) ?_; go_frame   -- 5 Op.move (Operand.tmp 15)
  refine pd_ld (some 17) rfl rfl (by rfl) (fun ws HS => by go_split_ands; go_simp; try with_reducible rfl) ?_; go_frame   -- 6 Op.load 3 (Operand.tmp 4)
  refine pd_ld (some 18) rfl rfl (by rfl) (fun ws HS => by go_split_ands; go_simp; try with_reducible rfl) ?_; go_frame   -- 7 Op.load 22 (Operand.tmp 5)
  refine pd_pu (some 19) rfl rfl (by rfl) (fun ws => by go_simp; try with_reducible rfl) ?_; go_frame   -- 8 Op.call { callee := Callee.builtin Builtin.len, args := #[Operand.tmp 18], argTypes := #[22] }
  refine pd_pu (some 20) rfl rfl (by rfl) (fun ws => by go_simp; try with_reducible rfl) ?_; go_frame   -- 9 Op.binOp BinOp.lss 3 (Operand.tmp 17) (Operand.tmp 19) 3
  refine pd_pu (some 21) rfl rfl (by rfl) (fun ws => by go_simp; try with_reducible rfl) ?_; go_frame   -- 10 Op.pick (Operand.tmp 16) (Operand.tmp 20) (Operand.const (Value.bool false))
  refine pd_pu (some 22) rfl rfl (by rfl) (fun ws => by go_simp; try with_reducible rfl) ?_; go_frame   -- 11 Op.move (Operand.tmp 21)
  refine pd_pu (some 23) rfl rfl (by rfl) (fun ws => by go_simp; try with_reducible rfl) ?_; go_frame   -- 12 Op.move (Operand.tmp 0)
  refine pd_ld (some 24) rfl rfl (by rfl) (fun ws HS => by go_split_ands; go_simp; try with_reducible rfl) ?_; go_frame   -- 13 Op.load 27 (Operand.tmp 6)
  refine pd_ld (some 25) rfl rfl (by rfl) (fun ws HS => by go_split_ands; go_simp; try with_reducible rfl) ?_; go_frame   -- 14 Op.load 3 (Operand.tmp 4)
  refine pd_pu (some 26) rfl rfl (by rfl) (fun ws => by go_simp; try with_reducible rfl) ?_; go_frame   -- 15 Op.indexAddr 27 (Operand.tmp 24) (Operand.tmp 25)
  refine pd_ld (some 27) rfl rfl (by rfl) (fun ws HS => by go_split_ands; go_simp; try with_reducible rfl) ?_; go_frame   -- 16 Op.load 3 (Operand.tmp 26)
  refine pd_pu (some 28) rfl rfl (by rfl) (fun ws => by go_simp; try with_reducible rfl) ?_; go_frame   -- 17 Op.binOp BinOp.eql 3 (Operand.tmp 23) (Operand.tmp 27) 3
  refine pd_pu (some 29) rfl rfl (by rfl) (fun ws => by go_simp; try with_reducible rfl) ?_; go_frame   -- 18 Op.pick (Operand.tmp 22) (Operand.tmp 28) (Operand.const (Value.bool false))
  refine pd_pu (some 30) rfl rfl (by rfl) (fun ws => by go_simp; try with_reducible rfl) ?_; go_frame   -- 19 Op.move (Operand.tmp 29)
  refine pd_ld (some 31) rfl rfl (by rfl) (fun ws HS => by go_split_ands; go_simp; try with_reducible rfl) ?_; go_frame   -- 20 Op.load 24 (Operand.tmp 9)
  refine pd_ld (some 32) rfl rfl (by rfl) (fun ws HS => by go_split_ands; go_simp; try with_reducible rfl) ?_; go_frame   -- 21 Op.load 22 (Operand.tmp 5)
  refine pd_ld (some 33) rfl rfl (by rfl) (fun ws HS => by go_split_ands; go_simp; try with_reducible rfl) ?_; go_frame   -- 22 Op.load 3 (Operand.tmp 4)
  refine pd_pu (some 34) rfl rfl (by rfl) (fun ws => by go_simp; try with_reducible rfl) ?_; go_frame   -- 23 Op.indexAddr 22 (Operand.tmp 32) (Operand.tmp 33)
  refine pd_ld (some 35) rfl rfl (by rfl) (fun ws HS => by go_split_ands; go_simp; try with_reducible rfl) ?_; go_frame   -- 24 Op.load 24 (Operand.tmp 34)
  refine pi_tail (by rfl) ?_; simp only [opsAt, List.getElem?_toArray, List.getElem?_cons_zero, List.getElem?_cons_succ]   -- [(25, 'Op.call { callee := Callee.value (Operand.func 13), args := #[Operand.tmp 31, Operand.tmp 35], argTypes := #[24, 24] }'), (26, 'Op.pick (Operand.tmp 30) (Operand.tmp 36) (Operand.const (Value.bool false))'), (27, 'Op.store 4 (Operand.tmp 2) (Operand.tmp 37)')]
  go_wp2_with (go_at_call 13; refine HN.out.mono ?_; rintro e w2 ⟨rfl, hb⟩; refine hold ?_)
  have hB2 := HB.out.trans (Below.mono hb HB.out.size)
  obtain ⟨hS, r8⟩ := HX.out
  have hG := See3.grow hS (grownBy_below hB2)
  have r9 := cell_of_box hG.ok
  have r10 := cell_of_box hG.ov
  have r11 := cell_of_box hG.ct
  have q8 := cell_below hB2 rfl r8
  obtain ⟨s9, f9⟩ := r9
  obtain ⟨s10, f10⟩ := r10
  obtain ⟨s11, f11⟩ := r11
  have HG := Lib.hid (And.intro hG (Fr3.below (b1 := b1) (b2 := b2) (b3 := b3) hB2))
  have d21 := Ne.symm d12
  have d31 := Ne.symm d13
  have d32 := Ne.symm d23
  obtain ⟨z1, z2, z3⟩ := e6
  have z4 := Ne.symm z1
  have z5 := Ne.symm z2
  have z6 := Ne.symm z3
  clear hB2 hS hG r8 hb HS
  refine Hold.mk ?_
  go_wp2_with fail
  go_ret
  obtain ⟨hG, hF⟩ := HG.out
  refine ⟨_, rfl, rfl, ⟨?_, ?_, ?_, ?_⟩, ?_⟩
  · exact (Below.heap_setCell _ _ _ _ (by simpa using d12)).trans ((Below.heap_setCell _ _ _ _ (by simpa using d13)).trans (box_set hG.ok _))
  · exact box_set ((Below.heap_setCell _ _ _ _ (by simpa using d23)).trans ((Below.heap_setCell _ _ _ _ (by simpa using d21)).trans hG.ov)) _
  · refine (Below.heap_setCell _ _ _ _ (by simpa using d32)).trans (box_set ((Below.heap_setCell _ _ _ _ (by simpa using d31)).trans hG.ct) _)
  · exact ((hG.fr.set (.inl rfl) _).set (.inr (.inr rfl)) _).set (.inr (.inl rfl)) _
  · exact ((hF.set (.inl rfl) _).set (.inr (.inr rfl)) _).set (.inr (.inl rfl)) _
end Go.Proofs.Ytmkjajapbkdpiaa
