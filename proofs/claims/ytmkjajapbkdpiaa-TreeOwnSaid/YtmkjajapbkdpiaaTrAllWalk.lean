/- The law TreeAll: the walk. No condition. -/
import Derived.Test.YtmkjajapbkdpiaaTrSeeBody
namespace Go.Proofs.Ytmkjajapbkdpiaa
open Go.RowKit Go.Shelf

theorem RFr.belowNil {w w' : World} {B : Nat} {lv' av' : Value} (h : RFr w (.slice none 0 0) (.slice none 0 0) w' lv' av') (hB : B ≤ w.heap.size) : Below B w w' :=
  ⟨h.os, h.tape, h.output, h.size, fun k hk => h.block k (by omega) (by simp [Value.ownBlock]) (by simp [Value.ownBlock])⟩
theorem Fr3.low {w w' : World} {b1 b2 b3 B : Nat} (h : Fr3 w b1 b2 b3 w') (hB : B ≤ w.heap.size) (h1 : B ≤ b1) (h2 : B ≤ b2) (h3 : B ≤ b3) : Below B w w' :=
  ⟨h.os, h.tape, h.output, h.size, fun k hk => h.block k (by omega) (by omega) (by omega) (by omega)⟩
theorem LstN.five {w : World} {B : Nat} {d : Int} {n : Nd} {v : Value} {L : List Item} (h : LstN w B d n v L) : ∀ y ∈ L, (itemC y).length = 5 := fun y hy => by
  obtain ⟨a, cap, e, _⟩ := h.nodes.2 y hy
  unfold itemC
  rw [e]
  rfl

theorem add0 (g j : Nat) : (⟨g, 0, none⟩ : Addr).add j = ⟨g, j, none⟩ := by
  unfold Addr.add
  by_cases h : j = 0
  · subst h; rfl
  · rw [if_neg h]; simp

theorem run_equalIn_func_nil {P : Program} (w : World) (d : Nat) (t : TypeId) {ps rs : Array TypeId} {v : Bool} (f : Fn) (a1 a2 : Array Value) (h : P.underlying t = some (.func ps rs v)) :
    (Op.equalIn (d + 1) t (.func f a1 a2) .nilFunc).run P w = .ok false w := by
  simp [Op.equalIn, run_underlying h]
/-- 'f == nil' of a function value. -/
theorem run_eql_func_nil {P : Program} (w : World) (t : TypeId) {ps rs : Array TypeId} {v : Bool} (f : Fn) (a1 a2 : Array Value) (h : P.underlying t = some (.func ps rs v)) :
    (binOp .eql t (.func f a1 a2) .nilFunc).run P w = .ok (.bool false) w := by
  simp only [binOp]
  simp [Op.equal, Op.maxDepth, run_equalIn_func_nil w 9999 t f a1 a2 h]

set_option maxRecDepth 100000 in
set_option maxHeartbeats 3200000 in
theorem treeAll_any (n0 : Nd) (st : Int) (v0 : Value) (w : World) (hn : NodeV w n0 v0) :
    Calls Try.prog 3 #[v0, .int .i64 st] w fun e w' => e = .returned (.bool true) ∧ Below w.heap.size w w' := by
  obtain ⟨L, hL, hLm, -⟩ := LstN.of 0 hn (Nat.le_refl _)
  have hlen : L.length = n0.c.cnt + 1 := by rw [← flatN_len 0 n0, ← hLm]; simp
  obtain ⟨a, cap, e1, -, -, -⟩ := id hn
  obtain ⟨k, f, t, s, c⟩ := n0
  simp only at e1 hlen
  obtain ⟨len, H1⟩ : ∃ l, Hid (c.len = l) := ⟨_, Lib.hid rfl⟩
  obtain ⟨n, Hn⟩ : ∃ n, Hid (L.length = n) := ⟨_, Lib.hid rfl⟩
  rw [Hn.out] at hlen
  rw [H1.out] at e1
  subst e1
  obtain ⟨w1, Hw1⟩ : ∃ w1, Hid (w1 = (w.alloc (.cells #[.int .i64 k, .int .i64 f, .int .i64 t, .string s, .slice a len cap] 24)).alloc (.cells #[.int .i64 st] 3)) := ⟨_, Lib.hid rfl⟩
  obtain ⟨bn, Hbn⟩ : ∃ b, Hid (b = w.heap.size) := ⟨_, Lib.hid rfl⟩
  obtain ⟨bs, Hbs⟩ : ∃ b, Hid (b = w.heap.size + 1) := ⟨_, Lib.hid rfl⟩
  have HB := Lib.hid (show Below w.heap.size w w1 from by
    rw [Hw1.out]
    exact ((Below.refl _ w).alloc (Nat.le_refl _) _).alloc (by simp) _)
  have q1 : w1.heap[bn]? = some (.cells #[.int .i64 k, .int .i64 f, .int .i64 t, .string s, .slice a len cap] 24 (0, 0)) := by
    rw [Hw1.out, Hbn.out]
    exact (Below.heap_alloc _ _ _ (by simp)).trans (heap_alloc_new w _)
  have q2 : w1.heap[bs]? = some (.cells #[.int .i64 st] 3 (0, 0)) := by
    have := heap_alloc_new (w.alloc (.cells #[.int .i64 k, .int .i64 f, .int .i64 t, .string s, .slice a len cap] 24)) (.cells #[.int .i64 st] 3)
    rw [World.size_alloc] at this
    rw [Hw1.out, Hbs.out]
    exact this
  have HC : Hid (∀ wx, Below w1.heap.size w1 wx → wx.cell? ⟨bn, 0, none⟩ = some (.int .i64 k) ∧ wx.cell? ⟨bn, 1, none⟩ = some (.int .i64 f) ∧ wx.cell? ⟨bn, 2, none⟩ = some (.int .i64 t) ∧ wx.cell? ⟨bn, 3, none⟩ = some (.string s) ∧ wx.cell? ⟨bn, 4, none⟩ = some (.slice a len cap) ∧ wx.cell? ⟨bs, 0, none⟩ = some (.int .i64 st)) := Lib.hid fun wx hx => by
    have e1 := (hx.block bn (Array.getElem?_eq_some_iff.1 q1).1).trans q1
    have e2 := (hx.block bs (Array.getElem?_eq_some_iff.1 q2).1).trans q2
    refine ⟨?_, ?_, ?_, ?_, ?_, ?_⟩ <;> first | (simp only [World.cell?, e1]; rfl) | (simp only [World.cell?, e2]; rfl)
  have HN := Lib.hid (show ∀ wx, Below w1.heap.size w1 wx → NodeV wx ⟨k, f, t, s, c⟩ (.agg #[.int .i64 k, .int .i64 f, .int .i64 t, .string s, .slice a len cap]) ∧ LstN wx w.heap.size 0 ⟨k, f, t, s, c⟩ (.agg #[.int .i64 k, .int .i64 f, .int .i64 t, .string s, .slice a len cap]) L from fun wx hx =>
    ⟨(hn.below HB.out).below hx, hL.cells fun p u hp hu => cell_below hx rfl (cell_below HB.out rfl hu)⟩)
  have Hsz := Lib.hid (show bn < w1.heap.size ∧ bs < w1.heap.size ∧ w1.heap.size = w.heap.size + 2 from ⟨(Array.getElem?_eq_some_iff.1 q1).1, (Array.getElem?_eq_some_iff.1 q2).1, by rw [Hw1.out]; simp⟩)
  have HI := Lib.hid (fun wx hx => in_any ⟨k, f, t, s, c⟩ (.agg #[.int .i64 k, .int .i64 f, .int .i64 t, .string s, .slice a len cap]) wx (HN.out wx hx).1)
  obtain ⟨ta, Hta⟩ : ∃ t, Hid (decide (szF c 1 300 ≤ 300) = t) := ⟨_, Lib.hid rfl⟩
  simp only [Hta.out] at HI
  have hA := Lib.hid (Below.refl w1.heap.size w1)
  have Hlen := Lib.hid hlen
  clear hn hL hLm q1 q2 hlen
  go_enter Try.func3, Try.ntmps3
  go_wp2_with (go_at_call 8; refine hold ?_)
  rw [← Hw1.out]
  try rw [← Hbs.out]
  try rw [← Hbn.out]
  refine Hold.mk ?_
  refine (HI.out w1 hA.out).mono ?_
  rintro e w2 ⟨rfl, hb2⟩
  have hB := Lib.hid (hA.out.trans (Below.mono hb2 hA.out.size))
  obtain ⟨c0, c1', c2', c3, c4, c5⟩ := HC.out w2 hB.out
  clear hb2
  cases ta with
  | false =>
    go_wp2_with (go_at_call 9; refine (awake_any w2).mono ?_; rintro e w3 ⟨rfl, hb3⟩; have hG := Lib.hid hb3; clear hb3)
    go_ret
    exact ⟨rfl, HB.out.trans (Below.mono (hB.out.trans (Below.mono hG.out hB.out.size)) HB.out.size)⟩
  | true =>
    have hsm : szF c 1 300 ≤ 300 := of_decide_eq_true Hta.out
    have hct := szF_cnt c 1 300 hsm
    have hcnt : c.cnt ≤ 300 := by omega
    have hs2 : w1.heap.size ≤ w2.heap.size := hB.out.size
    have HF := Lib.hid (flat_any (c.cnt + 1) ⟨k, f, t, s, c⟩ (.agg #[.int .i64 k, .int .i64 f, .int .i64 t, .string s, .slice a len cap]) 0 (.slice none 0 0) (.slice none 0 0) 0 w.heap.size [] [] L w2 (Nat.lt_succ_self _) (HN.out w2 hB.out).2
      ⟨⟨rfl, .inl ⟨rfl, rfl⟩⟩, ⟨rfl, .inl ⟨rfl, rfl⟩⟩⟩ (by have := Hsz.out.2.2; omega) (by rw [Hn.out, Hlen.out]; omega) (by omega) (by simp only; omega))
    have hn3 : n ≤ 301 := by have := Hlen.out; omega
    have hn0 : 0 < n := by have := Hlen.out; omega
    have Hcnt := Lib.hid hcnt
    clear hsm hct hcnt
    go_wp2_with (go_at_call 10; refine HF.out.mono ?_; rintro e w3 ⟨a1, k1, a2, k2, rfl, hT, hR⟩; refine hold ?_)
    rw [Nat.zero_add, Hn.out, List.nil_append, List.nil_append] at hT
    rw [Nat.zero_add, Hn.out] at hR
    rw [Hn.out]
    have hC := Lib.hid (hB.out.trans (hR.belowNil hs2))
    obtain ⟨x0, hx0⟩ : ∃ x0, L[0]? = some x0 := ⟨L[0]'(by rw [Hn.out]; exact hn0), by simp⟩
    have h5 := (HN.out w1 hA.out).2.five
    obtain ⟨gl, rfl, -⟩ := row_cell hT.l (j := 0) (u := (itemC x0)[0]'(by rw [h5 x0 (List.mem_of_getElem? hx0)]; omega)) (by
      have := flatC_get h5 hx0 0 (by omega)
      rw [Nat.zero_mul, Nat.zero_add] at this
      rw [this]
      simp)
    obtain ⟨ga, rfl, -⟩ := row_cell hT.a (j := 0) (u := .int .i64 x0.1) (by simp [flatD, hx0])
    obtain ⟨c0, c1', c2', c3, c4, c5⟩ := HC.out w3 hC.out
    have HT := Lib.hid hT
    clear hT hR hx0
    refine Hold.mk ?_
    go_upto_region 4 with fail
    obtain ⟨w4, Hw4⟩ : ∃ w4, Hid (w4 = (w3.alloc (.cells #[.slice (some ⟨gl, 0, none⟩) n k1] 22)).alloc (.cells #[.slice (some ⟨ga, 0, none⟩) n k2] 27)) := ⟨_, Lib.hid rfl⟩
    obtain ⟨bl, Hbl⟩ : ∃ b, Hid (b = w3.heap.size) := ⟨_, Lib.hid rfl⟩
    obtain ⟨bd, Hbd⟩ : ∃ b, Hid (b = w3.heap.size + 1) := ⟨_, Lib.hid rfl⟩
    rw [← Hw4.out]
    try rw [← Hbd.out]
    try rw [← Hbl.out]
    have hD := Lib.hid (show Below w1.heap.size w1 w4 from by
      rw [Hw4.out]
      exact (hC.out.alloc hC.out.size _).alloc (by have := hC.out.size; simp; omega) _)
    have q1 : w4.heap[bl]? = some (.cells #[.slice (some ⟨gl, 0, none⟩) n k1] 22 (0, 0)) := by
      rw [Hw4.out, Hbl.out]
      exact (Below.heap_alloc _ _ _ (by simp)).trans (heap_alloc_new w3 _)
    have q2 : w4.heap[bd]? = some (.cells #[.slice (some ⟨ga, 0, none⟩) n k2] 27 (0, 0)) := by
      have := heap_alloc_new (w3.alloc (.cells #[.slice (some ⟨gl, 0, none⟩) n k1] 22)) (.cells #[.slice (some ⟨ga, 0, none⟩) n k2] 27)
      rw [World.size_alloc] at this
      rw [Hw4.out, Hbd.out]
      exact this
    have HT4 := Lib.hid (show Two w4 w.heap.size (.slice (some ⟨gl, 0, none⟩) n k1) (.slice (some ⟨ga, 0, none⟩) n k2) n (flatC L) (flatD L) from by rw [Hw4.out]; exact (HT.out.alloc _).alloc _)
    have Hd4 := Lib.hid (show w4.heap.size = w3.heap.size + 2 ∧ bl = w3.heap.size ∧ bd = w3.heap.size + 1 ∧ gl < w3.heap.size ∧ ga < w3.heap.size from ⟨by rw [Hw4.out]; simp, Hbl.out, Hbd.out, (HT.out.l.lt gl rfl).2, (HT.out.a.lt ga rfl).2⟩)
    have HQ4 := Lib.hid (And.intro q1 q2)
    obtain ⟨c0, c1', c2', c3, c4, c5⟩ := HC.out w4 hD.out
    clear q1 q2 HT
    go_wp2_with (go_at_call 11; refine (all_any _ _ _ _ _ _ _ _).mono ?_; rintro e w5 ⟨rfl, rfl⟩; refine hold ?_)
    clear c0 c1' c2' c3 c4 c5
    have qF := fun (wx : World) (a1 a2 : Array Value) => run_eql_func_nil (P := Try.prog) wx 31 (.func 34) a1 a2 Try.underlying31
    refine Hold.mk ?_
    go_upto_region 10 with fail
    obtain ⟨w8, Hw8⟩ : ∃ w8, Hid (w8 = (((w4.alloc (.cells #[.int .i64 k, .int .i64 f, .int .i64 t, .string s, .slice a len cap] 24)).alloc (.cells #[.int .i64 0] 3)).alloc (.cells #[.bool true] 4)).alloc (.cells #[.bool false] 4)) := ⟨_, Lib.hid rfl⟩
    obtain ⟨b2, Hb2⟩ : ∃ b, Hid (b = w4.heap.size + 1 + 1 + 1) := ⟨_, Lib.hid rfl⟩
    obtain ⟨b1, Hb1⟩ : ∃ b, Hid (b = w4.heap.size + 1 + 1) := ⟨_, Lib.hid rfl⟩
    obtain ⟨b3, Hb3⟩ : ∃ b, Hid (b = w4.heap.size + 1) := ⟨_, Lib.hid rfl⟩
    obtain ⟨bt, Hbt⟩ : ∃ b, Hid (b = w4.heap.size) := ⟨_, Lib.hid rfl⟩
    rw [← Hw8.out]
    try rw [← Hb2.out]
    try rw [← Hb1.out]
    try rw [← Hb3.out]
    try rw [← Hbt.out]
    have hg8 : w4.grownBy w8 none := by
      rw [Hw8.out]
      exact grownBy_trans_none (grownBy_trans_none (grownBy_trans_none (World.grownBy_alloc _ _ none) (World.grownBy_alloc _ _ none)) (World.grownBy_alloc _ _ none)) (World.grownBy_alloc _ _ none)
    have hs8 : w8.heap.size = w4.heap.size + 4 := by rw [Hw8.out]; simp
    have hbt8 : w8.heap[bt]? = some (.cells #[.int .i64 k, .int .i64 f, .int .i64 t, .string s, .slice a len cap] 24 (0, 0)) := by
      rw [Hw8.out, Hbt.out]
      exact (Below.heap_alloc _ _ _ (by simp <;> omega)).trans ((Below.heap_alloc _ _ _ (by simp <;> omega)).trans ((Below.heap_alloc _ _ _ (by simp <;> omega)).trans (heap_alloc_new _ _)))
    have hct8 : w8.heap[b3]? = some (.cells #[.int .i64 ((0 : Nat) : Int)] 3 (0, 0)) := by
      have := heap_alloc_new (w4.alloc (.cells #[.int .i64 k, .int .i64 f, .int .i64 t, .string s, .slice a len cap] 24)) (.cells #[.int .i64 0] 3)
      rw [World.size_alloc] at this
      rw [Hw8.out, Hb3.out]
      exact (Below.heap_alloc _ _ _ (by simp)).trans ((Below.heap_alloc _ _ _ (by simp)).trans this)
    have hok8 : w8.heap[b1]? = some (.cells #[.bool true] 4 (0, 0)) := by
      have := heap_alloc_new ((w4.alloc (.cells #[.int .i64 k, .int .i64 f, .int .i64 t, .string s, .slice a len cap] 24)).alloc (.cells #[.int .i64 0] 3)) (.cells #[.bool true] 4)
      rw [World.size_alloc, World.size_alloc] at this
      rw [Hw8.out, Hb1.out]
      exact (Below.heap_alloc _ _ _ (by simp)).trans this
    have hov8 : w8.heap[b2]? = some (.cells #[.bool false] 4 (0, 0)) := by
      have := heap_alloc_new (((w4.alloc (.cells #[.int .i64 k, .int .i64 f, .int .i64 t, .string s, .slice a len cap] 24)).alloc (.cells #[.int .i64 0] 3)).alloc (.cells #[.bool true] 4)) (.cells #[.bool false] 4)
      rw [World.size_alloc, World.size_alloc, World.size_alloc] at this
      rw [Hw8.out, Hb2.out]
      exact this
    have hT8 : Two w8 w.heap.size (.slice (some ⟨gl, 0, none⟩) n k1) (.slice (some ⟨ga, 0, none⟩) n k2) n (flatC L) (flatD L) := by rw [Hw8.out]; exact (((HT4.out.alloc _).alloc _).alloc _).alloc _
    have hE : Below w1.heap.size w1 w8 := hD.out.trans ⟨hg8.os, hg8.tape, hg8.output, hg8.size, fun j hj => hg8.block j (by have := hD.out.size; omega) (by simp)⟩
    have hL8 := (HN.out w8 hE).2
    obtain ⟨z1, z2, z3⟩ := Hsz.out
    obtain ⟨y1, y2, y3, y4, y5⟩ := Hd4.out
    have hs23 : w1.heap.size ≤ w3.heap.size := hC.out.size
    have x1 := Hb1.out
    have x2 := Hb2.out
    have x3 := Hb3.out
    have cl8 : w8.cell? ⟨bl, 0, none⟩ = some (.slice (some ⟨gl, 0, none⟩) n k1) := hg8.cell (cell_of_box HQ4.out.1).1 (by simp)
    have cd8 : w8.cell? ⟨bd, 0, none⟩ = some (.slice (some ⟨ga, 0, none⟩) n k2) := hg8.cell (cell_of_box HQ4.out.2).1 (by simp)
    have cs8 : w8.cell? ⟨bs, 0, none⟩ = some (.int .i64 st) := (HC.out w8 hE).2.2.2.2.2
    have HP := Lib.hid (all1_see b1 b2 b3 bl bd bs w.heap.size bt (triOk (B := w.heap.size) (b1 := b1) (b2 := b2) (b3 := b3) (by omega) (by omega) (by omega)) ⟨k, f, t, s, c⟩ (.agg #[.int .i64 k, .int .i64 f, .int .i64 t, .string s, .slice a len cap]) L
      (fun pre W => See3 w8 b1 b2 b3 false pre.length W) (fun pre W => (0 < pre.length ∧ (pre.length : Int) = st) ∧ See3 w8 b1 b2 b3 true pre.length W)
      (fun pre W W' h hg => h.grow hg)
      (fun pre x W hj _ hp => by
        refine (see_any w8 W b1 b2 b3 bl bd bs w.heap.size n k1 k2 ⟨gl, 0, none⟩ ⟨ga, 0, none⟩ st ⟨k, f, t, s, c⟩ _ L pre x hL8 Hn.out (by omega) (by omega) (by omega) (by omega) (by omega) (by omega) (by omega)
          cl8 ⟨by omega, by omega, by omega⟩ cd8 ⟨by omega, by omega, by omega⟩ cs8 ⟨by omega, by omega, by omega⟩ ⟨by simp only; omega, by simp only; omega, by simp only; omega⟩ ⟨by simp only; omega, by simp only; omega, by simp only; omega⟩
          (fun i y j u hy hj hu => ?_) (fun i y u hy hu => ?_) (fun i y hy => ?_) hj hp).mono ?_
        · obtain ⟨g, e, hc⟩ := row_cell hT8.l ((flatC_get h5 hy j hj).trans hu)
          cases e
          rw [add0]
          exact hc
        · obtain ⟨g, e, hc⟩ := row_cell hT8.l ((flatC_get h5 hy 0 (by omega)).trans hu)
          cases e
          rw [add0]
          exact hc
        · obtain ⟨g, e, hc⟩ := row_cell hT8.a (j := i) (u := .int .i64 y.1) (by simp [flatD, hy])
          cases e
          rw [add0]
          exact hc
        · rintro e W' ⟨over, ho, rfl, hs, hf⟩
          have hl : (pre ++ [x]).length = pre.length + 1 := by simp
          rw [hl]
          cases over with
          | false => exact .inl ⟨rfl, hs, hf.keep⟩
          | true => exact .inr ⟨rfl, ⟨by omega, by have := eq_of_beq ho.symm; omega⟩, hs⟩)
      w8 ⟨by omega, by omega, by omega⟩ hbt8 hL8 (by have := Hcnt.out; simp only; omega) ⟨hok8, hov8, hct8, Fr3.refl _ _ _ _⟩)
    have hE' := Lib.hid hE
    have Hfin := Lib.hid (show w.heap.size ≤ w8.heap.size ∧ w.heap.size ≤ b1 ∧ w.heap.size ≤ b2 ∧ w.heap.size ≤ b3 ∧ w1.heap.size ≤ b1 ∧ w1.heap.size ≤ b2 ∧ w1.heap.size ≤ b3 ∧ w1.heap.size ≤ w8.heap.size from ⟨by omega, by omega, by omega, by omega, by omega, by omega, by omega, by omega⟩)
    have Hcl := Lib.hid (And.intro cl8 (show bl ≠ b1 ∧ bl ≠ b2 ∧ bl ≠ b3 from ⟨by omega, by omega, by omega⟩))
    clear hg8 hs8 hbt8 hct8 hok8 hov8 hT8 hE hL8 z1 z2 z3 y1 y2 y3 y4 y5 hs23 x1 x2 x3 cl8 cd8 cs8 h5 qF
    go_wp2_with (go_at_call 34; refine HP.out.mono ?_; rintro e w9 ⟨⟨ev, rfl⟩, h9⟩; refine hold ?_)
    obtain ⟨ov, q, h3, hq, hqn⟩ : ∃ (ov : Bool) (q : Nat), See3 w8 b1 b2 b3 ov q w9 ∧ (q = n ∨ (0 < q ∧ (q : Int) = st)) ∧ q ≤ n := by
      rcases h9 with ⟨ys, rfl, h⟩ | ⟨pre, hp, ⟨h1, h2⟩, h⟩
      · rw [Hn.out] at h
        exact ⟨_, n, h, .inl rfl, Nat.le_refl _⟩
      · exact ⟨_, _, h, .inr ⟨h1, h2⟩, by rw [← Hn.out]; exact hp.length_le⟩
    obtain ⟨f1, f2, f3, f4, f5, f6, f7, f8⟩ := Hfin.out
    have hF9 : Below w1.heap.size w1 w9 := hE'.out.trans (h3.fr.low f8 f5 f6 f7)
    have HW := Lib.hid (HB.out.trans (Below.mono hF9 HB.out.size))
    have hF9' := Lib.hid hF9
    have cl9 : w9.cell? ⟨bl, 0, none⟩ = some (.slice (some ⟨gl, 0, none⟩) n k1) := h3.fr.cell Hcl.out.2.1 Hcl.out.2.2.1 Hcl.out.2.2.2 Hcl.out.1
    have hst3 : (fun w' => w'.cell? ⟨b1, 0, none⟩ = some (.bool true) ∧ w'.cell? ⟨b3, 0, none⟩ = some (.int .i64 q) ∧ w'.cell? ⟨bl, 0, none⟩ = some (.slice (some ⟨gl, 0, none⟩) n k1) ∧ w'.cell? ⟨bn, 0, none⟩ = some (.int .i64 k) ∧ w'.cell? ⟨bn, 1, none⟩ = some (.int .i64 f) ∧ w'.cell? ⟨bn, 2, none⟩ = some (.int .i64 t) ∧ w'.cell? ⟨bn, 3, none⟩ = some (.string s) ∧ w'.cell? ⟨bn, 4, none⟩ = some (.slice a len cap) ∧ w'.cell? ⟨bs, 0, none⟩ = some (.int .i64 st)) w9 := by
      obtain ⟨c0, c1', c2', c3, c4, c5⟩ := HC.out w9 hF9
      exact ⟨(cell_of_box h3.ok).1, (cell_of_box h3.ct).1, cl9, c0, c1', c2', c3, c4, c5⟩
    have HCC : Hid (∀ wx, Below w9.heap.size w9 wx → (fun w' => w'.cell? ⟨b1, 0, none⟩ = some (.bool true) ∧ w'.cell? ⟨b3, 0, none⟩ = some (.int .i64 q) ∧ w'.cell? ⟨bl, 0, none⟩ = some (.slice (some ⟨gl, 0, none⟩) n k1) ∧ w'.cell? ⟨bn, 0, none⟩ = some (.int .i64 k) ∧ w'.cell? ⟨bn, 1, none⟩ = some (.int .i64 f) ∧ w'.cell? ⟨bn, 2, none⟩ = some (.int .i64 t) ∧ w'.cell? ⟨bn, 3, none⟩ = some (.string s) ∧ w'.cell? ⟨bn, 4, none⟩ = some (.slice a len cap) ∧ w'.cell? ⟨bs, 0, none⟩ = some (.int .i64 st)) wx) := Lib.hid fun wx hx => by
      obtain ⟨g1, g2, g3, g4, g5, g6, g7, g8, g9⟩ := hst3
      exact ⟨cell_below hx rfl g1, cell_below hx rfl g2, cell_below hx rfl g3, cell_below hx rfl g4, cell_below hx rfl g5, cell_below hx rfl g6, cell_below hx rfl g7, cell_below hx rfl g8, cell_below hx rfl g9⟩
    have hG := Lib.hid (Below.refl w9.heap.size w9).drew
    have HS := HCC.out w9.drew hG.out
    obtain ⟨hh, Hhh⟩ : ∃ hh, Hid (heightF c + 1 = hh) := ⟨_, Lib.hid rfl⟩
    have K1 : Hid (∀ wx, Below w9.heap.size w9 wx → Calls Try.prog 14 #[.agg #[.int .i64 k, .int .i64 f, .int .i64 t, .string s, .slice a len cap]] wx fun e w' => e = .returned (.int .i64 n) ∧ Below wx.heap.size wx w') := Lib.hid fun wx hx => by
      have := tsize_any ⟨k, f, t, s, c⟩ _ wx (HN.out wx (hF9'.out.trans (Below.mono hx hF9'.out.size))).1 (by have := Hcnt.out; simp only; omega)
      rw [show (⟨k, f, t, s, c⟩ : Nd).c.cnt + 1 = n from Hlen.out.symm] at this
      exact this
    have K2 : Hid (∀ wx, Below w9.heap.size w9 wx → Calls Try.prog 15 #[.agg #[.int .i64 k, .int .i64 f, .int .i64 t, .string s, .slice a len cap]] wx fun e w' => e = .returned (.int .i64 hh) ∧ Below wx.heap.size wx w') := Lib.hid fun wx hx => by
      have := tdepth_any ⟨k, f, t, s, c⟩ _ wx (HN.out wx (hF9'.out.trans (Below.mono hx hF9'.out.size))).1 (by have := Hcnt.out; simp only; omega)
      rw [depL_flat _ (by have := Hcnt.out; simp only; omega), Hhh.out] at this
      exact this
    have K3 : Hid (∀ wx, Below w9.heap.size w9 wx → Calls Try.prog 16 #[.agg #[.int .i64 k, .int .i64 f, .int .i64 t, .string s, .slice a len cap]] wx fun e w' => e = .returned (.int .i64 hh) ∧ Below wx.heap.size wx w') := Lib.hid fun wx hx => by
      have := rdepth_any (c.cnt + 1) ⟨k, f, t, s, c⟩ _ wx (Nat.lt_succ_self _) (by have := Hcnt.out; simp only; omega) (HN.out wx (hF9'.out.trans (Below.mono hx hF9'.out.size))).1
      rw [Hhh.out] at this
      exact this
    clear h9 f1 f2 f3 f4 f5 f6 f7 f8 hF9 cl9 hst3 h3
    have Hq := Lib.hid hq
    clear hq
    refine Hold.mk ?_
    go_upto_region 11 with fail
    cases dq : ((q : Int) == (n : Int)) with
    | true =>
      refine wp_region_pi (fun w' => w'.cell? ⟨b1, 0, none⟩ = some (.bool true) ∧ w'.cell? ⟨b3, 0, none⟩ = some (.int .i64 q) ∧ w'.cell? ⟨bl, 0, none⟩ = some (.slice (some ⟨gl, 0, none⟩) n k1) ∧ w'.cell? ⟨bn, 0, none⟩ = some (.int .i64 k) ∧ w'.cell? ⟨bn, 1, none⟩ = some (.int .i64 f) ∧ w'.cell? ⟨bn, 2, none⟩ = some (.int .i64 t) ∧ w'.cell? ⟨bn, 3, none⟩ = some (.string s) ∧ w'.cell? ⟨bn, 4, none⟩ = some (.slice a len cap) ∧ w'.cell? ⟨bs, 0, none⟩ = some (.int .i64 st)) [(0, 0), (1, 1), (2, 0), (3, 0), (4, 1), (5, 1), (6, 1), (7, 0), (8, 1), (9, 1), (10, 0), (11, 0), (12, 1), (13, 1), (14, 1), (15, 1), (16, 1), (17, 0), (19, 0), (20, 1), (18, 2), (21, 1), (22, 1), (23, 1), (24, 0), (26, 0), (25, 2), (27, 3), (28, 3), (29, 3), (30, 3), (31, 3), (32, 3), (33, 3)] [(27, [23, 22, 16, 15, 1, 0]), (27, [23, 22, 16, 9, 6, 5, 2]), (27, [23, 22, 16, 9, 6, 5, 4, 3]), (27, [23, 22, 16, 9, 8, 7]), (27, [23, 22, 16, 15, 14, 13, 12, 10]), (27, [23, 22, 16, 15, 14, 13, 12, 11]), (27, [23, 18, 17]), (27, [23, 22, 21, 20, 19]), (27, [25, 24]), (27, [26]), (28, [23, 22, 16, 15, 1, 0]), (28, [23, 22, 16, 9, 6, 5, 2]), (28, [23, 22, 16, 9, 6, 5, 4, 3]), (28, [23, 22, 16, 9, 8, 7]), (28, [23, 22, 16, 15, 14, 13, 12, 10]), (28, [23, 22, 16, 15, 14, 13, 12, 11]), (28, [23, 18, 17]), (28, [23, 22, 21, 20, 19]), (28, [25, 24]), (28, [27, 26]), (29, [23, 22, 16, 15, 1, 0]), (29, [23, 22, 16, 9, 6, 5, 2]), (29, [23, 22, 16, 9, 6, 5, 4, 3]), (29, [23, 22, 16, 9, 8, 7]), (29, [23, 22, 16, 15, 14, 13, 12, 10]), (29, [23, 22, 16, 15, 14, 13, 12, 11]), (29, [23, 18, 17]), (29, [23, 22, 21, 20, 19]), (29, [28, 25, 24]), (29, [28, 27, 26]), (30, [29, 23, 22, 16, 15, 1, 0]), (30, [29, 23, 22, 16, 9, 6, 5, 2]), (30, [29, 23, 22, 16, 9, 6, 5, 4, 3]), (30, [29, 23, 22, 16, 9, 8, 7]), (30, [29, 23, 22, 16, 15, 14, 13, 12, 10]), (30, [29, 23, 22, 16, 15, 14, 13, 12, 11]), (30, [29, 23, 18, 17]), (30, [29, 23, 22, 21, 20, 19]), (30, [27, 25, 24]), (30, [27, 26]), (31, [30, 29, 23, 22, 16, 15, 1, 0]), (31, [30, 29, 23, 22, 16, 9, 6, 5, 2]), (31, [30, 29, 23, 22, 16, 9, 6, 5, 4, 3]), (31, [30, 29, 23, 22, 16, 9, 8, 7]), (31, [30, 29, 23, 22, 16, 15, 14, 13, 12, 10]), (31, [30, 29, 23, 22, 16, 15, 14, 13, 12, 11]), (31, [30, 29, 23, 18, 17]), (31, [30, 29, 23, 22, 21, 20, 19]), (31, [30, 27, 25, 24]), (31, [30, 27, 26]), (32, [30, 29, 23, 22, 16, 15, 1, 0]), (32, [30, 29, 23, 22, 16, 9, 6, 5, 2]), (32, [30, 29, 23, 22, 16, 9, 6, 5, 4, 3]), (32, [30, 29, 23, 22, 16, 9, 8, 7]), (32, [30, 29, 23, 22, 16, 15, 14, 13, 12, 10]), (32, [30, 29, 23, 22, 16, 15, 14, 13, 12, 11]), (32, [30, 29, 23, 18, 17]), (32, [30, 29, 23, 22, 21, 20, 19]), (32, [30, 27, 25, 24]), (32, [30, 27, 26]), (33, [0]), (33, [2]), (33, [3]), (33, [7]), (33, [10]), (33, [11]), (33, [17]), (33, [19]), (33, [24]), (33, [26])] (by kernel_rfl) (by kernel_rfl) (fun _ _ _ _ _ h => h) (HS) ?_
      refine pd_ld (some 27) rfl rfl (by rfl) (fun ws HS => by go_split_ands; go_simp; try with_reducible rfl) ?_; go_frame   -- 0 Op.load 4 (Operand.tmp 9)
      refine pd_pu (some 28) rfl rfl (by rfl) (fun ws => by go_simp; try with_reducible rfl) ?_; go_frame   -- 1 Op.move (Operand.tmp 27)
      refine pd_ld (some 29) rfl rfl (by rfl) (fun ws HS => by go_split_ands; go_simp; try with_reducible rfl) ?_; go_frame   -- 2 Op.load 3 (Operand.tmp 8)
      refine pd_ld (some 30) rfl rfl (by rfl) (fun ws HS => by go_split_ands; go_simp; try with_reducible rfl) ?_; go_frame   -- 3 Op.load 22 (Operand.tmp 5)
      refine pd_pu (some 31) rfl rfl (by rfl) (fun ws => by go_simp; try with_reducible rfl) ?_; go_frame   -- 4 Op.call { callee := Callee.builtin Builtin.len, args := #[Operand.tmp 30], argTypes := #[22] }
      refine pd_pu (some 32) rfl rfl (by rfl) (fun ws => by go_simp; try with_reducible rfl) ?_; go_frame   -- 5 Op.binOp BinOp.eql 3 (Operand.tmp 29) (Operand.tmp 31) 3
      try simp only [dq]
      refine pd_pu (some 33) rfl rfl (by rfl) (fun ws => by go_simp; try with_reducible rfl) ?_; go_frame   -- 6 Op.move (Operand.tmp 32)
      refine pd_ld_skip (some 34) rfl rfl (by rfl) ?_; go_frame   -- 7 Op.load 3 (Operand.tmp 3)
      refine pd_pu_skip (some 35) rfl rfl (by rfl) ?_; go_frame   -- 8 Op.binOp BinOp.gtr 3 (Operand.tmp 34) (Operand.const (Value.int IntKind.i64 0)) 3
      refine pd_pu_skip (some 36) rfl rfl (by rfl) ?_; go_frame   -- 9 Op.move (Operand.tmp 35)
      refine pd_ld_skip (some 37) rfl rfl (by rfl) ?_; go_frame   -- 10 Op.load 3 (Operand.tmp 8)
      refine pd_ld_skip (some 38) rfl rfl (by rfl) ?_; go_frame   -- 11 Op.load 3 (Operand.tmp 3)
      refine pd_pu_skip (some 39) rfl rfl (by rfl) ?_; go_frame   -- 12 Op.binOp BinOp.eql 3 (Operand.tmp 37) (Operand.tmp 38) 3
      refine pd_pu_skip (some 40) rfl rfl (by rfl) ?_; go_frame   -- 13 Op.pick (Operand.tmp 36) (Operand.tmp 39) (Operand.const (Value.bool false))
      refine pd_pu (some 41) rfl rfl (by rfl) (fun ws => by go_simp; try with_reducible rfl) ?_; go_frame   -- 14 Op.pick (Operand.tmp 33) (Operand.const (Value.bool true)) (Operand.tmp 40)
      refine pd_pu (some 42) rfl rfl (by rfl) (fun ws => by go_simp; try with_reducible rfl) ?_; go_frame   -- 15 Op.pick (Operand.tmp 28) (Operand.tmp 41) (Operand.const (Value.bool false))
      refine pd_pu (some 43) rfl rfl (by rfl) (fun ws => by go_simp; try with_reducible rfl) ?_; go_frame   -- 16 Op.move (Operand.tmp 42)
      refine pd_ld (some 44) rfl rfl (by rfl) (fun ws HS => by go_split_ands; go_simp; try with_reducible rfl) ?_; go_frame   -- 17 Op.load 24 (Operand.tmp 2)
      refine pd_ld (some 46) rfl rfl (by rfl) (fun ws HS => by go_split_ands; go_simp; try with_reducible rfl) ?_; go_frame   -- 19 Op.load 22 (Operand.tmp 5)
      refine pd_pu (some 47) rfl rfl (by rfl) (fun ws => by go_simp; try with_reducible rfl) ?_; go_frame   -- 20 Op.call { callee := Callee.builtin Builtin.len, args := #[Operand.tmp 46], argTypes := #[22] }
      refine pi_ke rfl (fun J hJ => ?_)   -- 18 Op.call { callee := Callee.value (Operand.func 14), args := #[Operand.tmp 44], argTypes := #[24] }
      go_wp2_with (go_at_call 14; refine (K1.out w9.drew hG.out).mono ?_; rintro e w10 ⟨rfl, hb⟩; have hH := Lib.hid (hG.out.trans (Below.mono hb hG.out.size)); clear hb)
      refine hJ _ _ (HCC.out w10 hH.out) ?_
      refine pd_pu (some 48) rfl rfl (by rfl) (fun ws => by go_simp; try with_reducible rfl) ?_; go_frame   -- 21 Op.binOp BinOp.eql 3 (Operand.tmp 45) (Operand.tmp 47) 3
      try simp only [beq_self_eq_true]
      refine pd_pu (some 49) rfl rfl (by rfl) (fun ws => by go_simp; try with_reducible rfl) ?_; go_frame   -- 22 Op.pick (Operand.tmp 43) (Operand.tmp 48) (Operand.const (Value.bool false))
      refine pd_pu (some 50) rfl rfl (by rfl) (fun ws => by go_simp; try with_reducible rfl) ?_; go_frame   -- 23 Op.move (Operand.tmp 49)
      refine pd_ld (some 51) rfl rfl (by rfl) (fun ws HS => by go_split_ands; go_simp; try with_reducible rfl) ?_; go_frame   -- 24 Op.load 24 (Operand.tmp 2)
      refine pd_ld (some 53) rfl rfl (by rfl) (fun ws HS => by go_split_ands; go_simp; try with_reducible rfl) ?_; go_frame   -- 26 Op.load 24 (Operand.tmp 2)
      refine pi_ke rfl (fun J hJ => ?_)   -- 25 Op.call { callee := Callee.value (Operand.func 15), args := #[Operand.tmp 51], argTypes := #[24] }
      go_wp2_with (go_at_call 15; refine (K2.out w10 hH.out).mono ?_; rintro e w11 ⟨rfl, hb⟩; have hI := Lib.hid (hH.out.trans (Below.mono hb hH.out.size)); clear hb)
      refine hJ _ _ (HCC.out w11 hI.out) ?_
      refine pi_tail (by rfl) ?_; simp only [opsAt, List.getElem?_toArray, List.getElem?_cons_zero, List.getElem?_cons_succ]   -- [(27, 'Op.call { callee := Callee.value (Operand.func 16), args := #[Operand.tmp 53], argTypes := #[24] }'), (28, 'Op.binOp BinOp.eql 3 (Operand.tmp 52) (Operand.tmp 54) 3'), (29, 'Op.pick (Operand.tmp 50) (Operand.tmp 55) (Operand.const (Value.bool false))'), (30, 'Op.move (Operand.tmp 56)'), (31, 'Op.call { callee := Callee.value (Operand.func 9), args := #[], argTypes := #[] }'), (32, 'Op.pick (Operand.tmp 57) (Operand.tmp 58) (Operand.const (Value.bool false))'), (33, 'Op.assign (Operand.tmp 59)')]
      go_wp2_with first
        | (go_at_call 16; refine (K3.out w11 hI.out).mono ?_; rintro e w12 ⟨rfl, hb⟩; have hJ2 := Lib.hid (hI.out.trans (Below.mono hb hI.out.size)); clear hb)
        | (go_at_call 9; refine (awake_any w12).mono ?_; rintro e w13 ⟨rfl, hb⟩; have hK := Lib.hid (hJ2.out.trans (Below.mono hb hJ2.out.size)); clear hb)
      go_ret
      exact ⟨rfl, HW.out.trans (Below.mono hK.out HW.out.size)⟩
    | false =>
      have dst : decide (0 < st) = true := by
        rcases Hq.out with h | h
        · subst h; simp at dq
        · exact decide_eq_true (by omega)
      have dqs : ((q : Int) == st) = true := by
        rcases Hq.out with h | h
        · subst h; simp at dq
        · exact beq_iff_eq.2 h.2
      refine wp_region_pi (fun w' => w'.cell? ⟨b1, 0, none⟩ = some (.bool true) ∧ w'.cell? ⟨b3, 0, none⟩ = some (.int .i64 q) ∧ w'.cell? ⟨bl, 0, none⟩ = some (.slice (some ⟨gl, 0, none⟩) n k1) ∧ w'.cell? ⟨bn, 0, none⟩ = some (.int .i64 k) ∧ w'.cell? ⟨bn, 1, none⟩ = some (.int .i64 f) ∧ w'.cell? ⟨bn, 2, none⟩ = some (.int .i64 t) ∧ w'.cell? ⟨bn, 3, none⟩ = some (.string s) ∧ w'.cell? ⟨bn, 4, none⟩ = some (.slice a len cap) ∧ w'.cell? ⟨bs, 0, none⟩ = some (.int .i64 st)) [(0, 0), (1, 1), (2, 0), (3, 0), (4, 1), (5, 1), (6, 1), (7, 0), (8, 1), (9, 1), (10, 0), (11, 0), (12, 1), (13, 1), (14, 1), (15, 1), (16, 1), (17, 0), (19, 0), (20, 1), (18, 2), (21, 1), (22, 1), (23, 1), (24, 0), (26, 0), (25, 2), (27, 3), (28, 3), (29, 3), (30, 3), (31, 3), (32, 3), (33, 3)] [(27, [23, 22, 16, 15, 1, 0]), (27, [23, 22, 16, 9, 6, 5, 2]), (27, [23, 22, 16, 9, 6, 5, 4, 3]), (27, [23, 22, 16, 9, 8, 7]), (27, [23, 22, 16, 15, 14, 13, 12, 10]), (27, [23, 22, 16, 15, 14, 13, 12, 11]), (27, [23, 18, 17]), (27, [23, 22, 21, 20, 19]), (27, [25, 24]), (27, [26]), (28, [23, 22, 16, 15, 1, 0]), (28, [23, 22, 16, 9, 6, 5, 2]), (28, [23, 22, 16, 9, 6, 5, 4, 3]), (28, [23, 22, 16, 9, 8, 7]), (28, [23, 22, 16, 15, 14, 13, 12, 10]), (28, [23, 22, 16, 15, 14, 13, 12, 11]), (28, [23, 18, 17]), (28, [23, 22, 21, 20, 19]), (28, [25, 24]), (28, [27, 26]), (29, [23, 22, 16, 15, 1, 0]), (29, [23, 22, 16, 9, 6, 5, 2]), (29, [23, 22, 16, 9, 6, 5, 4, 3]), (29, [23, 22, 16, 9, 8, 7]), (29, [23, 22, 16, 15, 14, 13, 12, 10]), (29, [23, 22, 16, 15, 14, 13, 12, 11]), (29, [23, 18, 17]), (29, [23, 22, 21, 20, 19]), (29, [28, 25, 24]), (29, [28, 27, 26]), (30, [29, 23, 22, 16, 15, 1, 0]), (30, [29, 23, 22, 16, 9, 6, 5, 2]), (30, [29, 23, 22, 16, 9, 6, 5, 4, 3]), (30, [29, 23, 22, 16, 9, 8, 7]), (30, [29, 23, 22, 16, 15, 14, 13, 12, 10]), (30, [29, 23, 22, 16, 15, 14, 13, 12, 11]), (30, [29, 23, 18, 17]), (30, [29, 23, 22, 21, 20, 19]), (30, [27, 25, 24]), (30, [27, 26]), (31, [30, 29, 23, 22, 16, 15, 1, 0]), (31, [30, 29, 23, 22, 16, 9, 6, 5, 2]), (31, [30, 29, 23, 22, 16, 9, 6, 5, 4, 3]), (31, [30, 29, 23, 22, 16, 9, 8, 7]), (31, [30, 29, 23, 22, 16, 15, 14, 13, 12, 10]), (31, [30, 29, 23, 22, 16, 15, 14, 13, 12, 11]), (31, [30, 29, 23, 18, 17]), (31, [30, 29, 23, 22, 21, 20, 19]), (31, [30, 27, 25, 24]), (31, [30, 27, 26]), (32, [30, 29, 23, 22, 16, 15, 1, 0]), (32, [30, 29, 23, 22, 16, 9, 6, 5, 2]), (32, [30, 29, 23, 22, 16, 9, 6, 5, 4, 3]), (32, [30, 29, 23, 22, 16, 9, 8, 7]), (32, [30, 29, 23, 22, 16, 15, 14, 13, 12, 10]), (32, [30, 29, 23, 22, 16, 15, 14, 13, 12, 11]), (32, [30, 29, 23, 18, 17]), (32, [30, 29, 23, 22, 21, 20, 19]), (32, [30, 27, 25, 24]), (32, [30, 27, 26]), (33, [0]), (33, [2]), (33, [3]), (33, [7]), (33, [10]), (33, [11]), (33, [17]), (33, [19]), (33, [24]), (33, [26])] (by kernel_rfl) (by kernel_rfl) (fun _ _ _ _ _ h => h) (HS) ?_
      refine pd_ld (some 27) rfl rfl (by rfl) (fun ws HS => by go_split_ands; go_simp; try with_reducible rfl) ?_; go_frame   -- 0 Op.load 4 (Operand.tmp 9)
      refine pd_pu (some 28) rfl rfl (by rfl) (fun ws => by go_simp; try with_reducible rfl) ?_; go_frame   -- 1 Op.move (Operand.tmp 27)
      refine pd_ld (some 29) rfl rfl (by rfl) (fun ws HS => by go_split_ands; go_simp; try with_reducible rfl) ?_; go_frame   -- 2 Op.load 3 (Operand.tmp 8)
      refine pd_ld (some 30) rfl rfl (by rfl) (fun ws HS => by go_split_ands; go_simp; try with_reducible rfl) ?_; go_frame   -- 3 Op.load 22 (Operand.tmp 5)
      refine pd_pu (some 31) rfl rfl (by rfl) (fun ws => by go_simp; try with_reducible rfl) ?_; go_frame   -- 4 Op.call { callee := Callee.builtin Builtin.len, args := #[Operand.tmp 30], argTypes := #[22] }
      refine pd_pu (some 32) rfl rfl (by rfl) (fun ws => by go_simp; try with_reducible rfl) ?_; go_frame   -- 5 Op.binOp BinOp.eql 3 (Operand.tmp 29) (Operand.tmp 31) 3
      try simp only [dq]
      refine pd_pu (some 33) rfl rfl (by rfl) (fun ws => by go_simp; try with_reducible rfl) ?_; go_frame   -- 6 Op.move (Operand.tmp 32)
      refine pd_ld (some 34) rfl rfl (by rfl) (fun ws HS => by go_split_ands; go_simp; try with_reducible rfl) ?_; go_frame   -- 7 Op.load 3 (Operand.tmp 3)
      refine pd_pu (some 35) rfl rfl (by rfl) (fun ws => by go_simp; try with_reducible rfl) ?_; go_frame   -- 8 Op.binOp BinOp.gtr 3 (Operand.tmp 34) (Operand.const (Value.int IntKind.i64 0)) 3
      try simp only [dst]
      refine pd_pu (some 36) rfl rfl (by rfl) (fun ws => by go_simp; try with_reducible rfl) ?_; go_frame   -- 9 Op.move (Operand.tmp 35)
      refine pd_ld (some 37) rfl rfl (by rfl) (fun ws HS => by go_split_ands; go_simp; try with_reducible rfl) ?_; go_frame   -- 10 Op.load 3 (Operand.tmp 8)
      refine pd_ld (some 38) rfl rfl (by rfl) (fun ws HS => by go_split_ands; go_simp; try with_reducible rfl) ?_; go_frame   -- 11 Op.load 3 (Operand.tmp 3)
      refine pd_pu (some 39) rfl rfl (by rfl) (fun ws => by go_simp; try with_reducible rfl) ?_; go_frame   -- 12 Op.binOp BinOp.eql 3 (Operand.tmp 37) (Operand.tmp 38) 3
      try simp only [dqs]
      refine pd_pu (some 40) rfl rfl (by rfl) (fun ws => by go_simp; try with_reducible rfl) ?_; go_frame   -- 13 Op.pick (Operand.tmp 36) (Operand.tmp 39) (Operand.const (Value.bool false))
      refine pd_pu (some 41) rfl rfl (by rfl) (fun ws => by go_simp; try with_reducible rfl) ?_; go_frame   -- 14 Op.pick (Operand.tmp 33) (Operand.const (Value.bool true)) (Operand.tmp 40)
      refine pd_pu (some 42) rfl rfl (by rfl) (fun ws => by go_simp; try with_reducible rfl) ?_; go_frame   -- 15 Op.pick (Operand.tmp 28) (Operand.tmp 41) (Operand.const (Value.bool false))
      refine pd_pu (some 43) rfl rfl (by rfl) (fun ws => by go_simp; try with_reducible rfl) ?_; go_frame   -- 16 Op.move (Operand.tmp 42)
      refine pd_ld (some 44) rfl rfl (by rfl) (fun ws HS => by go_split_ands; go_simp; try with_reducible rfl) ?_; go_frame   -- 17 Op.load 24 (Operand.tmp 2)
      refine pd_ld (some 46) rfl rfl (by rfl) (fun ws HS => by go_split_ands; go_simp; try with_reducible rfl) ?_; go_frame   -- 19 Op.load 22 (Operand.tmp 5)
      refine pd_pu (some 47) rfl rfl (by rfl) (fun ws => by go_simp; try with_reducible rfl) ?_; go_frame   -- 20 Op.call { callee := Callee.builtin Builtin.len, args := #[Operand.tmp 46], argTypes := #[22] }
      refine pi_ke rfl (fun J hJ => ?_)   -- 18 Op.call { callee := Callee.value (Operand.func 14), args := #[Operand.tmp 44], argTypes := #[24] }
      go_wp2_with (go_at_call 14; refine (K1.out w9.drew hG.out).mono ?_; rintro e w10 ⟨rfl, hb⟩; have hH := Lib.hid (hG.out.trans (Below.mono hb hG.out.size)); clear hb)
      refine hJ _ _ (HCC.out w10 hH.out) ?_
      refine pd_pu (some 48) rfl rfl (by rfl) (fun ws => by go_simp; try with_reducible rfl) ?_; go_frame   -- 21 Op.binOp BinOp.eql 3 (Operand.tmp 45) (Operand.tmp 47) 3
      try simp only [beq_self_eq_true]
      refine pd_pu (some 49) rfl rfl (by rfl) (fun ws => by go_simp; try with_reducible rfl) ?_; go_frame   -- 22 Op.pick (Operand.tmp 43) (Operand.tmp 48) (Operand.const (Value.bool false))
      refine pd_pu (some 50) rfl rfl (by rfl) (fun ws => by go_simp; try with_reducible rfl) ?_; go_frame   -- 23 Op.move (Operand.tmp 49)
      refine pd_ld (some 51) rfl rfl (by rfl) (fun ws HS => by go_split_ands; go_simp; try with_reducible rfl) ?_; go_frame   -- 24 Op.load 24 (Operand.tmp 2)
      refine pd_ld (some 53) rfl rfl (by rfl) (fun ws HS => by go_split_ands; go_simp; try with_reducible rfl) ?_; go_frame   -- 26 Op.load 24 (Operand.tmp 2)
      refine pi_ke rfl (fun J hJ => ?_)   -- 25 Op.call { callee := Callee.value (Operand.func 15), args := #[Operand.tmp 51], argTypes := #[24] }
      go_wp2_with (go_at_call 15; refine (K2.out w10 hH.out).mono ?_; rintro e w11 ⟨rfl, hb⟩; have hI := Lib.hid (hH.out.trans (Below.mono hb hH.out.size)); clear hb)
      refine hJ _ _ (HCC.out w11 hI.out) ?_
      refine pi_tail (by rfl) ?_; simp only [opsAt, List.getElem?_toArray, List.getElem?_cons_zero, List.getElem?_cons_succ]   -- [(27, 'Op.call { callee := Callee.value (Operand.func 16), args := #[Operand.tmp 53], argTypes := #[24] }'), (28, 'Op.binOp BinOp.eql 3 (Operand.tmp 52) (Operand.tmp 54) 3'), (29, 'Op.pick (Operand.tmp 50) (Operand.tmp 55) (Operand.const (Value.bool false))'), (30, 'Op.move (Operand.tmp 56)'), (31, 'Op.call { callee := Callee.value (Operand.func 9), args := #[], argTypes := #[] }'), (32, 'Op.pick (Operand.tmp 57) (Operand.tmp 58) (Operand.const (Value.bool false))'), (33, 'Op.assign (Operand.tmp 59)')]
      go_wp2_with first
        | (go_at_call 16; refine (K3.out w11 hI.out).mono ?_; rintro e w12 ⟨rfl, hb⟩; have hJ2 := Lib.hid (hI.out.trans (Below.mono hb hI.out.size)); clear hb)
        | (go_at_call 9; refine (awake_any w12).mono ?_; rintro e w13 ⟨rfl, hb⟩; have hK := Lib.hid (hJ2.out.trans (Below.mono hb hJ2.out.size)); clear hb)
      go_ret
      exact ⟨rfl, HW.out.trans (Below.mono hK.out HW.out.size)⟩
end Go.Proofs.Ytmkjajapbkdpiaa
