/- The region of KonstLong: two texts and a box, made in any order. No condition. -/
import Derived.Test.YtahgbbnpbhfaeaaDoorKnTree
import Derived.Test.YtahgbbnpbhfaeaaDoorKnOps
namespace Go.Proofs.YtahgbbnpbhfaeaaDoor
open Go.RowKit

def tL3220 : PT := .pu 9 (.pu 10 (.pu 11 (.ef 12 (.ef 13 (.pu 14 .done)))))
def tL3221 : PT := .pu 9 (.pu 10 (.pu 11 (.ef 13 (.pu 14 .done))))
def tL3211 : PT := .ef 8 tL3221
def tL3210 : PT := .fk 8 tL3220 12 tL3211
def tL3201 : PT := .ef 7 tL3211
def tL3200 : PT := .fk 7 tL3210 12 tL3201
def tL3101 : PT := .ef 6 tL3201
def tL3100 : PT := .fk 6 tL3200 12 tL3101
def tL3001 : PT := .ef 5 tL3101
def tL3000 : PT := .fk 5 tL3100 12 tL3001
def tL2201 : PT := .ef 3 tL3201
def tL2200 : PT := .fk 3 tL3200 12 tL2201
def tL2101 : PT := .fk 3 tL3101 6 tL2201
def tL2100 : PT := .f3 3 tL3100 6 tL2200 12 tL2101
def tL2001 : PT := .fk 3 tL3001 5 tL2101
def tL2000 : PT := .f3 3 tL3000 5 tL2100 12 tL2001
def tL1201 : PT := .ef 2 tL2201
def tL1200 : PT := .fk 2 tL2200 12 tL1201
def tL1101 : PT := .fk 2 tL2101 6 tL1201
def tL1100 : PT := .f3 2 tL2100 6 tL1200 12 tL1101
def tL1001 : PT := .fk 2 tL2001 5 tL1101
def tL1000 : PT := .f3 2 tL2000 5 tL1100 12 tL1001
def tL0201 : PT := .ef 1 tL1201
def tL0200 : PT := .fk 1 tL1200 12 tL0201
def tL0101 : PT := .fk 1 tL1101 6 tL0201
def tL0100 : PT := .f3 1 tL1100 6 tL0200 12 tL0101
def tL0001 : PT := .fk 1 tL1001 5 tL0101
def tL0000 : PT := .f3 1 tL1000 5 tL0100 12 tL0001
theorem RowZ.go {W W' : World} {b n : Nat} (h : RowZ W b n) (hb : Below W.heap.size W W') : RowZ W' b n := (hb.block b (Array.getElem?_eq_some_iff.1 h).1).trans h
def BoxZ (W : World) (b : Nat) : Prop := W.heap[b]? = some (.cells #[.int .i64 0, .bool false, .slice none 0 0, .string ⟨#[]⟩, .bool false] 26 (0, 0))
theorem BoxZ.go {W W' : World} {b : Nat} (h : BoxZ W b) (hb : Below W.heap.size W W') : BoxZ W' b := (hb.block b (Array.getElem?_eq_some_iff.1 h).1).trans h
theorem Kon1.go {W W' : World} {e : Ending} {k x : Int} {s : ByteArray} {t : Bool} (h : Kon1 W e k x s t) (hb : Below W.heap.size W W') : Kon1 W' e k x s t := by
  obtain ⟨b, a, n, c, h1, h2⟩ := h
  exact ⟨b, a, n, c, h1, IntV.below h2 hb⟩
theorem Kon2.go {W W' : World} {e : Ending} {k x K : Int} {s : ByteArray} {t : Bool} (h : Kon2 W e k x s t K) (hb : Below W.heap.size W W') : Kon2 W' e k x s t K := by
  obtain ⟨b, a, n, c, h1, h2⟩ := h
  exact ⟨b, a, n, c, h1, IntV.below h2 hb⟩
def IsOp (ops : Array Oper) (i : Nat) (d : Option Nat) (op : Op) : Prop := ∃ o, ops[i]? = some o ∧ o.dst = d ∧ o.op = op ∧ o.guard = none
set_option maxHeartbeats 3200000 in
theorem long_tree {ops : Array Oper} {Q : Exit → Act → World → Prop} {A0 : Act} {w : World} {n m : Nat} {kk KK : Int} {ss : ByteArray} (hn : n ≤ 70000) (hm : m ≤ 70000)
    (h1 : IsOp ops 1 (some 24) (.makeSlice 48 (.tmp 23) (.tmp 23)))
    (h2 : IsOp ops 2 (some 25) (.convert 48 9 (.tmp 24)))
    (h3 : IsOp ops 3 (some 26) (.call { callee := .value (.func 19), args := #[.tmp 25], argTypes := #[9] }))
    (h5 : IsOp ops 5 (some 28) (.makeSlice 48 (.tmp 27) (.tmp 27)))
    (h6 : IsOp ops 6 (some 29) (.convert 48 9 (.tmp 28)))
    (h7 : IsOp ops 7 (some 30) (.call { callee := .value (.func 19), args := #[.tmp 29], argTypes := #[9] }))
    (h8 : IsOp ops 8 (some 31) (.call { callee := .value (.func 23), args := #[.const (.string ⟨#[43]⟩), .tmp 26, .tmp 30], argTypes := #[9, 26, 26] }))
    (h12 : IsOp ops 12 (some 5) (.alloc 26))
    (hf1 : ∀ args w, (callFunc 19 args).run Tryd.prog w = .ok (.enter 19 args) w) (hf2 : ∀ args w, (callFunc 23 args).run Tryd.prog w = .ok (.enter 23 args) w)
    (hs : A0.tmps.size = 62) (e23 : A0.eval (.tmp 23) = .int .i64 (n : Int)) (e27 : A0.eval (.tmp 27) = .int .i64 (m : Int))
    (hBin : ∀ W v26 v30, Kon1 W (.returned v26) 2 0 (strZ n) false → Kon1 W (.returned v30) 2 0 (strZ m) false → Calls Tryd.prog 23 #[.string ⟨#[43]⟩, v26, v30] W (fun e w' => ∃ v, e = .returned v ∧ Kon2 w' (.returned v) kk 0 ss false KK ∧ Below W.heap.size W w'))
    (HKa : ∀ (b1 : Nat) (v26 : Value) (b2 : Nat) (v30 : Value) (v31 : Value) (bx : Nat) (W : World), Below w.heap.size w W → Kon2 W (.returned v31) kk 0 ss false KK → BoxZ W bx → w.heap.size ≤ bx → wpT Tryd.prog ops Q tL3221 ((((((((A0.put (some 24) (.slice (some ⟨b1, 0, none⟩) n n)).put (some 25) (.string (strZ n))).put (some 26) v26).put (some 28) (.slice (some ⟨b2, 0, none⟩) m m)).put (some 29) (.string (strZ m))).put (some 30) v30).put (some 31) v31).put (some 5) (.pointer (some ⟨bx, 0, none⟩))) W)
    (HKb : ∀ (b1 : Nat) (v26 : Value) (b2 : Nat) (v30 : Value) (v31 : Value) (W : World), Below w.heap.size w W → Kon2 W (.returned v31) kk 0 ss false KK → wpT Tryd.prog ops Q tL3220 (((((((A0.put (some 24) (.slice (some ⟨b1, 0, none⟩) n n)).put (some 25) (.string (strZ n))).put (some 26) v26).put (some 28) (.slice (some ⟨b2, 0, none⟩) m m)).put (some 29) (.string (strZ m))).put (some 30) v30).put (some 31) v31) W) : wpT Tryd.prog ops Q tL0000 A0 w := by
  obtain ⟨o1, a1, d1, p1, g1⟩ := h1
  obtain ⟨o2, a2, d2, p2, g2⟩ := h2
  obtain ⟨o3, a3, d3, p3, g3⟩ := h3
  obtain ⟨o5, a5, d5, p5, g5⟩ := h5
  obtain ⟨o6, a6, d6, p6, g6⟩ := h6
  obtain ⟨o7, a7, d7, p7, g7⟩ := h7
  obtain ⟨o8, a8, d8, p8, g8⟩ := h8
  obtain ⟨o12, a12, d12, p12, g12⟩ := h12
  have H3221 := HKa
  have H3220 := HKb
  have H3211 : ∀ (b1 : Nat) (v26 : Value) (b2 : Nat) (v30 : Value) (bx : Nat) (W : World), Below w.heap.size w W → Kon1 W (.returned v26) 2 0 (strZ n) false → Kon1 W (.returned v30) 2 0 (strZ m) false → BoxZ W bx → w.heap.size ≤ bx → wpT Tryd.prog ops Q tL3211 (((((((A0.put (some 24) (.slice (some ⟨b1, 0, none⟩) n n)).put (some 25) (.string (strZ n))).put (some 26) v26).put (some 28) (.slice (some ⟨b2, 0, none⟩) m m)).put (some 29) (.string (strZ m))).put (some 30) v30).put (some 5) (.pointer (some ⟨bx, 0, none⟩))) W := by
    intro b1 v26 b2 v30 bx W hb k1 k2 hx hle
    unfold tL3211
    refine op_call a8 g8 _ hf2 _ _ p8 (vs := #[.string ⟨#[43]⟩, v26, v30]) (by simp only [List.map_toArray, List.map_cons, List.map_nil, ev_const]; rw [ev_ne _ (show 5 ≠ 26 by decide), ev_ne _ (show 30 ≠ 26 by decide), ev_ne _ (show 29 ≠ 26 by decide), ev_ne _ (show 28 ≠ 26 by decide), ev_same _ (by rw [put_size, put_size, hs]; decide), ev_ne _ (show 5 ≠ 30 by decide), ev_same _ (by rw [put_size, put_size, put_size, put_size, put_size, hs]; decide)]) ((hBin W v26 v30 k1 k2).mono ?_)
    rintro e w' ⟨v, rfl, hk, hbw⟩
    refine ⟨_, rfl, ?_⟩
    rw [d8, put_comm _ (show 5 ≠ 31 by decide)]
    exact H3221 _ _ _ _ _ _ _ (hb.trans (Below.mono hbw hb.size)) hk (hx.go hbw) hle
  have H3210 : ∀ (b1 : Nat) (v26 : Value) (b2 : Nat) (v30 : Value) (W : World), Below w.heap.size w W → Kon1 W (.returned v26) 2 0 (strZ n) false → Kon1 W (.returned v30) 2 0 (strZ m) false → wpT Tryd.prog ops Q tL3210 ((((((A0.put (some 24) (.slice (some ⟨b1, 0, none⟩) n n)).put (some 25) (.string (strZ n))).put (some 26) v26).put (some 28) (.slice (some ⟨b2, 0, none⟩) m m)).put (some 29) (.string (strZ m))).put (some 30) v30) W := by
    intro b1 v26 b2 v30 W hb k1 k2
    unfold tL3210
    refine ⟨?_, ?_⟩
    · refine op_call a8 g8 _ hf2 _ _ p8 (vs := #[.string ⟨#[43]⟩, v26, v30]) (by simp only [List.map_toArray, List.map_cons, List.map_nil, ev_const]; rw [ev_ne _ (show 30 ≠ 26 by decide), ev_ne _ (show 29 ≠ 26 by decide), ev_ne _ (show 28 ≠ 26 by decide), ev_same _ (by rw [put_size, put_size, hs]; decide), ev_same _ (by rw [put_size, put_size, put_size, put_size, put_size, hs]; decide)]) ((hBin W v26 v30 k1 k2).mono ?_)
      rintro e w' ⟨v, rfl, hk, hbw⟩
      refine ⟨_, rfl, ?_⟩
      rw [d8]
      exact H3220 _ _ _ _ _ _ (hb.trans (Below.mono hbw hb.size)) hk
    · refine op_alloc a12 g12 p12 ?_
      have hbw := (Below.refl W.heap.size W).alloc (Nat.le_refl _) (.cells #[.int .i64 0, .bool false, .slice none 0 0, .string ⟨#[]⟩, .bool false] 26)
      rw [d12]
      exact H3211 _ _ _ _ _ _ (hb.trans (Below.mono hbw hb.size)) (k1.go hbw) (k2.go hbw) (heap_alloc_new W _) hb.size
  have H3201 : ∀ (b1 : Nat) (v26 : Value) (b2 : Nat) (bx : Nat) (W : World), Below w.heap.size w W → Kon1 W (.returned v26) 2 0 (strZ n) false → BoxZ W bx → w.heap.size ≤ bx → wpT Tryd.prog ops Q tL3201 ((((((A0.put (some 24) (.slice (some ⟨b1, 0, none⟩) n n)).put (some 25) (.string (strZ n))).put (some 26) v26).put (some 28) (.slice (some ⟨b2, 0, none⟩) m m)).put (some 29) (.string (strZ m))).put (some 5) (.pointer (some ⟨bx, 0, none⟩))) W := by
    intro b1 v26 b2 bx W hb k1 hx hle
    unfold tL3201
    refine op_call a7 g7 _ hf1 _ _ p7 (vs := #[.string (strZ m)]) (by simp only [List.map_toArray, List.map_cons, List.map_nil]; rw [ev_ne _ (show 5 ≠ 29 by decide), ev_same _ (by rw [put_size, put_size, put_size, put_size, hs]; decide)]) ((str_any (w := W) (strZ m)).mono ?_)
    rintro e w' ⟨⟨c1, c2, c3, c4, rfl, c5⟩, hbw⟩
    refine ⟨_, rfl, ?_⟩
    rw [d7, put_comm _ (show 5 ≠ 30 by decide)]
    exact H3211 _ _ _ _ _ _ (hb.trans (Below.mono hbw hb.size)) (k1.go hbw) ⟨c1, c2, c3, c4, rfl, c5⟩ (hx.go hbw) hle
  have H3200 : ∀ (b1 : Nat) (v26 : Value) (b2 : Nat) (W : World), Below w.heap.size w W → Kon1 W (.returned v26) 2 0 (strZ n) false → wpT Tryd.prog ops Q tL3200 (((((A0.put (some 24) (.slice (some ⟨b1, 0, none⟩) n n)).put (some 25) (.string (strZ n))).put (some 26) v26).put (some 28) (.slice (some ⟨b2, 0, none⟩) m m)).put (some 29) (.string (strZ m))) W := by
    intro b1 v26 b2 W hb k1
    unfold tL3200
    refine ⟨?_, ?_⟩
    · refine op_call a7 g7 _ hf1 _ _ p7 (vs := #[.string (strZ m)]) (by simp only [List.map_toArray, List.map_cons, List.map_nil]; rw [ev_same _ (by rw [put_size, put_size, put_size, put_size, hs]; decide)]) ((str_any (w := W) (strZ m)).mono ?_)
      rintro e w' ⟨⟨c1, c2, c3, c4, rfl, c5⟩, hbw⟩
      refine ⟨_, rfl, ?_⟩
      rw [d7]
      exact H3210 _ _ _ _ _ (hb.trans (Below.mono hbw hb.size)) (k1.go hbw) ⟨c1, c2, c3, c4, rfl, c5⟩
    · refine op_alloc a12 g12 p12 ?_
      have hbw := (Below.refl W.heap.size W).alloc (Nat.le_refl _) (.cells #[.int .i64 0, .bool false, .slice none 0 0, .string ⟨#[]⟩, .bool false] 26)
      rw [d12]
      exact H3201 _ _ _ _ _ (hb.trans (Below.mono hbw hb.size)) (k1.go hbw) (heap_alloc_new W _) hb.size
  have H3101 : ∀ (b1 : Nat) (v26 : Value) (b2 : Nat) (bx : Nat) (W : World), Below w.heap.size w W → RowZ W b2 m → Kon1 W (.returned v26) 2 0 (strZ n) false → BoxZ W bx → w.heap.size ≤ bx → wpT Tryd.prog ops Q tL3101 (((((A0.put (some 24) (.slice (some ⟨b1, 0, none⟩) n n)).put (some 25) (.string (strZ n))).put (some 26) v26).put (some 28) (.slice (some ⟨b2, 0, none⟩) m m)).put (some 5) (.pointer (some ⟨bx, 0, none⟩))) W := by
    intro b1 v26 b2 bx W hb z2 k1 hx hle
    unfold tL3101
    refine op_str a6 g6 _ p6 (by rw [ev_ne _ (show 5 ≠ 28 by decide), ev_same _ (by rw [put_size, put_size, put_size, hs]; decide)]) z2 ?_
    rw [d6, put_comm _ (show 5 ≠ 29 by decide)]
    exact H3201 _ _ _ _ _ hb k1 hx hle
  have H3100 : ∀ (b1 : Nat) (v26 : Value) (b2 : Nat) (W : World), Below w.heap.size w W → RowZ W b2 m → Kon1 W (.returned v26) 2 0 (strZ n) false → wpT Tryd.prog ops Q tL3100 ((((A0.put (some 24) (.slice (some ⟨b1, 0, none⟩) n n)).put (some 25) (.string (strZ n))).put (some 26) v26).put (some 28) (.slice (some ⟨b2, 0, none⟩) m m)) W := by
    intro b1 v26 b2 W hb z2 k1
    unfold tL3100
    refine ⟨?_, ?_⟩
    · refine op_str a6 g6 _ p6 (by rw [ev_same _ (by rw [put_size, put_size, put_size, hs]; decide)]) z2 ?_
      rw [d6]
      exact H3200 _ _ _ _ hb k1
    · refine op_alloc a12 g12 p12 ?_
      have hbw := (Below.refl W.heap.size W).alloc (Nat.le_refl _) (.cells #[.int .i64 0, .bool false, .slice none 0 0, .string ⟨#[]⟩, .bool false] 26)
      rw [d12]
      exact H3101 _ _ _ _ _ (hb.trans (Below.mono hbw hb.size)) (z2.go hbw) (k1.go hbw) (heap_alloc_new W _) hb.size
  have H3001 : ∀ (b1 : Nat) (v26 : Value) (bx : Nat) (W : World), Below w.heap.size w W → Kon1 W (.returned v26) 2 0 (strZ n) false → BoxZ W bx → w.heap.size ≤ bx → wpT Tryd.prog ops Q tL3001 ((((A0.put (some 24) (.slice (some ⟨b1, 0, none⟩) n n)).put (some 25) (.string (strZ n))).put (some 26) v26).put (some 5) (.pointer (some ⟨bx, 0, none⟩))) W := by
    intro b1 v26 bx W hb k1 hx hle
    unfold tL3001
    refine op_make a5 g5 _ _ p5 (n := m) (by rw [ev_ne _ (show 5 ≠ 27 by decide), ev_ne _ (show 26 ≠ 27 by decide), ev_ne _ (show 25 ≠ 27 by decide), ev_ne _ (show 24 ≠ 27 by decide), e27]) (by rw [ev_ne _ (show 5 ≠ 27 by decide), ev_ne _ (show 26 ≠ 27 by decide), ev_ne _ (show 25 ≠ 27 by decide), ev_ne _ (show 24 ≠ 27 by decide), e27]) (by omega) (fun w' hz hbw => ?_)
    rw [d5, put_comm _ (show 5 ≠ 28 by decide)]
    exact H3101 _ _ _ _ _ (hb.trans (Below.mono hbw hb.size)) hz (k1.go hbw) (hx.go hbw) hle
  have H3000 : ∀ (b1 : Nat) (v26 : Value) (W : World), Below w.heap.size w W → Kon1 W (.returned v26) 2 0 (strZ n) false → wpT Tryd.prog ops Q tL3000 (((A0.put (some 24) (.slice (some ⟨b1, 0, none⟩) n n)).put (some 25) (.string (strZ n))).put (some 26) v26) W := by
    intro b1 v26 W hb k1
    unfold tL3000
    refine ⟨?_, ?_⟩
    · refine op_make a5 g5 _ _ p5 (n := m) (by rw [ev_ne _ (show 26 ≠ 27 by decide), ev_ne _ (show 25 ≠ 27 by decide), ev_ne _ (show 24 ≠ 27 by decide), e27]) (by rw [ev_ne _ (show 26 ≠ 27 by decide), ev_ne _ (show 25 ≠ 27 by decide), ev_ne _ (show 24 ≠ 27 by decide), e27]) (by omega) (fun w' hz hbw => ?_)
      rw [d5]
      exact H3100 _ _ _ _ (hb.trans (Below.mono hbw hb.size)) hz (k1.go hbw)
    · refine op_alloc a12 g12 p12 ?_
      have hbw := (Below.refl W.heap.size W).alloc (Nat.le_refl _) (.cells #[.int .i64 0, .bool false, .slice none 0 0, .string ⟨#[]⟩, .bool false] 26)
      rw [d12]
      exact H3001 _ _ _ _ (hb.trans (Below.mono hbw hb.size)) (k1.go hbw) (heap_alloc_new W _) hb.size
  have H2201 : ∀ (b1 : Nat) (b2 : Nat) (bx : Nat) (W : World), Below w.heap.size w W → BoxZ W bx → w.heap.size ≤ bx → wpT Tryd.prog ops Q tL2201 (((((A0.put (some 24) (.slice (some ⟨b1, 0, none⟩) n n)).put (some 25) (.string (strZ n))).put (some 28) (.slice (some ⟨b2, 0, none⟩) m m)).put (some 29) (.string (strZ m))).put (some 5) (.pointer (some ⟨bx, 0, none⟩))) W := by
    intro b1 b2 bx W hb hx hle
    unfold tL2201
    refine op_call a3 g3 _ hf1 _ _ p3 (vs := #[.string (strZ n)]) (by simp only [List.map_toArray, List.map_cons, List.map_nil]; rw [ev_ne _ (show 5 ≠ 25 by decide), ev_ne _ (show 29 ≠ 25 by decide), ev_ne _ (show 28 ≠ 25 by decide), ev_same _ (by rw [put_size, hs]; decide)]) ((str_any (w := W) (strZ n)).mono ?_)
    rintro e w' ⟨⟨c1, c2, c3, c4, rfl, c5⟩, hbw⟩
    refine ⟨_, rfl, ?_⟩
    rw [d3, put_comm _ (show 5 ≠ 26 by decide), put_comm _ (show 29 ≠ 26 by decide), put_comm _ (show 28 ≠ 26 by decide)]
    exact H3201 _ _ _ _ _ (hb.trans (Below.mono hbw hb.size)) ⟨c1, c2, c3, c4, rfl, c5⟩ (hx.go hbw) hle
  have H2200 : ∀ (b1 : Nat) (b2 : Nat) (W : World), Below w.heap.size w W → wpT Tryd.prog ops Q tL2200 ((((A0.put (some 24) (.slice (some ⟨b1, 0, none⟩) n n)).put (some 25) (.string (strZ n))).put (some 28) (.slice (some ⟨b2, 0, none⟩) m m)).put (some 29) (.string (strZ m))) W := by
    intro b1 b2 W hb
    unfold tL2200
    refine ⟨?_, ?_⟩
    · refine op_call a3 g3 _ hf1 _ _ p3 (vs := #[.string (strZ n)]) (by simp only [List.map_toArray, List.map_cons, List.map_nil]; rw [ev_ne _ (show 29 ≠ 25 by decide), ev_ne _ (show 28 ≠ 25 by decide), ev_same _ (by rw [put_size, hs]; decide)]) ((str_any (w := W) (strZ n)).mono ?_)
      rintro e w' ⟨⟨c1, c2, c3, c4, rfl, c5⟩, hbw⟩
      refine ⟨_, rfl, ?_⟩
      rw [d3, put_comm _ (show 29 ≠ 26 by decide), put_comm _ (show 28 ≠ 26 by decide)]
      exact H3200 _ _ _ _ (hb.trans (Below.mono hbw hb.size)) ⟨c1, c2, c3, c4, rfl, c5⟩
    · refine op_alloc a12 g12 p12 ?_
      have hbw := (Below.refl W.heap.size W).alloc (Nat.le_refl _) (.cells #[.int .i64 0, .bool false, .slice none 0 0, .string ⟨#[]⟩, .bool false] 26)
      rw [d12]
      exact H2201 _ _ _ _ (hb.trans (Below.mono hbw hb.size)) (heap_alloc_new W _) hb.size
  have H2101 : ∀ (b1 : Nat) (b2 : Nat) (bx : Nat) (W : World), Below w.heap.size w W → RowZ W b2 m → BoxZ W bx → w.heap.size ≤ bx → wpT Tryd.prog ops Q tL2101 ((((A0.put (some 24) (.slice (some ⟨b1, 0, none⟩) n n)).put (some 25) (.string (strZ n))).put (some 28) (.slice (some ⟨b2, 0, none⟩) m m)).put (some 5) (.pointer (some ⟨bx, 0, none⟩))) W := by
    intro b1 b2 bx W hb z2 hx hle
    unfold tL2101
    refine ⟨?_, ?_⟩
    · refine op_call a3 g3 _ hf1 _ _ p3 (vs := #[.string (strZ n)]) (by simp only [List.map_toArray, List.map_cons, List.map_nil]; rw [ev_ne _ (show 5 ≠ 25 by decide), ev_ne _ (show 28 ≠ 25 by decide), ev_same _ (by rw [put_size, hs]; decide)]) ((str_any (w := W) (strZ n)).mono ?_)
      rintro e w' ⟨⟨c1, c2, c3, c4, rfl, c5⟩, hbw⟩
      refine ⟨_, rfl, ?_⟩
      rw [d3, put_comm _ (show 5 ≠ 26 by decide), put_comm _ (show 28 ≠ 26 by decide)]
      exact H3101 _ _ _ _ _ (hb.trans (Below.mono hbw hb.size)) (z2.go hbw) ⟨c1, c2, c3, c4, rfl, c5⟩ (hx.go hbw) hle
    · refine op_str a6 g6 _ p6 (by rw [ev_ne _ (show 5 ≠ 28 by decide), ev_same _ (by rw [put_size, put_size, hs]; decide)]) z2 ?_
      rw [d6, put_comm _ (show 5 ≠ 29 by decide)]
      exact H2201 _ _ _ _ hb hx hle
  have H2100 : ∀ (b1 : Nat) (b2 : Nat) (W : World), Below w.heap.size w W → RowZ W b2 m → wpT Tryd.prog ops Q tL2100 (((A0.put (some 24) (.slice (some ⟨b1, 0, none⟩) n n)).put (some 25) (.string (strZ n))).put (some 28) (.slice (some ⟨b2, 0, none⟩) m m)) W := by
    intro b1 b2 W hb z2
    unfold tL2100
    refine ⟨?_, ?_, ?_⟩
    · refine op_call a3 g3 _ hf1 _ _ p3 (vs := #[.string (strZ n)]) (by simp only [List.map_toArray, List.map_cons, List.map_nil]; rw [ev_ne _ (show 28 ≠ 25 by decide), ev_same _ (by rw [put_size, hs]; decide)]) ((str_any (w := W) (strZ n)).mono ?_)
      rintro e w' ⟨⟨c1, c2, c3, c4, rfl, c5⟩, hbw⟩
      refine ⟨_, rfl, ?_⟩
      rw [d3, put_comm _ (show 28 ≠ 26 by decide)]
      exact H3100 _ _ _ _ (hb.trans (Below.mono hbw hb.size)) (z2.go hbw) ⟨c1, c2, c3, c4, rfl, c5⟩
    · refine op_str a6 g6 _ p6 (by rw [ev_same _ (by rw [put_size, put_size, hs]; decide)]) z2 ?_
      rw [d6]
      exact H2200 _ _ _ hb
    · refine op_alloc a12 g12 p12 ?_
      have hbw := (Below.refl W.heap.size W).alloc (Nat.le_refl _) (.cells #[.int .i64 0, .bool false, .slice none 0 0, .string ⟨#[]⟩, .bool false] 26)
      rw [d12]
      exact H2101 _ _ _ _ (hb.trans (Below.mono hbw hb.size)) (z2.go hbw) (heap_alloc_new W _) hb.size
  have H2001 : ∀ (b1 : Nat) (bx : Nat) (W : World), Below w.heap.size w W → BoxZ W bx → w.heap.size ≤ bx → wpT Tryd.prog ops Q tL2001 (((A0.put (some 24) (.slice (some ⟨b1, 0, none⟩) n n)).put (some 25) (.string (strZ n))).put (some 5) (.pointer (some ⟨bx, 0, none⟩))) W := by
    intro b1 bx W hb hx hle
    unfold tL2001
    refine ⟨?_, ?_⟩
    · refine op_call a3 g3 _ hf1 _ _ p3 (vs := #[.string (strZ n)]) (by simp only [List.map_toArray, List.map_cons, List.map_nil]; rw [ev_ne _ (show 5 ≠ 25 by decide), ev_same _ (by rw [put_size, hs]; decide)]) ((str_any (w := W) (strZ n)).mono ?_)
      rintro e w' ⟨⟨c1, c2, c3, c4, rfl, c5⟩, hbw⟩
      refine ⟨_, rfl, ?_⟩
      rw [d3, put_comm _ (show 5 ≠ 26 by decide)]
      exact H3001 _ _ _ _ (hb.trans (Below.mono hbw hb.size)) ⟨c1, c2, c3, c4, rfl, c5⟩ (hx.go hbw) hle
    · refine op_make a5 g5 _ _ p5 (n := m) (by rw [ev_ne _ (show 5 ≠ 27 by decide), ev_ne _ (show 25 ≠ 27 by decide), ev_ne _ (show 24 ≠ 27 by decide), e27]) (by rw [ev_ne _ (show 5 ≠ 27 by decide), ev_ne _ (show 25 ≠ 27 by decide), ev_ne _ (show 24 ≠ 27 by decide), e27]) (by omega) (fun w' hz hbw => ?_)
      rw [d5, put_comm _ (show 5 ≠ 28 by decide)]
      exact H2101 _ _ _ _ (hb.trans (Below.mono hbw hb.size)) hz (hx.go hbw) hle
  have H2000 : ∀ (b1 : Nat) (W : World), Below w.heap.size w W → wpT Tryd.prog ops Q tL2000 ((A0.put (some 24) (.slice (some ⟨b1, 0, none⟩) n n)).put (some 25) (.string (strZ n))) W := by
    intro b1 W hb
    unfold tL2000
    refine ⟨?_, ?_, ?_⟩
    · refine op_call a3 g3 _ hf1 _ _ p3 (vs := #[.string (strZ n)]) (by simp only [List.map_toArray, List.map_cons, List.map_nil]; rw [ev_same _ (by rw [put_size, hs]; decide)]) ((str_any (w := W) (strZ n)).mono ?_)
      rintro e w' ⟨⟨c1, c2, c3, c4, rfl, c5⟩, hbw⟩
      refine ⟨_, rfl, ?_⟩
      rw [d3]
      exact H3000 _ _ _ (hb.trans (Below.mono hbw hb.size)) ⟨c1, c2, c3, c4, rfl, c5⟩
    · refine op_make a5 g5 _ _ p5 (n := m) (by rw [ev_ne _ (show 25 ≠ 27 by decide), ev_ne _ (show 24 ≠ 27 by decide), e27]) (by rw [ev_ne _ (show 25 ≠ 27 by decide), ev_ne _ (show 24 ≠ 27 by decide), e27]) (by omega) (fun w' hz hbw => ?_)
      rw [d5]
      exact H2100 _ _ _ (hb.trans (Below.mono hbw hb.size)) hz
    · refine op_alloc a12 g12 p12 ?_
      have hbw := (Below.refl W.heap.size W).alloc (Nat.le_refl _) (.cells #[.int .i64 0, .bool false, .slice none 0 0, .string ⟨#[]⟩, .bool false] 26)
      rw [d12]
      exact H2001 _ _ _ (hb.trans (Below.mono hbw hb.size)) (heap_alloc_new W _) hb.size
  have H1201 : ∀ (b1 : Nat) (b2 : Nat) (bx : Nat) (W : World), Below w.heap.size w W → RowZ W b1 n → BoxZ W bx → w.heap.size ≤ bx → wpT Tryd.prog ops Q tL1201 ((((A0.put (some 24) (.slice (some ⟨b1, 0, none⟩) n n)).put (some 28) (.slice (some ⟨b2, 0, none⟩) m m)).put (some 29) (.string (strZ m))).put (some 5) (.pointer (some ⟨bx, 0, none⟩))) W := by
    intro b1 b2 bx W hb z1 hx hle
    unfold tL1201
    refine op_str a2 g2 _ p2 (by rw [ev_ne _ (show 5 ≠ 24 by decide), ev_ne _ (show 29 ≠ 24 by decide), ev_ne _ (show 28 ≠ 24 by decide), ev_same _ (by rw [hs]; decide)]) z1 ?_
    rw [d2, put_comm _ (show 5 ≠ 25 by decide), put_comm _ (show 29 ≠ 25 by decide), put_comm _ (show 28 ≠ 25 by decide)]
    exact H2201 _ _ _ _ hb hx hle
  have H1200 : ∀ (b1 : Nat) (b2 : Nat) (W : World), Below w.heap.size w W → RowZ W b1 n → wpT Tryd.prog ops Q tL1200 (((A0.put (some 24) (.slice (some ⟨b1, 0, none⟩) n n)).put (some 28) (.slice (some ⟨b2, 0, none⟩) m m)).put (some 29) (.string (strZ m))) W := by
    intro b1 b2 W hb z1
    unfold tL1200
    refine ⟨?_, ?_⟩
    · refine op_str a2 g2 _ p2 (by rw [ev_ne _ (show 29 ≠ 24 by decide), ev_ne _ (show 28 ≠ 24 by decide), ev_same _ (by rw [hs]; decide)]) z1 ?_
      rw [d2, put_comm _ (show 29 ≠ 25 by decide), put_comm _ (show 28 ≠ 25 by decide)]
      exact H2200 _ _ _ hb
    · refine op_alloc a12 g12 p12 ?_
      have hbw := (Below.refl W.heap.size W).alloc (Nat.le_refl _) (.cells #[.int .i64 0, .bool false, .slice none 0 0, .string ⟨#[]⟩, .bool false] 26)
      rw [d12]
      exact H1201 _ _ _ _ (hb.trans (Below.mono hbw hb.size)) (z1.go hbw) (heap_alloc_new W _) hb.size
  have H1101 : ∀ (b1 : Nat) (b2 : Nat) (bx : Nat) (W : World), Below w.heap.size w W → RowZ W b1 n → RowZ W b2 m → BoxZ W bx → w.heap.size ≤ bx → wpT Tryd.prog ops Q tL1101 (((A0.put (some 24) (.slice (some ⟨b1, 0, none⟩) n n)).put (some 28) (.slice (some ⟨b2, 0, none⟩) m m)).put (some 5) (.pointer (some ⟨bx, 0, none⟩))) W := by
    intro b1 b2 bx W hb z1 z2 hx hle
    unfold tL1101
    refine ⟨?_, ?_⟩
    · refine op_str a2 g2 _ p2 (by rw [ev_ne _ (show 5 ≠ 24 by decide), ev_ne _ (show 28 ≠ 24 by decide), ev_same _ (by rw [hs]; decide)]) z1 ?_
      rw [d2, put_comm _ (show 5 ≠ 25 by decide), put_comm _ (show 28 ≠ 25 by decide)]
      exact H2101 _ _ _ _ hb z2 hx hle
    · refine op_str a6 g6 _ p6 (by rw [ev_ne _ (show 5 ≠ 28 by decide), ev_same _ (by rw [put_size, hs]; decide)]) z2 ?_
      rw [d6, put_comm _ (show 5 ≠ 29 by decide)]
      exact H1201 _ _ _ _ hb z1 hx hle
  have H1100 : ∀ (b1 : Nat) (b2 : Nat) (W : World), Below w.heap.size w W → RowZ W b1 n → RowZ W b2 m → wpT Tryd.prog ops Q tL1100 ((A0.put (some 24) (.slice (some ⟨b1, 0, none⟩) n n)).put (some 28) (.slice (some ⟨b2, 0, none⟩) m m)) W := by
    intro b1 b2 W hb z1 z2
    unfold tL1100
    refine ⟨?_, ?_, ?_⟩
    · refine op_str a2 g2 _ p2 (by rw [ev_ne _ (show 28 ≠ 24 by decide), ev_same _ (by rw [hs]; decide)]) z1 ?_
      rw [d2, put_comm _ (show 28 ≠ 25 by decide)]
      exact H2100 _ _ _ hb z2
    · refine op_str a6 g6 _ p6 (by rw [ev_same _ (by rw [put_size, hs]; decide)]) z2 ?_
      rw [d6]
      exact H1200 _ _ _ hb z1
    · refine op_alloc a12 g12 p12 ?_
      have hbw := (Below.refl W.heap.size W).alloc (Nat.le_refl _) (.cells #[.int .i64 0, .bool false, .slice none 0 0, .string ⟨#[]⟩, .bool false] 26)
      rw [d12]
      exact H1101 _ _ _ _ (hb.trans (Below.mono hbw hb.size)) (z1.go hbw) (z2.go hbw) (heap_alloc_new W _) hb.size
  have H1001 : ∀ (b1 : Nat) (bx : Nat) (W : World), Below w.heap.size w W → RowZ W b1 n → BoxZ W bx → w.heap.size ≤ bx → wpT Tryd.prog ops Q tL1001 ((A0.put (some 24) (.slice (some ⟨b1, 0, none⟩) n n)).put (some 5) (.pointer (some ⟨bx, 0, none⟩))) W := by
    intro b1 bx W hb z1 hx hle
    unfold tL1001
    refine ⟨?_, ?_⟩
    · refine op_str a2 g2 _ p2 (by rw [ev_ne _ (show 5 ≠ 24 by decide), ev_same _ (by rw [hs]; decide)]) z1 ?_
      rw [d2, put_comm _ (show 5 ≠ 25 by decide)]
      exact H2001 _ _ _ hb hx hle
    · refine op_make a5 g5 _ _ p5 (n := m) (by rw [ev_ne _ (show 5 ≠ 27 by decide), ev_ne _ (show 24 ≠ 27 by decide), e27]) (by rw [ev_ne _ (show 5 ≠ 27 by decide), ev_ne _ (show 24 ≠ 27 by decide), e27]) (by omega) (fun w' hz hbw => ?_)
      rw [d5, put_comm _ (show 5 ≠ 28 by decide)]
      exact H1101 _ _ _ _ (hb.trans (Below.mono hbw hb.size)) (z1.go hbw) hz (hx.go hbw) hle
  have H1000 : ∀ (b1 : Nat) (W : World), Below w.heap.size w W → RowZ W b1 n → wpT Tryd.prog ops Q tL1000 (A0.put (some 24) (.slice (some ⟨b1, 0, none⟩) n n)) W := by
    intro b1 W hb z1
    unfold tL1000
    refine ⟨?_, ?_, ?_⟩
    · refine op_str a2 g2 _ p2 (by rw [ev_same _ (by rw [hs]; decide)]) z1 ?_
      rw [d2]
      exact H2000 _ _ hb
    · refine op_make a5 g5 _ _ p5 (n := m) (by rw [ev_ne _ (show 24 ≠ 27 by decide), e27]) (by rw [ev_ne _ (show 24 ≠ 27 by decide), e27]) (by omega) (fun w' hz hbw => ?_)
      rw [d5]
      exact H1100 _ _ _ (hb.trans (Below.mono hbw hb.size)) (z1.go hbw) hz
    · refine op_alloc a12 g12 p12 ?_
      have hbw := (Below.refl W.heap.size W).alloc (Nat.le_refl _) (.cells #[.int .i64 0, .bool false, .slice none 0 0, .string ⟨#[]⟩, .bool false] 26)
      rw [d12]
      exact H1001 _ _ _ (hb.trans (Below.mono hbw hb.size)) (z1.go hbw) (heap_alloc_new W _) hb.size
  have H0201 : ∀ (b2 : Nat) (bx : Nat) (W : World), Below w.heap.size w W → BoxZ W bx → w.heap.size ≤ bx → wpT Tryd.prog ops Q tL0201 (((A0.put (some 28) (.slice (some ⟨b2, 0, none⟩) m m)).put (some 29) (.string (strZ m))).put (some 5) (.pointer (some ⟨bx, 0, none⟩))) W := by
    intro b2 bx W hb hx hle
    unfold tL0201
    refine op_make a1 g1 _ _ p1 (n := n) (by rw [ev_ne _ (show 5 ≠ 23 by decide), ev_ne _ (show 29 ≠ 23 by decide), ev_ne _ (show 28 ≠ 23 by decide), e23]) (by rw [ev_ne _ (show 5 ≠ 23 by decide), ev_ne _ (show 29 ≠ 23 by decide), ev_ne _ (show 28 ≠ 23 by decide), e23]) (by omega) (fun w' hz hbw => ?_)
    rw [d1, put_comm _ (show 5 ≠ 24 by decide), put_comm _ (show 29 ≠ 24 by decide), put_comm _ (show 28 ≠ 24 by decide)]
    exact H1201 _ _ _ _ (hb.trans (Below.mono hbw hb.size)) hz (hx.go hbw) hle
  have H0200 : ∀ (b2 : Nat) (W : World), Below w.heap.size w W → wpT Tryd.prog ops Q tL0200 ((A0.put (some 28) (.slice (some ⟨b2, 0, none⟩) m m)).put (some 29) (.string (strZ m))) W := by
    intro b2 W hb
    unfold tL0200
    refine ⟨?_, ?_⟩
    · refine op_make a1 g1 _ _ p1 (n := n) (by rw [ev_ne _ (show 29 ≠ 23 by decide), ev_ne _ (show 28 ≠ 23 by decide), e23]) (by rw [ev_ne _ (show 29 ≠ 23 by decide), ev_ne _ (show 28 ≠ 23 by decide), e23]) (by omega) (fun w' hz hbw => ?_)
      rw [d1, put_comm _ (show 29 ≠ 24 by decide), put_comm _ (show 28 ≠ 24 by decide)]
      exact H1200 _ _ _ (hb.trans (Below.mono hbw hb.size)) hz
    · refine op_alloc a12 g12 p12 ?_
      have hbw := (Below.refl W.heap.size W).alloc (Nat.le_refl _) (.cells #[.int .i64 0, .bool false, .slice none 0 0, .string ⟨#[]⟩, .bool false] 26)
      rw [d12]
      exact H0201 _ _ _ (hb.trans (Below.mono hbw hb.size)) (heap_alloc_new W _) hb.size
  have H0101 : ∀ (b2 : Nat) (bx : Nat) (W : World), Below w.heap.size w W → RowZ W b2 m → BoxZ W bx → w.heap.size ≤ bx → wpT Tryd.prog ops Q tL0101 ((A0.put (some 28) (.slice (some ⟨b2, 0, none⟩) m m)).put (some 5) (.pointer (some ⟨bx, 0, none⟩))) W := by
    intro b2 bx W hb z2 hx hle
    unfold tL0101
    refine ⟨?_, ?_⟩
    · refine op_make a1 g1 _ _ p1 (n := n) (by rw [ev_ne _ (show 5 ≠ 23 by decide), ev_ne _ (show 28 ≠ 23 by decide), e23]) (by rw [ev_ne _ (show 5 ≠ 23 by decide), ev_ne _ (show 28 ≠ 23 by decide), e23]) (by omega) (fun w' hz hbw => ?_)
      rw [d1, put_comm _ (show 5 ≠ 24 by decide), put_comm _ (show 28 ≠ 24 by decide)]
      exact H1101 _ _ _ _ (hb.trans (Below.mono hbw hb.size)) hz (z2.go hbw) (hx.go hbw) hle
    · refine op_str a6 g6 _ p6 (by rw [ev_ne _ (show 5 ≠ 28 by decide), ev_same _ (by rw [hs]; decide)]) z2 ?_
      rw [d6, put_comm _ (show 5 ≠ 29 by decide)]
      exact H0201 _ _ _ hb hx hle
  have H0100 : ∀ (b2 : Nat) (W : World), Below w.heap.size w W → RowZ W b2 m → wpT Tryd.prog ops Q tL0100 (A0.put (some 28) (.slice (some ⟨b2, 0, none⟩) m m)) W := by
    intro b2 W hb z2
    unfold tL0100
    refine ⟨?_, ?_, ?_⟩
    · refine op_make a1 g1 _ _ p1 (n := n) (by rw [ev_ne _ (show 28 ≠ 23 by decide), e23]) (by rw [ev_ne _ (show 28 ≠ 23 by decide), e23]) (by omega) (fun w' hz hbw => ?_)
      rw [d1, put_comm _ (show 28 ≠ 24 by decide)]
      exact H1100 _ _ _ (hb.trans (Below.mono hbw hb.size)) hz (z2.go hbw)
    · refine op_str a6 g6 _ p6 (by rw [ev_same _ (by rw [hs]; decide)]) z2 ?_
      rw [d6]
      exact H0200 _ _ hb
    · refine op_alloc a12 g12 p12 ?_
      have hbw := (Below.refl W.heap.size W).alloc (Nat.le_refl _) (.cells #[.int .i64 0, .bool false, .slice none 0 0, .string ⟨#[]⟩, .bool false] 26)
      rw [d12]
      exact H0101 _ _ _ (hb.trans (Below.mono hbw hb.size)) (z2.go hbw) (heap_alloc_new W _) hb.size
  have H0001 : ∀ (bx : Nat) (W : World), Below w.heap.size w W → BoxZ W bx → w.heap.size ≤ bx → wpT Tryd.prog ops Q tL0001 (A0.put (some 5) (.pointer (some ⟨bx, 0, none⟩))) W := by
    intro bx W hb hx hle
    unfold tL0001
    refine ⟨?_, ?_⟩
    · refine op_make a1 g1 _ _ p1 (n := n) (by rw [ev_ne _ (show 5 ≠ 23 by decide), e23]) (by rw [ev_ne _ (show 5 ≠ 23 by decide), e23]) (by omega) (fun w' hz hbw => ?_)
      rw [d1, put_comm _ (show 5 ≠ 24 by decide)]
      exact H1001 _ _ _ (hb.trans (Below.mono hbw hb.size)) hz (hx.go hbw) hle
    · refine op_make a5 g5 _ _ p5 (n := m) (by rw [ev_ne _ (show 5 ≠ 27 by decide), e27]) (by rw [ev_ne _ (show 5 ≠ 27 by decide), e27]) (by omega) (fun w' hz hbw => ?_)
      rw [d5, put_comm _ (show 5 ≠ 28 by decide)]
      exact H0101 _ _ _ (hb.trans (Below.mono hbw hb.size)) hz (hx.go hbw) hle
  have H0000 : ∀ (W : World), Below w.heap.size w W → wpT Tryd.prog ops Q tL0000 A0 W := by
    intro W hb
    unfold tL0000
    refine ⟨?_, ?_, ?_⟩
    · refine op_make a1 g1 _ _ p1 (n := n) (by rw [e23]) (by rw [e23]) (by omega) (fun w' hz hbw => ?_)
      rw [d1]
      exact H1000 _ _ (hb.trans (Below.mono hbw hb.size)) hz
    · refine op_make a5 g5 _ _ p5 (n := m) (by rw [e27]) (by rw [e27]) (by omega) (fun w' hz hbw => ?_)
      rw [d5]
      exact H0100 _ _ (hb.trans (Below.mono hbw hb.size)) hz
    · refine op_alloc a12 g12 p12 ?_
      have hbw := (Below.refl W.heap.size W).alloc (Nat.le_refl _) (.cells #[.int .i64 0, .bool false, .slice none 0 0, .string ⟨#[]⟩, .bool false] 26)
      rw [d12]
      exact H0001 _ _ (hb.trans (Below.mono hbw hb.size)) (heap_alloc_new W _) hb.size
  exact H0000 w (Below.refl _ _)
end Go.Proofs.YtahgbbnpbhfaeaaDoor
