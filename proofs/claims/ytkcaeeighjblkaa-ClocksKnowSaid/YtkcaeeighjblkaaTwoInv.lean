/- The two orders beside one another, with the clocks that came: what is in memory. No condition. -/
import Derived.Test.YtkcaeeighjblkaaRefRecv
namespace Go.Proofs.Ytkcaeeighjblkaa
open Go.RowKit

/-- A clock that came: its block and the row in it, or none; what it knows. -/
abbrev Clk := Option (Nat × Value) × List Int
def ptrOf (c : Clk) : Value := .pointer (c.1.map fun b => ⟨b.1, 0, none⟩)
def clkFp (cv : Value) (Cs : List Clk) (k : Nat) : Prop := cv.ownBlock = some k ∨ ∃ c ∈ Cs, ∃ b v, c.1 = some (b, v) ∧ (k = b ∨ v.ownBlock = some k)

structure Clocks (w : World) (cv : Value) (Cs : List Clk) (N : Nat) : Prop where
  row : w.ownsRow 0 33 1 cv Cs.length (Cs.map ptrOf)
  at_ : ∀ c ∈ Cs, ∀ b v, c.1 = some (b, v) → w.heap[b]? = some (.cells #[v] 57 (0, 0)) ∧ w.ownsRow 0 3 1 v c.2.length (ints c.2)
  non : ∀ c ∈ Cs, c.1 = none → c.2 = []
  len : ∀ c ∈ Cs, c.2.length ≤ N + 1
  val : ∀ c ∈ Cs, ∀ j, 0 ≤ c.2.getD j 0 ∧ c.2.getD j 0 ≤ N

section
variable {w w' w1 w2 : World} {cv : Value} {Cs : List Clk} {N M : Nat}
theorem Clocks.nil (w : World) (N : Nat) : Clocks w (.slice none 0 0) [] N := ⟨World.ownsRow_nil _ _ _ _, fun _ h => by simp at h, fun _ h => by simp at h, fun _ h => by simp at h, fun _ h => by simp at h⟩
theorem Clocks.frame (h : Clocks w cv Cs N) (hk : ∀ k, clkFp cv Cs k → w'.heap[k]? = w.heap[k]?) : Clocks w' cv Cs N where
  row := row_same h.row (fun k e => hk k (.inl e))
  at_ := fun c hc b v e => ⟨(hk b (.inr ⟨c, hc, b, v, e, .inl rfl⟩)).trans (h.at_ c hc b v e).1, row_same (h.at_ c hc b v e).2 (fun k e' => hk k (.inr ⟨c, hc, b, v, e, .inr e'⟩))⟩
  non := h.non
  len := h.len
  val := h.val
theorem Clocks.mono (h : Clocks w cv Cs N) (hm : N ≤ M) : Clocks w cv Cs M where
  row := h.row
  at_ := h.at_
  non := h.non
  len := fun c hc => by have := h.len c hc; omega
  val := fun c hc j => by have := h.val c hc j; omega
theorem Clocks.lt (h : Clocks w cv Cs N) : ∀ k, clkFp cv Cs k → k < w.heap.size := by
  rintro k (e | ⟨c, hc, b, v, e, e' | e'⟩)
  · exact (h.row.lt _ e).2
  · rw [e']; exact (Array.getElem?_eq_some_iff.1 (h.at_ c hc b v e).1).1
  · exact ((h.at_ c hc b v e).2.lt _ e').2
theorem Clocks.ne_cv (h : Clocks w cv Cs N) {c : Clk} (hc : c ∈ Cs) {b k : Nat} {v : Value} (e : c.1 = some (b, v)) (hk : k = b ∨ v.ownBlock = some k) : cv.ownBlock ≠ some k := by
  intro e1
  obtain ⟨c1, e2⟩ := row_at h.row e1
  rcases hk with e' | e'
  · rw [e', (h.at_ c hc b v e).1] at e2; simp at e2
  · obtain ⟨c2, e3⟩ := row_at (h.at_ c hc b v e).2 e'
    rw [e2] at e3; simp at e3

/-- A clock comes. -/
theorem Clocks.push {gg cap : Nat} {c : Clk} {o : Obj} (h : Clocks w cv Cs N) (hb : Below w.heap.size w w1)
    (hc : ∀ b v, c.1 = some (b, v) → w.heap.size ≤ b ∧ w1.heap[b]? = some (.cells #[v] 57 (0, 0)) ∧ w1.ownsRow w.heap.size 3 1 v c.2.length (ints c.2))
    (hn : c.1 = none → c.2 = []) (hl : c.2.length ≤ N + 1) (hv : ∀ j, 0 ≤ c.2.getD j 0 ∧ c.2.getD j 0 ≤ N)
    (hown2 : w2.ownsRow 0 33 1 (.slice (some ⟨gg, 0, none⟩) (Cs.length + 1) cap) (Cs.length + 1) (Cs.map ptrOf ++ [ptrOf c])) (hat : AppAt (w1.alloc o) cv gg w2) :
    Clocks w2 (.slice (some ⟨gg, 0, none⟩) (Cs.length + 1) cap) (Cs ++ [c]) N ∧ Fr (clkFp cv Cs) w w2 ∧
      ∀ k, clkFp (.slice (some ⟨gg, 0, none⟩) (Cs.length + 1) cap) (Cs ++ [c]) k → clkFp cv Cs k ∨ w.heap.size ≤ k := by
  have hs1 := hb.size
  have hg := hat.grown
  have hX : (w1.alloc o).heap.size = w1.heap.size + 1 := by simp
  have hold : ∀ k, k < w1.heap.size → cv.ownBlock ≠ some k → w2.heap[k]? = w1.heap[k]? := fun k hk e => (hg.block k (by omega) (fun e' => e e'.symm)).trans (Below.heap_alloc w1 o k hk)
  have hcvlt : ∀ k, cv.ownBlock = some k → k < w.heap.size := fun k e => (h.row.lt _ e).2
  refine ⟨⟨by simpa using hown2, fun d hd b v e => ?_, fun d hd => ?_, fun d hd => ?_, fun d hd => ?_⟩, ?_, ?_⟩
  · rcases List.mem_append.1 hd with hd | hd
    · have h1 := h.at_ d hd b v e
      have hbl : b < w.heap.size := (Array.getElem?_eq_some_iff.1 h1.1).1
      refine ⟨(hold b (by omega) (h.ne_cv hd e (.inl rfl))).trans ((hb.block b hbl).trans h1.1), row_same h1.2 (fun k e' => ?_)⟩
      have hkl := (h1.2.lt k e').2
      exact (hold k (by omega) (h.ne_cv hd e (.inr e'))).trans (hb.block k hkl)
    · have : d = c := by simpa using hd
      subst this
      obtain ⟨h1, h2, h3⟩ := hc b v e
      have hbl : b < w1.heap.size := (Array.getElem?_eq_some_iff.1 h2).1
      refine ⟨(hold b hbl (fun e' => by have := hcvlt b e'; omega)).trans h2, row_same (row_zero h3) (fun k e' => ?_)⟩
      have hkl := h3.lt k e'
      exact hold k hkl.2 (fun e2 => by have := hcvlt k e2; omega)
  · rcases List.mem_append.1 hd with hd | hd
    · exact h.non d hd
    · have : d = c := by simpa using hd
      subst this; exact hn
  · rcases List.mem_append.1 hd with hd | hd
    · exact h.len d hd
    · have : d = c := by simpa using hd
      subst this; exact hl
  · rcases List.mem_append.1 hd with hd | hd
    · exact h.val d hd
    · have : d = c := by simpa using hd
      subst this; exact hv
  · exact ((Fr.of_below (F := clkFp cv Cs) hb).alloc o).grown hg (fun k e => .inl (.inl e))
  · rintro k (e | ⟨d, hd, b, v, e, hk⟩)
    · have hgk : gg = k := by simpa [Value.ownBlock] using e
      rcases hat.at with e1 | e1
      · left; left; rw [e1, hgk]
      · right; omega
    · rcases List.mem_append.1 hd with hd | hd
      · exact .inl (.inr ⟨d, hd, b, v, e, hk⟩)
      · have : d = c := by simpa using hd
        subst this
        obtain ⟨h1, h2, h3⟩ := hc b v e
        right
        rcases hk with e' | e'
        · omega
        · exact (h3.lt k e').1
end

structure TwoSt where
  bx : Nat
  st : OSt
  K : List (List Int)
  P : Acc
  rst : RSt
  KR : List (List Int)
  A : Acs
  cv : Value
  Cs : List Clk
  dv : Value
  dr : List Value
  D : List (List Int)

def TwoSt.part (x : TwoSt) : Nat → Nat → Prop
  | 0 => x.st.fp
  | 1 => x.rst.fp x.KR.length
  | 2 => clkFp x.cv x.Cs
  | 3 => rowsFp x.dv x.dr
  | 4 => fun k => k = x.bx
  | _ => fun _ => False
def TwoSt.fp (x : TwoSt) (k : Nat) : Prop := ∃ i, x.part i k

structure TwoMem (w : World) (x : TwoSt) (N M : Nat) : Prop where
  ord : Ord w x.st x.K x.P N
  rord : ROrd w x.rst x.KR x.A M
  cs : Clocks w x.cv x.Cs N
  ds : IRows w x.dv x.dr x.D
  dl : ∀ i, (x.D.getD i []).length ≤ M + 2
  dval : ∀ i j, 0 ≤ (x.D.getD i []).getD j 0 ∧ (x.D.getD i []).getD j 0 ≤ M
  ob : w.heap[x.bx]? = some (.cells #[.pointer (some ⟨x.st.bo, 0, none⟩), .pointer (some ⟨x.rst.po, 0, none⟩), x.cv, x.dv] 42 (0, 0))
  ap : ∀ i j k, x.part i k → x.part j k → i = j

section
variable {w w' w1 w2 : World} {x : TwoSt} {N M N' M' : Nat}
theorem TwoMem.lt (h : TwoMem w x N M) : ∀ i k, x.part i k → k < w.heap.size
  | 0, k, hk => h.ord.lt k hk
  | 1, k, hk => h.rord.lt k hk
  | 2, k, hk => h.cs.lt k hk
  | 3, k, hk => h.ds.lt k hk
  | 4, k, hk => by
    have hk : k = x.bx := hk
    rw [hk]; exact (Array.getElem?_eq_some_iff.1 h.ob).1
  | _ + 5, _, hk => hk.elim
theorem TwoMem.mono (h : TwoMem w x N M) (hN : N ≤ N') (hN' : N' ≤ 100000) (hM : M ≤ M') (hM' : M' ≤ 100000) : TwoMem w x N' M' where
  ord := h.ord.mono hN hN'
  rord := h.rord.mono hM hM'
  cs := h.cs.mono hN
  ds := h.ds
  dl := fun i => by have := h.dl i; omega
  dval := fun i j => by have := h.dval i j; omega
  ob := h.ob
  ap := h.ap
/-- What lies in the other parts abides. -/
theorem TwoMem.others (h : TwoMem w x N M) {i : Nat} (hf : Fr (x.part i) w w') {j k : Nat} (hj : x.part j k) (hij : j ≠ i) : w'.heap[k]? = w.heap[k]? :=
  hf.block k (h.lt j k hj) (fun e => hij (h.ap j i k hj e))
theorem TwoMem.apart (h : TwoMem w x N M) {y : TwoSt} (hy : ∀ i k, y.part i k → x.part i k ∨ w.heap.size ≤ k) (i0 : Nat) (hi : ∀ i k, i ≠ i0 → y.part i k → x.part i k) : ∀ i j k, y.part i k → y.part j k → i = j := by
  intro i j k h1 h2
  by_cases e1 : i = i0
  · by_cases e2 : j = i0
    · omega
    · have h2' := hi j k e2 h2
      rcases hy i k h1 with h1' | h1'
      · exact h.ap i j k h1' h2'
      · have := h.lt j k h2'; omega
  · have h1' := hi i k e1 h1
    by_cases e2 : j = i0
    · rcases hy j k h2 with h2' | h2'
      · exact h.ap i j k h1' h2'
      · have := h.lt i k h1'; omega
    · exact h.ap i j k h1' (hi j k e2 h2)
theorem TwoMem.of_below (h : TwoMem w x N M) (hb : Below w.heap.size w w') : TwoMem w' x N M where
  ord := h.ord.frame (fun k e => hb.block k (h.lt 0 k e))
  rord := h.rord.frame (fun k e => hb.block k (h.lt 1 k e))
  cs := h.cs.frame (fun k e => hb.block k (h.lt 2 k e))
  ds := h.ds.frame (fun k e => hb.block k (h.lt 3 k e))
  dl := h.dl
  dval := h.dval
  ob := (hb.block _ (h.lt 4 _ rfl)).trans h.ob
  ap := h.ap

def TwoSt.setO (x : TwoSt) (st : OSt) (K : List (List Int)) (P : Acc) : TwoSt := { x with st := st, K := K, P := P }
def TwoSt.setR (x : TwoSt) (rst : RSt) (KR : List (List Int)) (A : Acs) : TwoSt := { x with rst := rst, KR := KR, A := A }
def TwoSt.setC (x : TwoSt) (cv : Value) (Cs : List Clk) : TwoSt := { x with cv := cv, Cs := Cs }
def TwoSt.setD (x : TwoSt) (dv : Value) (dr : List Value) (D : List (List Int)) : TwoSt := { x with dv := dv, dr := dr, D := D }

theorem TwoMem.setO {st' : OSt} {K' : List (List Int)} {P' : Acc} (h : TwoMem w x N M) (ho : Ord w' st' K' P' N') (hN : N ≤ N') (hb : st'.bo = x.st.bo) (hf : Fr x.st.fp w w') (hfp : ∀ k, st'.fp k → x.st.fp k ∨ w.heap.size ≤ k) :
    TwoMem w' (x.setO st' K' P') N' M ∧ Fr x.fp w w' ∧ ∀ k, (x.setO st' K' P').fp k → x.fp k ∨ w.heap.size ≤ k := by
  have hO := fun {j k : Nat} (hj : x.part j k) (hij : j ≠ 0) => h.others (i := 0) hf hj hij
  have hy : ∀ i k, (x.setO st' K' P').part i k → x.part i k ∨ w.heap.size ≤ k := fun i k hk => match i, hk with
    | 0, hk => hfp k hk
    | 1, hk => .inl hk
    | 2, hk => .inl hk
    | 3, hk => .inl hk
    | 4, hk => .inl hk
    | _ + 5, hk => hk.elim
  refine ⟨⟨ho, h.rord.frame (fun k e => hO (j := 1) e (by decide)), (h.cs.frame (fun k e => hO (j := 2) e (by decide))).mono hN, h.ds.frame (fun k e => hO (j := 3) e (by decide)), h.dl, h.dval, ?_, ?_⟩, hf.mono (fun k _ e => ⟨0, e⟩), ?_⟩
  · have := (hO (j := 4) (k := x.bx) rfl (by decide)).trans h.ob
    rw [← hb] at this
    exact this
  · refine h.apart hy 0 (fun i k hi hk => ?_)
    match i, hk with
    | 0, _ => exact absurd rfl hi
    | 1, hk => exact hk
    | 2, hk => exact hk
    | 3, hk => exact hk
    | 4, hk => exact hk
  · rintro k ⟨i, hk⟩
    rcases hy i k hk with e | e
    · exact .inl ⟨i, e⟩
    · exact .inr e

theorem TwoMem.setR {rst' : RSt} {K' : List (List Int)} {A' : Acs} (h : TwoMem w x N M) (ho : ROrd w' rst' K' A' M') (hM : M ≤ M') (hb : rst'.po = x.rst.po) (hf : Fr (x.rst.fp x.KR.length) w w') (hfp : ∀ k, rst'.fp K'.length k → x.rst.fp x.KR.length k ∨ w.heap.size ≤ k) :
    TwoMem w' (x.setR rst' K' A') N M' ∧ Fr x.fp w w' ∧ ∀ k, (x.setR rst' K' A').fp k → x.fp k ∨ w.heap.size ≤ k := by
  have hO := fun {j k : Nat} (hj : x.part j k) (hij : j ≠ 1) => h.others (i := 1) hf hj hij
  have hy : ∀ i k, (x.setR rst' K' A').part i k → x.part i k ∨ w.heap.size ≤ k := fun i k hk => match i, hk with
    | 0, hk => .inl hk
    | 1, hk => hfp k hk
    | 2, hk => .inl hk
    | 3, hk => .inl hk
    | 4, hk => .inl hk
    | _ + 5, hk => hk.elim
  refine ⟨⟨h.ord.frame (fun k e => hO (j := 0) e (by decide)), ho, h.cs.frame (fun k e => hO (j := 2) e (by decide)), h.ds.frame (fun k e => hO (j := 3) e (by decide)), fun i => by have := h.dl i; show (x.D.getD i []).length ≤ _; omega, fun i j => by have := h.dval i j; show 0 ≤ (x.D.getD i []).getD j 0 ∧ (x.D.getD i []).getD j 0 ≤ _; omega, ?_, ?_⟩, hf.mono (fun k _ e => ⟨1, e⟩), ?_⟩
  · have := (hO (j := 4) (k := x.bx) rfl (by decide)).trans h.ob
    rw [← hb] at this
    exact this
  · refine h.apart hy 1 (fun i k hi hk => ?_)
    match i, hk with
    | 0, hk => exact hk
    | 1, _ => exact absurd rfl hi
    | 2, hk => exact hk
    | 3, hk => exact hk
    | 4, hk => exact hk
  · rintro k ⟨i, hk⟩
    rcases hy i k hk with e | e
    · exact .inl ⟨i, e⟩
    · exact .inr e

/-- The clocks' list is turned, and the cell that holds it. -/
theorem TwoMem.setC {cv' : Value} {Cs' : List Clk} (h : TwoMem w x N M) (ho : Clocks w2 cv' Cs' N) (hf : Fr (clkFp x.cv x.Cs) w w2) (hfp : ∀ k, clkFp cv' Cs' k → clkFp x.cv x.Cs k ∨ w.heap.size ≤ k) :
    TwoMem (w2.setCell ⟨x.bx, 2, none⟩ cv') (x.setC cv' Cs') N M ∧ Fr x.fp w (w2.setCell ⟨x.bx, 2, none⟩ cv') ∧ ∀ k, (x.setC cv' Cs').fp k → x.fp k ∨ w.heap.size ≤ k := by
  have hO := fun {j k : Nat} (hj : x.part j k) (hij : j ≠ 2) => h.others (i := 2) hf hj hij
  have hbx := h.lt 4 x.bx rfl
  have hs : ∀ k, k ≠ x.bx → (w2.setCell ⟨x.bx, 2, none⟩ cv').heap[k]? = w2.heap[k]? := fun k e => Below.heap_setCell _ _ _ _ e
  have hS := fun {j k : Nat} (hj : x.part j k) (hij : j ≠ 2) (hij4 : j ≠ 4) => (hs k (fun e => hij4 (h.ap j 4 k hj e))).trans (hO hj hij)
  have hy : ∀ i k, (x.setC cv' Cs').part i k → x.part i k ∨ w.heap.size ≤ k := fun i k hk => match i, hk with
    | 0, hk => .inl hk
    | 1, hk => .inl hk
    | 2, hk => hfp k hk
    | 3, hk => .inl hk
    | 4, hk => .inl hk
    | _ + 5, hk => hk.elim
  have hob := (hO (j := 4) (k := x.bx) rfl (by decide)).trans h.ob
  refine ⟨⟨h.ord.frame (fun k e => hS (j := 0) e (by decide) (by decide)), h.rord.frame (fun k e => hS (j := 1) e (by decide) (by decide)), ho.frame (fun k e => hs k (fun e' => ?_)), h.ds.frame (fun k e => hS (j := 3) e (by decide) (by decide)), h.dl, h.dval, ?_, ?_⟩, ?_, ?_⟩
  · rcases hfp k e with e2 | e2
    · exact absurd (h.ap 2 4 k e2 e') (by decide)
    · omega
  · show (w2.setCell ⟨x.bx, 2, none⟩ cv').heap[x.bx]? = _
    simp only [World.setCell, Array.getElem?_modify, hob]
    simp [TwoSt.setC]
  · refine h.apart hy 2 (fun i k hi hk => ?_)
    match i, hk with
    | 0, hk => exact hk
    | 1, hk => exact hk
    | 2, _ => exact absurd rfl hi
    | 3, hk => exact hk
    | 4, hk => exact hk
  · exact (hf.mono (G := x.fp) (fun k _ e => ⟨2, e⟩)).setCell (p := ⟨x.bx, 2, none⟩) (.inl ⟨4, rfl⟩) _
  · rintro k ⟨i, hk⟩
    rcases hy i k hk with e | e
    · exact .inl ⟨i, e⟩
    · exact .inr e

theorem TwoMem.setD {dv' : Value} {dr' : List Value} {D' : List (List Int)} (h : TwoMem w x N M) (ho : IRows w2 dv' dr' D') (hf : Fr (rowsFp x.dv x.dr) w w2) (hfp : ∀ k, rowsFp dv' dr' k → rowsFp x.dv x.dr k ∨ w.heap.size ≤ k)
    (hl : ∀ i, (D'.getD i []).length ≤ M + 2) (hv : ∀ i j, 0 ≤ (D'.getD i []).getD j 0 ∧ (D'.getD i []).getD j 0 ≤ M) :
    TwoMem (w2.setCell ⟨x.bx, 3, none⟩ dv') (x.setD dv' dr' D') N M ∧ Fr x.fp w (w2.setCell ⟨x.bx, 3, none⟩ dv') ∧ ∀ k, (x.setD dv' dr' D').fp k → x.fp k ∨ w.heap.size ≤ k := by
  have hO := fun {j k : Nat} (hj : x.part j k) (hij : j ≠ 3) => h.others (i := 3) hf hj hij
  have hbx := h.lt 4 x.bx rfl
  have hs : ∀ k, k ≠ x.bx → (w2.setCell ⟨x.bx, 3, none⟩ dv').heap[k]? = w2.heap[k]? := fun k e => Below.heap_setCell _ _ _ _ e
  have hS := fun {j k : Nat} (hj : x.part j k) (hij : j ≠ 3) (hij4 : j ≠ 4) => (hs k (fun e => hij4 (h.ap j 4 k hj e))).trans (hO hj hij)
  have hy : ∀ i k, (x.setD dv' dr' D').part i k → x.part i k ∨ w.heap.size ≤ k := fun i k hk => match i, hk with
    | 0, hk => .inl hk
    | 1, hk => .inl hk
    | 2, hk => .inl hk
    | 3, hk => hfp k hk
    | 4, hk => .inl hk
    | _ + 5, hk => hk.elim
  have hob := (hO (j := 4) (k := x.bx) rfl (by decide)).trans h.ob
  refine ⟨⟨h.ord.frame (fun k e => hS (j := 0) e (by decide) (by decide)), h.rord.frame (fun k e => hS (j := 1) e (by decide) (by decide)), h.cs.frame (fun k e => hS (j := 2) e (by decide) (by decide)), ho.frame (fun k e => hs k (fun e' => ?_)), hl, hv, ?_, ?_⟩, ?_, ?_⟩
  · rcases hfp k e with e2 | e2
    · exact absurd (h.ap 3 4 k e2 e') (by decide)
    · omega
  · show (w2.setCell ⟨x.bx, 3, none⟩ dv').heap[x.bx]? = _
    simp only [World.setCell, Array.getElem?_modify, hob]
    simp [TwoSt.setD]
  · refine h.apart hy 3 (fun i k hi hk => ?_)
    match i, hk with
    | 0, hk => exact hk
    | 1, hk => exact hk
    | 2, hk => exact hk
    | 3, _ => exact absurd rfl hi
    | 4, hk => exact hk
  · exact (hf.mono (G := x.fp) (fun k _ e => ⟨3, e⟩)).setCell (p := ⟨x.bx, 3, none⟩) (.inl ⟨4, rfl⟩) _
  · rintro k ⟨i, hk⟩
    rcases hy i k hk with e | e
    · exact .inl ⟨i, e⟩
    · exact .inr e

theorem TwoMem.b0 (h : TwoMem w x N M) : w.cell? ⟨x.bx, 0, none⟩ = some (.pointer (some ⟨x.st.bo, 0, none⟩)) := by simp [World.cell?, h.ob]
theorem TwoMem.b1 (h : TwoMem w x N M) : w.cell? ⟨x.bx, 1, none⟩ = some (.pointer (some ⟨x.rst.po, 0, none⟩)) := by simp [World.cell?, h.ob]
theorem TwoMem.b2 (h : TwoMem w x N M) : w.cell? ⟨x.bx, 2, none⟩ = some x.cv := by simp [World.cell?, h.ob]
theorem TwoMem.b3 (h : TwoMem w x N M) : w.cell? ⟨x.bx, 3, none⟩ = some x.dv := by simp [World.cell?, h.ob]
theorem TwoMem.bf (h : TwoMem w x N M) (j : Nat) : w.frozen? ⟨x.bx, j, none⟩ = false := by simp [World.frozen?, h.ob]
end
end Go.Proofs.Ytkcaeeighjblkaa
