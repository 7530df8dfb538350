/- What an order of clocks is in memory: the invariant 'Ord', its frame. No condition. -/
import Derived.Test.YtkcaeeighjblkaaClkBase
namespace Go.Proofs.Ytkcaeeighjblkaa
open Go.RowKit

/-! ### Frames: what may have turned -/
/-- From w to w': new blocks, and writes to old blocks of F alone. -/
structure Fr (F : Nat → Prop) (w w' : World) : Prop where
  os : w'.os = w.os
  tape : w'.tape = w.tape
  output : w'.output = w.output
  size : w.heap.size ≤ w'.heap.size
  block : ∀ k, k < w.heap.size → ¬ F k → w'.heap[k]? = w.heap[k]?

theorem Fr.refl (F : Nat → Prop) (w : World) : Fr F w w := ⟨rfl, rfl, rfl, Nat.le_refl _, fun _ _ _ => rfl⟩
theorem Fr.trans {F G H : Nat → Prop} {a b c : World} (h : Fr F a b) (k : Fr G b c) (hF : ∀ j, F j → H j) (hG : ∀ j, G j → H j ∨ a.heap.size ≤ j) : Fr H a c :=
  ⟨k.os.trans h.os, k.tape.trans h.tape, k.output.trans h.output, Nat.le_trans h.size k.size, fun j hj hn =>
    (k.block j (Nat.lt_of_lt_of_le hj h.size) (fun hg => by rcases hG j hg with h1 | h1; exact hn h1; omega)).trans (h.block j hj (fun hf => hn (hF j hf)))⟩
theorem Fr.mono {F G : Nat → Prop} {a b : World} (h : Fr F a b) (hF : ∀ j, j < a.heap.size → F j → G j) : Fr G a b :=
  ⟨h.os, h.tape, h.output, h.size, fun j hj hn => h.block j hj (fun hf => hn (hF j hj hf))⟩
theorem Fr.of_below {F : Nat → Prop} {w w' : World} (h : Below w.heap.size w w') : Fr F w w' := ⟨h.os, h.tape, h.output, h.size, fun k hk _ => h.block k hk⟩
theorem Fr.below {F : Nat → Prop} {B : Nat} {w w' : World} (h : Fr F w w') (hB : B ≤ w.heap.size) (hF : ∀ k, F k → B ≤ k) : Below B w w' :=
  ⟨h.os, h.tape, h.output, h.size, fun k hk => h.block k (by omega) (fun hf => by have := hF k hf; omega)⟩
theorem Fr.drew {F : Nat → Prop} {a w : World} (h : Fr F a w) : Fr F a w.drew := ⟨h.os, h.tape, h.output, h.size, h.block⟩
theorem Fr.alloc {F : Nat → Prop} {a w : World} (h : Fr F a w) (o : Obj) : Fr F a (w.alloc o) :=
  ⟨h.os, h.tape, h.output, Nat.le_trans h.size (by simp), fun k hk hn => (Below.heap_alloc w o k (Nat.lt_of_lt_of_le hk h.size)).trans (h.block k hk hn)⟩
theorem Fr.setCell {F : Nat → Prop} {a w : World} (h : Fr F a w) {p : Addr} (hp : F p.block ∨ a.heap.size ≤ p.block) (u : Value) : Fr F a (w.setCell p u) :=
  ⟨h.os, h.tape, h.output, Nat.le_trans h.size (by simp [World.setCell]), fun k hk hn => (Below.heap_setCell w p u k (fun e => by subst e; rcases hp with hp | hp; exact hn hp; omega)).trans (h.block k hk hn)⟩
theorem Fr.grown {F : Nat → Prop} {a w w' : World} {row : Option Nat} (h : Fr F a w) (hg : w.grownBy w' row) (hr : ∀ k, row = some k → F k ∨ a.heap.size ≤ k) : Fr F a w' :=
  ⟨hg.os.trans h.os, hg.tape.trans h.tape, hg.output.trans h.output, Nat.le_trans h.size hg.size, fun k hk hn =>
    (hg.block k (Nat.lt_of_lt_of_le hk h.size) (fun e => by rcases hr k e.symm with h1 | h1; exact hn h1; omega)).trans (h.block k hk hn)⟩

/-! ### What hangs on single blocks -/
theorem row_same {w w' : World} {b : Nat} {e : TypeId} {s : Nat} {v : Value} {n : Nat} {xs : List Value} (h : w.ownsRow b e s v n xs) (hk : ∀ k, v.ownBlock = some k → w'.heap[k]? = w.heap[k]?) : w'.ownsRow b e s v n xs := by
  obtain ⟨h1, h2⟩ := h
  refine ⟨h1, ?_⟩
  rcases h2 with h2 | ⟨g, cap, cur, rfl, h3, h4, h5⟩
  · exact .inl h2
  · exact .inr ⟨g, cap, cur, rfl, h3, (hk g rfl).trans h4, h5⟩
theorem row_at {w : World} {b : Nat} {e : TypeId} {s : Nat} {v : Value} {n : Nat} {xs : List Value} (h : w.ownsRow b e s v n xs) {k : Nat} (hk : v.ownBlock = some k) : ∃ cur, w.heap[k]? = some (.cells cur e (0, 0)) := by
  rcases h.2 with ⟨rfl, _⟩ | ⟨g, cap, cur, rfl, h3, h4, h5⟩
  · cases hk
  · cases hk; exact ⟨cur, h4⟩
theorem map_same {H : Type} {w w' : World} {P : Program} {k : TypeId} {R : Value → Option (DataW H × List MemPlace)} {b n : Nat} {D : DataW H} (h : w.ownsMap P k R b n D) (hk : w'.heap[b]? = w.heap[b]?) : w'.ownsMap P k R b n D := by
  obtain ⟨es, clock, hb, r⟩ := h
  exact ⟨es, clock, hk.trans hb, r⟩

/-! ### The two maps -/
abbrev mapR : Value → Option (DataW Unit × List MemPlace)
  | .map (some b) => some (.lit (.int .i64 b), [])
  | .map none => some (.nil, [])
  | _ => none
def accL : List Value → Option (DataW Unit × List MemPlace)
  | [.int .i64 r, .int .i64 w] => some (.agg [.lit (.int .i64 r), .lit (.int .i64 w)], [])
  | _ => none
def accR : Value → Option (DataW Unit × List MemPlace)
  | .agg c => accL c.toList
  | _ => none
def mapD : Option Nat → DataW Unit
  | some b => .lit (.int .i64 b)
  | none => .nil
def accD (p : Int × Int) : DataW Unit := .agg [.lit (.int .i64 p.1), .lit (.int .i64 p.2)]

theorem accR_inv {v : Value} {y : DataW Unit × List MemPlace} (h : accR v = some y) : ∃ p : Int × Int, v = .agg #[.int .i64 p.1, .int .i64 p.2] ∧ y = (accD p, []) := by
  unfold accR at h
  split at h
  · rename_i c
    obtain ⟨l⟩ := c
    unfold accL at h
    split at h
    · rename_i e
      cases h
      simp only at e
      subst e
      exact ⟨(_, _), rfl, rfl⟩
    · cases h
  · cases h
theorem accR_mk (p : Int × Int) : accR (.agg #[.int .i64 p.1, .int .i64 p.2]) = some (accD p, []) := rfl
theorem accD_inj {p q : Int × Int} (h : accD p = accD q) : p = q := by
  unfold accD at h
  injection h with h
  injection h with h1 h2
  injection h2 with h2 h3
  injection h1 with h1
  injection h2 with h2
  injection h1 with _ h1
  injection h2 with _ h2
  exact Prod.ext h1 h2
theorem mapR_inv {v : Value} {y : DataW Unit × List MemPlace} (h : mapR v = some y) : ∃ o, v = .map o ∧ y = (mapD o, []) := by
  unfold mapR at h
  split at h
  · cases h; exact ⟨some _, rfl, rfl⟩
  · cases h; exact ⟨none, rfl, rfl⟩
  · cases h
theorem mapD_inj {p q : Option Nat} (h : mapD p = mapD q) : p = q := by
  cases p <;> cases q <;> simp [mapD] at h ⊢
  omega

def wfi (k : Int) : Prop := (Lit.int .i64 k).wf = true

/-- Block b is a map from ints to maps. -/
def OuterMap (w : World) (b n : Nat) (f : Int → Option Nat) : Prop :=
  ∃ D : DataW Unit, w.ownsMap Try.prog 3 mapR b n D ∧ Maps.IsMap D ∧ ∀ k, wfi k → D.atKey (.int .i64 k) .nil = mapD (f k)
/-- Block b is a map from ints (that are not below 0) to accesses. -/
def InnerMap (w : World) (b n : Nat) (g : Int → Int × Int) : Prop :=
  ∃ D : DataW Unit, w.ownsMap Try.prog 3 accR b n D ∧ Maps.IsMap D ∧ (∀ k, wfi k → D.atKey (.int .i64 k) (accD (0, 0)) = accD (g k)) ∧ ∀ k, Maps.has D (.int .i64 k) = true → 0 ≤ k

theorem OuterMap.same {w w' : World} {b n : Nat} {f : Int → Option Nat} (h : OuterMap w b n f) (hk : w'.heap[b]? = w.heap[b]?) : OuterMap w' b n f := by
  obtain ⟨D, h1, h2⟩ := h
  exact ⟨D, map_same h1 hk, h2⟩
theorem InnerMap.same {w w' : World} {b n : Nat} {f : Int → Int × Int} (h : InnerMap w b n f) (hk : w'.heap[b]? = w.heap[b]?) : InnerMap w' b n f := by
  obtain ⟨D, h1, h2⟩ := h
  exact ⟨D, map_same h1 hk, h2⟩
theorem OuterMap.mono {w : World} {b n m : Nat} {f : Int → Option Nat} (h : OuterMap w b n f) (hm : n ≤ m) : OuterMap w b m f := by
  obtain ⟨D, h1, h2⟩ := h
  exact ⟨D, h1.mono hm, h2⟩
theorem InnerMap.mono {w : World} {b n m : Nat} {f : Int → Int × Int} (h : InnerMap w b n f) (hm : n ≤ m) : InnerMap w b m f := by
  obtain ⟨D, h1, h2⟩ := h
  exact ⟨D, h1.mono hm, h2⟩
theorem OuterMap.isMap {w : World} {b n : Nat} {f : Int → Option Nat} (h : OuterMap w b n f) : ∃ es c, w.heap[b]? = some (.map es c) := by
  obtain ⟨D, ⟨es, c, h1, _⟩, _⟩ := h
  exact ⟨es, c, h1⟩
theorem InnerMap.isMap {w : World} {b n : Nat} {f : Int → Int × Int} (h : InnerMap w b n f) : ∃ es c, w.heap[b]? = some (.map es c) := by
  obtain ⟨D, ⟨es, c, h1, _⟩, _⟩ := h
  exact ⟨es, c, h1⟩

/-! ### The invariant -/
structure OSt where
  bo : Nat
  bk : Nat
  cap : Nat
  rows : List Value
  bm : Nat
  inner : Int → Option Nat

def OSt.fp (st : OSt) (k : Nat) : Prop := k = st.bo ∨ k = st.bk ∨ (∃ i, i < st.rows.length ∧ (st.rows.getD i undef).ownBlock = some k) ∨ k = st.bm ∨ ∃ c, wfi c ∧ st.inner c = some k

abbrev Acc := Int → Int → Int × Int

structure Ord (w : World) (st : OSt) (K : List (List Int)) (P : Acc) (N : Nat) : Prop where
  small : N ≤ 100000
  klen : K.length ≤ N + 1
  kpos : 0 < K.length
  rlen : ∀ i, (K.getD i []).length ≤ N + 1
  rval : ∀ i j, 0 ≤ (K.getD i []).getD j 0 ∧ (K.getD i []).getD j 0 ≤ N
  ob : w.heap[st.bo]? = some (.cells #[.slice (some ⟨st.bk, 0, none⟩) K.length st.cap, .map (some st.bm)] 51 (0, 0))
  kn : w.ownsRow 0 46 1 (.slice (some ⟨st.bk, 0, none⟩) K.length st.cap) K.length st.rows
  row : ∀ i, i < K.length → w.ownsRow 0 3 1 (st.rows.getD i undef) (K.getD i []).length (ints (K.getD i []))
  apart : ∀ i j b, i < K.length → j < K.length → (st.rows.getD i undef).ownBlock = some b → (st.rows.getD j undef).ownBlock = some b → i = j
  outer : OuterMap w st.bm N st.inner
  inn : ∀ c b, wfi c → st.inner c = some b → InnerMap w b N (P c) ∧ b ≠ st.bm
  innN : ∀ c k, wfi c → st.inner c = none → P c k = (0, 0)
  innA : ∀ c d b, wfi c → wfi d → st.inner c = some b → st.inner d = some b → c = d

theorem Ord.rowsLen {w : World} {st : OSt} {K : List (List Int)} {P : Acc} {N : Nat} (h : Ord w st K P N) : st.rows.length = K.length := by
  have := h.kn.1; omega

theorem Ord.frame {w w' : World} {st : OSt} {K : List (List Int)} {P : Acc} {N : Nat} (h : Ord w st K P N) (hk : ∀ k, st.fp k → w'.heap[k]? = w.heap[k]?) : Ord w' st K P N where
  small := h.small
  klen := h.klen
  kpos := h.kpos
  rlen := h.rlen
  rval := h.rval
  ob := (hk _ (.inl rfl)).trans h.ob
  kn := row_same h.kn (fun k e => by cases e; exact hk _ (.inr (.inl rfl)))
  row := fun i hi => row_same (h.row i hi) (fun k e => hk _ (.inr (.inr (.inl ⟨i, by rw [h.rowsLen]; exact hi, e⟩))))
  apart := h.apart
  outer := h.outer.same (hk _ (.inr (.inr (.inr (.inl rfl)))))
  inn := fun c b hc hb => ⟨(h.inn c b hc hb).1.same (hk _ (.inr (.inr (.inr (.inr ⟨c, hc, hb⟩))))), (h.inn c b hc hb).2⟩
  innN := h.innN
  innA := h.innA

theorem Ord.mono {w : World} {st : OSt} {K : List (List Int)} {P : Acc} {N M : Nat} (h : Ord w st K P N) (hm : N ≤ M) (hs : M ≤ 100000) : Ord w st K P M where
  small := hs
  klen := by have := h.klen; omega
  kpos := h.kpos
  rlen := fun i => by have := h.rlen i; omega
  rval := fun i j => by have := h.rval i j; omega
  ob := h.ob
  kn := h.kn
  row := h.row
  apart := h.apart
  outer := h.outer.mono hm
  inn := fun c b hc hb => ⟨(h.inn c b hc hb).1.mono hm, (h.inn c b hc hb).2⟩
  innN := h.innN
  innA := h.innA

/-- All that an order owns is there. -/
theorem Ord.lt {w : World} {st : OSt} {K : List (List Int)} {P : Acc} {N : Nat} (h : Ord w st K P N) : ∀ k, st.fp k → k < w.heap.size := by
  intro k hk
  rcases hk with rfl | rfl | ⟨i, hi, e⟩ | rfl | ⟨c, hc, e⟩
  · exact (Array.getElem?_eq_some_iff.1 h.ob).1
  · exact (h.kn.lt _ rfl).2
  · rw [h.rowsLen] at hi; exact ((h.row i hi).lt _ e).2
  · obtain ⟨es, c, e⟩ := h.outer.isMap; exact (Array.getElem?_eq_some_iff.1 e).1
  · obtain ⟨es, c', e'⟩ := (h.inn c k hc e).1.isMap; exact (Array.getElem?_eq_some_iff.1 e').1

theorem Ord.of_below {w w' : World} {st : OSt} {K : List (List Int)} {P : Acc} {N : Nat} (h : Ord w st K P N) (hb : Below w.heap.size w w') : Ord w' st K P N :=
  h.frame (fun k hk => hb.block k (h.lt k hk))
theorem Ord.drew {w : World} {st : OSt} {K : List (List Int)} {P : Acc} {N : Nat} (h : Ord w st K P N) : Ord w.drew st K P N := h.frame (fun _ _ => rfl)
theorem Ord.alloc {w : World} {st : OSt} {K : List (List Int)} {P : Acc} {N : Nat} (h : Ord w st K P N) (o : Obj) : Ord (w.alloc o) st K P N := h.frame (fun k hk => Below.heap_alloc w o k (h.lt k hk))

/-- The cells of an order that are read. -/
theorem Ord.c0 {w : World} {st : OSt} {K : List (List Int)} {P : Acc} {N : Nat} (h : Ord w st K P N) : w.cell? ⟨st.bo, 0, none⟩ = some (.slice (some ⟨st.bk, 0, none⟩) K.length st.cap) := by
  simp [World.cell?, h.ob]
theorem Ord.c1 {w : World} {st : OSt} {K : List (List Int)} {P : Acc} {N : Nat} (h : Ord w st K P N) : w.cell? ⟨st.bo, 1, none⟩ = some (.map (some st.bm)) := by
  simp [World.cell?, h.ob]
theorem Ord.ck {w : World} {st : OSt} {K : List (List Int)} {P : Acc} {N : Nat} (h : Ord w st K P N) {i : Nat} (hi : i < K.length) : w.cell? ⟨st.bk, i, none⟩ = some (st.rows.getD i undef) := by
  have hl := h.rowsLen
  have := h.kn.cells (g := st.bk) rfl i (st.rows.getD i undef) (by simp [List.getD, hl, hi])
  simpa [Addr.add_lit] using this
theorem Ord.f0 {w : World} {st : OSt} {K : List (List Int)} {P : Acc} {N : Nat} (h : Ord w st K P N) (j : Nat) : w.frozen? ⟨st.bo, j, none⟩ = false := by
  simp [World.frozen?, h.ob]
theorem Ord.fk {w : World} {st : OSt} {K : List (List Int)} {P : Acc} {N : Nat} (h : Ord w st K P N) (j : Nat) : w.frozen? ⟨st.bk, j, none⟩ = false := by
  obtain ⟨cur, e⟩ := row_at h.kn (k := st.bk) rfl
  simp [World.frozen?, e]

/-- Its blocks are of different kinds. -/
theorem Ord.bk_at {w : World} {st : OSt} {K : List (List Int)} {P : Acc} {N : Nat} (h : Ord w st K P N) : ∃ cur, w.heap[st.bk]? = some (.cells cur 46 (0, 0)) := row_at h.kn rfl
theorem Ord.row_cells {w : World} {st : OSt} {K : List (List Int)} {P : Acc} {N : Nat} (h : Ord w st K P N) {i k : Nat} (hi : i < K.length) (e : (st.rows.getD i undef).ownBlock = some k) : ∃ cur, w.heap[k]? = some (.cells cur 3 (0, 0)) := row_at (h.row i hi) e
theorem Ord.bo_ne_bk {w : World} {st : OSt} {K : List (List Int)} {P : Acc} {N : Nat} (h : Ord w st K P N) : st.bo ≠ st.bk := by
  intro e
  obtain ⟨cur, e2⟩ := h.bk_at
  rw [← e, h.ob] at e2
  simp at e2
theorem Ord.row_ne_bo {w : World} {st : OSt} {K : List (List Int)} {P : Acc} {N : Nat} (h : Ord w st K P N) {i k : Nat} (hi : i < K.length) (e : (st.rows.getD i undef).ownBlock = some k) : k ≠ st.bo := by
  intro e1
  obtain ⟨cur, e2⟩ := h.row_cells hi e
  rw [e1, h.ob] at e2
  simp at e2
theorem Ord.row_ne_bk {w : World} {st : OSt} {K : List (List Int)} {P : Acc} {N : Nat} (h : Ord w st K P N) {i k : Nat} (hi : i < K.length) (e : (st.rows.getD i undef).ownBlock = some k) : k ≠ st.bk := by
  intro e1
  obtain ⟨cur, e2⟩ := h.row_cells hi e
  obtain ⟨cur', e3⟩ := h.bk_at
  rw [e1, e3] at e2
  simp at e2
theorem map_ne_cells {w : World} {b k : Nat} {es : Array MapEntry} {c : Nat} {cur : Array Value} {e : TypeId} {f : Nat × Nat} (h : w.heap[b]? = some (.map es c)) (h' : w.heap[k]? = some (.cells cur e f)) : b ≠ k := by
  intro e1
  rw [e1, h'] at h
  cases h
theorem Ord.bm_ne {w : World} {st : OSt} {K : List (List Int)} {P : Acc} {N : Nat} (h : Ord w st K P N) {k : Nat} {cur : Array Value} {e : TypeId} {f : Nat × Nat} (h' : w.heap[k]? = some (.cells cur e f)) : st.bm ≠ k := by
  obtain ⟨es, c, e1⟩ := h.outer.isMap
  exact map_ne_cells e1 h'
theorem Ord.inner_ne {w : World} {st : OSt} {K : List (List Int)} {P : Acc} {N : Nat} (h : Ord w st K P N) {d : Int} {b k : Nat} {cur : Array Value} {e : TypeId} {f : Nat × Nat} (hd : wfi d) (hb : st.inner d = some b) (h' : w.heap[k]? = some (.cells cur e f)) : b ≠ k := by
  obtain ⟨es, c, e1⟩ := (h.inn d b hd hb).1.isMap
  exact map_ne_cells e1 h'

end Go.Proofs.Ytkcaeeighjblkaa
