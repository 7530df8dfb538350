/- What the document's order of clocks is in memory. No condition. -/
import Derived.Test.YtkcaeeighjblkaaIntRows
namespace Go.Proofs.Ytkcaeeighjblkaa
open Go.RowKit

/-- Who, its number, whether it was a write, the cell. -/
abbrev Acs := List (Nat × Int × Bool × Int)
def acOf (a : Nat × Int × Bool × Int) : List Value := [.int .i64 a.1, .int .i64 a.2.1, .bool a.2.2.1, .int .i64 a.2.2.2]
def accs (A : Acs) : List Value := A.flatMap acOf

theorem accs_len (A : Acs) : (accs A).length = A.length * 4 := by
  induction A with
  | nil => rfl
  | cons a A ih => simp [accs, acOf] at ih ⊢; omega
theorem accs_snoc (A : Acs) (a : Nat × Int × Bool × Int) : accs (A ++ [a]) = accs A ++ acOf a := by simp [accs]
theorem accs_at (A : Acs) (i j : Nat) (hi : i < A.length) (hj : j < 4) : (accs A)[i * 4 + j]? = (acOf (A.getD i (0, 0, false, 0)))[j]? := by
  induction A generalizing i with
  | nil => simp at hi
  | cons a A ih =>
    cases i with
    | zero =>
      show (acOf a ++ accs A)[0 * 4 + j]? = _
      rw [List.getElem?_append_left (by simp [acOf]; omega)]
      simp
    | succ i =>
      show (acOf a ++ accs A)[(i + 1) * 4 + j]? = _
      rw [List.getElem?_append_right (by simp [acOf]; omega)]
      have e : (i + 1) * 4 + j - (acOf a).length = i * 4 + j := by simp [acOf]; omega
      rw [e, ih i (by simp at hi; omega)]
      simp

structure RSt where
  po : Nat
  pk : Nat
  cap : Nat
  rows : List Value
  av : Value

abbrev RSt.kv (st : RSt) (n : Nat) : Value := .slice (some ⟨st.pk, 0, none⟩) n st.cap
def RSt.fp (st : RSt) (n : Nat) (k : Nat) : Prop := k = st.po ∨ rowsFp (st.kv n) st.rows k ∨ st.av.ownBlock = some k

structure ROrd (w : World) (st : RSt) (K : List (List Int)) (A : Acs) (N : Nat) : Prop where
  small : N ≤ 100000
  klen : K.length ≤ N + 1
  kpos : 0 < K.length
  rlen : ∀ i, (K.getD i []).length ≤ N + 2
  rpos : ∀ i, i < K.length → 0 < (K.getD i []).length
  rval : ∀ i j, 0 ≤ (K.getD i []).getD j 0 ∧ (K.getD i []).getD j 0 ≤ N
  ob : w.heap[st.po]? = some (.cells #[st.kv K.length, st.av] 60 (0, 0))
  rs : IRows w (st.kv K.length) st.rows K
  ac : w.ownsRow 0 70 4 st.av A.length (accs A)
  alen : A.length ≤ N
  aval : ∀ a ∈ A, 0 ≤ a.2.1 ∧ a.2.1 ≤ N

section
variable {w w' : World} {st : RSt} {K : List (List Int)} {A : Acs} {N : Nat}
theorem ROrd.frame (h : ROrd w st K A N) (hk : ∀ k, st.fp K.length k → w'.heap[k]? = w.heap[k]?) : ROrd w' st K A N where
  small := h.small
  klen := h.klen
  kpos := h.kpos
  rlen := h.rlen
  rpos := h.rpos
  rval := h.rval
  ob := (hk _ (.inl rfl)).trans h.ob
  rs := h.rs.frame (fun k e => hk k (.inr (.inl e)))
  ac := row_same h.ac (fun k e => hk k (.inr (.inr e)))
  alen := h.alen
  aval := h.aval
theorem ROrd.mono {M : Nat} (h : ROrd w st K A N) (hm : N ≤ M) (hs : M ≤ 100000) : ROrd w st K A M where
  small := hs
  klen := by have := h.klen; omega
  kpos := h.kpos
  rlen := fun i => by have := h.rlen i; omega
  rpos := h.rpos
  rval := fun i j => by have := h.rval i j; omega
  ob := h.ob
  rs := h.rs
  ac := h.ac
  alen := by have := h.alen; omega
  aval := fun a ha => by have := h.aval a ha; omega
theorem ROrd.lt (h : ROrd w st K A N) : ∀ k, st.fp K.length k → k < w.heap.size := by
  rintro k (rfl | e | e)
  · exact (Array.getElem?_eq_some_iff.1 h.ob).1
  · exact h.rs.lt k e
  · exact (h.ac.lt _ e).2
theorem ROrd.of_below (h : ROrd w st K A N) (hb : Below w.heap.size w w') : ROrd w' st K A N := h.frame (fun k hk => hb.block k (h.lt k hk))
theorem ROrd.drew (h : ROrd w st K A N) : ROrd w.drew st K A N := h.frame (fun _ _ => rfl)
theorem ROrd.alloc (h : ROrd w st K A N) (o : Obj) : ROrd (w.alloc o) st K A N := h.frame (fun k hk => Below.heap_alloc w o k (h.lt k hk))

theorem ROrd.c0 (h : ROrd w st K A N) : w.cell? ⟨st.po, 0, none⟩ = some (.slice (some ⟨st.pk, 0, none⟩) K.length st.cap) := by simp [World.cell?, h.ob]
theorem ROrd.c1 (h : ROrd w st K A N) : w.cell? ⟨st.po, 1, none⟩ = some st.av := by simp [World.cell?, h.ob]
theorem ROrd.ck (h : ROrd w st K A N) {i : Nat} (hi : i < K.length) : w.cell? ⟨st.pk, i, none⟩ = some (st.rows.getD i undef) := h.rs.ck hi
theorem ROrd.f0 (h : ROrd w st K A N) (j : Nat) : w.frozen? ⟨st.po, j, none⟩ = false := by simp [World.frozen?, h.ob]
theorem ROrd.fk (h : ROrd w st K A N) (j : Nat) : w.frozen? ⟨st.pk, j, none⟩ = false := h.rs.fk j

/-- Its blocks are of different kinds. -/
theorem ROrd.po_ne (h : ROrd w st K A N) : ¬ rowsFp (st.kv K.length) st.rows st.po := by
  intro e
  obtain ⟨c, t, e1, e2⟩ := h.rs.fp_at e
  rw [h.ob] at e1
  simp at e1
  rcases e2 with e2 | e2 <;> (rw [e2] at e1; simp at e1)
theorem ROrd.av_at (h : ROrd w st K A N) {k : Nat} (e : st.av.ownBlock = some k) : ∃ cur, w.heap[k]? = some (.cells cur 70 (0, 0)) := row_at h.ac e
theorem ROrd.av_ne_po (h : ROrd w st K A N) : st.av.ownBlock ≠ some st.po := by
  intro e
  obtain ⟨c, e1⟩ := h.av_at e
  rw [h.ob] at e1
  simp at e1
theorem ROrd.av_ne_rows (h : ROrd w st K A N) {k : Nat} (e : st.av.ownBlock = some k) : ¬ rowsFp (st.kv K.length) st.rows k := by
  intro e'
  obtain ⟨c, e1⟩ := h.av_at e
  obtain ⟨c', t, e2, e3⟩ := h.rs.fp_at e'
  rw [e1] at e2
  simp at e2
  rcases e3 with e3 | e3 <;> (rw [← e2.2] at e3; simp at e3)
theorem ROrd.po_ne_pk (h : ROrd w st K A N) : st.po ≠ st.pk := fun e => h.po_ne (.inl (by rw [e]; rfl))

/-- The rows are turned, and nothing else. -/
theorem ROrd.rows {M : Nat} {K' : List (List Int)} {rows' : List Value} (h : ROrd w st K A N) (hNM : N ≤ M) (hM : M ≤ 100000) (hl : K'.length = K.length)
    (hr : IRows w' (st.kv K.length) rows' K') (hf : Fr (rowsFp (st.kv K.length) st.rows) w w')
    (hrl : ∀ i, (K'.getD i []).length ≤ M + 2) (hrp : ∀ i, i < K.length → 0 < (K'.getD i []).length) (hrv : ∀ i j, 0 ≤ (K'.getD i []).getD j 0 ∧ (K'.getD i []).getD j 0 ≤ M) :
    ROrd w' ⟨st.po, st.pk, st.cap, rows', st.av⟩ K' A M where
  small := hM
  klen := by have := h.klen; omega
  kpos := by have := h.kpos; omega
  rlen := hrl
  rpos := fun i hi => hrp i (by omega)
  rval := hrv
  ob := by
    have := (hf.block _ (h.lt _ (.inl rfl)) h.po_ne).trans h.ob
    rw [hl]; exact this
  rs := by rw [hl]; exact hr
  ac := row_same h.ac (fun k e => hf.block k (h.ac.lt _ e).2 (h.av_ne_rows e))
  alen := by have := h.alen; omega
  aval := fun a ha => by have := h.aval a ha; omega
end
end Go.Proofs.Ytkcaeeighjblkaa
