/- What the document's order becomes when a row is turned, one is put behind, or an access is. No condition. -/
import Derived.Test.YtkcaeeighjblkaaRefInv
namespace Go.Proofs.Ytkcaeeighjblkaa
open Go.RowKit

section
variable {w w' w1 w2 : World} {st : RSt} {K : List (List Int)} {A : Acs} {N M : Nat}

def RSt.withRows (st : RSt) (rows : List Value) : RSt := ⟨st.po, st.pk, st.cap, rows, st.av⟩

/-- A store of a row into the list of rows. -/
theorem ROrd.store {i : Nat} {v2 : Value} {r2 : List Int} (h : ROrd w st K A N) (hi : i < K.length) (hNM : N ≤ M) (hM : M ≤ 100000)
    (hg : w.grownBy w2 (st.rows.getD i undef).ownBlock) (hv : w2.ownsRow 0 3 1 v2 r2.length (ints r2))
    (hb : ∀ k, v2.ownBlock = some k → (st.rows.getD i undef).ownBlock = some k ∨ w.heap.size ≤ k)
    (hl : r2.length ≤ M + 2) (hp : 0 < r2.length) (hr : ∀ j, 0 ≤ r2.getD j 0 ∧ r2.getD j 0 ≤ M) :
    ROrd (w2.setCell ⟨st.pk, i, none⟩ v2) (st.withRows (st.rows.set i v2)) (K.set i r2) A M ∧ Fr (st.fp K.length) w (w2.setCell ⟨st.pk, i, none⟩ v2) ∧
      ∀ k, (st.withRows (st.rows.set i v2)).fp K.length k → st.fp K.length k ∨ w.heap.size ≤ k := by
  obtain ⟨h1, h2, h3⟩ := h.rs.store hi hg hv hb
  have hKj : ∀ j, (K.set i r2).getD j [] = if i = j then r2 else K.getD j [] := fun j => getD_set_cases _ _ _ _ _ hi
  refine ⟨h.rows hNM hM (by simp) h1 h2 (fun j => ?_) (fun j hj => ?_) (fun j k => ?_), h2.mono (fun k _ e => .inr (.inl e)), ?_⟩
  · rw [hKj]; split
    · exact hl
    · have := h.rlen j; omega
  · rw [hKj]; split
    · exact hp
    · exact h.rpos j hj
  · rw [hKj]; split
    · exact hr k
    · have := h.rval j k; omega
  · rintro k (e | e | e)
    · exact .inl (.inl e)
    · rcases h3 k e with e | e
      · exact .inl (.inr (.inl e))
      · exact .inr e
    · exact .inl (.inr (.inr e))

/-- A number in a row is written. -/
theorem ROrd.poke {i j g cap : Nat} {x : Int} (h : ROrd w st K A N) (hi : i < K.length) (hNM : N ≤ M) (hM : M ≤ 100000)
    (hrow : st.rows.getD i undef = .slice (some ⟨g, 0, none⟩) (K.getD i []).length cap) (hj : j < (K.getD i []).length) (hx : 0 ≤ x ∧ x ≤ M) :
    ROrd (w.setCell ⟨g, j, none⟩ (.int .i64 x)) st (K.set i ((K.getD i []).set j x)) A M ∧ Fr (st.fp K.length) w (w.setCell ⟨g, j, none⟩ (.int .i64 x)) := by
  obtain ⟨h1, h2⟩ := h.rs.poke (x := x) hi hrow hj
  have hKj : ∀ l, (K.set i ((K.getD i []).set j x)).getD l [] = if i = l then (K.getD i []).set j x else K.getD l [] := fun l => getD_set_cases _ _ _ _ _ hi
  refine ⟨h.rows hNM hM (by simp) h1 h2 (fun l => ?_) (fun l hl => ?_) (fun l k => ?_), h2.mono (fun k _ e => .inr (.inl e))⟩
  · rw [hKj]; split
    · rw [List.length_set]; have := h.rlen i; omega
    · have := h.rlen l; omega
  · rw [hKj]; split
    · rw [List.length_set]; omega
    · exact h.rpos l hl
  · rw [hKj]; split
    · by_cases e : j = k
      · subst e; rw [getD_set_eq hj]; exact hx
      · rw [getD_set_other e]; have := h.rval i k; omega
    · have := h.rval l k; omega

/-- What lies beside a row that has grown. -/
theorem ROrd.beside {i : Nat} (h : ROrd w st K A N) (hi : i < K.length) (hg : w.grownBy w2 (st.rows.getD i undef).ownBlock) :
    w2.cell? ⟨st.po, 0, none⟩ = some (.slice (some ⟨st.pk, 0, none⟩) K.length st.cap) ∧ (∀ j, j < K.length → w2.cell? ⟨st.pk, j, none⟩ = some (st.rows.getD j undef)) ∧ ∀ j, w2.frozen? ⟨st.pk, j, none⟩ = false := by
  have h1 : some st.po ≠ (st.rows.getD i undef).ownBlock := fun e => h.po_ne (.inr ⟨i, by rw [h.rs.rowsLen]; exact hi, e.symm⟩)
  have h2 : some st.pk ≠ (st.rows.getD i undef).ownBlock := fun e => h.rs.row_ne_v hi e.symm rfl
  exact ⟨hg.cell h.c0 h1, fun j hj => hg.cell (h.ck hj) h2, fun j => (hg.frozen_far _ (h.lt st.pk (.inr (.inl (.inl rfl)))) h2).trans (h.fk j)⟩

/-- A row is put behind the others; 'w1': the world with the new row in it. -/
theorem ROrd.pushRow {gg cap : Nat} {nv : Value} {r : List Int} {o : Obj} (h : ROrd w st K A N) (hN : N < 100000) (hbel : Below w.heap.size w w1)
    (hv : w1.ownsRow w.heap.size 3 1 nv r.length (ints r))
    (hown2 : w2.ownsRow 0 46 1 (.slice (some ⟨gg, 0, none⟩) (K.length + 1) cap) (K.length + 1) (st.rows ++ [nv])) (hat : AppAt (w1.alloc o) (.slice (some ⟨st.pk, 0, none⟩) K.length st.cap) gg w2)
    (hl : r.length ≤ N + 3) (hp : 0 < r.length) (hr : ∀ j, 0 ≤ r.getD j 0 ∧ r.getD j 0 ≤ N) :
    ROrd (w2.setCell ⟨st.po, 0, none⟩ (.slice (some ⟨gg, 0, none⟩) (K.length + 1) cap)) ⟨st.po, gg, cap, st.rows ++ [nv], st.av⟩ (K ++ [r]) A (N + 1) ∧
      Fr (st.fp K.length) w (w2.setCell ⟨st.po, 0, none⟩ (.slice (some ⟨gg, 0, none⟩) (K.length + 1) cap)) ∧
      ∀ k, (⟨st.po, gg, cap, st.rows ++ [nv], st.av⟩ : RSt).fp (K.length + 1) k → st.fp K.length k ∨ w.heap.size ≤ k := by
  have hX := (h.of_below hbel).alloc o
  have hXs : (w1.alloc o).heap.size = w1.heap.size + 1 := by simp
  have hs1 := hbel.size
  have hlp := h.lt st.po (.inl rfl)
  have hnb : ∀ k, nv.ownBlock = some k → w.heap.size ≤ k ∧ k < w1.heap.size := fun k e => hv.lt k e
  obtain ⟨h1, h2, h3⟩ := hX.rs.push rfl ((row_zero hv).alloc o) (fun k e hk => by
    have := (hnb k e).1
    have := h.lt k (.inr (.inl hk))
    omega) hown2 hat
  have hpo2 : w2.heap[st.po]? = some (.cells #[st.kv K.length, st.av] 60 (0, 0)) := (h2.block _ (by omega) h.po_ne).trans hX.ob
  have hpn : ∀ k, rowsFp (.slice (some ⟨gg, 0, none⟩) (K.length + 1) cap) (st.rows ++ [nv]) k → k ≠ st.po := by
    intro k e e1
    rcases h3 k e with e | e | e
    · exact h.po_ne (e1 ▸ e)
    · have := hnb k e; omega
    · omega
  refine ⟨⟨by omega, ?_, by simp, ?_, ?_, ?_, ?_, ?_, ?_, ?_, ?_⟩, ?_, ?_⟩
  · have := h.klen; simp; omega
  · intro i
    by_cases hi : i < K.length
    · rw [getD_snoc_lt hi]; have := h.rlen i; omega
    · by_cases hi' : i = K.length
      · rw [getD_snoc_eq hi']; omega
      · simp [List.getD, show K.length + 1 ≤ i by omega]
  · intro i hi
    by_cases hi' : i < K.length
    · rw [getD_snoc_lt hi']; exact h.rpos i hi'
    · rw [getD_snoc_eq (by simp at hi; omega)]; exact hp
  · intro i j
    by_cases hi : i < K.length
    · rw [getD_snoc_lt hi]; have := h.rval i j; omega
    · by_cases hi' : i = K.length
      · rw [getD_snoc_eq hi']; have := hr j; omega
      · have e : (K ++ [r]).getD i [] = [] := by simp [List.getD, show K.length + 1 ≤ i by omega]
        rw [e]; simp; omega
  · simp only [World.setCell, Array.getElem?_modify, hpo2]
    simp [RSt.kv]
  · have := h1.frame (w' := w2.setCell ⟨st.po, 0, none⟩ (.slice (some ⟨gg, 0, none⟩) (K.length + 1) cap)) (fun k e => Below.heap_setCell _ _ _ _ (hpn k e))
    simpa [RSt.kv] using this
  · refine row_same h.ac (fun k e => ?_)
    have hk := (h.ac.lt _ e).2
    rw [Below.heap_setCell _ _ _ _ (fun e1 => h.av_ne_po (by simp only at e1; rw [← e1]; exact e))]
    exact (h2.block k (by omega) (h.av_ne_rows e)).trans ((Below.heap_alloc w1 o k (by omega)).trans (hbel.block k hk))
  · have := h.alen; omega
  · intro a ha; have := h.aval a ha; omega
  · refine Fr.setCell (p := ⟨st.po, 0, none⟩) ?_ (.inl (.inl rfl)) _
    exact Fr.trans ((Fr.of_below (F := st.fp K.length) hbel).alloc o) (h2.mono (G := st.fp K.length) (fun k _ e => .inr (.inl e))) (fun _ e => e) (fun _ e => .inl e)
  · rintro k (e | e | e)
    · exact .inl (.inl e)
    · rcases h3 k e with e | e | e
      · exact .inl (.inr (.inl e))
      · exact .inr (hnb k e).1
      · right; omega
    · exact .inl (.inr (.inr e))

/-- An access is put behind the others. -/
theorem ROrd.pushAcc {gg cap : Nat} {a : Nat × Int × Bool × Int} {o : Obj} (h : ROrd w st K A N) (hN : N < 100000)
    (hown2 : w2.ownsRow 0 70 4 (.slice (some ⟨gg, 0, none⟩) (A.length + 1) cap) (A.length + 1) (accs A ++ acOf a)) (hat : AppAt (w.alloc o) st.av gg w2)
    (ha : 0 ≤ a.2.1 ∧ a.2.1 ≤ N) :
    ROrd (w2.setCell ⟨st.po, 1, none⟩ (.slice (some ⟨gg, 0, none⟩) (A.length + 1) cap)) ⟨st.po, st.pk, st.cap, st.rows, .slice (some ⟨gg, 0, none⟩) (A.length + 1) cap⟩ K (A ++ [a]) (N + 1) ∧
      Fr (st.fp K.length) w (w2.setCell ⟨st.po, 1, none⟩ (.slice (some ⟨gg, 0, none⟩) (A.length + 1) cap)) ∧
      ∀ k, (⟨st.po, st.pk, st.cap, st.rows, .slice (some ⟨gg, 0, none⟩) (A.length + 1) cap⟩ : RSt).fp K.length k → st.fp K.length k ∨ w.heap.size ≤ k := by
  have hX := h.alloc o
  have hXs : (w.alloc o).heap.size = w.heap.size + 1 := by simp
  have hgrow := hat.grown
  have hlp := h.lt st.po (.inl rfl)
  have hgb : st.av.ownBlock = some gg ∨ gg = w.heap.size + 1 := by
    rcases hat.at with e | e
    · exact .inl e
    · right; omega
  have hgp : gg ≠ st.po := by
    rcases hgb with e | e
    · exact fun e1 => h.av_ne_po (e1 ▸ e)
    · omega
  have hpo2 : w2.heap[st.po]? = some (.cells #[st.kv K.length, st.av] 60 (0, 0)) := (hgrow.block _ (by omega) (fun e => h.av_ne_po e.symm)).trans hX.ob
  have f2 : Fr (st.fp K.length) w w2 := ((Fr.refl (st.fp K.length) w).alloc o).grown hgrow (fun k e => .inl (.inr (.inr e)))
  refine ⟨⟨by omega, ?_, h.kpos, ?_, h.rpos, ?_, ?_, ?_, ?_, ?_, ?_⟩, Fr.setCell (p := ⟨st.po, 1, none⟩) f2 (.inl (.inl rfl)) _, ?_⟩
  · have := h.klen; omega
  · intro i; have := h.rlen i; omega
  · intro i j; have := h.rval i j; omega
  · simp only [World.setCell, Array.getElem?_modify, hpo2]
    simp [RSt.kv]
  · refine hX.rs.frame (fun k e => ?_)
    have hk := hX.rs.lt k e
    rw [Below.heap_setCell _ _ _ _ (fun e1 => h.po_ne (by simp only at e1; rw [← e1]; exact e))]
    exact hgrow.block k hk (fun e1 => h.av_ne_rows e1.symm e)
  · have := row_same hown2 (w' := w2.setCell ⟨st.po, 1, none⟩ (.slice (some ⟨gg, 0, none⟩) (A.length + 1) cap)) (fun k e => by
      cases e; exact Below.heap_setCell _ _ _ _ hgp)
    rw [accs_snoc]
    simpa using this
  · have := h.alen; simp; omega
  · intro b hb
    rcases List.mem_append.1 hb with e | e
    · have := h.aval b e; omega
    · have : b = a := by simpa using e
      subst this; omega
  · rintro k (e | e | e)
    · exact .inl (.inl e)
    · exact .inl (.inr (.inl e))
    · have hg : gg = k := by simpa [Value.ownBlock] using e
      rcases hgb with e1 | e1
      · left; right; right; rw [e1, hg]
      · right; omega
end
end Go.Proofs.Ytkcaeeighjblkaa
