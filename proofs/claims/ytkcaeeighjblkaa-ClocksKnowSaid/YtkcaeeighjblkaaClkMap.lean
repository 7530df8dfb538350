/- The two maps of an order: read and written. No condition. -/
import Derived.Test.YtkcaeeighjblkaaClkTurn
namespace Go.Proofs.Ytkcaeeighjblkaa
open Go.RowKit

theorem keyI : Maps.Keyed Try.prog 3 := Maps.int_keyed Try.underlying3
theorem zeroMap (w : World) : (zeroValue 66).run Try.prog w = .ok (.map none) w := by kernel_rfl
theorem zeroAcc (w : World) : (zeroValue 68).run Try.prog w = .ok (.agg #[.int .i64 0, .int .i64 0]) w := by kernel_rfl
theorem keyOfI {c : Int} (h : wfi c) : keyOf Try.prog 3 (.int .i64 c) = some (.int .i64 c) := Maps.keyOf_int_mk Try.underlying3 h
theorem isKeyI (c : Int) : WideAt.IsKeyLit (.int .i64 c) := by trivial

theorem outer_lookup {w : World} {b n : Nat} {f : Int → Option Nat} (h : OuterMap w b n f) {c : Int} (hc : wfi c) :
    (Instr.lookup 49 (.map (some b)) (.int .i64 c) false).run Try.prog w = .ok (.map (f c)) w := by
  obtain ⟨D, hown, _, hD⟩ := h
  obtain ⟨v, ps, hrun, hv⟩ := hown.lookup keyI Try.underlying49 (zeroMap w) (zd := .nil) (zp := []) rfl (keyOfI hc)
  obtain ⟨o, rfl, e⟩ := mapR_inv hv
  have e1 : D.atKey (.int .i64 c) .nil = mapD o := (Prod.mk.inj e).1
  rw [hD c hc] at e1
  rw [hrun, mapD_inj e1]

theorem inner_lookup {w : World} {b n : Nat} {g : Int → Int × Int} (h : InnerMap w b n g) {c : Int} (hc : wfi c) :
    (Instr.lookup 66 (.map (some b)) (.int .i64 c) false).run Try.prog w = .ok (.agg #[.int .i64 (g c).1, .int .i64 (g c).2]) w := by
  obtain ⟨D, hown, _, hD, _⟩ := h
  obtain ⟨v, ps, hrun, hv⟩ := hown.lookup keyI Try.underlying66 (zeroAcc w) (zd := accD (0, 0)) (zp := []) rfl (keyOfI hc)
  obtain ⟨p, rfl, e⟩ := accR_inv hv
  have e1 : D.atKey (.int .i64 c) (accD (0, 0)) = accD p := (Prod.mk.inj e).1
  rw [hD c hc] at e1
  rw [hrun, accD_inj e1]

theorem outer_update {w : World} {b n : Nat} {f : Int → Option Nat} (h : OuterMap w b n f) (hn : n ≤ 1000000) {c : Int} (hc : wfi c) (b2 : Nat) :
    ∃ w', (Instr.mapUpdate 49 (.map (some b)) (.int .i64 c) (.map (some b2))).run Try.prog w = .ok () w' ∧ OuterMap w' b (n + 1) (fun k => if k = c then some b2 else f k) ∧ w.grownBy w' (some b) := by
  obtain ⟨D, hown, hmap, hD⟩ := h
  obtain ⟨w', hrun, h1, h2⟩ := hown.update keyI Try.underlying49 (by unfold maxLen; omega) (keyOfI hc) (val := .map (some b2)) (d := mapD (some b2)) (ps := []) rfl
  refine ⟨w', hrun, ⟨_, h1, hmap.put _ _, fun k hk => ?_⟩, h2⟩
  by_cases e : k = c
  · subst e; rw [Maps.atKey_put_same hmap (isKeyI _)]; simp
  · rw [Maps.atKey_put_other (by intro e2; cases e2; exact e rfl), hD k hk]; simp [e]

theorem inner_update {w : World} {b n : Nat} {g : Int → Int × Int} (h : InnerMap w b n g) (hn : n ≤ 1000000) {c : Int} (hc : wfi c) (h0 : 0 ≤ c) (p : Int × Int) :
    ∃ w', (Instr.mapUpdate 66 (.map (some b)) (.int .i64 c) (.agg #[.int .i64 p.1, .int .i64 p.2])).run Try.prog w = .ok () w' ∧ InnerMap w' b (n + 1) (fun k => if k = c then p else g k) ∧ w.grownBy w' (some b) := by
  obtain ⟨D, hown, hmap, hD, hpos⟩ := h
  obtain ⟨w', hrun, h1, h2⟩ := hown.update keyI Try.underlying66 (by unfold maxLen; omega) (keyOfI hc) (val := .agg #[.int .i64 p.1, .int .i64 p.2]) (d := accD p) (ps := []) (accR_mk p)
  refine ⟨w', hrun, ⟨_, h1, hmap.put _ _, fun k hk => ?_, fun k hk => ?_⟩, h2⟩
  · by_cases e : k = c
    · subst e; rw [Maps.atKey_put_same hmap (isKeyI _)]; simp
    · rw [Maps.atKey_put_other (by intro e2; cases e2; exact e rfl), hD k hk]; simp [e]
  · by_cases e : k = c
    · subst e; exact h0
    · rw [Maps.has_put_other (by intro e2; cases e2; exact e rfl)] at hk
      exact hpos k hk

def OSt.setInner (st : OSt) (c : Int) (b : Nat) : OSt := ⟨st.bo, st.bk, st.cap, st.rows, st.bm, fun k => if k = c then some b else st.inner k⟩

/-- A cell that nobody has come to yet gets a map. -/
theorem Ord.newCell {w : World} {st : OSt} {K : List (List Int)} {P : Acc} {M : Nat} (h : Ord w st K P M) (hM : M < 100000) {c : Int} (hc : wfi c) (hn : st.inner c = none) :
    ∃ w2, (Instr.mapUpdate 49 (.map (some st.bm)) (.int .i64 c) (.map (some w.heap.size))).run Try.prog (w.alloc (.map #[] 0)) = .ok () w2 ∧
      Ord w2 (st.setInner c w.heap.size) K P (M + 1) ∧ Fr st.fp w w2 ∧ ∀ k, (st.setInner c w.heap.size).fp k → st.fp k ∨ w.heap.size ≤ k := by
  have hX := h.alloc (.map #[] 0)
  obtain ⟨w2, hrun, hO, hg⟩ := outer_update hX.outer (by omega) hc w.heap.size
  have hbm := h.lt st.bm (.inr (.inr (.inr (.inl rfl))))
  have hsm : ∀ k, k < w.heap.size → k ≠ st.bm → w2.heap[k]? = w.heap[k]? := fun k hk hne =>
    (hg.block k (by simp; omega) (by simpa using hne)).trans (Below.heap_alloc w _ k hk)
  have hfp : ∀ k, st.fp k → k ≠ st.bm → w2.heap[k]? = w.heap[k]? := fun k hk => hsm k (h.lt k hk)
  obtain ⟨ck, hck⟩ := h.bk_at
  refine ⟨w2, hrun, ⟨by omega, by have := h.klen; omega, h.kpos, fun i => by have := h.rlen i; omega, fun i j => by have := h.rval i j; omega, ?_, ?_, ?_, h.apart, hO, ?_, ?_, ?_⟩, ?_, ?_⟩
  · exact (hfp st.bo (.inl rfl) (fun e => h.bm_ne h.ob e.symm)).trans h.ob
  · exact row_same h.kn (fun k e => by cases e; exact hfp st.bk (.inr (.inl rfl)) (fun e => h.bm_ne hck e.symm))
  · intro i hi
    refine row_same (h.row i hi) (fun k e => hfp k (.inr (.inr (.inl ⟨i, by rw [h.rowsLen]; exact hi, e⟩))) ?_)
    obtain ⟨cr, hcr⟩ := h.row_cells hi e
    exact fun e => h.bm_ne hcr e.symm
  · intro d b hd hb
    simp only [OSt.setInner] at hb
    split at hb
    · rename_i e
      subst e
      cases hb
      refine ⟨?_, by show w.heap.size ≠ st.bm; omega⟩
      have e1 : w2.heap[w.heap.size]? = some (.map #[] 0) := (hg.block _ (by simp) (by simp; omega)).trans (heap_alloc_new w _)
      refine ⟨.map [], ⟨#[], 0, e1, ⟨by simp, MapKept.stamped_empty 0, by simp⟩, Nat.zero_le _, rfl⟩, Maps.isMap_empty, fun k _ => ?_, fun k hk => ?_⟩
      · rw [h.innN d k hd hn]; rfl
      · cases hk
    · exact ⟨((h.inn d b hd hb).1.same (hfp b (.inr (.inr (.inr (.inr ⟨d, hd, hb⟩)))) (h.inn d b hd hb).2)).mono (by omega), (h.inn d b hd hb).2⟩
  · intro d k hd hb
    simp only [OSt.setInner] at hb
    split at hb
    · cases hb
    · exact h.innN d k hd hb
  · intro d d' b hd hd' hb hb'
    simp only [OSt.setInner] at hb hb'
    have hold : ∀ d, wfi d → st.inner d = some b → b < w.heap.size := fun d hd e => h.lt b (.inr (.inr (.inr (.inr ⟨d, hd, e⟩))))
    split at hb
    · split at hb'
      · omega
      · have := hold d' hd' hb'; cases hb; omega
    · split at hb'
      · have := hold d hd hb; cases hb'; omega
      · exact h.innA d d' b hd hd' hb hb'
  · exact ((Fr.refl _ _).alloc _).grown hg (fun k e => by cases e; exact .inl (.inr (.inr (.inr (.inl rfl)))))
  · intro k hk
    rcases hk with e | e | e | e | ⟨d, hd, e⟩
    · exact .inl (.inl e)
    · exact .inl (.inr (.inl e))
    · exact .inl (.inr (.inr (.inl e)))
    · exact .inl (.inr (.inr (.inr (.inl e))))
    · simp only [OSt.setInner] at e
      split at e
      · cases e; exact .inr (Nat.le_refl _)
      · exact .inl (.inr (.inr (.inr (.inr ⟨d, hd, e⟩))))

/-- An access is written down. -/
theorem Ord.setAcc {w : World} {st : OSt} {K : List (List Int)} {P : Acc} {M b : Nat} (h : Ord w st K P M) (hM : M < 100000) {c who : Int} (hc : wfi c) (hb : st.inner c = some b) (hw : wfi who) (h0 : 0 ≤ who) (p : Int × Int) :
    ∃ w2, (Instr.mapUpdate 66 (.map (some b)) (.int .i64 who) (.agg #[.int .i64 p.1, .int .i64 p.2])).run Try.prog w = .ok () w2 ∧
      Ord w2 st K (fun d k => if d = c ∧ k = who then p else P d k) (M + 1) ∧ Fr st.fp w w2 := by
  obtain ⟨w2, hrun, hI, hg⟩ := inner_update (h.inn c b hc hb).1 (by omega) hw h0 p
  have hfp : ∀ k, st.fp k → k ≠ b → w2.heap[k]? = w.heap[k]? := fun k hk hne => hg.block k (h.lt k hk) (by simpa using hne)
  obtain ⟨ck, hck⟩ := h.bk_at
  refine ⟨w2, hrun, ⟨by omega, by have := h.klen; omega, h.kpos, fun i => by have := h.rlen i; omega, fun i j => by have := h.rval i j; omega, ?_, ?_, ?_, h.apart, ?_, ?_, ?_, h.innA⟩, ?_⟩
  · exact (hfp st.bo (.inl rfl) (fun e => h.inner_ne hc hb h.ob e.symm)).trans h.ob
  · exact row_same h.kn (fun k e => by cases e; exact hfp st.bk (.inr (.inl rfl)) (fun e => h.inner_ne hc hb hck e.symm))
  · intro i hi
    refine row_same (h.row i hi) (fun k e => hfp k (.inr (.inr (.inl ⟨i, by rw [h.rowsLen]; exact hi, e⟩))) ?_)
    obtain ⟨cr, hcr⟩ := h.row_cells hi e
    exact fun e => h.inner_ne hc hb hcr e.symm
  · exact (h.outer.same (hfp st.bm (.inr (.inr (.inr (.inl rfl)))) (fun e => (h.inn c b hc hb).2 e.symm))).mono (by omega)
  · intro d b' hd hb'
    by_cases e : d = c
    · subst e
      rw [hb] at hb'
      cases hb'
      refine ⟨?_, (h.inn d b hd hb).2⟩
      simpa using hI
    · have hne : b' ≠ b := fun e2 => e (h.innA d c b hd hc (by rw [hb', e2]) hb)
      have := ((h.inn d b' hd hb').1.same (hfp b' (.inr (.inr (.inr (.inr ⟨d, hd, hb'⟩)))) hne)).mono (Nat.le_succ M)
      refine ⟨?_, (h.inn d b' hd hb').2⟩
      simpa [e] using this
  · intro d k hd hn
    have e : d ≠ c := fun e => by subst e; rw [hb] at hn; cases hn
    simp [e, h.innN d k hd hn]
  · exact (Fr.refl _ _).grown hg (fun k e => by cases e; exact .inl (.inr (.inr (.inr (.inr ⟨c, hc, hb⟩)))))

end Go.Proofs.Ytkcaeeighjblkaa
