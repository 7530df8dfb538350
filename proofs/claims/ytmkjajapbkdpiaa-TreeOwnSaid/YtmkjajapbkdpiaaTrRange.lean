/- A loop over All whose body is told that what comes is the next of the nodes. No condition. -/
import Derived.Test.YtmkjajapbkdpiaaTrIdents
namespace Go.Proofs.Ytmkjajapbkdpiaa
open Go.RowKit Go.Shelf
attribute [local go_sem] Oper.semAt_some

/-- The two blocks of a loop's bookkeeping, the record behind the deferred calls. -/
structure Book (W : World) (D : Nat) (r : Loop) : Prop where
  rc : W.heap[D + 1]? = some (.loop r)
  df : W.heap[D]? = some (.deferred (some []))
section
variable {W W' : World} {D : Nat} {r : Loop}
theorem Book.put (h : Book W D r) (r' : Loop) : Book (W.putObj (D + 1) (.loop r')) D r' :=
  ⟨World.putObj_heap_same (Array.getElem?_eq_some_iff.1 h.rc).1, (World.putObj_heap_other (by omega)).trans h.df⟩
theorem Book.keep (h : Book W D r) (hk : KeepsFrom D W W') : Book W' D r :=
  ⟨hk.same _ _ (by omega) h.rc rfl, hk.same _ _ (Nat.le_refl _) h.df rfl⟩
theorem Book.grow (h : Book W D r) (hg : W.grownBy W' none) : Book W' D r :=
  ⟨(hg.block _ (Array.getElem?_eq_some_iff.1 h.rc).1 (by simp)).trans h.rc, (hg.block _ (Array.getElem?_eq_some_iff.1 h.df).1 (by simp)).trans h.df⟩
theorem Book.size (h : Book W D r) : D + 1 < W.heap.size := (Array.getElem?_eq_some_iff.1 h.rc).1
/-- The round's end, whatever jump it leaves. -/
theorem Book.leave (h : Book W D r) (jump : Option Code) :
    ∃ r', r' = { r with state := if jump.isNone then .ready else .done, pending := jump } ∧ (Instr.endRound (D + 1) jump).run Try.prog W = .ok (.bool jump.isNone) (W.putObj (D + 1) (.loop r')) ∧ Book (W.putObj (D + 1) (.loop r')) D r' :=
  ⟨_, rfl, run_endRound jump h.rc, h.put _⟩
end

theorem range_next {n : Nat} {g : Operand} {ps : Array Tmp} {assign body : Code} {Q : Exit → Act → World → Prop} {a : Act} {w : World} (h1 : 1 ≤ n) (B Bt : Nat) {S : World → Nat → Prop} {V : World → Prop} (hS : SOk S V B) (hps : ps.size = 2)
    (hg : a.eval g = .func (.func 34) #[] #[.pointer (some ⟨Bt, 0, none⟩)]) (nd : Nd) (v : Value) (L : List Item) (hV : V w) (hB : w.heap[Bt]? = some (.cells v.cells 24 (0, 0))) (hL : LstN w B 0 nd v L) (hc : nd.c.cnt ≤ 100000000)
    (hb : ∀ (W : World) (l : Nat) (o o' : Obj), w.heap.size ≤ l → W.heap[l]? = some o → o.isCells = false → Keep S V W (W.putObj l o'))
    (I : List Item → World → Prop) (Ix : Code → List Item → World → Prop) (hI : OwnFrom w.heap.size I) (hIx : ∀ c, OwnFrom w.heap.size (Ix c)) (h0 : I [] w) (Ax : Item → Act → World → Prop) (hAx : ∀ x a', OwnFrom w.heap.size (fun (_ : Unit) W => Ax x a' W))
    (hassign : ∀ (l : Nat) (pre : List Item) (x : Item) (W : World) (K : Act → World → Prop), pre ++ [x] <+: L → I pre W → (∀ a' W', KeepsFrom w.heap.size W W' → Keep S V W W' → I pre W' → Ax x a' W' → K a' W') →
      assign.wpIn (Fence.wide.inRound l) (n - 1 - 1) Try.prog (Exit.then K (fun _ _ _ => False)) { tmps := (ps.zip (encI x)).foldl (fun t (p, v) => t.setIfInBounds p v) a.tmps, defers := [] } W)
    (hbody : ∀ (l : Nat) (pre : List Item) (x : Item) (a' : Act) (W : World), pre ++ [x] <+: L → w.heap.size ≤ l → (∃ r, W.heap[l]? = some (.loop r)) → I pre W → Ax x a' W →
      body.wpIn (Fence.wide.inRound l) (n - 1 - 1) Try.prog (ownPostG w.heap.size (Keep S V) I Ix (pre ++ [x]) W) a' W)
    (hdone : ∀ (D : Nat) (W : World), w.heap.size ≤ D → I L W → W.heap[D]? = some (.deferred (some [])) → Q .normal { a with defers := { target := .collected D, args := #[] } :: a.defers } W)
    (hstop : ∀ (D : Nat) (c : Code) (pre : List Item) (W : World), w.heap.size ≤ D → pre <+: L → Ix c pre W → W.heap[D]? = some (.deferred (some [])) → c.wpIn Fence.wide n Try.prog Q { a with defers := { target := .collected D, args := #[] } :: a.defers } W) :
    (Code.rangeFunc g ps assign body).wpIn Fence.wide n Try.prog Q a w := by
  obtain ⟨D, hD⟩ : ∃ D, D = w.heap.size := ⟨_, rfl⟩
  rw [← hD] at hI hIx hAx hassign hbody hdone hstop hb
  refine wpIn_rangeFunc fun fn hfn => ?_
  -- the record, and the world with both blocks
  let rd : LoopState → Option Code → Loop := fun st pe => { state := st, pending := pe, fn := fn, tmps := a.tmps, params := ps, assign := assign, body := body, defers := D }
  have hgr : w.grownBy ((w.alloc (.deferred (some []))).alloc (.loop (rd .ready none))) none := grownBy_trans_none (World.grownBy_alloc w _ none) (World.grownBy_alloc _ _ none)
  have hbk : Book ((w.alloc (.deferred (some []))).alloc (.loop (rd .ready none))) D (rd .ready none) := by
    have q := World.alloc_heap_new (w.alloc (.deferred (some []))) (.loop (rd .ready none))
    rw [World.size_alloc, ← hD] at q
    exact ⟨q, (Below.heap_alloc _ _ _ (by rw [World.size_alloc]; omega)).trans (by rw [hD]; exact World.alloc_heap_new w _)⟩
  have hen := run_enterLoop_outer (P := Try.prog) (w := w) fn a.tmps ps assign body
  rw [← hD] at hen
  obtain ⟨W0, hW0⟩ : ∃ W0, W0 = (w.alloc (.deferred (some []))).alloc (.loop (rd .ready none)) := ⟨_, rfl⟩
  rw [← hW0] at hgr hbk
  have hen : (Instr.enterLoop fn a.tmps ps assign body Fence.wide.round).run Try.prog w = .ok (D + 1, [{ target := .collected D, args := #[] }]) W0 := by rw [hW0]; exact hen
  refine ⟨D + 1, [{ target := .collected D, args := #[] }], W0, { target := .fn (.func 34) #[.pointer (some ⟨Bt, 0, none⟩)], args := #[.func (.yield (D + 1)) #[] #[]] }, W0, 34, #[.func (.yield (D + 1)) #[] #[], .pointer (some ⟨Bt, 0, none⟩)], W0, hen, ?_, fun f' _ => trivial, ?_, fun _ => h1, ?_⟩
  · simp only [resolve, hg]
    simp [go_sem]
  · simp [invoke, go_sem]
  · have hk0 : Keep S V w W0 := Keep.grow hS hgr
    refine (all1_in (n - 1) (D + 1) B Bt hS nd v L (fun pre W => I pre W ∧ Book W D (rd .ready none)) (fun pre W => ∃ c, Ix c pre W ∧ Book W D (rd .done (some c)))
      (fun pre A C hj hAC => ⟨hI pre A C none hj.1 hAC (fun r e => by cases e), hj.2.grow hAC⟩) (fun pre x W hj hp => ?_) _ (hk0.2 hV).1 ((hgr.block Bt (Array.getElem?_eq_some_iff.1 hB).1 (by simp)).trans hB) (hL.cells (Keep.low hS hV hk0)) hc
      ⟨hI [] _ _ none h0 hgr (fun r e => by cases e), hbk⟩).mono ?_
    · -- a round
      obtain ⟨hi, hk⟩ := hj
      refine ⟨_, _, _, _, run_yield hk.rc (by show _ = ps.size; rw [hps]; rfl), roundIn_of_wpIn hfn (hassign (D + 1) pre x W _ hp hi fun a' W1 k1 k2 hi1 hax => ?_)⟩
      have hk1 := hk.keep k1
      have hk2 := hk1.put (rd .busy none)
      refine ⟨_, run_beginRound hk1.rc rfl, wpIn_mono (hbody (D + 1) pre x a' _ hp (by omega) ⟨_, hk2.rc⟩ (hI.putObj _ hi1 (by omega) hk1.rc rfl) ((hAx x a').putObj (s := ()) _ hax (by omega) hk1.rc rfl)) ?_⟩
      have hkb := hb W1 (D + 1) _ (.loop (rd .busy none)) (by omega) hk1.rc rfl
      rintro e a2 W2 hpost
      -- either it goes on, or it leaves by a jump
      have go : KeepsFrom D (W1.putObj (D + 1) (.loop (rd .busy none))) W2 → Keep S V (W1.putObj (D + 1) (.loop (rd .busy none))) W2 → I (pre ++ [x]) W2 → ∃ w', (Instr.endRound (D + 1) none).run Try.prog W2 = .ok (.bool true) w' ∧ (I (pre ++ [x]) w' ∧ Book w' D (rd .ready none)) ∧ Keep S V W w' := fun q1 q2 q3 => by
        obtain ⟨r', e', q4, q5⟩ := (hk2.keep q1).leave none
        subst e'
        exact ⟨_, q4, ⟨hI.putObj _ q3 (by omega) (hk2.keep q1).rc rfl, q5⟩, k2.trans ((hkb.trans q2).trans (hb _ _ _ _ (by omega) (hk2.keep q1).rc rfl))⟩
      have out : ∀ c, KeepsFrom D (W1.putObj (D + 1) (.loop (rd .busy none))) W2 → Ix c (pre ++ [x]) W2 → ∃ w', (Instr.endRound (D + 1) (some c)).run Try.prog W2 = .ok (.bool false) w' ∧ ∃ c, Ix c (pre ++ [x]) w' ∧ Book w' D (rd .done (some c)) := fun c q1 q3 => by
        obtain ⟨r', e', q4, q5⟩ := (hk2.keep q1).leave (some c)
        subst e'
        exact ⟨_, q4, c, (hIx c).putObj _ q3 (by omega) (hk2.keep q1).rc rfl, q5⟩
      match e, hpost with
      | .normal, ⟨q1, q2, q3⟩ =>
        obtain ⟨w', e1, e2, e3⟩ := go q1 q2 q3
        exact ⟨_, w', e1, .inl ⟨rfl, e2, e3⟩⟩
      | .ret, ⟨q1, q2⟩ =>
        obtain ⟨w', e1, e2⟩ := out _ q1 q2
        exact ⟨_, w', e1, .inr ⟨rfl, e2⟩⟩
      | .exit _, ⟨q1, q2⟩ =>
        obtain ⟨w', e1, e2⟩ := out _ q1 q2
        exact ⟨_, w', e1, .inr ⟨rfl, e2⟩⟩
      | .goto _, ⟨q1, q2⟩ =>
        obtain ⟨w', e1, e2⟩ := out _ q1 q2
        exact ⟨_, w', e1, .inr ⟨rfl, e2⟩⟩
      | .panic _, h => exact h.elim
      | .outgrown, h => exact h.elim
    · -- behind the last
      rintro e W2 ⟨⟨u, rfl⟩, h⟩
      rcases h with ⟨ys, rfl, hi, hk⟩ | ⟨pre, hp, c, hi, hk⟩
      · exact ⟨_, _, run_endLoop hk.rc (by simp [rd]), hdone D _ (Nat.le_refl _) (hI.putObj _ hi (by omega) hk.rc rfl) (hk.put _).df⟩
      · exact ⟨_, _, run_endLoop hk.rc (by simp [rd]), hstop D c pre _ (Nat.le_refl _) hp ((hIx c).putObj _ hi (by omega) hk.rc rfl) (hk.put _).df⟩
end Go.Proofs.Ytmkjajapbkdpiaa
