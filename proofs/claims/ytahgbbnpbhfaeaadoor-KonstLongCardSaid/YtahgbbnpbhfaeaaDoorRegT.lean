/- A law for a region that draws its order and in which two effects may come in either order: a tree of orders, checked by the kernel. No condition beyond those that the law states. -/
import Derived.Test.YtahgbbnpbhfaeaaDoorRegQ
namespace Go.Proofs.YtahgbbnpbhfaeaaDoor
open Go.RowKit

/-- The orders that are walked: what hangs on no world; an effect that alone is ready; two effects of which either may come first. -/
inductive PT where
  | done
  | pu (i : Nat) (r : PT)
  | ef (i : Nat) (r : PT)
  | fk (i : Nat) (l : PT) (j : Nat) (r : PT)
  | f3 (i : Nat) (l : PT) (j : Nat) (m : PT) (k : Nat) (r : PT)
def PT.depth : PT → Nat
  | .done => 0
  | .pu _ r => r.depth + 1
  | .ef _ r => r.depth + 1
  | .fk _ l _ _ => l.depth + 1
  | .f3 _ l _ _ _ _ => l.depth + 1
section
variable {P : Program} {ops : Array Oper} {Q : Exit → Act → World → Prop}
def wpT (P : Program) (ops : Array Oper) (Q : Exit → Act → World → Prop) : PT → Act → World → Prop
  | .done, a, w => Q .normal a w
  | .pu i r, a, w => ∃ o v, ops[i]? = some o ∧ YieldsIf P ops (fun _ => True) o v a ∧ wpT P ops Q r (a.put o.dst v) w
  | .ef i r, a, w => wpOp P ops Q i (fun a' w' => wpT P ops Q r a' w') a w
  | .fk i l j r, a, w => wpOp P ops Q i (fun a' w' => wpT P ops Q l a' w') a w ∧ wpOp P ops Q j (fun a' w' => wpT P ops Q r a' w') a w
  | .f3 i l j m k r, a, w => wpOp P ops Q i (fun a' w' => wpT P ops Q l a' w') a w ∧ wpOp P ops Q j (fun a' w' => wpT P ops Q m a' w') a w ∧ wpOp P ops Q k (fun a' w' => wpT P ops Q r a' w') a w
def ptB (ops : Array Oper) : PT → Array Bool → Bool
  | .done, listed => (Region.ready .any ops listed).isEmpty
  | .pu i r, listed => (Region.ready .any ops listed).contains i && Region.free .any ops listed i && ptB ops r (listed.setIfInBounds i true)
  | .ef i r, listed => decide (Region.ready .any ops listed = [i]) && ptB ops r (listed.setIfInBounds i true)
  | .fk i l j r, listed => decide (Region.ready .any ops listed = [i, j]) && decide (l.depth = r.depth) && ptB ops l (listed.setIfInBounds i true) && ptB ops r (listed.setIfInBounds j true)
  | .f3 i l j m k r, listed => decide (Region.ready .any ops listed = [i, j, k]) && decide (l.depth = m.depth) && decide (l.depth = r.depth) && ptB ops l (listed.setIfInBounds i true) && ptB ops m (listed.setIfInBounds j true) && ptB ops r (listed.setIfInBounds k true)
theorem wpAnyX_of_tree (hsel : Region.noSelect ops = true) (hQ : ∀ c a d v w, Q (.panic c) (Act.put a d v) w → Q (.panic c) a w) :
    ∀ (t : PT) (listed : Array Bool) (a : Act) (w : World), ptB ops t listed = true → ClosedL ops listed → wpT P ops Q t a w → wpAnyX P ops Q (fun _ => True) (fun _ => true) t.depth listed a w
  | .done, listed, a, w, hB, _, h => ⟨by simpa [ptB] using hB, h⟩
  | .pu i r, listed, a, w, hB, hc, h => by
    simp only [ptB, Bool.and_eq_true] at hB
    obtain ⟨⟨hr, hf⟩, hB'⟩ := hB
    obtain ⟨o, v, ho, hy, h'⟩ := h
    have hr' : i ∈ Region.ready .any ops listed := by simpa using hr
    exact wpAnyX_first (Si := fun _ => True) ho (Region.noSelect_spec hsel) (fun c a w => hQ c a o.dst v w) (.inr (fun _ => trivial)) r.depth listed a w hc (Region.free_spec ho hf) hr' hy trivial
      (wpAnyX_of_tree hsel hQ r _ _ w hB' (hc.set hr') h')
  | .ef i r, listed, a, w, hB, hc, h => by
    simp only [ptB, Bool.and_eq_true, decide_eq_true_eq] at hB
    obtain ⟨hr, hB'⟩ := hB
    have hr' : i ∈ Region.ready .any ops listed := by rw [hr]; simp
    refine ⟨fun h0 => (by rw [hr] at h0; cases h0), fun j hj => ?_⟩
    rw [hr] at hj
    have : j = i := by simpa using hj
    subst this
    exact wpOp_mono (fun a' w' h' => ⟨fun _ _ => trivial, wpAnyX_of_tree hsel hQ r _ a' w' hB' (hc.set hr') h'⟩) h
  | .fk i l k r, listed, a, w, hB, hc, h => by
    simp only [ptB, Bool.and_eq_true, decide_eq_true_eq] at hB
    obtain ⟨⟨⟨hr, hd⟩, hl⟩, hk⟩ := hB
    have hi' : i ∈ Region.ready .any ops listed := by rw [hr]; simp
    have hk' : k ∈ Region.ready .any ops listed := by rw [hr]; simp
    refine ⟨fun h0 => (by rw [hr] at h0; cases h0), fun j hj => ?_⟩
    rw [hr] at hj
    have hj2 : j = i ∨ j = k := by simpa using hj
    rcases hj2 with rfl | rfl
    · exact wpOp_mono (fun a' w' h' => ⟨fun _ _ => trivial, wpAnyX_of_tree hsel hQ l _ a' w' hl (hc.set hi') h'⟩) h.1
    · refine wpOp_mono (fun a' w' h' => ⟨fun _ _ => trivial, ?_⟩) h.2
      have := wpAnyX_of_tree hsel hQ r _ a' w' hk (hc.set hk') h'
      rw [← hd] at this
      exact this
  | .f3 i l k m n r, listed, a, w, hB, hc, h => by
    simp only [ptB, Bool.and_eq_true, decide_eq_true_eq] at hB
    obtain ⟨⟨⟨⟨⟨hr, hd⟩, hd2⟩, hl⟩, hk⟩, hn⟩ := hB
    have hi' : i ∈ Region.ready .any ops listed := by rw [hr]; simp
    have hk' : k ∈ Region.ready .any ops listed := by rw [hr]; simp
    have hn' : n ∈ Region.ready .any ops listed := by rw [hr]; simp
    refine ⟨fun h0 => (by rw [hr] at h0; cases h0), fun j hj => ?_⟩
    rw [hr] at hj
    have hj2 : j = i ∨ j = k ∨ j = n := by simpa using hj
    rcases hj2 with rfl | rfl | rfl
    · exact wpOp_mono (fun a' w' h' => ⟨fun _ _ => trivial, wpAnyX_of_tree hsel hQ l _ a' w' hl (hc.set hi') h'⟩) h.1
    · refine wpOp_mono (fun a' w' h' => ⟨fun _ _ => trivial, ?_⟩) h.2.1
      have := wpAnyX_of_tree hsel hQ m _ a' w' hk (hc.set hk') h'
      rw [← hd] at this
      exact this
    · refine wpOp_mono (fun a' w' h' => ⟨fun _ _ => trivial, ?_⟩) h.2.2
      have := wpAnyX_of_tree hsel hQ r _ a' w' hn (hc.set hn') h'
      rw [← hd2] at this
      exact this
/-- THE LAW. -/
theorem wp_region_tree {id : Nat} {l : List Oper} {a : Act} {w : World} (t : PT) (hm : P.follows .mixedOrders = true)
    (hB : (Region.noSelect l.toArray && ptB l.toArray t (Array.replicate l.toArray.size false) && decide (t.depth = l.toArray.size)) = true) (hQ : ∀ c a (t : Tmp) v w, Q (.panic c) (Act.put a (some t) v) w → Q (.panic c) a w) (h : wpT P l.toArray Q t a w.drew) : (Code.region id l.toArray true).wp P Q a w := by
  simp only [Bool.and_eq_true, decide_eq_true_eq] at hB
  obtain ⟨⟨hsel, hpi⟩, hl⟩ := hB
  have hQ' : ∀ c a d v w, Q (.panic c) (Act.put a d v) w → Q (.panic c) a w := fun c a d v w h => by
    cases d with
    | none => exact h
    | some t => exact hQ c a t v w h
  refine wp_region_any hm ?_
  have H := wpAny_of_X _ _ _ _ (wpAnyX_of_tree hsel hQ' t _ a w.drew hpi (ClosedL.start _) h)
  rw [hl] at H
  exact H
theorem tq_pu (d : Option Nat) {i : Nat} {r : PT} {r2 : List Oper} {a : Act} {w : World} {o : Oper} {v : Value} (ho : ops.toList.drop i = o :: r2) (hd : o.dst = d) (hw : Region.wanted o (yielded ops a.tmps) = true) (hy : ∀ ws, (execOp a.eval o).run P ws = .ok (.value v) ws)
    (h : wpT P ops Q r (a.put d v) w) : wpT P ops Q (.pu i r) a w := by subst hd; exact ⟨o, v, at_of_drop ho, .inl ⟨hw, fun ws _ => hy ws⟩, h⟩
theorem tq_done {a : Act} {w : World} (h : wpList P ops Q [] a w) : wpT P ops Q .done a w := h
theorem tq_ef {i : Nat} {r : PT} {r2 : List Oper} {a : Act} {w : World} {o : Oper} (ho : ops.toList.drop i = o :: r2)
    (h : ∀ J : Act → World → Prop, (∀ a' w', wpT P ops Q r a' w' → J a' w') → wpList P ops (Exit.then (Stop J) Q) [o] a w) : wpT P ops Q (.ef i r) a w :=
  wpOp_of_list (at_of_drop ho) (h _ (fun _ _ h1 => h1))
theorem tq_fk {i j : Nat} {l r : PT} {r2 r3 : List Oper} {a : Act} {w : World} {o o2 : Oper} (ho : ops.toList.drop i = o :: r2) (ho2 : ops.toList.drop j = o2 :: r3)
    (h : ∀ J : Act → World → Prop, (∀ a' w', wpT P ops Q l a' w' → J a' w') → wpList P ops (Exit.then (Stop J) Q) [o] a w)
    (h2 : ∀ J : Act → World → Prop, (∀ a' w', wpT P ops Q r a' w' → J a' w') → wpList P ops (Exit.then (Stop J) Q) [o2] a w) : wpT P ops Q (.fk i l j r) a w :=
  ⟨wpOp_of_list (at_of_drop ho) (h _ (fun _ _ h1 => h1)), wpOp_of_list (at_of_drop ho2) (h2 _ (fun _ _ h1 => h1))⟩
end
end Go.Proofs.YtahgbbnpbhfaeaaDoor
