/- A region that draws its order, inside a fence: by an invariant of what is done. No condition. -/
import Derived.Test.YtmkjajapbkdpiaaTrLeaf
import Derived.OrdersIn
namespace Go.Proofs.Ytmkjajapbkdpiaa
open Go.RowKit

section
variable {F : Fence} {n : Nat} {P : Program} {md : Region.Mode} {ops : Array Oper} {Q : Exit → Act → World → Prop}

theorem any_inv (Inv : Nat → Array Bool → Act → World → Prop) (h0 : ∀ listed a w, Inv 0 listed a w → Region.ready md ops listed = [] ∧ Q .normal a w)
    (hs : ∀ fuel listed a w, Inv (fuel + 1) listed a w → (Region.ready md ops listed = [] → Q .normal a w) ∧ ∀ i ∈ Region.ready md ops listed, wpOpIn F n P ops Q i (fun a' w' => Inv fuel (listed.setIfInBounds i true) a' w') a w) :
    ∀ fuel listed a w, Inv fuel listed a w → wpAnyIn F n P md ops Q fuel listed a w
  | 0, listed, a, w, h => h0 listed a w h
  | fuel + 1, listed, a, w, h => by
    obtain ⟨h1, h2⟩ := hs fuel listed a w h
    refine ⟨h1, fun i hi => ?_⟩
    have hi2 := h2 i hi
    unfold wpOpIn at hi2 ⊢
    split
    · rename_i hn
      rw [hn] at hi2
      exact any_inv Inv h0 hs fuel _ a w hi2
    · rename_i o ho
      rw [ho] at hi2
      simp only at hi2
      split
      · rename_i hw
        rw [if_pos hw] at hi2
        exact Oper.wpIn_mono (fun a' w' h' => any_inv Inv h0 hs fuel _ a' w' h') hi2
      · rename_i hw
        rw [if_neg hw] at hi2
        exact ⟨hi2.1, any_inv Inv h0 hs fuel _ _ w hi2.2⟩

theorem inv_ready {K : Nat → Act → World → Prop} {listed : Array Bool} {a : Act} {w : World} (rs : List Nat) (hr : Region.ready md ops listed = rs) (hne : rs ≠ [])
    (h : ∀ i ∈ rs, wpOpIn F n P ops Q i (K i) a w) : (Region.ready md ops listed = [] → Q .normal a w) ∧ ∀ i ∈ Region.ready md ops listed, wpOpIn F n P ops Q i (K i) a w := by
  subst hr
  exact ⟨fun e => absurd e hne, h⟩
theorem inv_done {K : Nat → Act → World → Prop} {listed : Array Bool} {a : Act} {w : World} (hr : Region.ready md ops listed = []) (h : Q .normal a w) : (Region.ready md ops listed = [] → Q .normal a w) ∧ ∀ i ∈ Region.ready md ops listed, wpOpIn F n P ops Q i (K i) a w := by
  rw [hr]
  exact ⟨fun _ => h, fun i hi => by cases hi⟩
theorem inv_cons {K : Nat → Act → World → Prop} {a : Act} {w : World} {i : Nat} {o : Oper} {rs : List Nat} (ho : ops[i]? = some o)
    (h : ∀ K' : Act → World → Prop, (∀ a w, K i a w → K' a w) → if Region.wanted o (yielded ops a.tmps) = true then Oper.wpIn F n P o a w K' Q else (∀ f, o.about P w a.eval = some f → F.fn f) ∧ K' (a.put o.dst undef) w)
    (hs : ∀ j ∈ rs, wpOpIn F n P ops Q j (K j) a w) : ∀ j ∈ (i :: rs), wpOpIn F n P ops Q j (K j) a w := fun j hj => by
  rcases List.mem_cons.1 hj with rfl | hj
  · have := h (K j) (fun _ _ h => h)
    unfold wpOpIn
    rw [ho]
    exact this
  · exact hs j hj
theorem inv_nil {K : Nat → Act → World → Prop} {a : Act} {w : World} : ∀ j ∈ ([] : List Nat), wpOpIn F n P ops Q j (K j) a w := fun _ h => by cases h

/-- An append, at a step. -/
theorem stepIn_app {o : Oper} {a : Act} {w : World} {K : Act → World → Prop} {E : Prop} (hgd : o.guard = none) (s x : Operand) (t : TypeId)
    (ho : o.op = .call { callee := .builtin .append, args := #[s, x], argTypes := #[t, t] })
    (base : Nat) (e : TypeId) (i : TypeInfo) (z : Value) (size bytes : Nat) (ht : P.underlying t = some (.slice e)) (hi : P.info? e = some i) (hz : i.zero = some z)
    (hsize : i.size = size) (hby : i.bytes = bytes) (hzs : z.cells.size = size)
    (v : Value) (m : Nat) (xs : List Value) (hs : a.eval s = v) (hown : w.ownsRow base e size v m xs)
    (ad : Addr) (k c : Nat) (news : List Value) (hx : a.eval x = .slice (some ad) k c) (hl : news.length = k * size) (hnews : ∀ j u, news[j]? = some u → w.cell? (ad.add j) = some u) (h1 : ∀ u ∈ news, u.oneCell' = true)
    (hm : 0 < k) (h63 : m + k ≤ maxLen) (hbytes : (m + k) * bytes ≤ 140737488355328) (hbase : base ≤ w.heap.size)
    (h : ∀ g cap w', w'.ownsRow base e size (.slice (some ⟨g, 0, none⟩) (m + k) cap) (m + k) (xs ++ news) → AppAt w v g w' → K (a.put o.dst (.slice (some ⟨g, 0, none⟩) (m + k) cap)) w') :
    if Region.wanted o (yielded ops a.tmps) = true then Oper.wpIn F n P o a w K Q else E := by
  have hw : Region.wanted o (yielded ops a.tmps) = true := by simp [Region.wanted, hgd]
  rw [if_pos hw]
  obtain ⟨g, cap, w', hr, h2, h3⟩ := run_app (P := P) w t o.type base e i z size bytes ht hi hz hsize hby hzs v m xs hown ad k c news hl hnews h1 hm h63 hbytes hbase
  unfold Oper.wpIn
  refine ⟨?_, ?_⟩
  · simp [Oper.about, ho, resolve, Target.leads, Sem.run_pure]
  · rw [Oper.semAt_plain F _ _ (by rw [ho]; intro c hc'; cases hc')]
    simp [execOp, ho, resolve, invoke, builtin, hs, hx, hr, Result.andThen]
    exact h g cap w' h2 h3
end
end Go.Proofs.Ytmkjajapbkdpiaa
