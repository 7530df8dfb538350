/- A clock comes to the two orders: behind the walk. No condition. -/
import Derived.Test.YtkcaeeighjblkaaTwoDoes
namespace Go.Proofs.Ytkcaeeighjblkaa
open Go.RowKit

theorem Try.infoPC : (Try.prog.info? 33).map (fun i => (i.zero, i.size, i.bytes)) = some (some (.pointer none), 1, 8) := by kernel_rfl

section
variable {w w2 w3 : World} {x : TwoSt} {N M : Nat}
theorem two_pushC {gg cap : Nat} {c : Clk} {o : Obj} (h : TwoMem w x N M) (hb : Below w.heap.size w w2)
    (hc : ∀ b v, c.1 = some (b, v) → w.heap.size ≤ b ∧ w2.heap[b]? = some (.cells #[v] 57 (0, 0)) ∧ w2.ownsRow w.heap.size 3 1 v c.2.length (ints c.2))
    (hn : c.1 = none → c.2 = []) (hl : c.2.length ≤ N + 1) (hv : ∀ j, 0 ≤ c.2.getD j 0 ∧ c.2.getD j 0 ≤ N)
    (hown : w3.ownsRow 0 33 1 (.slice (some ⟨gg, 0, none⟩) (x.Cs.length + 1) cap) (x.Cs.length + 1) (x.Cs.map ptrOf ++ [ptrOf c])) (hat : AppAt (w2.alloc o) x.cv gg w3) :
    (w3.cell? ⟨x.bx, 2, none⟩ = some x.cv ∧ w3.frozen? ⟨x.bx, 2, none⟩ = false) ∧
      TwoStep w x (w3.setCell ⟨x.bx, 2, none⟩ (.slice (some ⟨gg, 0, none⟩) (x.Cs.length + 1) cap)) (x.setC (.slice (some ⟨gg, 0, none⟩) (x.Cs.length + 1) cap) (x.Cs ++ [c])) N M := by
  obtain ⟨h1, h2, h3⟩ := h.cs.push hb hc hn hl hv hown hat
  have hX := h.of_below (hb.alloc hb.size o)
  have hne : some x.bx ≠ x.cv.ownBlock := fun e => absurd (h.ap 4 2 x.bx rfl (.inl e.symm)) (by decide)
  have hm := h.setC h1 h2 h3
  exact ⟨⟨hat.grown.cell hX.b2 hne, (hat.grown.frozen_far ⟨x.bx, 2, none⟩ (hX.lt 4 _ rfl) hne).trans (hX.bf 2)⟩, hm.1, hm.2.1, hm.2.2, rfl, rfl, rfl⟩

theorem two_pushD {gg cap : Nat} {nv : Value} {r : List Int} {o : Obj} (h : TwoMem w x N M) (hb : Below w.heap.size w w2)
    (hv : w2.ownsRow w.heap.size 3 1 nv r.length (ints r)) (hl : r.length ≤ M + 2) (hr : ∀ j, 0 ≤ r.getD j 0 ∧ r.getD j 0 ≤ M)
    (hown : w3.ownsRow 0 46 1 (.slice (some ⟨gg, 0, none⟩) (x.D.length + 1) cap) (x.D.length + 1) (x.dr ++ [nv])) (hat : AppAt (w2.alloc o) x.dv gg w3) :
    (w3.cell? ⟨x.bx, 3, none⟩ = some x.dv ∧ w3.frozen? ⟨x.bx, 3, none⟩ = false) ∧
      TwoStep w x (w3.setCell ⟨x.bx, 3, none⟩ (.slice (some ⟨gg, 0, none⟩) (x.D.length + 1) cap)) (x.setD (.slice (some ⟨gg, 0, none⟩) (x.D.length + 1) cap) (x.dr ++ [nv]) (x.D ++ [r])) N M := by
  have hX := h.of_below (hb.alloc hb.size o)
  have hs := hb.size
  have hal : (w2.alloc o).heap.size = w2.heap.size + 1 := by simp
  have hnb : ∀ k, nv.ownBlock = some k → w.heap.size ≤ k := fun k e => (hv.lt k e).1
  obtain ⟨h1, h2, h3⟩ := hX.ds.push rfl ((row_zero hv).alloc o) (fun k e e2 => by have := hnb k e; have := h.ds.lt k e2; omega) hown hat
  have hne : some x.bx ≠ x.dv.ownBlock := fun e => absurd (h.ap 4 3 x.bx rfl (.inl e.symm)) (by decide)
  have hf : Fr (rowsFp x.dv x.dr) w w3 := ((Fr.of_below (F := rowsFp x.dv x.dr) hb).alloc o).trans h2 (fun _ e => e) (fun _ e => .inl e)
  have hD : ∀ i, (x.D ++ [r]).getD i [] = if i < x.D.length then x.D.getD i [] else if i = x.D.length then r else [] := fun i => by
    by_cases hi : i < x.D.length
    · rw [if_pos hi, getD_snoc_lt hi]
    · rw [if_neg hi]
      by_cases hi' : i = x.D.length
      · rw [if_pos hi', getD_snoc_eq hi']
      · rw [if_neg hi']; simp [List.getD, show x.D.length + 1 ≤ i by omega]
  have hm := h.setD h1 hf (fun k e => by
    rcases h3 k e with e | e | e
    · exact .inl e
    · exact .inr (hnb k e)
    · right; omega) (fun i => by
      rw [hD]
      split
      · exact h.dl i
      · split
        · exact hl
        · simp) (fun i j => by
      rw [hD]
      split
      · exact h.dval i j
      · split
        · exact hr j
        · simp)
  exact ⟨⟨hat.grown.cell hX.b3 hne, (hat.grown.frozen_far ⟨x.bx, 3, none⟩ (hX.lt 4 _ rfl) hne).trans (hX.bf 3)⟩, hm.1, hm.2.1, hm.2.2, rfl, rfl, rfl⟩

theorem vSend_bounds (h : TwoMem w x N M) (a : Int) : (vSend x.K a).length ≤ N + 1 ∧ (∀ j, 0 ≤ (vSend x.K a).getD j 0 ∧ (vSend x.K a).getD j 0 ≤ N) ∧ (vSend x.KR a).length ≤ M + 2 ∧ ∀ j, 0 ≤ (vSend x.KR a).getD j 0 ∧ (vSend x.KR a).getD j 0 ≤ M := by
  unfold vSend
  refine ⟨?_, fun j => ?_, ?_, fun j => ?_⟩
  · split
    · exact h.ord.rlen _
    · simp
  · split
    · exact h.ord.rval _ _
    · simp
  · split
    · exact h.rord.rlen _
    · simp
  · split
    · exact h.rord.rval _ _
    · simp
end
end Go.Proofs.Ytkcaeeighjblkaa
