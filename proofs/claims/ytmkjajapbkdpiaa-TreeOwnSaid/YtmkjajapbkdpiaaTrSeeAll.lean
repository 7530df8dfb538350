/- tree.All's function, called with a function of its own. No condition. -/
import Derived.Test.YtmkjajapbkdpiaaTrSee
import Derived.Laws.EntriesVeiled
namespace Go.Proofs.Ytmkjajapbkdpiaa
open Go.RowKit Go.Shelf
attribute [local go_sem] Oper.semAt_some

set_option maxRecDepth 100000 in
set_option maxHeartbeats 2000000 in
theorem all1_see (b1 b2 b3 b4 b5 b6 B Bt : Nat) {S : World → Nat → Prop} {V : World → Prop} (hS : SOk S V B) (nd : Nd) (v : Value) (L : List Item) (J Jx : List Item → World → Prop)
    (hJ : ∀ pre W W', J pre W → W.grownBy W' none → J pre W')
    (hY : ∀ pre x W, J pre W → V W → pre ++ [x] <+: L → Calls Try.prog 12 #[.int .i64 x.1, x.2.2, .pointer (some ⟨b1, 0, none⟩), .pointer (some ⟨b2, 0, none⟩), .pointer (some ⟨b3, 0, none⟩), .pointer (some ⟨b4, 0, none⟩), .pointer (some ⟨b5, 0, none⟩), .pointer (some ⟨b6, 0, none⟩)] W fun e W' => (e = .returned (.bool true) ∧ J (pre ++ [x]) W' ∧ Keep S V W W') ∨ (e = .returned (.bool false) ∧ Jx (pre ++ [x]) W'))
    (W : World) (hV : V W) (hB : W.heap[Bt]? = some (.cells v.cells 24 (0, 0))) (hL : LstN W B 0 nd v L) (hc : nd.c.cnt ≤ 100000000) (h0 : J [] W) :
    Calls Try.prog 34 #[.func (.func 12) #[] #[.pointer (some ⟨b1, 0, none⟩), .pointer (some ⟨b2, 0, none⟩), .pointer (some ⟨b3, 0, none⟩), .pointer (some ⟨b4, 0, none⟩), .pointer (some ⟨b5, 0, none⟩), .pointer (some ⟨b6, 0, none⟩)], .pointer (some ⟨Bt, 0, none⟩)] W fun e W' => (∃ v, e = .returned v) ∧ ((∃ ys, ys = L ∧ J ys W') ∨ (∃ pre, pre <+: L ∧ Jx pre W')) := by
  have hdd : ∀ k : Nat, (Fence.wide.depth.isSome = true → 1 ≤ k) := fun k h => by cases h
  have hfn : Fence.wide.fn 35 := trivial
  obtain ⟨a, cap, Lk, hv, hl1, hl2, hLe, hLk⟩ := id hL
  obtain ⟨o1, Ho1⟩ : ∃ o1, Hid (o1 = Obj.cells #[seeV b1 b2 b3 b4 b5 b6] 34) := ⟨_, Lib.hid rfl⟩
  obtain ⟨W3, HW3⟩ : ∃ W3, Hid (W3 = (W.alloc o1).alloc (.cells #[walkV W.heap.size (W.heap.size + 1)] 34)) := ⟨_, Lib.hid rfl⟩
  have hW3 : W.grownBy W3 none := by
    rw [HW3.out]
    exact grownBy_trans_none (World.grownBy_alloc W _ none) (World.grownBy_alloc _ _ none)
  have hyb : W3.heap[W.heap.size]? = some o1 := by
    rw [HW3.out]
    exact (Below.heap_alloc _ _ _ (by simp)).trans (heap_alloc_new W o1)
  have hk3 : Keep S V W W3 := Keep.grow hS hW3
  have y1 : Held S W3 W.heap.size 0 (seeV b1 b2 b3 b4 b5 b6) :=
    Held.new hS hV hW3 (Nat.le_refl _) (by simp only [World.cell?]; rw [hyb, Ho1.out]; rfl)
  have y2 : Held S W3 (W.heap.size + 1) 0 (walkV W.heap.size (W.heap.size + 1)) :=
    Held.new hS hV hW3 (by omega) (by
      have := World.cell?_alloc_new (W.alloc o1) #[walkV W.heap.size (W.heap.size + 1)] 34 0
      rw [World.size_alloc] at this
      rw [HW3.out]; exact this)
  have hp := walk_see b1 b2 b3 b4 b5 b6 B W.heap.size (W.heap.size + 1) L hS J Jx hJ hY (nd.c.cnt + 1) (19) 0 nd v [] W3 L (by omega)
    (hL.cells (Keep.low hS hV hk3)) (hJ _ _ _ h0 hW3) (hk3.2 hV).1 y1 y2 (List.prefix_refl _) (by omega) (by omega)
  rw [HW3.out, Ho1.out] at hp
  unfold walkV at hp
  unfold seeV at hp
  rw [hv] at hp
  unfold valOf at hp
  have HP := Lib.hid hp
  rw [hv] at hB
  have cw : ∀ j u, W.cell? ⟨Bt, j, none⟩ = some u → ((W.alloc (.cells #[.func (.func 12) #[] #[.pointer (some ⟨b1, 0, none⟩), .pointer (some ⟨b2, 0, none⟩), .pointer (some ⟨b3, 0, none⟩), .pointer (some ⟨b4, 0, none⟩), .pointer (some ⟨b5, 0, none⟩), .pointer (some ⟨b6, 0, none⟩)]] 34)).alloc (.cells #[.func (.func 35) #[] #[.pointer (some ⟨W.heap.size, 0, none⟩), .pointer (some ⟨W.heap.size + 1, 0, none⟩)]] 34)).cell? ⟨Bt, j, none⟩ = some u := fun j u hu => by
    have e1 := hW3
    rw [HW3.out, Ho1.out] at e1
    unfold walkV seeV at e1
    exact e1.cell hu (by simp)
  have b0 := cw 0 (.int .i64 nd.k) (by simp only [World.cell?, hB]; rfl)
  have b1 := cw 1 (.int .i64 nd.f) (by simp only [World.cell?, hB]; rfl)
  have b2 := cw 2 (.int .i64 nd.t) (by simp only [World.cell?, hB]; rfl)
  have b3 := cw 3 (.string nd.s) (by simp only [World.cell?, hB]; rfl)
  have b4 := cw 4 (.slice a nd.c.len cap) (by simp only [World.cell?, hB]; rfl)
  clear cw hp y1 y2 hk3 hW3 hyb hB hL hLk h0 hl1 hl2 hLe
  refine (callsIn_wide (n := 20)).1 ?_
  refine callsIn_of_wp Try.func34 rfl trivial ?_ rfl
  simp only [Try.ntmps34, List.size_toArray, List.length_cons, List.length_nil, Nat.reduceAdd, Nat.reduceSub, Array.replicate_succ, Array.replicate_zero, List.push_toArray, List.append_toArray, List.nil_append, List.cons_append]
  gi_wp2_with ((try refine ⟨hdd _, ?_⟩); gi_at_call 35; refine HP.out.mono ?_; rintro e W1 (⟨rfl, hJ1, _⟩ | ⟨rfl, q, hq, hx⟩))
  · go_end0
    exact ⟨⟨_, rfl⟩, .inl ⟨_, rfl, by simpa using hJ1⟩⟩
  · go_end0
    exact ⟨⟨_, rfl⟩, .inr ⟨q, hq, by simpa using hx⟩⟩
end Go.Proofs.Ytmkjajapbkdpiaa
