/- tree.All, and the loop over it. No condition. -/
import Derived.Test.YtmkjajapbkdpiaaTrIter
import Derived.RangeFuncFrom
import Derived.Laws.EntriesVeiled
namespace Go.Proofs.Ytmkjajapbkdpiaa
open Go.RowKit Go.Shelf
attribute [local go_sem] Oper.semAt_some

theorem grownBy_trans_none {A B C : World} (h : A.grownBy B none) (k : B.grownBy C none) : A.grownBy C none :=
  ⟨k.os.trans h.os, k.tape.trans h.tape, k.output.trans h.output, Nat.le_trans h.size k.size, fun j hj _ => (k.block j (Nat.lt_of_lt_of_le hj h.size) (by simp)).trans (h.block j hj (by simp))⟩
theorem grownBy_set_new {A B : World} (h : A.grownBy B none) {p : Addr} (hp : A.heap.size ≤ p.block) (u : Value) : A.grownBy (B.setCell p u) none :=
  ⟨h.os, h.tape, h.output, Nat.le_trans h.size (by simp [World.setCell]), fun j hj _ => (Below.heap_setCell _ _ _ _ (fun e => by omega)).trans (h.block j hj (by simp))⟩
theorem grownBy_below {A B : World} (h : Below A.heap.size A B) : A.grownBy B none := ⟨h.os, h.tape, h.output, h.size, fun j hj _ => h.block j hj⟩

abbrev encI : Item → Array Value := fun x => #[.int .i64 x.1, x.2.2]

set_option maxRecDepth 100000 in
set_option maxHeartbeats 2000000 in
/-- 'func(yield func(int, api.Node) bool) { .. walk(0, n) }' -/
theorem all1_in (n l B Bt : Nat) {S : World → Nat → Prop} {V : World → Prop} (hS : SOk S V B) (nd : Nd) (v : Value) (L : List Item) (J Jx : List Item → World → Prop)
    (hJ : ∀ pre W W', J pre W → W.grownBy W' none → J pre W')
    (hY : ∀ pre x W, J pre W → pre ++ [x] <+: L → YieldAt Fence.wide (n - 1) Try.prog l (encI x) W fun e W' => (e = .returned (.bool true) ∧ J (pre ++ [x]) W' ∧ Keep S V W W') ∨ (e = .returned (.bool false) ∧ Jx (pre ++ [x]) W'))
    (W : World) (hV : V W) (hB : W.heap[Bt]? = some (.cells v.cells 24 (0, 0))) (hL : LstN W B 0 nd v L) (hc : nd.c.cnt ≤ 100000000) (h0 : J [] W) :
    CallsIn Fence.wide n Try.prog 34 #[.func (.yield l) #[] #[], .pointer (some ⟨Bt, 0, none⟩)] W fun e W' => (∃ v, e = .returned v) ∧ ((∃ ys, ys = L ∧ J ys W') ∨ (∃ pre, pre <+: L ∧ Jx pre W')) := by
  have hdd : ∀ k : Nat, (Fence.wide.depth.isSome = true → 1 ≤ k) := fun k h => by cases h
  have hfn : Fence.wide.fn 35 := trivial
  obtain ⟨a, cap, Lk, hv, hl1, hl2, hLe, hLk⟩ := id hL
  obtain ⟨o1, Ho1⟩ : ∃ o1, Hid (o1 = Obj.cells #[.func (.yield l) #[] #[]] 34) := ⟨_, Lib.hid rfl⟩
  obtain ⟨W3, HW3⟩ : ∃ W3, Hid (W3 = (W.alloc o1).alloc (.cells #[walkV W.heap.size (W.heap.size + 1)] 34)) := ⟨_, Lib.hid rfl⟩
  have hW3 : W.grownBy W3 none := by
    rw [HW3.out]
    exact grownBy_trans_none (World.grownBy_alloc W _ none) (World.grownBy_alloc _ _ none)
  have hyb : W3.heap[W.heap.size]? = some o1 := by
    rw [HW3.out]
    exact (Below.heap_alloc _ _ _ (by simp)).trans (heap_alloc_new W o1)
  have hk3 : Keep S V W W3 := Keep.grow hS hW3
  have y1 : Held S W3 W.heap.size 0 (.func (.yield l) #[] #[]) :=
    Held.new hS hV hW3 (Nat.le_refl _) (by simp only [World.cell?]; rw [hyb, Ho1.out]; rfl)
  have y2 : Held S W3 (W.heap.size + 1) 0 (walkV W.heap.size (W.heap.size + 1)) :=
    Held.new hS hV hW3 (by omega) (by
      have := World.cell?_alloc_new (W.alloc o1) #[walkV W.heap.size (W.heap.size + 1)] 34 0
      rw [World.size_alloc] at this
      rw [HW3.out]; exact this)
  have hp := walk_in Fence.wide rfl trivial rfl l B W.heap.size (W.heap.size + 1) L hS J Jx hJ (fun m pre x W hj hl => yieldAt_any rfl m (hY pre x W hj hl)) (nd.c.cnt + 1) (n - 1) 0 nd v [] W3 L (by omega)
    (hL.cells (Keep.low hS hV hk3)) (hJ _ _ _ h0 hW3) (hk3.2 hV).1 y1 y2 (List.prefix_refl _) (by omega) (by omega)
  rw [HW3.out, Ho1.out] at hp
  unfold walkV at hp
  rw [hv] at hp
  unfold valOf at hp
  have HP := Lib.hid hp
  rw [hv] at hB
  have cw : ∀ j u, W.cell? ⟨Bt, j, none⟩ = some u → ((W.alloc (.cells #[.func (.yield l) #[] #[]] 34)).alloc (.cells #[.func (.func 35) #[] #[.pointer (some ⟨W.heap.size, 0, none⟩), .pointer (some ⟨W.heap.size + 1, 0, none⟩)]] 34)).cell? ⟨Bt, j, none⟩ = some u := fun j u hu => by
    have e1 := hW3
    rw [HW3.out, Ho1.out] at e1
    exact e1.cell hu (by simp)
  have b0 := cw 0 (.int .i64 nd.k) (by simp only [World.cell?, hB]; rfl)
  have b1 := cw 1 (.int .i64 nd.f) (by simp only [World.cell?, hB]; rfl)
  have b2 := cw 2 (.int .i64 nd.t) (by simp only [World.cell?, hB]; rfl)
  have b3 := cw 3 (.string nd.s) (by simp only [World.cell?, hB]; rfl)
  have b4 := cw 4 (.slice a nd.c.len cap) (by simp only [World.cell?, hB]; rfl)
  clear cw hp y1 y2 hk3 hW3 hyb hB hL hLk h0 hl1 hl2 hLe
  refine callsIn_of_wp Try.func34 rfl trivial ?_ rfl
  simp only [Try.ntmps34, List.size_toArray, List.length_cons, List.length_nil, Nat.reduceAdd, Nat.reduceSub, Array.replicate_succ, Array.replicate_zero, List.push_toArray, List.append_toArray, List.nil_append, List.cons_append]
  gi_wp2_with ((try refine ⟨hdd _, ?_⟩); gi_at_call 35; refine HP.out.mono ?_; rintro e W1 (⟨rfl, hJ1, _⟩ | ⟨rfl, q, hq, hx⟩))
  · go_end0
    exact ⟨⟨_, rfl⟩, .inl ⟨_, rfl, by simpa using hJ1⟩⟩
  · go_end0
    exact ⟨⟨_, rfl⟩, .inr ⟨q, hq, by simpa using hx⟩⟩

/-- 'All(n)': the node is boxed; the function value captures the box. -/
theorem all_any (k f t : Int) (s : ByteArray) (a : Option Addr) (len cap : Nat) (w : World) :
    Calls Try.prog 11 #[.agg #[.int .i64 k, .int .i64 f, .int .i64 t, .string s, .slice a len cap]] w fun e w' => e = .returned (.func (.func 34) #[] #[.pointer (some ⟨w.heap.size, 0, none⟩)]) ∧ w' = w.alloc (.cells #[.int .i64 k, .int .i64 f, .int .i64 t, .string s, .slice a len cap] 24) := by
  go_enter Try.func11, Try.ntmps11
  go_wp2
  go_ret
  exact ⟨rfl, rfl⟩

/-- What All hands back gives all nodes, in their order, or as many as are asked for. -/
theorem all_stops (n B Bt : Nat) {S : World → Nat → Prop} {V : World → Prop} (hS : SOk S V B) (nd : Nd) (v : Value) (L : List Item) (w : World) (hV : V w)
    (hB : w.heap[Bt]? = some (.cells v.cells 24 (0, 0))) (hL : LstN w B 0 nd v L) (hc : nd.c.cnt ≤ 100000000) :
    SeqStopsK Fence.wide n Try.prog 34 #[.pointer (some ⟨Bt, 0, none⟩)] encI (Keep S V) (fun ys => ys = L) (fun pre => pre <+: L) L.length w := fun l J Jx W hW hJ _ hY h0 => by
  have hg := grownBy_below hW
  have hk : Keep S V w W := Keep.grow hS hg
  exact all1_in n l B Bt hS nd v L J Jx (fun pre A C hj hgr => hJ pre A C none hj hgr (fun r e => by cases e)) (fun pre x W1 hj hp => hY pre x W1 hj (by have := hp.length_le; simp at this; omega)) W (hk.2 hV).1
    ((hg.block Bt (Array.getElem?_eq_some_iff.1 hB).1 (by simp)).trans hB) (hL.cells (Keep.low hS hV hk)) hc h0

/-- The same, where the body is told that what comes is one of the nodes. -/
theorem all_stops' (n B Bt : Nat) {S : World → Nat → Prop} {V : World → Prop} (hS : SOk S V B) (nd : Nd) (v : Value) (L : List Item) (w : World) (hV : V w)
    (hB : w.heap[Bt]? = some (.cells v.cells 24 (0, 0))) (hL : LstN w B 0 nd v L) (hc : nd.c.cnt ≤ 100000000) :
    SeqStopsK Fence.wide n Try.prog 34 #[.pointer (some ⟨Bt, 0, none⟩)] (fun x : { x : Item // x ∈ L } => encI x.1) (Keep S V) (fun ys => ys.map (·.1) = L) (fun pre => pre.map (·.1) <+: L) L.length w := fun l J Jx W hW hJ _ hY h0 => by
  have hg := grownBy_below hW
  have hk : Keep S V w W := Keep.grow hS hg
  have := all1_in n l B Bt hS nd v L (fun pre W => ∃ q : List { x : Item // x ∈ L }, q.map (·.1) = pre ∧ J q W) (fun pre W => ∃ q : List { x : Item // x ∈ L }, q.map (·.1) = pre ∧ Jx q W)
    (fun pre A C ⟨q, hq, hj⟩ hgr => ⟨q, hq, hJ q A C none hj hgr (fun r e => by cases e)⟩)
    (fun pre x W1 ⟨q, hq, hj⟩ hp => by
      have hx : x ∈ L := hp.subset (by simp)
      refine YieldAt.mono (hY q ⟨x, hx⟩ W1 hj (by have := hp.length_le; rw [← hq] at this; simp at this; omega)) fun e W' h => ?_
      rcases h with ⟨h1, h2, h3⟩ | ⟨h1, h2⟩
      · exact .inl ⟨h1, ⟨_, by simp [hq], h2⟩, h3⟩
      · exact .inr ⟨h1, _, by simp [hq], h2⟩) W (hk.2 hV).1
    ((hg.block Bt (Array.getElem?_eq_some_iff.1 hB).1 (by simp)).trans hB) (hL.cells (Keep.low hS hV hk)) hc ⟨[], rfl, h0⟩
  refine this.mono fun e W' h => ⟨h.1, ?_⟩
  rcases h.2 with ⟨ys, h1, q, h2, h3⟩ | ⟨pre, h1, q, h2, h3⟩
  · exact .inl ⟨q, h2.trans h1, h3⟩
  · exact .inr ⟨q, (show q.map (·.1) <+: L by rw [h2]; exact h1), h3⟩
end Go.Proofs.Ytmkjajapbkdpiaa
