/- tree.path. No condition. -/
import Derived.Test.YtmkjajapbkdpiaaTrIdsR
import Derived.Test.YtmkjajapbkdpiaaTrAtLaw
import Derived.Test.YtmkjajapbkdpiaaTrRange
namespace Go.Proofs.Ytmkjajapbkdpiaa
open Go.RowKit Go.Shelf
attribute [local go_sem] Oper.semAt_some

section
variable {w w' W wx : World} {B ob g gO m n cv cap2 : Nat} {av : Option Addr} {xs : List Value} {L : List Nv}
/-- What a round leaves, where its list's cell and its list are its own. -/
theorem lst_done (h1 : W.heap[ob]? = some (.cells #[.slice av n cv] 22 (0, 0))) (h2 : W.ownsRow B 24 5 (.slice av n cv) n xs) (hBo : w.heap.size ≤ ob) (hBw : ∀ k, (Value.slice av n cv).ownBlock = some k → w.heap.size ≤ k) (_hBB : B ≤ w.heap.size) (h3 : Below w.heap.size w W) (hgO : gO = oldOf av ob)
    (hgl : g < wx.heap.size) (hob : wx.heap[ob]? = some (.cells #[.slice (some ⟨g, 0, none⟩) m cap2] 22 (0, 0))) (hg : g = gO ∨ W.heap.size ≤ g) (hF : IdFr W gO ob wx) (K : Nat) :
    KeepsFrom K W wx ∧ Keep (lstS B ob) (lstV ob) W wx ∧ Below w.heap.size w wx := by
  obtain ⟨f1, f2, f3, f4, f5⟩ := hF
  have hoc : ∀ k, k = gO → ∃ c t fr, W.heap[k]? = some (.cells c t fr) := fun k e => by
    subst e; subst hgO
    cases av with
    | none => exact ⟨_, _, _, h1⟩
    | some p =>
      obtain ⟨c, e⟩ := row_at h2 (k := p.block) rfl
      exact ⟨_, _, _, e⟩
  have hgOB : w.heap.size ≤ gO := by
    subst hgO
    cases av with
    | none => simp only [oldOf]; omega
    | some p => exact hBw p.block rfl
  have hgS : ∀ k, k = gO → lstS B ob W k := fun k e => by
    subst e; subst hgO
    cases av with
    | none => exact .inl rfl
    | some p => exact .inr ⟨(h2.lt p.block rfl).1, _, (cell_of_box h1).1, rfl⟩
  refine ⟨⟨f4, fun k o hk ho hc => ?_⟩, ⟨f4, fun _ => ⟨⟨_, (cell_of_box hob).1, fun k e => by cases e; exact hgl⟩, fun k hk hn => ⟨fun e => hn ?_, fun cs t fr e => ?_⟩⟩⟩, ?_⟩
  · refine (f5 k (Array.getElem?_eq_some_iff.1 ho).1 (fun e => ?_) (fun e => ?_)).trans ho
    · obtain ⟨c, t, fr, e'⟩ := hoc k e
      rw [ho] at e'; cases e'; cases hc
    · rw [e, h1] at ho; cases ho; cases hc
  · rcases e with e | ⟨_, v', hc', hb⟩
    · exact .inl e
    · rw [(cell_of_box hob).1] at hc'
      cases hc'
      have e : g = k := by simpa [Value.ownBlock] using hb
      rcases hg with h | h
      · exact hgS k (by omega)
      · omega
  · refine (f5 k hk (fun e' => hn (hgS k e')) (fun e' => hn (.inl e'))).trans e
  · have hs := h3.size
    exact ⟨f1.trans h3.os, f2.trans h3.tape, f3.trans h3.output, by omega, fun k hk => (f5 k (by omega) (by omega) (by omega)).trans (h3.block k hk)⟩

theorem RowL.frameC (hf : ∀ (k : Nat) (cs : Array Value) (t : TypeId) (fr : Nat × Nat), w.heap[k]? = some (Obj.cells cs t fr) → w'.heap[k]? = some (Obj.cells cs t fr)) {v : Value} (h : RowL w B v L) : RowL w' B v L := by
  refine ⟨row_same h.row (fun k e => ?_), fun x hx => (h.low x hx).cells fun p u _ hc => cell_same (fun cs t fr e => hf _ _ _ _ e) hc⟩
  obtain ⟨cur, e'⟩ := row_at h.row e
  exact (hf k _ _ _ e').trans e'.symm
theorem row_take {e : TypeId} {s : Nat} (h : w.ownsRow B e s (.slice av n cv) n xs) (hm : m ≤ n) : w.ownsRow B e s (.slice av m cv) m (xs.take (m * s)) := by
  obtain ⟨h1, h2⟩ := h
  have hms : m * s ≤ n * s := Nat.mul_le_mul_right s hm
  refine ⟨by rw [List.length_take, h1]; omega, ?_⟩
  rcases h2 with ⟨e1, h2⟩ | ⟨g', cap', cur, e1, hB, hc, hn, hx, hz, ht⟩
  · cases e1
    have : m = 0 := by omega
    subst this
    exact .inl ⟨rfl, rfl⟩
  · cases e1
    refine .inr ⟨g', cv, cur, rfl, hB, hc, by omega, hx, hz, ?_⟩
    rw [← ht, List.take_take, Nat.min_eq_left hms]
theorem cellsL_take : ∀ (L : List Nv) (i : Nat), (∀ y ∈ L, y.2.cells.toList.length = 5) → cellsL (L.take i) = (cellsL L).take (i * 5)
  | [], i, _ => by simp [cellsL]
  | y :: L, 0, _ => by simp [cellsL]
  | y :: L, i + 1, h => by
    have h5 := h y (by simp)
    have := cellsL_take L i (fun y hy => h y (by simp [hy]))
    unfold cellsL at this ⊢
    simp only [List.take_succ_cons, List.flatMap_cons, this]
    rw [List.take_append, h5, List.take_of_length_le (l := y.2.cells.toList) (by omega), show (i + 1) * 5 - 5 = i * 5 by omega]
theorem RowL.take (h : RowL w B (.slice av n cv) L) (hn : L.length = n) (hm : m ≤ n) : RowL w B (.slice av m cv) (L.take m) := by
  refine ⟨?_, fun x hx => h.low x (List.mem_of_mem_take hx)⟩
  rw [cellsL_take L m (fun y hy => (h.low y hy).five), List.length_take, hn, Nat.min_eq_left hm]
  have := h.row
  rw [hn] at this
  exact row_take this hm
end
theorem heap_fold_low (os : List Obj) : ∀ (w : World) (k : Nat), k < w.heap.size → (os.foldl (fun w o => w.alloc o) w).heap[k]? = w.heap[k]? := by
  induction os with
  | nil => intro w k _; rfl
  | cons o os ih =>
    intro w k hk
    exact (ih (w.alloc o) k (by simp; omega)).trans (Below.heap_alloc w o k hk)
/-- What was laid, one behind the other. -/
theorem heap_fold (os : List Obj) : ∀ (w : World) (i : Nat), i < os.length → (os.foldl (fun w o => w.alloc o) w).heap[w.heap.size + i]? = os[i]? := by
  induction os with
  | nil => intro w i h; simp at h
  | cons o os ih =>
    intro w i h
    cases i with
    | zero => exact (heap_fold_low os (w.alloc o) w.heap.size (by simp)).trans (heap_alloc_new w o)
    | succ i =>
      have := ih (w.alloc o) i (by simpa using h)
      rw [World.size_alloc, show w.heap.size + 1 + i = w.heap.size + (i + 1) by omega] at this
      exact this
theorem run_cut (av : Option Addr) (n cv d : Nat) (hdn : d ≤ n) (hn : n ≤ cv) (w : World) : (Instr.sliceAt 22 (.slice av n cv) none (some (.int .i64 d)) none).run Try.prog w = .ok (.slice av d cv) w := by
  obtain ⟨ni, hni, hnz, hns, hnb⟩ := info_parts infoNd5
  have he : Try.prog.elem 22 = 24 := by kernel_rfl
  have ht : Try.prog.underlying 22 = some (.slice (Try.prog.elem 22)) := by kernel_rfl
  have h1 := run_sliceAt_slice w 22 (.slice av n cv) none (some (.int .i64 d)) none ht
  have h2 := run_slice_h w 22 av n cv ht .i64 d (by omega) (by omega)
  rw [h1, h2, he]
  simp [sizeOf, typeInfo, hni, sliced]
  cases av <;> simp [Addr.add]
theorem step_cut {F : Fence} {n0 : Nat} {ops : Array Oper} {o : Oper} {a : Act} {w : World} {K : Act → World → Prop} {Q : Exit → Act → World → Prop} {E : Prop} {s x : Operand} {av : Option Addr} {n cv d : Nat} (hgd : o.guard = none)
    (ho : o.op = .slice 22 s none (some x) none) (hs : a.eval s = .slice av n cv) (hx : a.eval x = .int .i64 d) (hdn : d ≤ n) (hn : n ≤ cv)
    (h : K (a.put o.dst (.slice av d cv)) w) : if Region.wanted o (yielded ops a.tmps) = true then Oper.wpIn F n0 Try.prog o a w K Q else E := by
  have hw : Region.wanted o (yielded ops a.tmps) = true := by simp [Region.wanted, hgd]
  rw [if_pos hw]
  unfold Oper.wpIn
  refine ⟨?_, ?_⟩
  · simp [Oper.about, ho]
  · rw [Oper.semAt_plain F _ _ (by rw [ho]; intro c hc'; cases hc')]
    simp [execOp, ho, hs, hx, run_cut av n cv d hdn hn, Result.andThen]
    exact h
theorem row_len {e : TypeId} {s : Nat} {w : World} {B n m : Nat} {v : Value} {xs : List Value} (h : w.ownsRow B e s v n xs) (hn : n = m) : w.ownsRow B e s v m xs := hn ▸ h
theorem RowL.set {w : World} {B : Nat} {v : Value} {L : List Nv} {p : Addr} (h : RowL w B v L) (hp : v.ownBlock ≠ some p.block) (hB : B ≤ p.block) (u : Value) : RowL (w.setCell p u) B v L :=
  ⟨row_same h.row (fun k e => Below.heap_setCell _ _ _ _ (fun e2 => hp (by rw [e, e2]))), fun x hx => (h.low x hx).cells fun q u' hq hc => cell_same (fun cs t fr e => (Below.heap_setCell _ _ _ _ (by have hq : q.block < B := hq; omega)).trans e) hc⟩
theorem rowL_next {w w' : World} {B g cap d : Nat} {v : Value} {L : List Nv} {n : Nd} {nv : Value} (h : RowL w B v L) (hl : L.length = d) (hn : NdV (· < B) w n nv)
    (hown : w'.ownsRow B 24 5 (.slice (some ⟨g, 0, none⟩) (d + 1) cap) (d + 1) (cellsL L ++ nv.cells.toList)) (hat : AppAt w v g w') : RowL w' B (.slice (some ⟨g, 0, none⟩) (d + 1) cap) (L ++ [(n, nv)]) := by
  subst hl
  exact h.next hn hown hat
theorem app_state2 {W wx w' : World} {B d g cap2 : Nat} {av : Option Addr} {cv ob gO : Nat} {xs news : List Value} {u : Value} (h2 : wx.ownsRow B 24 5 (.slice av d cv) d xs)
    (hbel : Below W.heap.size W wx) (hob : W.heap[ob]? = some (.cells #[u] 22 (0, 0))) (hgO : ∀ k, (Value.slice av d cv).ownBlock = some k → k = gO)
    (hown : w'.ownsRow B 24 5 (.slice (some ⟨g, 0, none⟩) (d + 1) cap2) (d + 1) (xs ++ news)) (hat : AppAt wx (.slice av d cv) g w') :
    w'.heap[ob]? = some (.cells #[u] 22 (0, 0)) ∧ (g = gO ∨ W.heap.size ≤ g) ∧ IdFr W gO ob w' ∧ g < w'.heap.size ∧ B ≤ g := by
  have hg := hat.grown
  have hobl := (Array.getElem?_eq_some_iff.1 hob).1
  have hs := hbel.size
  rcases hown.2 with ⟨e, _⟩ | ⟨g', cap', cur, e, hB, hc, hn, hm, hz, _⟩
  · cases e
  · cases e
    refine ⟨?_, ?_, ⟨hg.os.trans hbel.os, hg.tape.trans hbel.tape, hg.output.trans hbel.output, by have := hg.size; omega, fun k hk hk1 _ => ?_⟩, (Array.getElem?_eq_some_iff.1 hc).1, hB⟩
    · refine (hg.block ob (by omega) (fun e => ?_)).trans ((hbel.block ob hobl).trans hob)
      obtain ⟨cur', e'⟩ := row_at h2 e.symm
      rw [hbel.block ob hobl, hob] at e'
      simp at e'
    · rcases hat.at with e | e
      · exact .inl (hgO g e)
      · right; omega
    · exact (hg.block k (by omega) (fun e => hk1 (hgO k e.symm))).trans (hbel.block k hk)
theorem results_cell_one {fn : Func} {p : Tmp} {ty e : TypeId} (h : fn.results = #[.cell p ty]) (tmps : Array Value) (w : World) (g : Nat) (v : Value)
    (hp : tmps.getD p undef = .pointer (some ⟨g, 0, none⟩)) (hu : Try.prog.underlying ty = some (.slice e)) (hc : w.cell? ⟨g, 0, none⟩ = some v) : (results fn tmps).run Try.prog w = .ok v w := by
  have hp' : tmps[p]?.getD undef = .pointer (some ⟨g, 0, none⟩) := by simpa using hp
  simp [results, h, hp', asAddr, loadVar, isAgg, run_underlying hu, hc]
def PathI (W : World) (ob B : Nat) (S : Nat) (up : List Nv) : Prop := ∃ v, W.heap[ob]? = some (.cells #[v] 22 (0, 0)) ∧ RowL W B v up ∧ ∀ k, v.ownBlock = some k → S ≤ k
def Boxes (W : World) (b : Nat) (fa ta : Int) : Prop := W.heap[b + 1]? = some (.cells #[.int .i64 fa] 3 (0, 0)) ∧ W.heap[b + 2]? = some (.cells #[.int .i64 ta] 3 (0, 0)) ∧ W.heap[b + 3]? = some (.cells #[.slice none 0 0] 22 (0, 0))
def stopI (fa ta : Int) (x : Item) : Bool := spN fa ta x.2.1 && decide (0 < x.1)
def NoStop (fa ta : Int) (l : List Item) : Prop := ∀ y ∈ l, stopI fa ta y = false
def StopR (W : World) (b B : Nat) (fa ta : Int) (l : List Item) : Prop := (∃ up, W.heap[b + 3]? = some (.cells #[up] 22 (0, 0)) ∧ RowL W B up (foldUp l [])) ∧ ∃ p x, l = p ++ [x] ∧ NoStop fa ta p ∧ stopI fa ta x = true
def PathR (W : World) (B : Nat) (fa ta : Int) (L : List Item) (e : Ending) : Prop :=
  ∃ a n cap, e = .returned (.slice a n cap) ∧ ((n = 0 ∧ NoStop fa ta L) ∨ ∃ pre x rest, L = pre ++ x :: rest ∧ NoStop fa ta pre ∧ stopI fa ta x = true ∧ (foldUp (pre ++ [x]) []).length = n ∧ RowL W B (.slice a n cap) (foldUp (pre ++ [x]) []))

set_option maxRecDepth 100000 in
set_option maxHeartbeats 4000000 in
theorem path_any (nd : Nd) (v : Value) (fa ta : Int) (w : World) (B : Nat) (hBw : B ≤ w.heap.size) (L : List Item) (hL : LstN w B 0 nd v L) (hgood : goodUp 1000000 L []) (hc : nd.c.cnt ≤ 1000000) (_hlen : L.length ≤ 1000001) :
    Calls Try.prog 40 #[v, .int .i64 fa, .int .i64 ta] w fun e w' => PathR w' B fa ta L e ∧ Below w.heap.size w w' := by
  obtain ⟨ni, hni, hnz, hns, hnb⟩ := info_parts infoNd5
  obtain ⟨a, cap, hv⟩ : ∃ a cap, v = valOf nd.k nd.f nd.t nd.s a nd.c.len cap := by
    obtain ⟨a, cap, _, hv, _⟩ := hL
    exact ⟨a, cap, hv⟩
  have hND := hL.ndP.1
  obtain ⟨k, f, t, s, c⟩ := nd
  simp only at hv hc hL ⊢
  obtain ⟨len, Hl⟩ : ∃ len, Hid (c.len = len) := ⟨_, Lib.hid rfl⟩
  rw [Hl.out] at hv
  subst hv
  have hfa : Fence.wide.fn 11 := trivial
  refine (callsIn_wide (n := 6)).1 ?_
  refine callsIn_of_wp_marks Try.func40 rfl trivial ?_ rfl
  simp only [valOf, Try.ntmps40, List.size_toArray, List.length_cons, List.length_nil, Nat.reduceAdd, Nat.reduceSub, Array.replicate_succ, Array.replicate_zero, List.push_toArray, List.append_toArray, List.nil_append, List.cons_append]
  gi_wp2_with (gi_at_call 11; refine (callsIn_wide.2 (all_any _ _ _ _ _ _ _ _)).mono ?_; rintro e w' ⟨rfl, rfl⟩)
  obtain ⟨w6, Hw6⟩ : ∃ w6, Hid (w6 = (((((w.alloc (.cells #[.int .i64 k, .int .i64 f, .int .i64 t, .string s, .slice a len cap] 24)).alloc (.cells #[.int .i64 fa] 3)).alloc (.cells #[.int .i64 ta] 3)).alloc (.cells #[.slice none 0 0] 22)).alloc (.cells #[.slice none 0 0] 22)).alloc (.cells #[.int .i64 k, .int .i64 f, .int .i64 t, .string s, .slice a len cap] 24)) := ⟨_, Lib.hid rfl⟩
  have hB0 : Below w.heap.size w w6 := by
    rw [Hw6.out]
    exact ((((((Below.refl _ w).alloc (Nat.le_refl _) _).alloc (by simp) _).alloc (by simp; omega) _).alloc (by simp; omega) _).alloc (by simp; omega) _).alloc (by simp; omega) _
  have hsz : w6.heap.size = w.heap.size + 6 := by rw [Hw6.out]; simp
  have hh : ∀ i, i < 6 → w6.heap[w.heap.size + i]? = ([.cells #[.int .i64 k, .int .i64 f, .int .i64 t, .string s, .slice a len cap] 24, .cells #[.int .i64 fa] 3, .cells #[.int .i64 ta] 3, .cells #[.slice none 0 0] 22, .cells #[.slice none 0 0] 22, .cells #[.int .i64 k, .int .i64 f, .int .i64 t, .string s, .slice a len cap] 24] : List Obj)[i]? := fun i hi => by
    rw [Hw6.out]
    exact heap_fold [.cells #[.int .i64 k, .int .i64 f, .int .i64 t, .string s, .slice a len cap] 24, .cells #[.int .i64 fa] 3, .cells #[.int .i64 ta] 3, .cells #[.slice none 0 0] 22, .cells #[.slice none 0 0] 22, .cells #[.int .i64 k, .int .i64 f, .int .i64 t, .string s, .slice a len cap] 24] w i hi
  have hbx : Boxes w6 w.heap.size fa ta := ⟨hh 1 (by decide), hh 2 (by decide), hh 3 (by decide)⟩
  have hob4 : w6.heap[w.heap.size + 4]? = some (.cells #[.slice none 0 0] 22 (0, 0)) := hh 4 (by decide)
  have hb5 : w6.heap[w.heap.size + 5]? = some (.cells (valOf k f t s a len cap).cells 24 (0, 0)) := hh 5 (by decide)
  rw [← Hw6.out]
  simp only [Nat.add_assoc, Nat.reduceAdd]
  have hc3 := cell_of_box hob4
  have hS := lstOk (ob := w.heap.size + 4) (B := B) (by omega)
  have hV : lstV (w.heap.size + 4) w6 := ⟨_, hc3.1, fun k e => by cases e⟩
  refine range_next (n := 6) (by decide) B (w.heap.size + 5) hS rfl rfl ⟨k, f, t, s, c⟩ _ L hV hb5 (hL.cells (fun p u hp hu => (hB0.cell (by omega)).trans hu)) (by show c.cnt ≤ _; omega)
    (fun W l o o' _ h hc => lst_keep_putObj W l o o' h hc)
    (fun pre W => (PathI W (w.heap.size + 4) B w.heap.size (foldUp pre []) ∧ Boxes W w.heap.size fa ta ∧ NoStop fa ta pre) ∧ Below w.heap.size w W)
    (fun c pre W => (c = .ret ∧ StopR W w.heap.size B fa ta pre) ∧ Below w.heap.size w W)
    ?hI
    ?hIx
    ?h0
    (fun x a' W => ∃ Bx, W.heap[Bx]? = some (.cells x.2.2.cells 24 (0, 0)) ∧ (∃ u, W.heap[w.heap.size + 4]? = some (.cells #[u] 22 (0, 0)) ∧ w.heap.size + 5 ≤ Bx ∧ ∀ k, u.ownBlock = some k → k < Bx) ∧
      a' = { tmps := #[.agg #[.int .i64 k, .int .i64 f, .int .i64 t, .string s, .slice a len cap], .int .i64 fa, .int .i64 ta, .pointer (some ⟨w.heap.size, 0, none⟩), .pointer (some ⟨w.heap.size + 1, 0, none⟩), .pointer (some ⟨w.heap.size + 2, 0, none⟩), .pointer (some ⟨w.heap.size + 3, 0, none⟩), .pointer (some ⟨w.heap.size + 4, 0, none⟩), .int .i64 x.1, .pointer (some ⟨Bx, 0, none⟩), .agg #[.int .i64 k, .int .i64 f, .int .i64 t, .string s, .slice a len cap], .func (.func 34) #[] #[.pointer (some ⟨w.heap.size + 5, 0, none⟩)], .int .i64 x.1, x.2.2, undef, undef, undef, undef, undef, undef, undef, undef, undef, undef, undef, undef, undef, undef, undef, undef, undef, undef, undef, undef, undef], defers := [] })
    ?hAx ?assign ?body ?done ?stop
  case hI =>
    refine OwnFrom.and (Own.from (fun s A B' row hs hg hr => ?_) _) (ownFrom_below (Nat.le_refl _) (by omega))
    obtain ⟨⟨v, h1, h2, h6⟩, ⟨h3, h4, h5⟩, h7⟩ := hs
    have hsame : ∀ (k : Nat) (cs : Array Value) (t : TypeId) (fr : Nat × Nat), A.heap[k]? = some (.cells cs t fr) → B'.heap[k]? = some (.cells cs t fr) := fun k cs t fr e =>
      (hg.block k (Array.getElem?_eq_some_iff.1 e).1 (fun e' => by obtain ⟨o, ho, hc⟩ := hr k e'.symm; rw [e] at ho; cases ho; cases hc)).trans e
    exact ⟨⟨v, hsame _ _ _ _ h1, h2.frameC hsame, h6⟩, ⟨hsame _ _ _ _ h3, hsame _ _ _ _ h4, hsame _ _ _ _ h5⟩, h7⟩
  case hIx =>
    intro c
    refine OwnFrom.and (Own.from (fun s A B' row hs hg hr => ?_) _) (ownFrom_below (Nat.le_refl _) (by omega))
    obtain ⟨h0, ⟨up, h1, h2⟩, h3⟩ := hs
    have hsame : ∀ (k : Nat) (cs : Array Value) (t : TypeId) (fr : Nat × Nat), A.heap[k]? = some (.cells cs t fr) → B'.heap[k]? = some (.cells cs t fr) := fun k cs t fr e =>
      (hg.block k (Array.getElem?_eq_some_iff.1 e).1 (fun e' => by obtain ⟨o, ho, hc⟩ := hr k e'.symm; rw [e] at ho; cases ho; cases hc)).trans e
    exact ⟨h0, ⟨up, hsame _ _ _ _ h1, h2.frameC hsame⟩, h3⟩
  case h0 => exact ⟨⟨⟨_, hob4, RowL.nil _ _, fun k e => by cases e⟩, hbx, fun y hy => by simp at hy⟩, hB0⟩
  case hAx =>
    intro x a' s A B' row hs hg hr
    obtain ⟨Bx, h2, ⟨u, h4, h5⟩, h3⟩ := hs
    have hsame : ∀ (k : Nat) (cs : Array Value) (t : TypeId) (fr : Nat × Nat), A.heap[k]? = some (.cells cs t fr) → B'.heap[k]? = some (.cells cs t fr) := fun k cs t fr e =>
      (hg.block k (Array.getElem?_eq_some_iff.1 e).1 (fun e' => by obtain ⟨_, o, ho, hc⟩ := hr k e'.symm; rw [e] at ho; cases ho; cases hc)).trans e
    exact ⟨Bx, hsame _ _ _ _ h2, ⟨u, hsame _ _ _ _ h4, h5⟩, h3⟩
  case assign =>
    rintro l pre ⟨d0, ⟨xk, xf, xt, xs0, xc⟩, xv⟩ W K hp hi hK
    have hx := hp.subset (List.mem_append.2 (.inr (List.mem_singleton.2 rfl)))
    obtain ⟨ax, cx, hvx, _, _, _⟩ := hND _ hx
    simp only at hvx
    subst hvx
    dsimp only [encI] at hK ⊢
    rw [List.zip_toArray, List.foldl_toArray]
    simp only [List.zip_cons_cons, List.zip_nil_left, List.foldl_cons, List.foldl_nil, List.setIfInBounds_toArray, List.set_cons_succ, List.set_cons_zero]
    gi_wp2
    obtain ⟨⟨⟨v, h1, h2, h6⟩, ⟨h3, h4, h5⟩, h7⟩, h8⟩ := id hi
    refine hK _ _ ?_ ?_ ?_ ⟨W.heap.size, heap_alloc_new W _, ⟨v, (Below.heap_alloc _ _ _ (Array.getElem?_eq_some_iff.1 h1).1).trans h1, (Array.getElem?_eq_some_iff.1 h1).1, fun k e => (h2.row.lt k e).2⟩, rfl⟩
    · exact KeepsFrom.of_grownBy (World.grownBy_alloc W _ none) (fun j e => by cases e)
    · exact Keep.grow hS (World.grownBy_alloc W _ none)
    · have ha : ∀ (k : Nat) (o : Obj), W.heap[k]? = some o → (W.alloc (.cells (valOf xk xf xt xs0 ax xc.len cx).cells 24)).heap[k]? = some o := fun k o h => (Below.heap_alloc _ _ _ (Array.getElem?_eq_some_iff.1 h).1).trans h
      exact ⟨⟨⟨v, ha _ _ h1, h2.below ((Below.refl _ W).alloc (Nat.le_refl _) _), h6⟩, ⟨ha _ _ h3, ha _ _ h4, ha _ _ h5⟩, h7⟩, h8.alloc h8.size _⟩
  case body =>
    rintro l pre ⟨d0, ⟨xk, xf, xt, xs0, xc⟩, xv⟩ a' W hp hl ⟨r, hr⟩ ⟨⟨⟨v, h1, hrow, h6⟩, ⟨hq1, hq2, hq3⟩, h7⟩, h3⟩ ⟨Bx, bX, ⟨u, hu1, hBx, hu2⟩, rfl⟩
    have hx := hp.subset (List.mem_append.2 (.inr (List.mem_singleton.2 rfl)))
    have hlt := hp.length_le
    rw [List.length_append] at hlt
    have hndv := hND _ hx
    have hgd : 0 ≤ d0 ∧ d0.toNat ≤ (foldUp pre []).length ∧ d0 ≤ 1000000 := by
      obtain ⟨r, e⟩ := hp
      rw [← e, goodUp_append, goodUp_append] at hgood
      obtain ⟨⟨_, q1, q2, q3, _⟩, _⟩ := hgood
      exact ⟨q1, q2, q3⟩
    obtain ⟨ax, cx, hvx, _, _, _⟩ := id hndv
    simp only at hvx bX hndv
    subst hvx
    rw [h1] at hu1
    cases hu1
    obtain ⟨up, Hup⟩ : ∃ up, Hid (foldUp pre [] = up) := ⟨_, Lib.hid rfl⟩
    rw [Hup.out] at hrow hgd
    obtain ⟨hd0, hdn, hd6⟩ := hgd
    obtain ⟨d, rfl⟩ : ∃ d : Nat, d0 = d := ⟨d0.toNat, by omega⟩
    rw [Int.toNat_natCast] at hdn
    obtain ⟨n, Hn⟩ : ∃ n, Hid (up.length = n) := ⟨_, Lib.hid rfl⟩
    have h2 := hrow.row
    rw [Hn.out] at h2 hdn
    have hdl : (up.take d).length = d := by rw [List.length_take, Hn.out]; omega
    have hc1 := cell_of_box h1
    obtain ⟨av, cv, e⟩ := row_form h2
    subst e
    have hav : av = none → n = 0 ∧ cv = 0 := fun e => by
      subst e
      rcases h2.2 with ⟨e, hn0⟩ | ⟨g', cap', cur, e, _⟩
      · cases e; exact ⟨rfl, rfl⟩
      · cases e
    have hncv : n ≤ cv := by
      rcases h2.2 with ⟨e, hn0⟩ | ⟨g', cap', cur, e, _, _, hn, _⟩
      · cases e; exact Nat.le_refl _
      · cases e; exact hn
    have Hgo := Lib.hid (show ∀ k, (Value.slice av d cv).ownBlock = some k → k = oldOf av (w.heap.size + 4) from fun k e => by cases av <;> simp_all [Value.ownBlock, oldOf])
    have b0 : W.cell? ⟨Bx, 0, none⟩ = some (.int .i64 xk) := by simp only [World.cell?, bX]; rfl
    have b1 : W.cell? ⟨Bx, 1, none⟩ = some (.int .i64 xf) := by simp only [World.cell?, bX]; rfl
    have b2 : W.cell? ⟨Bx, 2, none⟩ = some (.int .i64 xt) := by simp only [World.cell?, bX]; rfl
    have b3 : W.cell? ⟨Bx, 3, none⟩ = some (.string xs0) := by simp only [World.cell?, bX]; rfl
    have b4 : W.cell? ⟨Bx, 4, none⟩ = some (.slice ax xc.len cx) := by simp only [World.cell?, bX]; rfl
    have hgOB : w.heap.size ≤ oldOf av (w.heap.size + 4) := by
      cases av with
      | none => simp only [oldOf]; omega
      | some p => exact h6 p.block rfl
    have hOx : ∀ (j : Nat) (u : Value) (t : TypeId), W.heap[j]? = some (.cells #[u] t (0, 0)) → t ≠ 24 → j ≠ w.heap.size + 4 → j ≠ oldOf av (w.heap.size + 4) := fun j u t hj ht hn e => by
      cases av with
      | none => exact hn e
      | some p =>
        obtain ⟨cur, e'⟩ := row_at h2 (k := p.block) rfl
        have e : j = p.block := e
        rw [e, e'] at hj
        simp at hj
        exact ht hj.2.symm
    have hO1 := hOx _ _ _ hq1 (by decide) (by omega)
    have hO2 := hOx _ _ _ hq2 (by decide) (by omega)
    have hO3 := hOx _ _ _ hq3 (by decide) (by omega)
    have hOB : Bx ≠ oldOf av (w.heap.size + 4) := fun e => by
      cases av with
      | none => simp only [oldOf] at e; omega
      | some p =>
        have := hu2 p.block rfl
        simp only [oldOf] at e
        omega
    clear hOx
    gi_wp2
    rename_i Kr hKr
    -- REGION
    have HD : ∀ (wx : World) (g cap2 : Nat) (v18 : Value), wx.heap[w.heap.size + 4]? = some (.cells #[.slice (some ⟨g, 0, none⟩) (d + 1) cap2] 22 (0, 0)) → (g = oldOf av (w.heap.size + 4) ∨ W.heap.size ≤ g) ∧ w.heap.size ≤ g ∧ IdFr W (oldOf av (w.heap.size + 4)) (w.heap.size + 4) wx ∧ g < wx.heap.size ∧ RowL wx B (.slice (some ⟨g, 0, none⟩) (d + 1) cap2) (up.take d ++ [((⟨xk, xf, xt, xs0, xc⟩ : Nd), .agg #[.int .i64 xk, .int .i64 xf, .int .i64 xt, .string xs0, .slice ax xc.len cx])]) → Kr { tmps := #[.agg #[.int .i64 k, .int .i64 f, .int .i64 t, .string s, .slice a len cap], .int .i64 fa, .int .i64 ta, .pointer (some ⟨w.heap.size, 0, none⟩), .pointer (some ⟨w.heap.size + 1, 0, none⟩), .pointer (some ⟨w.heap.size + 2, 0, none⟩), .pointer (some ⟨w.heap.size + 3, 0, none⟩), .pointer (some ⟨w.heap.size + 4, 0, none⟩), .int .i64 d, .pointer (some ⟨Bx, 0, none⟩), .agg #[.int .i64 k, .int .i64 f, .int .i64 t, .string s, .slice a len cap], .func (.func 34) #[] #[.pointer (some ⟨w.heap.size + 5, 0, none⟩)], .int .i64 d, .agg #[.int .i64 xk, .int .i64 xf, .int .i64 xt, .string xs0, .slice ax xc.len cx], .slice av n cv, .int .i64 d, .slice av d cv, .agg #[.int .i64 xk, .int .i64 xf, .int .i64 xt, .string xs0, .slice ax xc.len cx], v18, .slice (some ⟨g, 0, none⟩) (d + 1) cap2, undef, undef, undef, undef, undef, undef, undef, undef, undef, undef, undef, undef, undef, undef, undef], defers := [] } wx := by
      intro wx g cap2 v18 hob ⟨k1, k2, k3, k4, k5⟩
      refine hKr _ _ ?_
      have same : ∀ j (o : Obj), W.heap[j]? = some o → j ≠ w.heap.size + 4 → j ≠ oldOf av (w.heap.size + 4) → wx.heap[j]? = some o := fun j o ho n1 n2 => (k3.2.2.2.2 j (Array.getElem?_eq_some_iff.1 ho).1 n2 n1).trans ho
      have r1 := same _ _ hq1 (by omega) hO1
      have r2 := same _ _ hq2 (by omega) hO2
      have r3 := same _ _ hq3 (by omega) hO3
      have rB := same _ _ bX (by omega) hOB
      have f0 := cell_of_box r1
      have f1 := cell_of_box r2
      have f2 := cell_of_box r3
      have x1 : wx.cell? ⟨Bx, 1, none⟩ = some (.int .i64 xf) := by simp only [World.cell?, rB]; rfl
      have x2 : wx.cell? ⟨Bx, 2, none⟩ = some (.int .i64 xt) := by simp only [World.cell?, rB]; rfl
      have hobc := cell_of_box hob
      have hdone := fun K => lst_done (wx := wx) (K := K) h1 h2 (by omega) h6 hBw h3 rfl k4 hob k1 k3
      have hfold : foldUp (pre ++ [(((d : Int), ⟨xk, xf, xt, xs0, xc⟩, .agg #[.int .i64 xk, .int .i64 xf, .int .i64 xt, .string xs0, .slice ax xc.len cx]) : Item)]) [] = up.take d ++ [((⟨xk, xf, xt, xs0, xc⟩ : Nd), .agg #[.int .i64 xk, .int .i64 xf, .int .i64 xt, .string xs0, .slice ax xc.len cx])] := by
        rw [foldUp_append, Hup.out]
        simp [foldUp]
      have hcont : stopI fa ta ((d : Int), ⟨xk, xf, xt, xs0, xc⟩, .agg #[.int .i64 xk, .int .i64 xf, .int .i64 xt, .string xs0, .slice ax xc.len cx]) = false → (KeepsFrom (w.heap.size + 6) W wx ∧ Keep (lstS B (w.heap.size + 4)) (lstV (w.heap.size + 4)) W wx ∧ (PathI wx (w.heap.size + 4) B w.heap.size (foldUp (pre ++ [(((d : Int), ⟨xk, xf, xt, xs0, xc⟩, .agg #[.int .i64 xk, .int .i64 xf, .int .i64 xt, .string xs0, .slice ax xc.len cx]) : Item)]) []) ∧ Boxes wx w.heap.size fa ta ∧ NoStop fa ta (pre ++ [(((d : Int), ⟨xk, xf, xt, xs0, xc⟩, .agg #[.int .i64 xk, .int .i64 xf, .int .i64 xt, .string xs0, .slice ax xc.len cx]) : Item)])) ∧ Below w.heap.size w wx) := fun hst => by
        obtain ⟨d1, d2, d3⟩ := hdone (w.heap.size + 6)
        refine ⟨d1, d2, ⟨⟨_, hob, by rw [hfold]; exact k5, fun j e => ?_⟩, ⟨r1, r2, r3⟩, fun y hy => ?_⟩, d3⟩
        · have e : g = j := by simpa [Value.ownBlock] using e
          omega
        · rw [List.mem_append] at hy
          rcases hy with hy | hy
          · exact h7 y hy
          · have hy : y = ((d : Int), ⟨xk, xf, xt, xs0, xc⟩, .agg #[.int .i64 xk, .int .i64 xf, .int .i64 xt, .string xs0, .slice ax xc.len cx]) := by simpa using hy
            subst hy
            exact hst
      have hO3' : g ≠ w.heap.size + 3 := fun e => by
        obtain ⟨cur, e'⟩ := row_at k5.row (k := g) rfl
        rw [e, r3] at e'
        simp at e'
      have Hc := Lib.hid hcont
      clear hcont same
      unfold stopI spN at Hc
      cases d1 : (xf == fa) with
      | false =>
        gi_wp2
        exact Hc.out (by simp only [d1]; rfl)
      | true =>
        cases d2 : (xt == ta) with
        | false =>
          gi_wp2
          exact Hc.out (by simp only [d1, d2]; rfl)
        | true =>
          by_cases d3 : 0 < d
          · have hd3 : decide ((0 : Int) < (d : Int)) = true := decide_eq_true (by omega)
            gi_wp2
            refine ⟨(hdone (w.heap.size + 6)).1.trans ((KeepsOthers.setCell _ _ _).from _), ⟨rfl, ⟨⟨_, box_set r3 _, by rw [hfold]; exact k5.set (by simp only [Value.ownBlock]; exact fun e => hO3' (by simpa using e)) (by simp only; omega) _⟩, pre, _, rfl, h7, ?_⟩⟩, (hdone 0).2.2.setCell (by simp only; omega) _⟩
            unfold stopI spN
            simp only [d1, d2]
            exact hd3
          · have hd0 : d = 0 := by omega
            subst hd0
            gi_wp2
            exact Hc.out (by simp)
    refine wpIn_region_any (by kernel_rfl) ?_
    refine any_inv (Inv := fun fuel listed ac wx => (∃ (e0 e1 e2 e3 e4 : Bool) (v14 v15 v16 v17 v18 : Value), (e2 = true → e0 = true ∧ e1 = true) ∧ (e4 = true → e3 = true) ∧ listed = #[e0, e1, e2, e3, e4, false, false] ∧ fuel + (e0.toNat + e1.toNat + e2.toNat + e3.toNat + e4.toNat) = 7 ∧ ac = { tmps := #[.agg #[.int .i64 k, .int .i64 f, .int .i64 t, .string s, .slice a len cap], .int .i64 fa, .int .i64 ta, .pointer (some ⟨w.heap.size, 0, none⟩), .pointer (some ⟨w.heap.size + 1, 0, none⟩), .pointer (some ⟨w.heap.size + 2, 0, none⟩), .pointer (some ⟨w.heap.size + 3, 0, none⟩), .pointer (some ⟨w.heap.size + 4, 0, none⟩), .int .i64 d, .pointer (some ⟨Bx, 0, none⟩), .agg #[.int .i64 k, .int .i64 f, .int .i64 t, .string s, .slice a len cap], .func (.func 34) #[] #[.pointer (some ⟨w.heap.size + 5, 0, none⟩)], .int .i64 d, .agg #[.int .i64 xk, .int .i64 xf, .int .i64 xt, .string xs0, .slice ax xc.len cx], v14, v15, v16, v17, v18, undef, undef, undef, undef, undef, undef, undef, undef, undef, undef, undef, undef, undef, undef, undef, undef], defers := [] } ∧ (e0 = true → v14 = .slice av n cv) ∧ (e1 = true → v15 = .int .i64 d) ∧ (e2 = true → v16 = .slice av d cv) ∧ (e3 = true → v17 = .agg #[.int .i64 xk, .int .i64 xf, .int .i64 xt, .string xs0, .slice ax xc.len cx]) ∧ (e4 = true → ∃ bz, v18 = .slice (some ⟨bz, 0, none⟩) 1 1 ∧ wx.heap[bz]? = some (.cells #[.int .i64 xk, .int .i64 xf, .int .i64 xt, .string xs0, .slice ax xc.len cx] 24 (0, 0)) ∧ W.heap.size ≤ bz) ∧ Below W.heap.size W wx) ∨ (∃ (e6 : Bool) (g cap2 : Nat) (v18 : Value), listed = #[true, true, true, true, true, true, e6] ∧ fuel + e6.toNat = 1 ∧ ac = { tmps := #[.agg #[.int .i64 k, .int .i64 f, .int .i64 t, .string s, .slice a len cap], .int .i64 fa, .int .i64 ta, .pointer (some ⟨w.heap.size, 0, none⟩), .pointer (some ⟨w.heap.size + 1, 0, none⟩), .pointer (some ⟨w.heap.size + 2, 0, none⟩), .pointer (some ⟨w.heap.size + 3, 0, none⟩), .pointer (some ⟨w.heap.size + 4, 0, none⟩), .int .i64 d, .pointer (some ⟨Bx, 0, none⟩), .agg #[.int .i64 k, .int .i64 f, .int .i64 t, .string s, .slice a len cap], .func (.func 34) #[] #[.pointer (some ⟨w.heap.size + 5, 0, none⟩)], .int .i64 d, .agg #[.int .i64 xk, .int .i64 xf, .int .i64 xt, .string xs0, .slice ax xc.len cx], .slice av n cv, .int .i64 d, .slice av d cv, .agg #[.int .i64 xk, .int .i64 xf, .int .i64 xt, .string xs0, .slice ax xc.len cx], v18, .slice (some ⟨g, 0, none⟩) (d + 1) cap2, undef, undef, undef, undef, undef, undef, undef, undef, undef, undef, undef, undef, undef, undef, undef], defers := [] } ∧ wx.heap[w.heap.size + 4]? = some (.cells #[if e6 = true then .slice (some ⟨g, 0, none⟩) (d + 1) cap2 else .slice av n cv] 22 (0, 0)) ∧ (g = oldOf av (w.heap.size + 4) ∨ W.heap.size ≤ g) ∧ w.heap.size ≤ g ∧ IdFr W (oldOf av (w.heap.size + 4)) (w.heap.size + 4) wx ∧ g < wx.heap.size ∧ RowL wx B (.slice (some ⟨g, 0, none⟩) (d + 1) cap2) (up.take d ++ [((⟨xk, xf, xt, xs0, xc⟩ : Nd), .agg #[.int .i64 xk, .int .i64 xf, .int .i64 xt, .string xs0, .slice ax xc.len cx])]))) ?z0 ?st 7 _ _ _ ?go
    case go => exact .inl ⟨false, false, false, false, false, undef, undef, undef, undef, undef, (fun h => by cases h), (fun h => by cases h), rfl, rfl, rfl, (fun h => by cases h), (fun h => by cases h), (fun h => by cases h), (fun h => by cases h), (fun h => by cases h), (Below.refl _ W).drew⟩
    case z0 =>
      rintro listed ac wx (⟨e0, e1, e2, e3, e4, v14, v15, v16, v17, v18, h2i, h4i, rfl, hfu, rfl, _⟩ | ⟨e6, g, cap2, v18, rfl, hfu, rfl, hob, hfacts⟩)
      · exfalso
        revert hfu
        cases e0 <;> cases e1 <;> cases e2 <;> cases e3 <;> cases e4 <;> simp
      · have he : e6 = true := by
          revert hfu
          cases e6 <;> simp
        subst he
        simp only [if_true] at hob
        exact ⟨by kernel_rfl, HD wx g cap2 v18 hob hfacts⟩
    case st =>
      rintro fuel listed ac wx (⟨e0, e1, e2, e3, e4, v14, v15, v16, v17, v18, h2i, h4i, rfl, hfu, rfl, h14, h15, h16, h17, h18, hbel⟩ | ⟨e6, g, cap2, v18, rfl, hfu, rfl, hob, hfacts⟩)
      · have hob : wx.cell? ⟨w.heap.size + 4, 0, none⟩ = some (.slice av n cv) := cell_below hbel rfl hc1.1
        have q0 : wx.cell? ⟨Bx, 0, none⟩ = some (.int .i64 xk) := cell_below hbel rfl b0
        have q1 : wx.cell? ⟨Bx, 1, none⟩ = some (.int .i64 xf) := cell_below hbel rfl b1
        have q2 : wx.cell? ⟨Bx, 2, none⟩ = some (.int .i64 xt) := cell_below hbel rfl b2
        have q3 : wx.cell? ⟨Bx, 3, none⟩ = some (.string xs0) := cell_below hbel rfl b3
        have q4 : wx.cell? ⟨Bx, 4, none⟩ = some (.slice ax xc.len cx) := cell_below hbel rfl b4
        cases e0 with
        | false =>
          cases e1 with
          | false =>
            cases e2 with
            | false =>
              cases e3 with
              | false =>
                cases e4 with
                | false =>
                  refine inv_ready [0, 1, 3] (by kernel_rfl) (by simp) ?_
                  refine inv_cons rfl (fun K' hK => ?_) ?_
                  · go_simp
                    refine hK _ _ (.inl ⟨true, false, false, false, false, _, _, _, _, _, (fun h => by cases h), (fun h => by cases h), rfl, by simp at hfu ⊢; omega, rfl, (fun _ => rfl), (fun h => by cases h), (fun h => by cases h), (fun h => by cases h), (fun h => by cases h), hbel⟩)
                  refine inv_cons rfl (fun K' hK => ?_) ?_
                  · go_simp
                    refine hK _ _ (.inl ⟨false, true, false, false, false, _, _, _, _, _, (fun h => by cases h), (fun h => by cases h), rfl, by simp at hfu ⊢; omega, rfl, (fun h => by cases h), (fun _ => rfl), (fun h => by cases h), (fun h => by cases h), (fun h => by cases h), hbel⟩)
                  refine inv_cons rfl (fun K' hK => ?_) ?_
                  · go_simp
                    refine hK _ _ (.inl ⟨false, false, false, true, false, _, _, _, _, _, (fun h => by cases h), (fun _ => rfl), rfl, by simp at hfu ⊢; omega, rfl, (fun h => by cases h), (fun h => by cases h), (fun h => by cases h), (fun _ => rfl), (fun h => by cases h), hbel⟩)
                  exact inv_nil
                | true =>
                  exact absurd (h4i rfl) (by decide)
              | true =>
                cases e4 with
                | false =>
                  obtain rfl := h17 rfl
                  refine inv_ready [0, 1, 4] (by kernel_rfl) (by simp) ?_
                  refine inv_cons rfl (fun K' hK => ?_) ?_
                  · go_simp
                    refine hK _ _ (.inl ⟨true, false, false, true, false, _, _, _, _, _, (fun h => by cases h), (fun _ => rfl), rfl, by simp at hfu ⊢; omega, rfl, (fun _ => rfl), (fun h => by cases h), (fun h => by cases h), (fun _ => rfl), (fun h => by cases h), hbel⟩)
                  refine inv_cons rfl (fun K' hK => ?_) ?_
                  · go_simp
                    refine hK _ _ (.inl ⟨false, true, false, true, false, _, _, _, _, _, (fun h => by cases h), (fun _ => rfl), rfl, by simp at hfu ⊢; omega, rfl, (fun h => by cases h), (fun _ => rfl), (fun h => by cases h), (fun _ => rfl), (fun h => by cases h), hbel⟩)
                  refine inv_cons rfl (fun K' hK => ?_) ?_
                  · go_simp
                    refine hK _ _ (.inl ⟨false, false, false, true, true, _, _, _, _, _, (fun h => by cases h), (fun _ => rfl), rfl, by simp at hfu ⊢; omega, rfl, (fun h => by cases h), (fun h => by cases h), (fun h => by cases h), (fun _ => rfl), (fun _ => ⟨wx.heap.size, rfl, heap_alloc_new wx _, hbel.size⟩), (hbel.alloc hbel.size _)⟩)
                  exact inv_nil
                | true =>
                  obtain rfl := h17 rfl
                  obtain ⟨bz, rfl, hz, hzb⟩ := h18 rfl
                  refine inv_ready [0, 1] (by kernel_rfl) (by simp) ?_
                  refine inv_cons rfl (fun K' hK => ?_) ?_
                  · go_simp
                    refine hK _ _ (.inl ⟨true, false, false, true, true, _, _, _, _, _, (fun h => by cases h), (fun _ => rfl), rfl, by simp at hfu ⊢; omega, rfl, (fun _ => rfl), (fun h => by cases h), (fun h => by cases h), (fun _ => rfl), (fun _ => ⟨bz, rfl, hz, hzb⟩), hbel⟩)
                  refine inv_cons rfl (fun K' hK => ?_) ?_
                  · go_simp
                    refine hK _ _ (.inl ⟨false, true, false, true, true, _, _, _, _, _, (fun h => by cases h), (fun _ => rfl), rfl, by simp at hfu ⊢; omega, rfl, (fun h => by cases h), (fun _ => rfl), (fun h => by cases h), (fun _ => rfl), (fun _ => ⟨bz, rfl, hz, hzb⟩), hbel⟩)
                  exact inv_nil
            | true =>
              cases e3 with
              | false =>
                cases e4 with
                | false =>
                  exact absurd (h2i rfl).1 (by decide)
                | true =>
                  exact absurd (h2i rfl).1 (by decide)
              | true =>
                cases e4 with
                | false =>
                  exact absurd (h2i rfl).1 (by decide)
                | true =>
                  exact absurd (h2i rfl).1 (by decide)
          | true =>
            cases e2 with
            | false =>
              cases e3 with
              | false =>
                cases e4 with
                | false =>
                  obtain rfl := h15 rfl
                  refine inv_ready [0, 3] (by kernel_rfl) (by simp) ?_
                  refine inv_cons rfl (fun K' hK => ?_) ?_
                  · go_simp
                    refine hK _ _ (.inl ⟨true, true, false, false, false, _, _, _, _, _, (fun _ => ⟨rfl, rfl⟩), (fun h => by cases h), rfl, by simp at hfu ⊢; omega, rfl, (fun _ => rfl), (fun _ => rfl), (fun h => by cases h), (fun h => by cases h), (fun h => by cases h), hbel⟩)
                  refine inv_cons rfl (fun K' hK => ?_) ?_
                  · go_simp
                    refine hK _ _ (.inl ⟨false, true, false, true, false, _, _, _, _, _, (fun h => by cases h), (fun _ => rfl), rfl, by simp at hfu ⊢; omega, rfl, (fun h => by cases h), (fun _ => rfl), (fun h => by cases h), (fun _ => rfl), (fun h => by cases h), hbel⟩)
                  exact inv_nil
                | true =>
                  exact absurd (h4i rfl) (by decide)
              | true =>
                cases e4 with
                | false =>
                  obtain rfl := h15 rfl
                  obtain rfl := h17 rfl
                  refine inv_ready [0, 4] (by kernel_rfl) (by simp) ?_
                  refine inv_cons rfl (fun K' hK => ?_) ?_
                  · go_simp
                    refine hK _ _ (.inl ⟨true, true, false, true, false, _, _, _, _, _, (fun _ => ⟨rfl, rfl⟩), (fun _ => rfl), rfl, by simp at hfu ⊢; omega, rfl, (fun _ => rfl), (fun _ => rfl), (fun h => by cases h), (fun _ => rfl), (fun h => by cases h), hbel⟩)
                  refine inv_cons rfl (fun K' hK => ?_) ?_
                  · go_simp
                    refine hK _ _ (.inl ⟨false, true, false, true, true, _, _, _, _, _, (fun h => by cases h), (fun _ => rfl), rfl, by simp at hfu ⊢; omega, rfl, (fun h => by cases h), (fun _ => rfl), (fun h => by cases h), (fun _ => rfl), (fun _ => ⟨wx.heap.size, rfl, heap_alloc_new wx _, hbel.size⟩), (hbel.alloc hbel.size _)⟩)
                  exact inv_nil
                | true =>
                  obtain rfl := h15 rfl
                  obtain rfl := h17 rfl
                  obtain ⟨bz, rfl, hz, hzb⟩ := h18 rfl
                  refine inv_ready [0] (by kernel_rfl) (by simp) ?_
                  refine inv_cons rfl (fun K' hK => ?_) ?_
                  · go_simp
                    refine hK _ _ (.inl ⟨true, true, false, true, true, _, _, _, _, _, (fun _ => ⟨rfl, rfl⟩), (fun _ => rfl), rfl, by simp at hfu ⊢; omega, rfl, (fun _ => rfl), (fun _ => rfl), (fun h => by cases h), (fun _ => rfl), (fun _ => ⟨bz, rfl, hz, hzb⟩), hbel⟩)
                  exact inv_nil
            | true =>
              cases e3 with
              | false =>
                cases e4 with
                | false =>
                  exact absurd (h2i rfl).1 (by decide)
                | true =>
                  exact absurd (h2i rfl).1 (by decide)
              | true =>
                cases e4 with
                | false =>
                  exact absurd (h2i rfl).1 (by decide)
                | true =>
                  exact absurd (h2i rfl).1 (by decide)
        | true =>
          cases e1 with
          | false =>
            cases e2 with
            | false =>
              cases e3 with
              | false =>
                cases e4 with
                | false =>
                  obtain rfl := h14 rfl
                  refine inv_ready [1, 3] (by kernel_rfl) (by simp) ?_
                  refine inv_cons rfl (fun K' hK => ?_) ?_
                  · go_simp
                    refine hK _ _ (.inl ⟨true, true, false, false, false, _, _, _, _, _, (fun _ => ⟨rfl, rfl⟩), (fun h => by cases h), rfl, by simp at hfu ⊢; omega, rfl, (fun _ => rfl), (fun _ => rfl), (fun h => by cases h), (fun h => by cases h), (fun h => by cases h), hbel⟩)
                  refine inv_cons rfl (fun K' hK => ?_) ?_
                  · go_simp
                    refine hK _ _ (.inl ⟨true, false, false, true, false, _, _, _, _, _, (fun h => by cases h), (fun _ => rfl), rfl, by simp at hfu ⊢; omega, rfl, (fun _ => rfl), (fun h => by cases h), (fun h => by cases h), (fun _ => rfl), (fun h => by cases h), hbel⟩)
                  exact inv_nil
                | true =>
                  exact absurd (h4i rfl) (by decide)
              | true =>
                cases e4 with
                | false =>
                  obtain rfl := h14 rfl
                  obtain rfl := h17 rfl
                  refine inv_ready [1, 4] (by kernel_rfl) (by simp) ?_
                  refine inv_cons rfl (fun K' hK => ?_) ?_
                  · go_simp
                    refine hK _ _ (.inl ⟨true, true, false, true, false, _, _, _, _, _, (fun _ => ⟨rfl, rfl⟩), (fun _ => rfl), rfl, by simp at hfu ⊢; omega, rfl, (fun _ => rfl), (fun _ => rfl), (fun h => by cases h), (fun _ => rfl), (fun h => by cases h), hbel⟩)
                  refine inv_cons rfl (fun K' hK => ?_) ?_
                  · go_simp
                    refine hK _ _ (.inl ⟨true, false, false, true, true, _, _, _, _, _, (fun h => by cases h), (fun _ => rfl), rfl, by simp at hfu ⊢; omega, rfl, (fun _ => rfl), (fun h => by cases h), (fun h => by cases h), (fun _ => rfl), (fun _ => ⟨wx.heap.size, rfl, heap_alloc_new wx _, hbel.size⟩), (hbel.alloc hbel.size _)⟩)
                  exact inv_nil
                | true =>
                  obtain rfl := h14 rfl
                  obtain rfl := h17 rfl
                  obtain ⟨bz, rfl, hz, hzb⟩ := h18 rfl
                  refine inv_ready [1] (by kernel_rfl) (by simp) ?_
                  refine inv_cons rfl (fun K' hK => ?_) ?_
                  · go_simp
                    refine hK _ _ (.inl ⟨true, true, false, true, true, _, _, _, _, _, (fun _ => ⟨rfl, rfl⟩), (fun _ => rfl), rfl, by simp at hfu ⊢; omega, rfl, (fun _ => rfl), (fun _ => rfl), (fun h => by cases h), (fun _ => rfl), (fun _ => ⟨bz, rfl, hz, hzb⟩), hbel⟩)
                  exact inv_nil
            | true =>
              cases e3 with
              | false =>
                cases e4 with
                | false =>
                  exact absurd (h2i rfl).2 (by decide)
                | true =>
                  exact absurd (h2i rfl).2 (by decide)
              | true =>
                cases e4 with
                | false =>
                  exact absurd (h2i rfl).2 (by decide)
                | true =>
                  exact absurd (h2i rfl).2 (by decide)
          | true =>
            cases e2 with
            | false =>
              cases e3 with
              | false =>
                cases e4 with
                | false =>
                  obtain rfl := h14 rfl
                  obtain rfl := h15 rfl
                  refine inv_ready [2, 3] (by kernel_rfl) (by simp) ?_
                  refine inv_cons rfl (fun K' hK => ?_) ?_
                  · refine step_cut rfl rfl rfl rfl hdn hncv ?_
                    exact hK _ _ (.inl ⟨true, true, true, false, false, _, _, _, _, _, (fun _ => ⟨rfl, rfl⟩), (fun h => by cases h), rfl, by simp at hfu ⊢; omega, rfl, (fun _ => rfl), (fun _ => rfl), (fun _ => rfl), (fun h => by cases h), (fun h => by cases h), hbel⟩)
                  refine inv_cons rfl (fun K' hK => ?_) ?_
                  · go_simp
                    refine hK _ _ (.inl ⟨true, true, false, true, false, _, _, _, _, _, (fun _ => ⟨rfl, rfl⟩), (fun _ => rfl), rfl, by simp at hfu ⊢; omega, rfl, (fun _ => rfl), (fun _ => rfl), (fun h => by cases h), (fun _ => rfl), (fun h => by cases h), hbel⟩)
                  exact inv_nil
                | true =>
                  exact absurd (h4i rfl) (by decide)
              | true =>
                cases e4 with
                | false =>
                  obtain rfl := h14 rfl
                  obtain rfl := h15 rfl
                  obtain rfl := h17 rfl
                  refine inv_ready [2, 4] (by kernel_rfl) (by simp) ?_
                  refine inv_cons rfl (fun K' hK => ?_) ?_
                  · refine step_cut rfl rfl rfl rfl hdn hncv ?_
                    exact hK _ _ (.inl ⟨true, true, true, true, false, _, _, _, _, _, (fun _ => ⟨rfl, rfl⟩), (fun _ => rfl), rfl, by simp at hfu ⊢; omega, rfl, (fun _ => rfl), (fun _ => rfl), (fun _ => rfl), (fun _ => rfl), (fun h => by cases h), hbel⟩)
                  refine inv_cons rfl (fun K' hK => ?_) ?_
                  · go_simp
                    refine hK _ _ (.inl ⟨true, true, false, true, true, _, _, _, _, _, (fun _ => ⟨rfl, rfl⟩), (fun _ => rfl), rfl, by simp at hfu ⊢; omega, rfl, (fun _ => rfl), (fun _ => rfl), (fun h => by cases h), (fun _ => rfl), (fun _ => ⟨wx.heap.size, rfl, heap_alloc_new wx _, hbel.size⟩), (hbel.alloc hbel.size _)⟩)
                  exact inv_nil
                | true =>
                  obtain rfl := h14 rfl
                  obtain rfl := h15 rfl
                  obtain rfl := h17 rfl
                  obtain ⟨bz, rfl, hz, hzb⟩ := h18 rfl
                  refine inv_ready [2] (by kernel_rfl) (by simp) ?_
                  refine inv_cons rfl (fun K' hK => ?_) ?_
                  · refine step_cut rfl rfl rfl rfl hdn hncv ?_
                    exact hK _ _ (.inl ⟨true, true, true, true, true, _, _, _, _, _, (fun _ => ⟨rfl, rfl⟩), (fun _ => rfl), rfl, by simp at hfu ⊢; omega, rfl, (fun _ => rfl), (fun _ => rfl), (fun _ => rfl), (fun _ => rfl), (fun _ => ⟨bz, rfl, hz, hzb⟩), hbel⟩)
                  exact inv_nil
            | true =>
              cases e3 with
              | false =>
                cases e4 with
                | false =>
                  obtain rfl := h14 rfl
                  obtain rfl := h15 rfl
                  obtain rfl := h16 rfl
                  refine inv_ready [3] (by kernel_rfl) (by simp) ?_
                  refine inv_cons rfl (fun K' hK => ?_) ?_
                  · go_simp
                    refine hK _ _ (.inl ⟨true, true, true, true, false, _, _, _, _, _, (fun _ => ⟨rfl, rfl⟩), (fun _ => rfl), rfl, by simp at hfu ⊢; omega, rfl, (fun _ => rfl), (fun _ => rfl), (fun _ => rfl), (fun _ => rfl), (fun h => by cases h), hbel⟩)
                  exact inv_nil
                | true =>
                  exact absurd (h4i rfl) (by decide)
              | true =>
                cases e4 with
                | false =>
                  obtain rfl := h14 rfl
                  obtain rfl := h15 rfl
                  obtain rfl := h16 rfl
                  obtain rfl := h17 rfl
                  refine inv_ready [4] (by kernel_rfl) (by simp) ?_
                  refine inv_cons rfl (fun K' hK => ?_) ?_
                  · go_simp
                    refine hK _ _ (.inl ⟨true, true, true, true, true, _, _, _, _, _, (fun _ => ⟨rfl, rfl⟩), (fun _ => rfl), rfl, by simp at hfu ⊢; omega, rfl, (fun _ => rfl), (fun _ => rfl), (fun _ => rfl), (fun _ => rfl), (fun _ => ⟨wx.heap.size, rfl, heap_alloc_new wx _, hbel.size⟩), (hbel.alloc hbel.size _)⟩)
                  exact inv_nil
                | true =>
                  obtain rfl := h14 rfl
                  obtain rfl := h15 rfl
                  obtain rfl := h16 rfl
                  obtain rfl := h17 rfl
                  obtain ⟨bz, rfl, hz, hzb⟩ := h18 rfl
                  refine inv_ready [5] (by kernel_rfl) (by simp) ?_
                  refine inv_cons rfl (fun K' hK => ?_) ?_
                  · have hrO := hrow.below hbel
                    refine stepIn_app rfl _ _ _ rfl B 24 ni _ 5 64 Try.underlying22 hni hnz hns hnb rfl (.slice av d cv) d (cellsL (up.take d)) rfl (row_len (hrO.take Hn.out hdn).row hdl) ⟨bz, 0, none⟩ 1 1 [.int .i64 xk, .int .i64 xf, .int .i64 xt, .string xs0, .slice ax xc.len cx] rfl rfl (World.news_of_block hz) (fun u hu => by simp at hu; rcases hu with h | h | h | h | h <;> (subst h; rfl)) (by omega) (by unfold maxLen; omega) (by omega) (by have := hbel.size; have := h3.size; omega) ?_
                    intro g cap2 w' hown hat
                    obtain ⟨s1, s2, s3, s4, s5⟩ := app_state2 (row_len (hrO.take Hn.out hdn).row hdl) hbel h1 Hgo.out hown hat
                    exact hK _ _ (.inr ⟨false, g, cap2, _, rfl, by simp at hfu ⊢; omega, rfl, s1, s2, (by have := h3.size; rcases s2 with h | h <;> omega), s3, s4, rowL_next (hrO.take Hn.out hdn) hdl (hndv.cells fun p u hp hu => cell_below (h3.trans (Below.mono hbel h3.size)) (by have hp : p.block < B := hp; omega) hu) hown hat⟩)
                  exact inv_nil
      · cases e6 with
        | true =>
          simp only [if_true] at hob
          refine inv_done (by kernel_rfl) ?_
          exact HD wx g cap2 v18 hob hfacts
        | false =>
          simp only [Bool.false_eq_true, if_false] at hob
          have hoc := cell_of_box hob
          obtain ⟨k1, k2, k3, k4, k5⟩ := hfacts
          have hne : g ≠ w.heap.size + 4 := fun e => by
            obtain ⟨cur, e'⟩ := row_at k5.row (k := g) rfl
            rw [e, hob] at e'
            simp at e'
          refine inv_ready [6] (by kernel_rfl) (by simp) ?_
          refine inv_cons rfl (fun K' hK => ?_) ?_
          · go_simp
            refine hK _ _ (.inr ⟨true, g, cap2, _, rfl, by simp at hfu ⊢; omega, rfl, ?_, k1, k2, k3.set (.inr (.inl rfl)) _ _, by simpa [World.setCell] using k4, k5.set (by simp only [Value.ownBlock]; exact fun e => hne (by simpa using e)) (by simp only; omega) _⟩)
            simp only [World.setCell, Array.getElem?_modify, hob]
            simp
          exact inv_nil
    -- REGION END
  case done =>
    rintro D W hD ⟨⟨⟨v, h1, h2, h6⟩, ⟨hq1, hq2, hq3⟩, h7⟩, h3⟩ hK
    have f2 := cell_of_box hq3
    gi_wp2
    have hq4 := box_set hq3 (.slice none 0 0)
    have h9 := h3.setCell (p := ⟨w.heap.size + 3, 0, none⟩) (by simp only; omega) (.slice none 0 0)
    have hK4 : (W.setCell ⟨w.heap.size + 3, 0, none⟩ (.slice none 0 0)).heap[D]? = some (.deferred (some [])) := (KeepsOthers.setCell W _ _).same _ _ hK rfl
    refine ⟨by simp, .inl ⟨_, _, rfl, run_takeDeferred hK4, ?_⟩⟩
    refine ⟨_, results_cell_one rfl _ _ (w.heap.size + 3) (.slice none 0 0) rfl Try.underlying22 ?_, ⟨none, 0, 0, rfl, .inl ⟨rfl, h7⟩⟩, h9.trans (belowK_b (w := w) (Nat.le_refl _) _ D _ _ (by omega) hK4 rfl rfl)⟩
    have hne : D ≠ w.heap.size + 3 := fun e => by rw [e, hq4] at hK4; cases hK4
    simp only [World.cell?, World.putObj_heap_other (Ne.symm hne), hq4]
    rfl
  case stop =>
    rintro D c pre W hD hpre ⟨⟨rfl, ⟨up, h1, h2⟩, p, x, rfl, h5, h6⟩, h3⟩ hK
    have f2 := cell_of_box h1
    gi_wp2
    obtain ⟨r, hpr⟩ := hpre
    obtain ⟨ua, uc, e⟩ := row_form h2.row
    subst e
    refine ⟨by simp, .inl ⟨_, _, rfl, run_takeDeferred hK, ?_⟩⟩
    have hne : D ≠ w.heap.size + 3 := fun e => by rw [e, h1] at hK; cases hK
    refine ⟨_, results_cell_one rfl _ _ (w.heap.size + 3) _ rfl Try.underlying22 ?_, ⟨ua, _, uc, rfl, .inr ⟨p, x, r, by rw [← hpr]; simp, h5, h6, rfl, ?_⟩⟩, h3.trans (belowK_b (w := w) (Nat.le_refl _) _ D _ _ (by omega) hK rfl rfl)⟩
    · simp only [World.cell?, World.putObj_heap_other (Ne.symm hne), h1]
      rfl
    · refine h2.frameC fun k cs t fr e => ?_
      by_cases hkD : k = D
      · subst hkD; rw [hK] at e; cases e
      · rw [World.putObj_heap_other hkD]; exact e
end Go.Proofs.Ytmkjajapbkdpiaa
