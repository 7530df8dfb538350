/- tree.Idents, where all names are leaves. No condition. -/
import Derived.Test.YtmkjajapbkdpiaaTrAny
import Derived.RangeFuncWrites
namespace Go.Proofs.Ytmkjajapbkdpiaa
open Go.RowKit Go.Shelf
attribute [local go_sem] Oper.semAt_some

theorem infoNd5 : (Try.prog.info? 24).map (fun i => (i.zero, i.size, i.bytes)) = some (some (.agg #[.int .i64 0, .int .i64 0, .int .i64 0, .string ⟨#[]⟩, .slice none 0 0]), 5, 64) := by kernel_rfl

theorem row_same {w w' : World} {b : Nat} {e : TypeId} {s : Nat} {v : Value} {n : Nat} {xs : List Value} (h : w.ownsRow b e s v n xs) (hk : ∀ k, v.ownBlock = some k → w'.heap[k]? = w.heap[k]?) : w'.ownsRow b e s v n xs := by
  obtain ⟨h1, h2⟩ := h
  refine ⟨h1, ?_⟩
  rcases h2 with h2 | ⟨g, cap, cur, rfl, h3, h4, h5⟩
  · exact .inl h2
  · exact .inr ⟨g, cap, cur, rfl, h3, (hk g rfl).trans h4, h5⟩
theorem row_at {w : World} {b : Nat} {e : TypeId} {s : Nat} {v : Value} {n : Nat} {xs : List Value} (h : w.ownsRow b e s v n xs) {k : Nat} (hk : v.ownBlock = some k) : ∃ cur, w.heap[k]? = some (.cells cur e (0, 0)) := by
  rcases h.2 with ⟨rfl, _⟩ | ⟨g, cap, cur, rfl, h3, h4, h5⟩
  · cases hk
  · cases hk; exact ⟨cur, h4⟩

/-- The caller's own: the cell of its list, and the list. -/
def lstS (B ob : Nat) : World → Nat → Prop := fun W k => k = ob ∨ (B ≤ k ∧ ∃ v, W.cell? ⟨ob, 0, none⟩ = some v ∧ v.ownBlock = some k)
def lstV (ob : Nat) : World → Prop := fun W => ∃ v, W.cell? ⟨ob, 0, none⟩ = some v ∧ ∀ k, v.ownBlock = some k → k < W.heap.size
theorem lstOk {B ob : Nat} (h : B ≤ ob) : SOk (lstS B ob) (lstV ob) B where
  low := fun W k e => by
    rcases e with e | e
    · omega
    · exact e.1
  fresh := fun W W' k hv hg hk e => by
    obtain ⟨v, hc, hv⟩ := hv
    have hob := World.block_lt_of_cell? _ _ hc
    rcases e with e | ⟨_, v', hc', hb⟩
    · simp only at hob; omega
    · rw [hg.cell hc (by simp)] at hc'
      cases hc'
      have := hv k hb; omega
  grow := fun W W' k hv hg hk e => by
    obtain ⟨v, hc, _⟩ := hv
    rcases e with e | ⟨h1, v', hc', hb⟩
    · exact .inl e
    · rw [hg.cell hc (by simp)] at hc'
      cases hc'
      exact .inr ⟨h1, v, hc, hb⟩
  valid := fun W W' hv hg => by
    obtain ⟨v, hc, hv⟩ := hv
    exact ⟨v, hg.cell hc (by simp), fun k e => by have := hv k e; have := hg.size; omega⟩
theorem lst_keep_putObj {B ob : Nat} (W : World) (l : Nat) (o o' : Obj) (h : W.heap[l]? = some o) (hc : o.isCells = false) : Keep (lstS B ob) (lstV ob) W (W.putObj l o') := by
  have hcell : ∀ {p : Addr} {v : Value}, W.cell? p = some v → (W.putObj l o').cell? p = some v := fun {p v} hp => by
    refine cell_same (fun cs t fr e => ?_) hp
    by_cases hpl : p.block = l
    · rw [hpl, h] at e; cases e; cases hc
    · rw [World.putObj_heap_other (fun e' => hpl (by omega))]; exact e
  refine ⟨by rw [putObj_heap_size]; exact Nat.le_refl _, fun ⟨v, hv1, hv2⟩ => ⟨⟨v, hcell hv1, fun k e => by rw [putObj_heap_size]; exact hv2 k e⟩, fun k hk hn => ⟨fun e => hn ?_, fun cs t fr e => ?_⟩⟩⟩
  · rcases e with e | ⟨h1, v', hc', hb⟩
    · exact .inl e
    · rw [hcell hv1] at hc'
      cases hc'
      exact .inr ⟨h1, v, hv1, hb⟩
  · by_cases hkl : k = l
    · subst hkl; rw [h] at e; cases e; cases hc
    · rw [World.putObj_heap_other (fun e' => hkl (by omega))]; exact e

/-- What a round of Idents leaves of the rest: all but its list's cell and its list. -/
def IdFr (W : World) (g ob : Nat) (W' : World) : Prop :=
  W'.os = W.os ∧ W'.tape = W.tape ∧ W'.output = W.output ∧ W.heap.size ≤ W'.heap.size ∧ ∀ k, k < W.heap.size → k ≠ g → k ≠ ob → W'.heap[k]? = W.heap[k]?

/-- Where the list lies. -/
def oldOf (av : Option Addr) (ob : Nat) : Nat := match av with | some p => p.block | none => ob
/-- Its list, with room for one more. -/
def RowR (wx : World) (g n cap : Nat) : Prop := ∃ cur, wx.heap[g]? = some (.cells cur 24 (0, 0)) ∧ n ≤ cap ∧ cap ≤ maxLen ∧ cur.size = cap * 5
theorem RowR.set {wx : World} {g n cap : Nat} (h : RowR wx g n cap) (j : Nat) (u : Value) : RowR (wx.setCell ⟨g, j, none⟩ u) g n cap := by
  obtain ⟨cur, h1, h2, h3, h4⟩ := h
  exact ⟨cur.setIfInBounds j u, by simp only [World.setCell, Array.getElem?_modify, h1]; simp, h2, h3, by simpa using h4⟩
theorem RowR.other {wx : World} {g n cap : Nat} (h : RowR wx g n cap) {p : Addr} (hp : p.block ≠ g) (u : Value) : RowR (wx.setCell p u) g n cap := by
  obtain ⟨cur, h1, h2⟩ := h
  exact ⟨cur, (Below.heap_setCell _ _ _ _ (Ne.symm hp)).trans h1, h2⟩
theorem RowR.cell {wx : World} {g n cap : Nat} (h : RowR wx g (n + 1) cap) (j : Nat) (hj : j < 5) : (∃ u, wx.cell? ⟨g, n * 5 + j, none⟩ = some u) ∧ ∀ i, wx.frozen? ⟨g, i, none⟩ = false := by
  obtain ⟨cur, h1, h2, _, h4⟩ := h
  refine ⟨⟨cur[n * 5 + j]'(by omega), ?_⟩, fun i => ?_⟩
  · simp only [World.cell?, h1]; simp [show n * 5 + j < cur.size by omega]
  · simp only [World.frozen?, h1]; simp
theorem IdFr.set {W W' : World} {g gO ob : Nat} (h : IdFr W gO ob W') (hg : g = gO ∨ g = ob ∨ W.heap.size ≤ g) (j : Nat) (u : Value) : IdFr W gO ob (W'.setCell ⟨g, j, none⟩ u) := by
  obtain ⟨h1, h2, h3, h4, h5⟩ := h
  refine ⟨h1, h2, h3, by simp [World.setCell]; omega, fun k hk hk1 hk2 => (Below.heap_setCell _ _ _ _ (fun e => ?_)).trans (h5 k hk hk1 hk2)⟩
  simp only at e
  rcases hg with h | h | h <;> omega
theorem app_state {W wx w' : World} {B n g cap2 : Nat} {av : Option Addr} {cv ob gO : Nat} {xs news : List Value} (h2 : wx.ownsRow B 24 5 (.slice av n cv) n xs)
    (hbel : Below W.heap.size W wx) (hob : W.heap[ob]? = some (.cells #[.slice av n cv] 22 (0, 0))) (hgO : ∀ k, (Value.slice av n cv).ownBlock = some k → k = gO)
    (hown : w'.ownsRow B 24 5 (.slice (some ⟨g, 0, none⟩) (n + 1) cap2) (n + 1) (xs ++ news)) (hat : AppAt wx (.slice av n cv) g w') :
    RowR w' g (n + 1) cap2 ∧ w'.heap[ob]? = some (.cells #[.slice av n cv] 22 (0, 0)) ∧ (g = gO ∨ W.heap.size ≤ g) ∧ IdFr W gO ob w' ∧ B ≤ g := by
  have hg := hat.grown
  have hobl := (Array.getElem?_eq_some_iff.1 hob).1
  have hs := hbel.size
  rcases hown.2 with ⟨e, _⟩ | ⟨g', cap', cur, e, hB, hc, hn, hm, hz, _⟩
  · cases e
  · cases e
    refine ⟨⟨cur, hc, hn, hm, hz⟩, ?_, ?_, ⟨hg.os.trans hbel.os, hg.tape.trans hbel.tape, hg.output.trans hbel.output, by have := hg.size; omega, fun k hk hk1 _ => ?_⟩, hB⟩
    · refine (hg.block ob (by omega) (fun e => ?_)).trans ((hbel.block ob hobl).trans hob)
      obtain ⟨cur', e'⟩ := row_at h2 e.symm
      rw [hbel.block ob hobl, hob] at e'
      simp at e'
    · rcases hat.at with e | e
      · exact .inl (hgO g e)
      · right; omega
    · exact (hg.block k (by omega) (fun e => hk1 (hgO k e.symm))).trans (hbel.block k hk)

theorem idents_done {w W wx : World} {n g cap2 cv gO : Nat} {av : Option Addr} {xs : List Value} (h1 : W.heap[w.heap.size + 1]? = some (.cells #[.slice av n cv] 22 (0, 0)))
    (h2 : W.ownsRow w.heap.size 24 5 (.slice av n cv) n xs) (h3 : Below w.heap.size w W) (hgO : gO = oldOf av (w.heap.size + 1))
    (hR : RowR wx g (n + 1) cap2) (hob : wx.heap[w.heap.size + 1]? = some (.cells #[.slice (some ⟨g, 0, none⟩) (n + 1) cap2] 22 (0, 0))) (hg : g = gO ∨ W.heap.size ≤ g) (hB : w.heap.size ≤ g) (hF : IdFr W gO (w.heap.size + 1) wx) :
    KeepsFrom (w.heap.size + 3) W wx ∧ Keep (lstS w.heap.size (w.heap.size + 1)) (lstV (w.heap.size + 1)) W wx ∧
      (∃ v xs, wx.heap[w.heap.size + 1]? = some (.cells #[v] 22 (0, 0)) ∧ wx.ownsRow w.heap.size 24 5 v (n + 1) xs) ∧ Below w.heap.size w wx := by
  obtain ⟨f1, f2, f3, f4, f5⟩ := hF
  obtain ⟨cur, r1, r2, r3, r4⟩ := hR
  have hgl := (Array.getElem?_eq_some_iff.1 r1).1
  have hoc : ∀ k, k = gO → ∃ c t fr, W.heap[k]? = some (.cells c t fr) := fun k e => by
    subst e; subst hgO
    cases av with
    | none => exact ⟨_, _, _, h1⟩
    | some p =>
      obtain ⟨c, e⟩ := row_at h2 (k := p.block) rfl
      exact ⟨_, _, _, e⟩
  have hgOB : w.heap.size ≤ gO := by
    subst hgO
    cases av with
    | none => simp [oldOf]
    | some p => exact (h2.lt p.block rfl).1
  have hgS : ∀ k, k = gO → lstS w.heap.size (w.heap.size + 1) W k := fun k e => by
    subst e; subst hgO
    cases av with
    | none => exact .inl rfl
    | some p => exact .inr ⟨(h2.lt p.block rfl).1, _, (cell_of_box h1).1, rfl⟩
  refine ⟨⟨f4, fun k o hk ho hc => ?_⟩, ⟨f4, fun _ => ⟨⟨_, (cell_of_box hob).1, fun k e => by cases e; exact hgl⟩, fun k hk hn => ⟨fun e => hn ?_, fun cs t fr e => ?_⟩⟩⟩, ⟨_, cur.toList.take ((n + 1) * 5), hob, ?_, .inr ⟨g, cap2, cur, rfl, hB, r1, r2, r3, r4, rfl⟩⟩, ?_⟩
  · refine (f5 k (Array.getElem?_eq_some_iff.1 ho).1 (fun e => ?_) (fun e => ?_)).trans ho
    · obtain ⟨c, t, fr, e'⟩ := hoc k e
      rw [ho] at e'; cases e'; cases hc
    · rw [e, h1] at ho; cases ho; cases hc
  · rcases e with e | ⟨_, v', hc', hb⟩
    · exact .inl e
    · rw [(cell_of_box hob).1] at hc'
      cases hc'
      have e : g = k := by simpa [Value.ownBlock] using hb
      rcases hg with h | h
      · exact hgS k (by omega)
      · omega
  · refine (f5 k hk (fun e' => hn (hgS k e')) (fun e' => hn (.inl e'))).trans e
  · simp [r4]; omega
  · have hs := h3.size
    exact ⟨f1.trans h3.os, f2.trans h3.tape, f3.trans h3.output, by omega, fun k hk => (f5 k (by omega) (by omega) (by omega)).trans (h3.block k hk)⟩

def isId (x : Item) : Bool := decide (x.2.1.k = 40)
def cntI {L : List Item} (l : List { x : Item // x ∈ L }) : Nat := (l.filter fun x => isId x.1).length

set_option maxRecDepth 100000 in
set_option maxHeartbeats 4000000 in
theorem idents_leaf (nd : Nd) (v : Value) (w : World) (L : List Item) (hL : LstN w w.heap.size 0 nd v L) (hNV : ∀ x ∈ L, NodeV w x.2.1 x.2.2) (hleaf : ∀ x ∈ L, x.2.1.k = 40 → x.2.2 = valOf 40 x.2.1.f x.2.1.t x.2.1.s none 0 0) (hc : nd.c.cnt ≤ 1000000) (hlen : L.length ≤ 1000001) :
    Calls Try.prog 22 #[v] w fun e w' => ∃ a cap, e = .returned (.slice a (L.filter isId).length cap) ∧ Below w.heap.size w w' := by
  obtain ⟨ni, hni, hnz, hns, hnb⟩ := info_parts infoNd5
  obtain ⟨a, cap, hv⟩ : ∃ a cap, v = valOf nd.k nd.f nd.t nd.s a nd.c.len cap := by
    obtain ⟨a, cap, _, hv, _⟩ := hL
    exact ⟨a, cap, hv⟩
  obtain ⟨k, f, t, s, c⟩ := nd
  simp only at hv hc hL ⊢
  obtain ⟨len, Hl⟩ : ∃ len, Hid (c.len = len) := ⟨_, Lib.hid rfl⟩
  rw [Hl.out] at hv
  subst hv
  have hfa : Fence.wide.fn 11 := trivial
  refine (callsIn_wide (n := 6)).1 ?_
  refine callsIn_of_wp_marks Try.func22 rfl trivial ?_ rfl
  simp only [valOf, Try.ntmps22, List.size_toArray, List.length_cons, List.length_nil, Nat.reduceAdd, Nat.reduceSub, Array.replicate_succ, Array.replicate_zero, List.push_toArray, List.append_toArray, List.nil_append, List.cons_append]
  gi_wp2_with (gi_at_call 11; refine (callsIn_wide.2 (all_any _ _ _ _ _ _ _ _)).mono ?_; rintro e w' ⟨rfl, rfl⟩)
  obtain ⟨w4, Hw4⟩ : ∃ w4, Hid (w4 = ((w.alloc (.cells #[.int .i64 k, .int .i64 f, .int .i64 t, .string s, .slice a len cap] 24)).alloc (.cells #[.slice none 0 0] 22)).alloc (.cells #[.int .i64 k, .int .i64 f, .int .i64 t, .string s, .slice a len cap] 24)) := ⟨_, Lib.hid rfl⟩
  have hB0 : Below w.heap.size w w4 := by
    rw [Hw4.out]
    exact (((Below.refl _ w).alloc (Nat.le_refl _) _).alloc (by simp) _).alloc (by simp; omega) _
  have hsz : w4.heap.size = w.heap.size + 3 := by rw [Hw4.out]; simp
  have hb3 : w4.heap[w.heap.size + 1]? = some (.cells #[.slice none 0 0] 22 (0, 0)) := by
    have h1 := heap_alloc_new (w.alloc (.cells #[.int .i64 k, .int .i64 f, .int .i64 t, .string s, .slice a len cap] 24)) (.cells #[.slice none 0 0] 22)
    rw [World.size_alloc] at h1
    rw [Hw4.out]
    exact (Below.heap_alloc _ _ _ (by simp)).trans h1
  have hb4 : w4.heap[w.heap.size + 1 + 1]? = some (.cells (valOf k f t s a len cap).cells 24 (0, 0)) := by
    have h1 := heap_alloc_new ((w.alloc (.cells #[.int .i64 k, .int .i64 f, .int .i64 t, .string s, .slice a len cap] 24)).alloc (.cells #[.slice none 0 0] 22)) (.cells #[.int .i64 k, .int .i64 f, .int .i64 t, .string s, .slice a len cap] 24)
    rw [World.size_alloc, World.size_alloc] at h1
    rw [Hw4.out]
    exact h1
  rw [← Hw4.out]
  have hc3 := cell_of_box hb3
  have hS := lstOk (ob := w.heap.size + 1) (B := w.heap.size) (by omega)
  have hV : lstV (w.heap.size + 1) w4 := ⟨_, hc3.1, fun k e => by cases e⟩
  have hst := all_stops' 5 w.heap.size (w.heap.size + 1 + 1) hS ⟨k, f, t, s, c⟩ _ L w4 hV hb4 (hL.cells (fun p u hp hu => (hB0.cell hp).trans hu)) (by show c.cnt ≤ _; omega)
  refine wpIn_rangeFunc_ownH rfl (by decide) (gf := 34) (lb := #[.pointer (some ⟨w.heap.size + 1 + 1, 0, none⟩)]) rfl trivial (enters_of Try.func34 (by kernel_rfl) rfl)
    hst (fun h k => Keep.trans h k) (fun W l o o' _ h hc _ => lst_keep_putObj W l o o' h hc) (Below.refl _ _) (fun _ => rfl)
    (fun pre W => (∃ v xs, W.heap[w.heap.size + 1]? = some (.cells #[v] 22 (0, 0)) ∧ W.ownsRow w.heap.size 24 5 v (cntI pre) xs) ∧ Below w.heap.size w W)
    (fun _ _ _ => False)
    ?hI
    (fun _ _ _ _ _ hs _ _ => hs)
    ?h0
    (fun x a' W => ∃ Bx, W.heap[Bx]? = some (.cells x.1.2.2.cells 24 (0, 0)) ∧
      a' = { tmps := #[.agg #[.int .i64 k, .int .i64 f, .int .i64 t, .string s, .slice a len cap], .pointer (some ⟨w.heap.size, 0, none⟩), .slice none 0 0, .pointer (some ⟨w.heap.size + 1, 0, none⟩), undef, .pointer (some ⟨Bx, 0, none⟩), .agg #[.int .i64 k, .int .i64 f, .int .i64 t, .string s, .slice a len cap], .func (.func 34) #[] #[.pointer (some ⟨w.heap.size + 1 + 1, 0, none⟩)], .int .i64 x.1.1, x.1.2.2, undef, undef, undef, undef, undef, undef, undef, undef, undef, undef, undef], defers := [] })
    ?hAx ?assign ?body ?done ?stop
  case hI =>
    refine OwnFrom.and (Own.from (fun s A B row hs hg hr => ?_) _) (ownFrom_below (Nat.le_refl _) (by omega))
    obtain ⟨v, xs, h1, h2⟩ := hs
    have hsame : ∀ (k : Nat) (cs : Array Value) (t : TypeId) (fr : Nat × Nat), A.heap[k]? = some (.cells cs t fr) → B.heap[k]? = A.heap[k]? := fun k cs t fr e =>
      hg.block k (Array.getElem?_eq_some_iff.1 e).1 (fun e' => by obtain ⟨o, ho, hc⟩ := hr k e'.symm; rw [e] at ho; cases ho; cases hc)
    refine ⟨v, xs, (hsame _ _ _ _ h1).trans h1, row_same h2 (fun k e => ?_)⟩
    obtain ⟨cur, e'⟩ := row_at h2 e
    exact hsame _ _ _ _ e'
  case h0 => exact ⟨⟨_, [], hb3, World.ownsRow_nil _ _ _ _⟩, hB0⟩
  case hAx =>
    intro x a' s A B row hs hg hr
    obtain ⟨Bx, h2, h3⟩ := hs
    exact ⟨Bx, (hg.block Bx (Array.getElem?_eq_some_iff.1 h2).1 (fun e' => by obtain ⟨_, o, ho, hc⟩ := hr Bx e'.symm; rw [h2] at ho; cases ho; cases hc)).trans h2, h3⟩
  case assign =>
    rintro l pre ⟨⟨d0, ⟨xk, xf, xt, xs0, xc⟩, xv⟩, hx⟩ W K hi hK
    obtain ⟨ax, cx, hvx, _, _, _⟩ := hNV _ hx
    simp only at hvx
    subst hvx
    dsimp only [encI] at hK ⊢
    rw [List.zip_toArray, List.foldl_toArray]
    simp only [List.zip_cons_cons, List.zip_nil_left, List.foldl_cons, List.foldl_nil, List.setIfInBounds_toArray, List.set_cons_succ, List.set_cons_zero]
    gi_wp2
    obtain ⟨⟨v, xs, h1, h2⟩, h3⟩ := id hi
    refine hK _ _ ?_ ?_ ?_ ⟨W.heap.size, heap_alloc_new W _, rfl⟩
    · exact KeepsFrom.of_grownBy (World.grownBy_alloc W _ none) (fun j e => by cases e)
    · exact Keep.grow hS (World.grownBy_alloc W _ none)
    · exact ⟨⟨v, xs, (Below.heap_alloc _ _ _ (Array.getElem?_eq_some_iff.1 h1).1).trans h1, h2.alloc _⟩, h3.alloc h3.size _⟩
  case body =>
    rintro l pre ⟨⟨d0, ⟨xk, xf, xt, xs0, xc⟩, xv⟩, hx⟩ a' W hl ⟨r, hr⟩ ⟨⟨v, xs, h1, h2⟩, h3⟩ ⟨Bx, bX, rfl⟩ hlt
    obtain ⟨ax, cx, hvx, _, _, _⟩ := hNV _ hx
    have hlf := hleaf _ hx
    simp only at hvx bX hlf
    subst hvx
    have b0 : W.cell? ⟨Bx, 0, none⟩ = some (.int .i64 xk) := by simp only [World.cell?, bX]; rfl
    have b1 : W.cell? ⟨Bx, 1, none⟩ = some (.int .i64 xf) := by simp only [World.cell?, bX]; rfl
    have b2 : W.cell? ⟨Bx, 2, none⟩ = some (.int .i64 xt) := by simp only [World.cell?, bX]; rfl
    have b3 : W.cell? ⟨Bx, 3, none⟩ = some (.string xs0) := by simp only [World.cell?, bX]; rfl
    have b4 : W.cell? ⟨Bx, 4, none⟩ = some (.slice ax xc.len cx) := by simp only [World.cell?, bX]; rfl
    cases hid : (xk == 40) with
    | true =>
      have hk : xk = 40 := by simpa using hid
      subst hk
      have hlf := hlf rfl
      simp only [valOf, Value.agg.injEq, Array.mk.injEq, List.cons.injEq, Value.slice.injEq, true_and, and_true] at hlf
      obtain ⟨rfl, h0, rfl⟩ := hlf
      cases xc with
      | cons => simp [Fo.len] at h0
      | nil =>
        have b4 : W.cell? ⟨Bx, 4, none⟩ = some (.slice none 0 0) := b4
        have hc1 := cell_of_box h1
        obtain ⟨av, cv, e⟩ := row_form h2
        subst e
        gi_wp2
        -- REGION
        refine wpIn_region_any (by kernel_rfl) ?_
        have h2o := h2
        have hcnt : cntI (pre ++ [(⟨(d0, ⟨40, xf, xt, xs0, .nil⟩, .agg #[.int .i64 40, .int .i64 xf, .int .i64 xt, .string xs0, .slice none 0 0]), hx⟩ : { x : Item // x ∈ L })]) = cntI pre + 1 := by simp [cntI, isId]
        have hcb : cntI pre ≤ 1000001 := by
          have h9 : cntI pre ≤ pre.length := List.length_filter_le _ _
          omega
        have Hgo := Lib.hid (show ∀ k, (Value.slice av (cntI pre) cv).ownBlock = some k → k = oldOf av (w.heap.size + 1) from fun k e => by cases av <;> simp_all [Value.ownBlock, oldOf])
        refine any_inv (Inv := fun fuel listed ac wx => (∃ (e0 e1 e2 e3 e4 : Bool) (v13 v14 v15 v16 v17 : Value), (e2 = true → e1 = true) ∧ (e3 = true → e0 = true) ∧ listed = #[e0, e1, e2, e3, e4, false, false, false, false] ∧ fuel + (e0.toNat + e1.toNat + e2.toNat + e3.toNat + e4.toNat) = 9 ∧ ac = { tmps := #[.agg #[.int .i64 k, .int .i64 f, .int .i64 t, .string s, .slice a len cap], .pointer (some ⟨w.heap.size, 0, none⟩), .slice none 0 0, .pointer (some ⟨w.heap.size + 1, 0, none⟩), undef, .pointer (some ⟨Bx, 0, none⟩), .agg #[.int .i64 k, .int .i64 f, .int .i64 t, .string s, .slice a len cap], .func (.func 34) #[] #[.pointer (some ⟨w.heap.size + 1 + 1, 0, none⟩)], .int .i64 d0, .agg #[.int .i64 40, .int .i64 xf, .int .i64 xt, .string xs0, .slice none 0 0], .pointer (some ⟨Bx, 0, none⟩), .int .i64 40, .bool true, v13, v14, v15, v16, v17, undef, undef, undef], defers := [] } ∧ (e0 = true → v13 = .slice av (cntI pre) cv) ∧ (e1 = true → v14 = .agg #[.int .i64 40, .int .i64 xf, .int .i64 xt, .string xs0, .slice none 0 0]) ∧ (e2 = true → v15 = .agg #[.int .i64 40, .int .i64 xf, .int .i64 xt, .string xs0, .slice none 0 0]) ∧ (e3 = true → v16 = .int .i64 (cntI pre : Nat)) ∧ (e4 = true → ∃ bz, v17 = .slice (some ⟨bz, 0, none⟩) 1 1 ∧ wx.heap[bz]? = some (.cells #[.int .i64 0, .int .i64 0, .int .i64 0, .string ⟨#[]⟩, .slice none 0 0] 24 (0, 0)) ∧ W.heap.size ≤ bz) ∧ Below W.heap.size W wx) ∨ (∃ (e6 e7 e8 : Bool) (g cap2 : Nat) (v17 v19 : Value), (e7 = true → e6 = true) ∧ listed = #[true, true, true, true, true, true, e6, e7, e8] ∧ fuel + (e6.toNat + e7.toNat + e8.toNat) = 3 ∧ ac = { tmps := #[.agg #[.int .i64 k, .int .i64 f, .int .i64 t, .string s, .slice a len cap], .pointer (some ⟨w.heap.size, 0, none⟩), .slice none 0 0, .pointer (some ⟨w.heap.size + 1, 0, none⟩), undef, .pointer (some ⟨Bx, 0, none⟩), .agg #[.int .i64 k, .int .i64 f, .int .i64 t, .string s, .slice a len cap], .func (.func 34) #[] #[.pointer (some ⟨w.heap.size + 1 + 1, 0, none⟩)], .int .i64 d0, .agg #[.int .i64 40, .int .i64 xf, .int .i64 xt, .string xs0, .slice none 0 0], .pointer (some ⟨Bx, 0, none⟩), .int .i64 40, .bool true, .slice av (cntI pre) cv, .agg #[.int .i64 40, .int .i64 xf, .int .i64 xt, .string xs0, .slice none 0 0], .agg #[.int .i64 40, .int .i64 xf, .int .i64 xt, .string xs0, .slice none 0 0], .int .i64 (cntI pre : Nat), v17, .slice (some ⟨g, 0, none⟩) (cntI pre + 1) cap2, v19, undef], defers := [] } ∧ (e6 = true → v19 = .pointer (some ⟨g, cntI pre * 5, none⟩)) ∧ (RowR wx g (cntI pre + 1) cap2) ∧ wx.heap[w.heap.size + 1]? = some (.cells #[if e8 = true then .slice (some ⟨g, 0, none⟩) (cntI pre + 1) cap2 else .slice av (cntI pre) cv] 22 (0, 0)) ∧ (g = oldOf av (w.heap.size + 1) ∨ W.heap.size ≤ g) ∧ w.heap.size ≤ g ∧ IdFr W (oldOf av (w.heap.size + 1)) (w.heap.size + 1) wx)) ?z0 ?st 9 _ _ _ ?go
        case go => exact .inl ⟨false, false, false, false, false, undef, undef, undef, undef, undef, (fun h => by cases h), (fun h => by cases h), rfl, rfl, rfl, (fun h => by cases h), (fun h => by cases h), (fun h => by cases h), (fun h => by cases h), (fun h => by cases h), (Below.refl _ W).drew⟩
        case z0 =>
          rintro listed ac wx (⟨e0, e1, e2, e3, e4, v13, v14, v15, v16, v17, h21, h30, rfl, hfu, rfl, _⟩ | h2)
          · exfalso
            revert hfu
            cases e0 <;> cases e1 <;> cases e2 <;> cases e3 <;> cases e4 <;> simp
          · obtain ⟨e6, e7, e8, g, cap2, v17, v19, h76, rfl, hfu, rfl, h19, hR, hob, hg, hgB, hF⟩ := h2
            have he : e6 = true ∧ e7 = true ∧ e8 = true := by
              revert hfu
              cases e6 <;> cases e7 <;> cases e8 <;> simp
            obtain ⟨rfl, rfl, rfl⟩ := he
            simp only [if_true] at hob
            obtain ⟨d1, d2, d3, d4⟩ := idents_done h1 h2o h3 rfl hR hob hg hgB hF
            exact ⟨by kernel_rfl, by rw [hsz]; exact d1, d2, by have h9 := d3; rw [← hcnt] at h9; exact h9, d4⟩
        case st =>
          rintro fuel listed ac wx (⟨e0, e1, e2, e3, e4, v13, v14, v15, v16, v17, h21, h30, rfl, hfu, rfl, h13, h14, h15, h16, h17, hbel⟩ | h2)
          · have hob : wx.cell? ⟨w.heap.size + 1, 0, none⟩ = some (.slice av (cntI pre) cv) := cell_below hbel rfl hc1.1
            have q0 : wx.cell? ⟨Bx, 0, none⟩ = some (.int .i64 40) := cell_below hbel rfl b0
            have q1 : wx.cell? ⟨Bx, 1, none⟩ = some (.int .i64 xf) := cell_below hbel rfl b1
            have q2 : wx.cell? ⟨Bx, 2, none⟩ = some (.int .i64 xt) := cell_below hbel rfl b2
            have q3 : wx.cell? ⟨Bx, 3, none⟩ = some (.string xs0) := cell_below hbel rfl b3
            have q4 : wx.cell? ⟨Bx, 4, none⟩ = some (.slice none 0 0) := cell_below hbel rfl b4
            cases e0 with
            | false =>
              cases e1 with
              | false =>
                cases e2 with
                | false =>
                  cases e3 with
                  | false =>
                    cases e4 with
                    | false =>
                      refine inv_ready [0, 1, 4] (by kernel_rfl) (by simp) ?_
                      refine inv_cons rfl (fun K' hK => ?_) ?_
                      · go_simp
                        refine hK _ _ (.inl ⟨true, false, false, false, false, _, _, _, _, _, (fun h => by cases h), (fun _ => rfl), rfl, by simp at hfu ⊢; omega, rfl, (fun _ => rfl), (fun h => by cases h), (fun h => by cases h), (fun h => by cases h), (fun h => by cases h), hbel⟩)
                      refine inv_cons rfl (fun K' hK => ?_) ?_
                      · go_simp
                        refine hK _ _ (.inl ⟨false, true, false, false, false, _, _, _, _, _, (fun _ => rfl), (fun h => by cases h), rfl, by simp at hfu ⊢; omega, rfl, (fun h => by cases h), (fun _ => rfl), (fun h => by cases h), (fun h => by cases h), (fun h => by cases h), hbel⟩)
                      refine inv_cons rfl (fun K' hK => ?_) ?_
                      · go_simp
                        refine hK _ _ (.inl ⟨false, false, false, false, true, _, _, _, _, _, (fun h => by cases h), (fun h => by cases h), rfl, by simp at hfu ⊢; omega, rfl, (fun h => by cases h), (fun h => by cases h), (fun h => by cases h), (fun h => by cases h), (fun _ => ⟨wx.heap.size, rfl, heap_alloc_new wx _, hbel.size⟩), (hbel.alloc hbel.size _)⟩)
                      exact inv_nil
                    | true =>
                      obtain ⟨bz, rfl, hz, hzb⟩ := h17 rfl
                      refine inv_ready [0, 1] (by kernel_rfl) (by simp) ?_
                      refine inv_cons rfl (fun K' hK => ?_) ?_
                      · go_simp
                        refine hK _ _ (.inl ⟨true, false, false, false, true, _, _, _, _, _, (fun h => by cases h), (fun _ => rfl), rfl, by simp at hfu ⊢; omega, rfl, (fun _ => rfl), (fun h => by cases h), (fun h => by cases h), (fun h => by cases h), (fun _ => ⟨bz, rfl, hz, hzb⟩), hbel⟩)
                      refine inv_cons rfl (fun K' hK => ?_) ?_
                      · go_simp
                        refine hK _ _ (.inl ⟨false, true, false, false, true, _, _, _, _, _, (fun _ => rfl), (fun h => by cases h), rfl, by simp at hfu ⊢; omega, rfl, (fun h => by cases h), (fun _ => rfl), (fun h => by cases h), (fun h => by cases h), (fun _ => ⟨bz, rfl, hz, hzb⟩), hbel⟩)
                      exact inv_nil
                  | true =>
                    cases e4 with
                    | false =>
                      exact absurd (h30 rfl) (by decide)
                    | true =>
                      exact absurd (h30 rfl) (by decide)
                | true =>
                  cases e3 with
                  | false =>
                    cases e4 with
                    | false =>
                      exact absurd (h21 rfl) (by decide)
                    | true =>
                      exact absurd (h21 rfl) (by decide)
                  | true =>
                    cases e4 with
                    | false =>
                      exact absurd (h21 rfl) (by decide)
                    | true =>
                      exact absurd (h21 rfl) (by decide)
              | true =>
                cases e2 with
                | false =>
                  cases e3 with
                  | false =>
                    cases e4 with
                    | false =>
                      obtain rfl := h14 rfl
                      refine inv_ready [0, 2, 4] (by kernel_rfl) (by simp) ?_
                      refine inv_cons rfl (fun K' hK => ?_) ?_
                      · go_simp
                        refine hK _ _ (.inl ⟨true, true, false, false, false, _, _, _, _, _, (fun _ => rfl), (fun _ => rfl), rfl, by simp at hfu ⊢; omega, rfl, (fun _ => rfl), (fun _ => rfl), (fun h => by cases h), (fun h => by cases h), (fun h => by cases h), hbel⟩)
                      refine inv_cons rfl (fun K' hK => ?_) ?_
                      · go_simp
                        refine ⟨trivial, ?_⟩
                        refine (CallsIn.inRound l (callsIn_wide.2 (own_leaf 40 xf xt xs0 wx))).mono ?_
                        rintro e w' ⟨rfl, hb⟩
                        refine hK _ _ (.inl ⟨false, true, true, false, false, _, _, _, _, _, (fun _ => rfl), (fun h => by cases h), rfl, by simp at hfu ⊢; omega, rfl, (fun h => by cases h), (fun _ => rfl), (fun _ => rfl), (fun h => by cases h), (fun h => by cases h), (hbel.trans (Below.mono hb hbel.size))⟩)
                      refine inv_cons rfl (fun K' hK => ?_) ?_
                      · go_simp
                        refine hK _ _ (.inl ⟨false, true, false, false, true, _, _, _, _, _, (fun _ => rfl), (fun h => by cases h), rfl, by simp at hfu ⊢; omega, rfl, (fun h => by cases h), (fun _ => rfl), (fun h => by cases h), (fun h => by cases h), (fun _ => ⟨wx.heap.size, rfl, heap_alloc_new wx _, hbel.size⟩), (hbel.alloc hbel.size _)⟩)
                      exact inv_nil
                    | true =>
                      obtain rfl := h14 rfl
                      obtain ⟨bz, rfl, hz, hzb⟩ := h17 rfl
                      refine inv_ready [0, 2] (by kernel_rfl) (by simp) ?_
                      refine inv_cons rfl (fun K' hK => ?_) ?_
                      · go_simp
                        refine hK _ _ (.inl ⟨true, true, false, false, true, _, _, _, _, _, (fun _ => rfl), (fun _ => rfl), rfl, by simp at hfu ⊢; omega, rfl, (fun _ => rfl), (fun _ => rfl), (fun h => by cases h), (fun h => by cases h), (fun _ => ⟨bz, rfl, hz, hzb⟩), hbel⟩)
                      refine inv_cons rfl (fun K' hK => ?_) ?_
                      · go_simp
                        refine ⟨trivial, ?_⟩
                        refine (CallsIn.inRound l (callsIn_wide.2 (own_leaf 40 xf xt xs0 wx))).mono ?_
                        rintro e w' ⟨rfl, hb⟩
                        refine hK _ _ (.inl ⟨false, true, true, false, true, _, _, _, _, _, (fun _ => rfl), (fun h => by cases h), rfl, by simp at hfu ⊢; omega, rfl, (fun h => by cases h), (fun _ => rfl), (fun _ => rfl), (fun h => by cases h), (fun _ => ⟨bz, rfl, (hb.block bz (Array.getElem?_eq_some_iff.1 hz).1).trans hz, hzb⟩), (hbel.trans (Below.mono hb hbel.size))⟩)
                      exact inv_nil
                  | true =>
                    cases e4 with
                    | false =>
                      exact absurd (h30 rfl) (by decide)
                    | true =>
                      exact absurd (h30 rfl) (by decide)
                | true =>
                  cases e3 with
                  | false =>
                    cases e4 with
                    | false =>
                      obtain rfl := h14 rfl
                      obtain rfl := h15 rfl
                      refine inv_ready [0, 4] (by kernel_rfl) (by simp) ?_
                      refine inv_cons rfl (fun K' hK => ?_) ?_
                      · go_simp
                        refine hK _ _ (.inl ⟨true, true, true, false, false, _, _, _, _, _, (fun _ => rfl), (fun _ => rfl), rfl, by simp at hfu ⊢; omega, rfl, (fun _ => rfl), (fun _ => rfl), (fun _ => rfl), (fun h => by cases h), (fun h => by cases h), hbel⟩)
                      refine inv_cons rfl (fun K' hK => ?_) ?_
                      · go_simp
                        refine hK _ _ (.inl ⟨false, true, true, false, true, _, _, _, _, _, (fun _ => rfl), (fun h => by cases h), rfl, by simp at hfu ⊢; omega, rfl, (fun h => by cases h), (fun _ => rfl), (fun _ => rfl), (fun h => by cases h), (fun _ => ⟨wx.heap.size, rfl, heap_alloc_new wx _, hbel.size⟩), (hbel.alloc hbel.size _)⟩)
                      exact inv_nil
                    | true =>
                      obtain rfl := h14 rfl
                      obtain rfl := h15 rfl
                      obtain ⟨bz, rfl, hz, hzb⟩ := h17 rfl
                      refine inv_ready [0] (by kernel_rfl) (by simp) ?_
                      refine inv_cons rfl (fun K' hK => ?_) ?_
                      · go_simp
                        refine hK _ _ (.inl ⟨true, true, true, false, true, _, _, _, _, _, (fun _ => rfl), (fun _ => rfl), rfl, by simp at hfu ⊢; omega, rfl, (fun _ => rfl), (fun _ => rfl), (fun _ => rfl), (fun h => by cases h), (fun _ => ⟨bz, rfl, hz, hzb⟩), hbel⟩)
                      exact inv_nil
                  | true =>
                    cases e4 with
                    | false =>
                      exact absurd (h30 rfl) (by decide)
                    | true =>
                      exact absurd (h30 rfl) (by decide)
            | true =>
              cases e1 with
              | false =>
                cases e2 with
                | false =>
                  cases e3 with
                  | false =>
                    cases e4 with
                    | false =>
                      obtain rfl := h13 rfl
                      refine inv_ready [1, 3, 4] (by kernel_rfl) (by simp) ?_
                      refine inv_cons rfl (fun K' hK => ?_) ?_
                      · go_simp
                        refine hK _ _ (.inl ⟨true, true, false, false, false, _, _, _, _, _, (fun _ => rfl), (fun _ => rfl), rfl, by simp at hfu ⊢; omega, rfl, (fun _ => rfl), (fun _ => rfl), (fun h => by cases h), (fun h => by cases h), (fun h => by cases h), hbel⟩)
                      refine inv_cons rfl (fun K' hK => ?_) ?_
                      · go_simp
                        refine hK _ _ (.inl ⟨true, false, false, true, false, _, _, _, _, _, (fun h => by cases h), (fun _ => rfl), rfl, by simp at hfu ⊢; omega, rfl, (fun _ => rfl), (fun h => by cases h), (fun h => by cases h), (fun _ => rfl), (fun h => by cases h), hbel⟩)
                      refine inv_cons rfl (fun K' hK => ?_) ?_
                      · go_simp
                        refine hK _ _ (.inl ⟨true, false, false, false, true, _, _, _, _, _, (fun h => by cases h), (fun _ => rfl), rfl, by simp at hfu ⊢; omega, rfl, (fun _ => rfl), (fun h => by cases h), (fun h => by cases h), (fun h => by cases h), (fun _ => ⟨wx.heap.size, rfl, heap_alloc_new wx _, hbel.size⟩), (hbel.alloc hbel.size _)⟩)
                      exact inv_nil
                    | true =>
                      obtain rfl := h13 rfl
                      obtain ⟨bz, rfl, hz, hzb⟩ := h17 rfl
                      refine inv_ready [1, 3] (by kernel_rfl) (by simp) ?_
                      refine inv_cons rfl (fun K' hK => ?_) ?_
                      · go_simp
                        refine hK _ _ (.inl ⟨true, true, false, false, true, _, _, _, _, _, (fun _ => rfl), (fun _ => rfl), rfl, by simp at hfu ⊢; omega, rfl, (fun _ => rfl), (fun _ => rfl), (fun h => by cases h), (fun h => by cases h), (fun _ => ⟨bz, rfl, hz, hzb⟩), hbel⟩)
                      refine inv_cons rfl (fun K' hK => ?_) ?_
                      · go_simp
                        refine hK _ _ (.inl ⟨true, false, false, true, true, _, _, _, _, _, (fun h => by cases h), (fun _ => rfl), rfl, by simp at hfu ⊢; omega, rfl, (fun _ => rfl), (fun h => by cases h), (fun h => by cases h), (fun _ => rfl), (fun _ => ⟨bz, rfl, hz, hzb⟩), hbel⟩)
                      exact inv_nil
                  | true =>
                    cases e4 with
                    | false =>
                      obtain rfl := h13 rfl
                      obtain rfl := h16 rfl
                      refine inv_ready [1, 4] (by kernel_rfl) (by simp) ?_
                      refine inv_cons rfl (fun K' hK => ?_) ?_
                      · go_simp
                        refine hK _ _ (.inl ⟨true, true, false, true, false, _, _, _, _, _, (fun _ => rfl), (fun _ => rfl), rfl, by simp at hfu ⊢; omega, rfl, (fun _ => rfl), (fun _ => rfl), (fun h => by cases h), (fun _ => rfl), (fun h => by cases h), hbel⟩)
                      refine inv_cons rfl (fun K' hK => ?_) ?_
                      · go_simp
                        refine hK _ _ (.inl ⟨true, false, false, true, true, _, _, _, _, _, (fun h => by cases h), (fun _ => rfl), rfl, by simp at hfu ⊢; omega, rfl, (fun _ => rfl), (fun h => by cases h), (fun h => by cases h), (fun _ => rfl), (fun _ => ⟨wx.heap.size, rfl, heap_alloc_new wx _, hbel.size⟩), (hbel.alloc hbel.size _)⟩)
                      exact inv_nil
                    | true =>
                      obtain rfl := h13 rfl
                      obtain rfl := h16 rfl
                      obtain ⟨bz, rfl, hz, hzb⟩ := h17 rfl
                      refine inv_ready [1] (by kernel_rfl) (by simp) ?_
                      refine inv_cons rfl (fun K' hK => ?_) ?_
                      · go_simp
                        refine hK _ _ (.inl ⟨true, true, false, true, true, _, _, _, _, _, (fun _ => rfl), (fun _ => rfl), rfl, by simp at hfu ⊢; omega, rfl, (fun _ => rfl), (fun _ => rfl), (fun h => by cases h), (fun _ => rfl), (fun _ => ⟨bz, rfl, hz, hzb⟩), hbel⟩)
                      exact inv_nil
                | true =>
                  cases e3 with
                  | false =>
                    cases e4 with
                    | false =>
                      exact absurd (h21 rfl) (by decide)
                    | true =>
                      exact absurd (h21 rfl) (by decide)
                  | true =>
                    cases e4 with
                    | false =>
                      exact absurd (h21 rfl) (by decide)
                    | true =>
                      exact absurd (h21 rfl) (by decide)
              | true =>
                cases e2 with
                | false =>
                  cases e3 with
                  | false =>
                    cases e4 with
                    | false =>
                      obtain rfl := h13 rfl
                      obtain rfl := h14 rfl
                      refine inv_ready [2, 3, 4] (by kernel_rfl) (by simp) ?_
                      refine inv_cons rfl (fun K' hK => ?_) ?_
                      · go_simp
                        refine ⟨trivial, ?_⟩
                        refine (CallsIn.inRound l (callsIn_wide.2 (own_leaf 40 xf xt xs0 wx))).mono ?_
                        rintro e w' ⟨rfl, hb⟩
                        refine hK _ _ (.inl ⟨true, true, true, false, false, _, _, _, _, _, (fun _ => rfl), (fun _ => rfl), rfl, by simp at hfu ⊢; omega, rfl, (fun _ => rfl), (fun _ => rfl), (fun _ => rfl), (fun h => by cases h), (fun h => by cases h), (hbel.trans (Below.mono hb hbel.size))⟩)
                      refine inv_cons rfl (fun K' hK => ?_) ?_
                      · go_simp
                        refine hK _ _ (.inl ⟨true, true, false, true, false, _, _, _, _, _, (fun _ => rfl), (fun _ => rfl), rfl, by simp at hfu ⊢; omega, rfl, (fun _ => rfl), (fun _ => rfl), (fun h => by cases h), (fun _ => rfl), (fun h => by cases h), hbel⟩)
                      refine inv_cons rfl (fun K' hK => ?_) ?_
                      · go_simp
                        refine hK _ _ (.inl ⟨true, true, false, false, true, _, _, _, _, _, (fun _ => rfl), (fun _ => rfl), rfl, by simp at hfu ⊢; omega, rfl, (fun _ => rfl), (fun _ => rfl), (fun h => by cases h), (fun h => by cases h), (fun _ => ⟨wx.heap.size, rfl, heap_alloc_new wx _, hbel.size⟩), (hbel.alloc hbel.size _)⟩)
                      exact inv_nil
                    | true =>
                      obtain rfl := h13 rfl
                      obtain rfl := h14 rfl
                      obtain ⟨bz, rfl, hz, hzb⟩ := h17 rfl
                      refine inv_ready [2, 3] (by kernel_rfl) (by simp) ?_
                      refine inv_cons rfl (fun K' hK => ?_) ?_
                      · go_simp
                        refine ⟨trivial, ?_⟩
                        refine (CallsIn.inRound l (callsIn_wide.2 (own_leaf 40 xf xt xs0 wx))).mono ?_
                        rintro e w' ⟨rfl, hb⟩
                        refine hK _ _ (.inl ⟨true, true, true, false, true, _, _, _, _, _, (fun _ => rfl), (fun _ => rfl), rfl, by simp at hfu ⊢; omega, rfl, (fun _ => rfl), (fun _ => rfl), (fun _ => rfl), (fun h => by cases h), (fun _ => ⟨bz, rfl, (hb.block bz (Array.getElem?_eq_some_iff.1 hz).1).trans hz, hzb⟩), (hbel.trans (Below.mono hb hbel.size))⟩)
                      refine inv_cons rfl (fun K' hK => ?_) ?_
                      · go_simp
                        refine hK _ _ (.inl ⟨true, true, false, true, true, _, _, _, _, _, (fun _ => rfl), (fun _ => rfl), rfl, by simp at hfu ⊢; omega, rfl, (fun _ => rfl), (fun _ => rfl), (fun h => by cases h), (fun _ => rfl), (fun _ => ⟨bz, rfl, hz, hzb⟩), hbel⟩)
                      exact inv_nil
                  | true =>
                    cases e4 with
                    | false =>
                      obtain rfl := h13 rfl
                      obtain rfl := h14 rfl
                      obtain rfl := h16 rfl
                      refine inv_ready [2, 4] (by kernel_rfl) (by simp) ?_
                      refine inv_cons rfl (fun K' hK => ?_) ?_
                      · go_simp
                        refine ⟨trivial, ?_⟩
                        refine (CallsIn.inRound l (callsIn_wide.2 (own_leaf 40 xf xt xs0 wx))).mono ?_
                        rintro e w' ⟨rfl, hb⟩
                        refine hK _ _ (.inl ⟨true, true, true, true, false, _, _, _, _, _, (fun _ => rfl), (fun _ => rfl), rfl, by simp at hfu ⊢; omega, rfl, (fun _ => rfl), (fun _ => rfl), (fun _ => rfl), (fun _ => rfl), (fun h => by cases h), (hbel.trans (Below.mono hb hbel.size))⟩)
                      refine inv_cons rfl (fun K' hK => ?_) ?_
                      · go_simp
                        refine hK _ _ (.inl ⟨true, true, false, true, true, _, _, _, _, _, (fun _ => rfl), (fun _ => rfl), rfl, by simp at hfu ⊢; omega, rfl, (fun _ => rfl), (fun _ => rfl), (fun h => by cases h), (fun _ => rfl), (fun _ => ⟨wx.heap.size, rfl, heap_alloc_new wx _, hbel.size⟩), (hbel.alloc hbel.size _)⟩)
                      exact inv_nil
                    | true =>
                      obtain rfl := h13 rfl
                      obtain rfl := h14 rfl
                      obtain rfl := h16 rfl
                      obtain ⟨bz, rfl, hz, hzb⟩ := h17 rfl
                      refine inv_ready [2] (by kernel_rfl) (by simp) ?_
                      refine inv_cons rfl (fun K' hK => ?_) ?_
                      · go_simp
                        refine ⟨trivial, ?_⟩
                        refine (CallsIn.inRound l (callsIn_wide.2 (own_leaf 40 xf xt xs0 wx))).mono ?_
                        rintro e w' ⟨rfl, hb⟩
                        refine hK _ _ (.inl ⟨true, true, true, true, true, _, _, _, _, _, (fun _ => rfl), (fun _ => rfl), rfl, by simp at hfu ⊢; omega, rfl, (fun _ => rfl), (fun _ => rfl), (fun _ => rfl), (fun _ => rfl), (fun _ => ⟨bz, rfl, (hb.block bz (Array.getElem?_eq_some_iff.1 hz).1).trans hz, hzb⟩), (hbel.trans (Below.mono hb hbel.size))⟩)
                      exact inv_nil
                | true =>
                  cases e3 with
                  | false =>
                    cases e4 with
                    | false =>
                      obtain rfl := h13 rfl
                      obtain rfl := h14 rfl
                      obtain rfl := h15 rfl
                      refine inv_ready [3, 4] (by kernel_rfl) (by simp) ?_
                      refine inv_cons rfl (fun K' hK => ?_) ?_
                      · go_simp
                        refine hK _ _ (.inl ⟨true, true, true, true, false, _, _, _, _, _, (fun _ => rfl), (fun _ => rfl), rfl, by simp at hfu ⊢; omega, rfl, (fun _ => rfl), (fun _ => rfl), (fun _ => rfl), (fun _ => rfl), (fun h => by cases h), hbel⟩)
                      refine inv_cons rfl (fun K' hK => ?_) ?_
                      · go_simp
                        refine hK _ _ (.inl ⟨true, true, true, false, true, _, _, _, _, _, (fun _ => rfl), (fun _ => rfl), rfl, by simp at hfu ⊢; omega, rfl, (fun _ => rfl), (fun _ => rfl), (fun _ => rfl), (fun h => by cases h), (fun _ => ⟨wx.heap.size, rfl, heap_alloc_new wx _, hbel.size⟩), (hbel.alloc hbel.size _)⟩)
                      exact inv_nil
                    | true =>
                      obtain rfl := h13 rfl
                      obtain rfl := h14 rfl
                      obtain rfl := h15 rfl
                      obtain ⟨bz, rfl, hz, hzb⟩ := h17 rfl
                      refine inv_ready [3] (by kernel_rfl) (by simp) ?_
                      refine inv_cons rfl (fun K' hK => ?_) ?_
                      · go_simp
                        refine hK _ _ (.inl ⟨true, true, true, true, true, _, _, _, _, _, (fun _ => rfl), (fun _ => rfl), rfl, by simp at hfu ⊢; omega, rfl, (fun _ => rfl), (fun _ => rfl), (fun _ => rfl), (fun _ => rfl), (fun _ => ⟨bz, rfl, hz, hzb⟩), hbel⟩)
                      exact inv_nil
                  | true =>
                    cases e4 with
                    | false =>
                      obtain rfl := h13 rfl
                      obtain rfl := h14 rfl
                      obtain rfl := h15 rfl
                      obtain rfl := h16 rfl
                      refine inv_ready [4] (by kernel_rfl) (by simp) ?_
                      refine inv_cons rfl (fun K' hK => ?_) ?_
                      · go_simp
                        refine hK _ _ (.inl ⟨true, true, true, true, true, _, _, _, _, _, (fun _ => rfl), (fun _ => rfl), rfl, by simp at hfu ⊢; omega, rfl, (fun _ => rfl), (fun _ => rfl), (fun _ => rfl), (fun _ => rfl), (fun _ => ⟨wx.heap.size, rfl, heap_alloc_new wx _, hbel.size⟩), (hbel.alloc hbel.size _)⟩)
                      exact inv_nil
                    | true =>
                      obtain rfl := h13 rfl
                      obtain rfl := h14 rfl
                      obtain rfl := h15 rfl
                      obtain rfl := h16 rfl
                      obtain ⟨bz, rfl, hz, hzb⟩ := h17 rfl
                      refine inv_ready [5] (by kernel_rfl) (by simp) ?_
                      refine inv_cons rfl (fun K' hK => ?_) ?_
                      · have hrw : wx.ownsRow w.heap.size 24 5 (.slice av (cntI pre) cv) (cntI pre) xs := row_same h2 (fun k e => hbel.block k (h2.lt k e).2)
                        refine stepIn_app rfl _ _ _ rfl w.heap.size 24 ni _ 5 64 Try.underlying22 hni hnz hns hnb rfl (.slice av (cntI pre) cv) (cntI pre) xs rfl hrw ⟨bz, 0, none⟩ 1 1 [.int .i64 0, .int .i64 0, .int .i64 0, .string ⟨#[]⟩, .slice none 0 0] rfl rfl (World.news_of_block hz) (fun u hu => by simp at hu; rcases hu with h | h | h <;> (subst h; rfl)) (by omega) (by unfold maxLen; omega) (by omega) (by have := h3.size; have := hbel.size; omega) ?_
                        intro g cap2 w' hown hat
                        obtain ⟨s1, s2, s3, s4, s5⟩ := app_state hrw hbel h1 Hgo.out hown hat
                        exact hK _ _ (.inr ⟨false, false, false, g, cap2, _, undef, (fun h => by cases h), rfl, by simp at hfu ⊢; omega, rfl, (fun h => by cases h), s1, s2, s3, s5, s4⟩)
                      exact inv_nil
          · obtain ⟨e6, e7, e8, g, cap2, v17, v19, h76, rfl, hfu, rfl, h19, hR, hob, hg, hgB, hF⟩ := h2
            have hne : g ≠ w.heap.size + 1 := fun e => by
              obtain ⟨cur, r1, _⟩ := hR
              rw [e, hob] at r1
              simp at r1
            have hoc := cell_of_box hob
            obtain ⟨⟨u0, c0⟩, hfz⟩ := hR.cell 0 (by decide)
            obtain ⟨⟨u1, c1⟩, hfz⟩ := hR.cell 1 (by decide)
            obtain ⟨⟨u2, c2⟩, hfz⟩ := hR.cell 2 (by decide)
            obtain ⟨⟨u3, c3⟩, hfz⟩ := hR.cell 3 (by decide)
            obtain ⟨⟨u4, c4⟩, hfz⟩ := hR.cell 4 (by decide)
            have z0 := hfz (cntI pre * 5 + 0)
            have z1 := hfz (cntI pre * 5 + 1)
            have z2 := hfz (cntI pre * 5 + 2)
            have z3 := hfz (cntI pre * 5 + 3)
            have z4 := hfz (cntI pre * 5 + 4)
            rw [Nat.add_zero] at c0 z0
            cases e6 with
            | false =>
              cases e7 with
              | false =>
                cases e8 with
                | false =>
                  simp only [Bool.false_eq_true, if_false] at hob hoc
                  refine inv_ready [6, 8] (by kernel_rfl) (by simp) ?_
                  refine inv_cons rfl (fun K' hK => ?_) ?_
                  · go_simp
                    rw [if_pos (by omega)]
                    go_simp
                    refine hK _ _ (.inr ⟨true, false, false, g, cap2, _, _, (fun _ => rfl), rfl, by simp at hfu ⊢; omega, rfl, (fun _ => rfl), hR, by simpa using hob, hg, hgB, hF⟩)
                  refine inv_cons rfl (fun K' hK => ?_) ?_
                  · go_simp
                    refine hK _ _ (.inr ⟨false, false, true, g, cap2, _, _, (fun h => by cases h), rfl, by simp at hfu ⊢; omega, rfl, (fun h => by cases h), hR.other (Ne.symm hne) _, ?_, hg, hgB, hF.set (.inr (.inl rfl)) _ _⟩)
                    simp only [World.setCell, Array.getElem?_modify, hob]
                    simp
                  exact inv_nil
                | true =>
                  simp only [if_true] at hob hoc
                  refine inv_ready [6] (by kernel_rfl) (by simp) ?_
                  refine inv_cons rfl (fun K' hK => ?_) ?_
                  · go_simp
                    rw [if_pos (by omega)]
                    go_simp
                    refine hK _ _ (.inr ⟨true, false, true, g, cap2, _, _, (fun _ => rfl), rfl, by simp at hfu ⊢; omega, rfl, (fun _ => rfl), hR, by simpa using hob, hg, hgB, hF⟩)
                  exact inv_nil
              | true =>
                cases e8 with
                | false =>
                  exact absurd (h76 rfl) (by decide)
                | true =>
                  exact absurd (h76 rfl) (by decide)
            | true =>
              cases e7 with
              | false =>
                cases e8 with
                | false =>
                  obtain rfl := h19 rfl
                  simp only [Bool.false_eq_true, if_false] at hob hoc
                  refine inv_ready [7, 8] (by kernel_rfl) (by simp) ?_
                  refine inv_cons rfl (fun K' hK => ?_) ?_
                  · go_simp
                    refine hK _ _ (.inr ⟨true, true, false, g, cap2, _, _, (fun _ => rfl), rfl, by simp at hfu ⊢; omega, rfl, (fun _ => rfl), ((((hR.set _ _).set _ _).set _ _).set _ _).set _ _, ?_, hg, hgB, ((((hF.set (hg.imp_right .inr) _ _).set (hg.imp_right .inr) _ _).set (hg.imp_right .inr) _ _).set (hg.imp_right .inr) _ _).set (hg.imp_right .inr) _ _⟩)
                    simp only [World.setCell, Array.getElem?_modify, if_neg hne, hob]
                    simp
                  refine inv_cons rfl (fun K' hK => ?_) ?_
                  · go_simp
                    refine hK _ _ (.inr ⟨true, false, true, g, cap2, _, _, (fun _ => rfl), rfl, by simp at hfu ⊢; omega, rfl, (fun _ => rfl), hR.other (Ne.symm hne) _, ?_, hg, hgB, hF.set (.inr (.inl rfl)) _ _⟩)
                    simp only [World.setCell, Array.getElem?_modify, hob]
                    simp
                  exact inv_nil
                | true =>
                  obtain rfl := h19 rfl
                  simp only [if_true] at hob hoc
                  refine inv_ready [7] (by kernel_rfl) (by simp) ?_
                  refine inv_cons rfl (fun K' hK => ?_) ?_
                  · go_simp
                    refine hK _ _ (.inr ⟨true, true, true, g, cap2, _, _, (fun _ => rfl), rfl, by simp at hfu ⊢; omega, rfl, (fun _ => rfl), ((((hR.set _ _).set _ _).set _ _).set _ _).set _ _, ?_, hg, hgB, ((((hF.set (hg.imp_right .inr) _ _).set (hg.imp_right .inr) _ _).set (hg.imp_right .inr) _ _).set (hg.imp_right .inr) _ _).set (hg.imp_right .inr) _ _⟩)
                    simp only [World.setCell, Array.getElem?_modify, if_neg hne, hob]
                    simp
                  exact inv_nil
              | true =>
                cases e8 with
                | false =>
                  obtain rfl := h19 rfl
                  simp only [Bool.false_eq_true, if_false] at hob hoc
                  refine inv_ready [8] (by kernel_rfl) (by simp) ?_
                  refine inv_cons rfl (fun K' hK => ?_) ?_
                  · go_simp
                    refine hK _ _ (.inr ⟨true, true, true, g, cap2, _, _, (fun _ => rfl), rfl, by simp at hfu ⊢; omega, rfl, (fun _ => rfl), hR.other (Ne.symm hne) _, ?_, hg, hgB, hF.set (.inr (.inl rfl)) _ _⟩)
                    simp only [World.setCell, Array.getElem?_modify, hob]
                    simp
                  exact inv_nil
                | true =>
                  obtain rfl := h19 rfl
                  simp only [if_true] at hob hoc
                  refine inv_done (by kernel_rfl) ?_
                  obtain ⟨d1, d2, d3, d4⟩ := idents_done h1 h2o h3 rfl hR hob hg hgB hF
                  exact ⟨by rw [hsz]; exact d1, d2, by have h9 := d3; rw [← hcnt] at h9; exact h9, d4⟩
        -- REGION END
    | false =>
      have hk : xk ≠ 40 := by simpa using hid
      gi_wp2
      refine ⟨KeepsFrom.refl _ _, Keep.refl _ _ _, ⟨v, ?_, xs, ?_⟩, h3⟩
      · exact h1
      · have : cntI (pre ++ [(⟨(d0, ⟨xk, xf, xt, xs0, xc⟩, valOf xk xf xt xs0 ax xc.len cx), hx⟩ : { x : Item // x ∈ L })]) = cntI pre := by
          simp [cntI, isId, hk]
        unfold valOf at this
        rw [this]
        exact h2
  case done =>
    rintro D ys W hD hys ⟨⟨v, xs, h1, h2⟩, h3⟩ hK
    have hc1 := cell_of_box h1
    obtain ⟨av, cv, e⟩ := row_form h2
    subst e
    gi_wp2
    refine ⟨by simp, .inl ⟨_, _, rfl, run_takeDeferred hK, ?_⟩⟩
    refine ⟨_, results_tmp rfl _ _ _, ⟨av, cv, ?_⟩, h3.trans (belowK_b (w := w) (Nat.le_refl _) W D _ _ (by omega) hK rfl rfl)⟩
    have e0 : ((ys.map (·.1)).filter isId).length = (L.filter isId).length := congrArg (fun l => (List.filter isId l).length) hys
    have e1 : cntI ys = (L.filter isId).length := by
      rw [← e0, List.filter_map, List.length_map]; rfl
    rw [← e1]
    rfl
  case stop =>
    rintro D c pre W _ _ h _
    exact h.elim
end Go.Proofs.Ytmkjajapbkdpiaa
