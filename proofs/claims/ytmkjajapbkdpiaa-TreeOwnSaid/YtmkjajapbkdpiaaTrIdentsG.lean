/- tree.Idents. No condition. -/
import Derived.Test.YtmkjajapbkdpiaaTrKidsR
namespace Go.Proofs.Ytmkjajapbkdpiaa
open Go.RowKit Go.Shelf
attribute [local go_sem] Oper.semAt_some

section
variable {P : Nat → Prop} {w w' : World} {n : Nd} {v : Value} {B B' : Nat} {L : List Nv}
theorem OwnV.frameC (hf : ∀ (k : Nat) (cs : Array Value) (t : TypeId) (fr : Nat × Nat), P k → w.heap[k]? = some (.cells cs t fr) → w'.heap[k]? = some (.cells cs t fr)) (h : OwnV P w n v) : OwnV P w' n v := by
  have hc : ∀ p v, P p.block → w.cell? p = some v → w'.cell? p = some v := fun p v hp hc => cell_same (fun cs t fr e => hf _ _ _ _ hp e) hc
  obtain ⟨a', cap', h1, h2, h3, h5⟩ := h
  refine ⟨a', cap', h1, h2, h3, ?_⟩
  rcases h5 with h5 | ⟨g, cur, rfl, h6, h7, h8, h9⟩
  · exact .inl h5
  · exact .inr ⟨g, cur, rfl, h6, hf g _ _ _ h6 h7, h8, fun j hj => (h9 j hj).cells hc (fun o v _ hv => hc _ v h6 hv)⟩
theorem RowO.frameC (hf : ∀ (k : Nat) (cs : Array Value) (t : TypeId) (fr : Nat × Nat), w.heap[k]? = some (Obj.cells cs t fr) → w'.heap[k]? = some (Obj.cells cs t fr)) (hs : w.heap.size ≤ w'.heap.size) (h : RowO w B v L) : RowO w' B v L := by
  refine ⟨row_same h.row (fun k e => ?_), fun x hx => ((h.own x hx).frameC (fun k cs t fr _ e => hf k cs t fr e)).mono fun k hk => ⟨hk.1, Nat.lt_of_lt_of_le hk.2 hs⟩⟩
  obtain ⟨cur, e'⟩ := row_at h.row e
  exact (hf k _ _ _ e').trans e'.symm
theorem row_mono {e : TypeId} {s n : Nat} {xs : List Value} (hB : B' ≤ B) (h : w.ownsRow B e s v n xs) : w.ownsRow B' e s v n xs := by
  obtain ⟨h1, h2⟩ := h
  refine ⟨h1, ?_⟩
  rcases h2 with h2 | ⟨g, cap, cur, rfl, h3, h4⟩
  · exact .inl h2
  · exact .inr ⟨g, cap, cur, rfl, by omega, h4⟩
theorem RowO.mono (hB : B' ≤ B) (h : RowO w B v L) : RowO w B' v L := ⟨row_mono hB h.row, fun x hx => (h.own x hx).mono fun k hk => ⟨⟨by have := hk.1.1; omega, hk.1.2⟩, hk.2⟩⟩

/-- The trees of a list and their rows, which lie from B on, beside the list's own block g. -/
def ElO (B g : Nat) (w : World) (L : List Nv) : Prop := ∀ x ∈ L, OwnV (fun k => (B ≤ k ∧ k ≠ g) ∧ k < w.heap.size) w x.1 x.2
theorem ElO.set {g : Nat} {p : Addr} (h : ElO B g w L) (hp : p.block = g ∨ p.block < B) (u : Value) : ElO B g (w.setCell p u) L := fun x hx =>
  ((h x hx).frame (fun k hk _ => Below.heap_setCell _ _ _ _ (by obtain ⟨⟨h1, h2⟩, _⟩ := hk; rcases hp with h | h <;> omega))).mono fun k hk => ⟨hk.1, by simpa [World.setCell] using hk.2⟩
theorem app_elems {nv : Value} {g s : Nat} (h : RowO w B v L) (hn : OwnV (s ≤ ·) w n nv) (hs : ∀ k, v.ownBlock = some k → k < s) (hB : B ≤ s) (hat : AppAt w v g w') : ElO B g w' (L ++ [(n, nv)]) := by
  have hgb := hat.grown
  have fr : ∀ k, v.ownBlock ≠ some k → k < w.heap.size → w'.heap[k]? = w.heap[k]? := fun k hk hl => hgb.block k hl (fun e => hk e.symm)
  have ng : ∀ k, v.ownBlock ≠ some k → k < w.heap.size → k ≠ g := fun k hk hl e => by
    rcases hat.at with h1 | h1
    · exact hk (by rw [h1, e])
    · omega
  intro x hx
  rcases List.mem_append.1 hx with hx | hx
  · exact ((h.own x hx).frame (fun k hk hl => fr k hk.1.2 hl)).mono fun k hk => ⟨⟨hk.1.1, ng k hk.1.2 hk.2⟩, Nat.lt_of_lt_of_le hk.2 hgb.size⟩
  · have hx : x = (n, nv) := by simpa using hx
    subst hx
    have hne : ∀ k, s ≤ k → v.ownBlock ≠ some k := fun k hk e => by have := hs k e; omega
    exact (hn.also.frame (fun k hk hl => fr k (hne k hk.1) hl)).mono fun k hk => ⟨⟨by have : s ≤ k := hk.1; omega, ng k (hne k hk.1) hk.2⟩, Nat.lt_of_lt_of_le hk.2 hgb.size⟩
theorem rowO_of {nv : Value} {g m cap : Nat} (hl : L.length = m) (hr : w.ownsRow B 24 5 (.slice (some ⟨g, 0, none⟩) (m + 1) cap) (m + 1) (cellsL L ++ nv.cells.toList)) (he : ElO B g w (L ++ [(n, nv)])) :
    RowO w B (.slice (some ⟨g, 0, none⟩) (m + 1) cap) (L ++ [(n, nv)]) := by
  subst hl
  refine ⟨by rw [cellsL_snoc]; simpa using hr, fun x hx => (he x hx).mono fun k hk => ⟨⟨hk.1.1, fun e => hk.1.2 ?_⟩, hk.2⟩⟩
  have e : g = k := by simpa [Value.ownBlock] using e
  exact e.symm
theorem row_other {g m cap : Nat} {xs : List Value} {p : Addr} (h : w.ownsRow B 24 5 (.slice (some ⟨g, 0, none⟩) m cap) m xs) (hp : p.block ≠ g) (u : Value) : (w.setCell p u).ownsRow B 24 5 (.slice (some ⟨g, 0, none⟩) m cap) m xs :=
  row_same h fun k e => by
    have e : g = k := by simpa [Value.ownBlock] using e
    exact Below.heap_setCell _ _ _ _ (by omega)
theorem take_set5 {α : Type} (l : List α) (i : Nat) (a b c d e : α) (h : i + 5 ≤ l.length) : ((((((l.set i a).set (i + 1) b).set (i + 2) c).set (i + 3) d).set (i + 4) e).take (i + 5)) = l.take i ++ [a, b, c, d, e] := by
  apply List.ext_getElem?
  intro j
  simp only [List.getElem?_take, List.getElem?_set, List.getElem?_append, List.length_take, List.length_set]
  by_cases hj : j < i
  · simp [hj, show j < i + 5 by omega, show i ≠ j by omega, show i + 1 ≠ j by omega, show i + 2 ≠ j by omega, show i + 3 ≠ j by omega, show i + 4 ≠ j by omega, show j < min i l.length by omega]
  · rw [if_neg (show ¬ j < min i l.length by omega), show min i l.length = i by omega]
    obtain ⟨m, rfl⟩ : ∃ m, j = i + m := ⟨j - i, by omega⟩
    by_cases hm : m < 5
    · have h5 : m = 0 ∨ m = 1 ∨ m = 2 ∨ m = 3 ∨ m = 4 := by omega
      rcases h5 with rfl | rfl | rfl | rfl | rfl <;> (simp <;> omega)
    · simp [show ¬ i + m < i + 5 by omega, show i + m - i = m by omega]
      omega
theorem row_set5 {g m cap : Nat} {xs ys : List Value} (h : w.ownsRow B 24 5 (.slice (some ⟨g, 0, none⟩) (m + 1) cap) (m + 1) (xs ++ ys)) (hx : xs.length = m * 5) (x0 x1 x2 x3 x4 : Value) :
    (set5 w g (m * 5) x0 x1 x2 x3 x4).ownsRow B 24 5 (.slice (some ⟨g, 0, none⟩) (m + 1) cap) (m + 1) (xs ++ [x0, x1, x2, x3, x4]) := by
  obtain ⟨h1, h2⟩ := h
  refine ⟨by simp [hx]; omega, ?_⟩
  rcases h2 with ⟨e, _⟩ | ⟨g', cap', cur, e, hB, hc, hn, hm, hz, ht⟩
  · cases e
  · cases e
    have hz' : cur.toList.length = cap * 5 := by simpa using hz
    refine .inr ⟨g, cap, _, rfl, hB, set5_same w x0 x1 x2 x3 x4 hc, hn, hm, by simpa using hz, ?_⟩
    simp only [Array.toList_setIfInBounds]
    rw [show (m + 1) * 5 = m * 5 + 5 by omega, take_set5 _ _ _ _ _ _ _ (by omega)]
    congr 1
    have : (cur.toList.take ((m + 1) * 5)).take (m * 5) = (xs ++ ys).take (m * 5) := by rw [ht]
    rw [List.take_take, show min (m * 5) ((m + 1) * 5) = m * 5 by omega, List.take_append_of_le_length (by omega), List.take_of_length_le (l := xs) (by omega)] at this
    exact this
end

def RowI (w : World) (ob B : Nat) (N : List Nd) : Prop := ∃ v Lc, w.heap[ob]? = some (.cells #[v] 22 (0, 0)) ∧ RowO w B v Lc ∧ Lc.map (·.1) = N
def IdsR (w' : World) (B : Nat) (N : List Nd) (e : Ending) : Prop := ∃ a n cap Lc, e = .returned (.slice a n cap) ∧ Lc.length = n ∧ RowO w' B (.slice a n cap) Lc ∧ Lc.map (·.1) = N
def nodesI (l : List Item) : List Nd := (l.filter isId).map (·.2.1)

set_option maxRecDepth 100000 in
set_option maxHeartbeats 4000000 in
theorem idents_gen (nd : Nd) (v : Value) (w : World) (L : List Item) (hL : LstN w w.heap.size 0 nd v L) (hNV : ∀ x ∈ L, NodeV w x.2.1 x.2.2) (hcs : ∀ x ∈ L, x.2.1.c.cnt ≤ 1000000) (hc : nd.c.cnt ≤ 1000000) (hlen : L.length ≤ 1000001) :
    Calls Try.prog 22 #[v] w fun e w' => IdsR w' (w.heap.size + 3) (nodesI L) e ∧ Below w.heap.size w w' := by
  obtain ⟨ni, hni, hnz, hns, hnb⟩ := info_parts infoNd5
  obtain ⟨a, cap, hv⟩ : ∃ a cap, v = valOf nd.k nd.f nd.t nd.s a nd.c.len cap := by
    obtain ⟨a, cap, _, hv, _⟩ := hL
    exact ⟨a, cap, hv⟩
  obtain ⟨k, f, t, s, c⟩ := nd
  simp only at hv hc hL ⊢
  obtain ⟨len, Hl⟩ : ∃ len, Hid (c.len = len) := ⟨_, Lib.hid rfl⟩
  rw [Hl.out] at hv
  subst hv
  have hfa : Fence.wide.fn 11 := trivial
  refine (callsIn_wide (n := 6)).1 ?_
  refine callsIn_of_wp_marks Try.func22 rfl trivial ?_ rfl
  simp only [valOf, Try.ntmps22, List.size_toArray, List.length_cons, List.length_nil, Nat.reduceAdd, Nat.reduceSub, Array.replicate_succ, Array.replicate_zero, List.push_toArray, List.append_toArray, List.nil_append, List.cons_append]
  gi_wp2_with (gi_at_call 11; refine (callsIn_wide.2 (all_any _ _ _ _ _ _ _ _)).mono ?_; rintro e w' ⟨rfl, rfl⟩)
  obtain ⟨w4, Hw4⟩ : ∃ w4, Hid (w4 = ((w.alloc (.cells #[.int .i64 k, .int .i64 f, .int .i64 t, .string s, .slice a len cap] 24)).alloc (.cells #[.slice none 0 0] 22)).alloc (.cells #[.int .i64 k, .int .i64 f, .int .i64 t, .string s, .slice a len cap] 24)) := ⟨_, Lib.hid rfl⟩
  have hB0 : Below w.heap.size w w4 := by
    rw [Hw4.out]
    exact (((Below.refl _ w).alloc (Nat.le_refl _) _).alloc (by simp) _).alloc (by simp; omega) _
  have hsz : w4.heap.size = w.heap.size + 3 := by rw [Hw4.out]; simp
  have hb3 : w4.heap[w.heap.size + 1]? = some (.cells #[.slice none 0 0] 22 (0, 0)) := by
    have h1 := heap_alloc_new (w.alloc (.cells #[.int .i64 k, .int .i64 f, .int .i64 t, .string s, .slice a len cap] 24)) (.cells #[.slice none 0 0] 22)
    rw [World.size_alloc] at h1
    rw [Hw4.out]
    exact (Below.heap_alloc _ _ _ (by simp)).trans h1
  have hb4 : w4.heap[w.heap.size + 1 + 1]? = some (.cells (valOf k f t s a len cap).cells 24 (0, 0)) := by
    have h1 := heap_alloc_new ((w.alloc (.cells #[.int .i64 k, .int .i64 f, .int .i64 t, .string s, .slice a len cap] 24)).alloc (.cells #[.slice none 0 0] 22)) (.cells #[.int .i64 k, .int .i64 f, .int .i64 t, .string s, .slice a len cap] 24)
    rw [World.size_alloc, World.size_alloc] at h1
    rw [Hw4.out]
    exact h1
  rw [← Hw4.out]
  have hc3 := cell_of_box hb3
  have hS := lstOk (ob := w.heap.size + 1) (B := w.heap.size) (by omega)
  have hV : lstV (w.heap.size + 1) w4 := ⟨_, hc3.1, fun k e => by cases e⟩
  have hst := all_stops' 5 w.heap.size (w.heap.size + 1 + 1) hS ⟨k, f, t, s, c⟩ _ L w4 hV hb4 (hL.cells (fun p u hp hu => (hB0.cell hp).trans hu)) (by show c.cnt ≤ _; omega)
  refine wpIn_rangeFunc_ownH rfl (by decide) (gf := 34) (lb := #[.pointer (some ⟨w.heap.size + 1 + 1, 0, none⟩)]) rfl trivial (enters_of Try.func34 (by kernel_rfl) rfl)
    hst (fun h k => Keep.trans h k) (fun W l o o' _ h hc _ => lst_keep_putObj W l o o' h hc) (Below.refl _ _) (fun _ => rfl)
    (fun pre W => RowI W (w.heap.size + 1) (w.heap.size + 3) (nodesI (pre.map (·.1))) ∧ Below w.heap.size w W)
    (fun _ _ _ => False)
    ?hI
    (fun _ _ _ _ _ hs _ _ => hs)
    ?h0
    (fun x a' W => ∃ Bx, W.heap[Bx]? = some (.cells x.1.2.2.cells 24 (0, 0)) ∧
      a' = { tmps := #[.agg #[.int .i64 k, .int .i64 f, .int .i64 t, .string s, .slice a len cap], .pointer (some ⟨w.heap.size, 0, none⟩), .slice none 0 0, .pointer (some ⟨w.heap.size + 1, 0, none⟩), undef, .pointer (some ⟨Bx, 0, none⟩), .agg #[.int .i64 k, .int .i64 f, .int .i64 t, .string s, .slice a len cap], .func (.func 34) #[] #[.pointer (some ⟨w.heap.size + 1 + 1, 0, none⟩)], .int .i64 x.1.1, x.1.2.2, undef, undef, undef, undef, undef, undef, undef, undef, undef, undef, undef], defers := [] })
    ?hAx ?assign ?body ?done ?stop
  case hI =>
    refine OwnFrom.and (Own.from (fun s A B row hs hg hr => ?_) _) (ownFrom_below (Nat.le_refl _) (by omega))
    obtain ⟨v, xs, h1, h2, h4⟩ := hs
    have hsame : ∀ (k : Nat) (cs : Array Value) (t : TypeId) (fr : Nat × Nat), A.heap[k]? = some (.cells cs t fr) → B.heap[k]? = some (.cells cs t fr) := fun k cs t fr e =>
      (hg.block k (Array.getElem?_eq_some_iff.1 e).1 (fun e' => by obtain ⟨o, ho, hc⟩ := hr k e'.symm; rw [e] at ho; cases ho; cases hc)).trans e
    exact ⟨v, xs, hsame _ _ _ _ h1, h2.frameC hsame hg.size, h4⟩
  case h0 => exact ⟨⟨_, [], hb3, RowO.nil _ _, rfl⟩, hB0⟩
  case hAx =>
    intro x a' s A B row hs hg hr
    obtain ⟨Bx, h2, h3⟩ := hs
    exact ⟨Bx, (hg.block Bx (Array.getElem?_eq_some_iff.1 h2).1 (fun e' => by obtain ⟨_, o, ho, hc⟩ := hr Bx e'.symm; rw [h2] at ho; cases ho; cases hc)).trans h2, h3⟩
  case assign =>
    rintro l pre ⟨⟨d0, ⟨xk, xf, xt, xs0, xc⟩, xv⟩, hx⟩ W K hi hK
    obtain ⟨ax, cx, hvx, _, _, _⟩ := hNV _ hx
    simp only at hvx
    subst hvx
    dsimp only [encI] at hK ⊢
    rw [List.zip_toArray, List.foldl_toArray]
    simp only [List.zip_cons_cons, List.zip_nil_left, List.foldl_cons, List.foldl_nil, List.setIfInBounds_toArray, List.set_cons_succ, List.set_cons_zero]
    gi_wp2
    obtain ⟨⟨v, xs, h1, h2, h4⟩, h3⟩ := id hi
    refine hK _ _ ?_ ?_ ?_ ⟨W.heap.size, heap_alloc_new W _, rfl⟩
    · exact KeepsFrom.of_grownBy (World.grownBy_alloc W _ none) (fun j e => by cases e)
    · exact Keep.grow hS (World.grownBy_alloc W _ none)
    · exact ⟨⟨v, xs, (Below.heap_alloc _ _ _ (Array.getElem?_eq_some_iff.1 h1).1).trans h1, h2.below ((Below.refl _ W).alloc (Nat.le_refl _) _), h4⟩, h3.alloc h3.size _⟩
  case body =>
    rintro l pre ⟨⟨d0, ⟨xk, xf, xt, xs0, xc⟩, xv⟩, hx⟩ a' W hl ⟨r, hr⟩ ⟨⟨v, Lc, h1, hrow, hmap⟩, h3⟩ ⟨Bx, bX, rfl⟩ hlt
    have hnv := hNV _ hx
    have hcc := hcs _ hx
    obtain ⟨ax, cx, hvx, _, _, _⟩ := id hnv
    simp only at hvx bX hnv hcc
    subst hvx
    have b0 : W.cell? ⟨Bx, 0, none⟩ = some (.int .i64 xk) := by simp only [World.cell?, bX]; rfl
    have b1 : W.cell? ⟨Bx, 1, none⟩ = some (.int .i64 xf) := by simp only [World.cell?, bX]; rfl
    have b2 : W.cell? ⟨Bx, 2, none⟩ = some (.int .i64 xt) := by simp only [World.cell?, bX]; rfl
    have b3 : W.cell? ⟨Bx, 3, none⟩ = some (.string xs0) := by simp only [World.cell?, bX]; rfl
    have b4 : W.cell? ⟨Bx, 4, none⟩ = some (.slice ax xc.len cx) := by simp only [World.cell?, bX]; rfl
    cases hid : (xk == 40) with
    | true =>
      have hk : xk = 40 := by simpa using hid
      subst hk
      have hmap2 : ∀ nv : Value, (Lc ++ [((⟨40, xf, xt, xs0, xc⟩ : Nd), nv)]).map (·.1) = nodesI ((pre ++ [(⟨(d0, ⟨40, xf, xt, xs0, xc⟩, valOf 40 xf xt xs0 ax xc.len cx), hx⟩ : { x : Item // x ∈ L })]).map (·.1)) := fun nv => by
        have hmap := hmap
        unfold nodesI at hmap ⊢
        simp [isId, hmap]
      have hlc : Lc.length ≤ 1000001 := by
        have h9 := congrArg List.length hmap
        unfold nodesI at h9
        simp only [List.length_map] at h9
        have := List.length_filter_le isId (pre.map (·.1))
        simp only [List.length_map] at this
        omega
      have hW3 : w.heap.size + 3 ≤ W.heap.size := by
        have := (Array.getElem?_eq_some_iff.1 hr).1
        omega
      obtain ⟨n, Hn⟩ : ∃ n, Hid (Lc.length = n) := ⟨_, Lib.hid rfl⟩
      have h2 := hrow.row
      rw [Hn.out] at h2 hlc
      have hLl : (cellsL Lc).length = n * 5 := h2.1
      have hnv : NodeV W ⟨40, xf, xt, xs0, xc⟩ (.agg #[.int .i64 40, .int .i64 xf, .int .i64 xt, .string xs0, .slice ax xc.len cx]) := hnv.below h3
      · have hc1 := cell_of_box h1
        obtain ⟨av, cv, e⟩ := row_form h2
        subst e
        gi_wp2
        -- REGION
        refine wpIn_region_any (by kernel_rfl) ?_
        have h2o := h2
        have Hgo := Lib.hid (show ∀ k, (Value.slice av n cv).ownBlock = some k → k = oldOf av (w.heap.size + 1) from fun k e => by cases av <;> simp_all [Value.ownBlock, oldOf])
        refine any_inv (Inv := fun fuel listed ac wx => (∃ (e0 e1 e2 e3 e4 : Bool) (v13 v14 v15 v16 v17 : Value), (e2 = true → e1 = true) ∧ (e3 = true → e0 = true) ∧ listed = #[e0, e1, e2, e3, e4, false, false, false, false] ∧ fuel + (e0.toNat + e1.toNat + e2.toNat + e3.toNat + e4.toNat) = 9 ∧ ac = { tmps := #[.agg #[.int .i64 k, .int .i64 f, .int .i64 t, .string s, .slice a len cap], .pointer (some ⟨w.heap.size, 0, none⟩), .slice none 0 0, .pointer (some ⟨w.heap.size + 1, 0, none⟩), undef, .pointer (some ⟨Bx, 0, none⟩), .agg #[.int .i64 k, .int .i64 f, .int .i64 t, .string s, .slice a len cap], .func (.func 34) #[] #[.pointer (some ⟨w.heap.size + 1 + 1, 0, none⟩)], .int .i64 d0, .agg #[.int .i64 40, .int .i64 xf, .int .i64 xt, .string xs0, .slice ax xc.len cx], .pointer (some ⟨Bx, 0, none⟩), .int .i64 40, .bool true, v13, v14, v15, v16, v17, undef, undef, undef], defers := [] } ∧ (e0 = true → v13 = .slice av n cv) ∧ (e1 = true → v14 = .agg #[.int .i64 40, .int .i64 xf, .int .i64 xt, .string xs0, .slice ax xc.len cx]) ∧ (e2 = true → ∃ ao co, v15 = .agg #[.int .i64 40, .int .i64 xf, .int .i64 xt, .string xs0, .slice ao xc.len co] ∧ OwnV (W.heap.size ≤ ·) wx (⟨40, xf, xt, xs0, xc⟩ : Nd) (.agg #[.int .i64 40, .int .i64 xf, .int .i64 xt, .string xs0, .slice ao xc.len co])) ∧ (e3 = true → v16 = .int .i64 (n : Nat)) ∧ (e4 = true → ∃ bz, v17 = .slice (some ⟨bz, 0, none⟩) 1 1 ∧ wx.heap[bz]? = some (.cells #[.int .i64 0, .int .i64 0, .int .i64 0, .string ⟨#[]⟩, .slice none 0 0] 24 (0, 0)) ∧ W.heap.size ≤ bz) ∧ Below W.heap.size W wx) ∨ (∃ (e6 e7 e8 : Bool) (g cap2 : Nat) (v17 v19 : Value) (ao : Option Addr) (co : Nat), (e7 = true → e6 = true) ∧ listed = #[true, true, true, true, true, true, e6, e7, e8] ∧ fuel + (e6.toNat + e7.toNat + e8.toNat) = 3 ∧ ac = { tmps := #[.agg #[.int .i64 k, .int .i64 f, .int .i64 t, .string s, .slice a len cap], .pointer (some ⟨w.heap.size, 0, none⟩), .slice none 0 0, .pointer (some ⟨w.heap.size + 1, 0, none⟩), undef, .pointer (some ⟨Bx, 0, none⟩), .agg #[.int .i64 k, .int .i64 f, .int .i64 t, .string s, .slice a len cap], .func (.func 34) #[] #[.pointer (some ⟨w.heap.size + 1 + 1, 0, none⟩)], .int .i64 d0, .agg #[.int .i64 40, .int .i64 xf, .int .i64 xt, .string xs0, .slice ax xc.len cx], .pointer (some ⟨Bx, 0, none⟩), .int .i64 40, .bool true, .slice av n cv, .agg #[.int .i64 40, .int .i64 xf, .int .i64 xt, .string xs0, .slice ax xc.len cx], .agg #[.int .i64 40, .int .i64 xf, .int .i64 xt, .string xs0, .slice ao xc.len co], .int .i64 (n : Nat), v17, .slice (some ⟨g, 0, none⟩) (n + 1) cap2, v19, undef], defers := [] } ∧ (e6 = true → v19 = .pointer (some ⟨g, n * 5, none⟩)) ∧ (RowR wx g (n + 1) cap2) ∧ wx.heap[w.heap.size + 1]? = some (.cells #[if e8 = true then .slice (some ⟨g, 0, none⟩) (n + 1) cap2 else .slice av n cv] 22 (0, 0)) ∧ (g = oldOf av (w.heap.size + 1) ∨ W.heap.size ≤ g) ∧ w.heap.size + 3 ≤ g ∧ IdFr W (oldOf av (w.heap.size + 1)) (w.heap.size + 1) wx ∧ wx.ownsRow (w.heap.size + 3) 24 5 (.slice (some ⟨g, 0, none⟩) (n + 1) cap2) (n + 1) (cellsL Lc ++ bif e7 then [.int .i64 40, .int .i64 xf, .int .i64 xt, .string xs0, .slice ao xc.len co] else [.int .i64 0, .int .i64 0, .int .i64 0, .string ⟨#[]⟩, .slice none 0 0]) ∧ ElO (w.heap.size + 3) g wx (Lc ++ [((⟨40, xf, xt, xs0, xc⟩ : Nd), .agg #[.int .i64 40, .int .i64 xf, .int .i64 xt, .string xs0, .slice ao xc.len co])]))) ?z0 ?st 9 _ _ _ ?go
        case go => exact .inl ⟨false, false, false, false, false, undef, undef, undef, undef, undef, (fun h => by cases h), (fun h => by cases h), rfl, rfl, rfl, (fun h => by cases h), (fun h => by cases h), (fun h => by cases h), (fun h => by cases h), (fun h => by cases h), (Below.refl _ W).drew⟩
        case z0 =>
          rintro listed ac wx (⟨e0, e1, e2, e3, e4, v13, v14, v15, v16, v17, h21, h30, rfl, hfu, rfl, _⟩ | h2)
          · exfalso
            revert hfu
            cases e0 <;> cases e1 <;> cases e2 <;> cases e3 <;> cases e4 <;> simp
          · obtain ⟨e6, e7, e8, g, cap2, v17, v19, ao, co, h76, rfl, hfu, rfl, h19, hR, hob, hg, hgB, hF, hrr, hel⟩ := h2
            have he : e6 = true ∧ e7 = true ∧ e8 = true := by
              revert hfu
              cases e6 <;> cases e7 <;> cases e8 <;> simp
            obtain ⟨rfl, rfl, rfl⟩ := he
            simp only [if_true] at hob
            refine ⟨by kernel_rfl, ?_⟩
            obtain ⟨d1, d2, d3, d4⟩ := idents_done h1 (row_mono (Nat.le_add_right _ 3) h2o) h3 rfl hR hob hg (by omega) hF
            exact ⟨by rw [hsz]; exact d1, d2, ⟨_, Lc ++ [((⟨40, xf, xt, xs0, xc⟩ : Nd), .agg #[.int .i64 40, .int .i64 xf, .int .i64 xt, .string xs0, .slice ao xc.len co])], hob, rowO_of (nv := .agg #[.int .i64 40, .int .i64 xf, .int .i64 xt, .string xs0, .slice ao xc.len co]) Hn.out hrr hel, hmap2 _⟩, d4⟩
        case st =>
          rintro fuel listed ac wx (⟨e0, e1, e2, e3, e4, v13, v14, v15, v16, v17, h21, h30, rfl, hfu, rfl, h13, h14, h15, h16, h17, hbel⟩ | h2)
          · have hob : wx.cell? ⟨w.heap.size + 1, 0, none⟩ = some (.slice av n cv) := cell_below hbel rfl hc1.1
            have q0 : wx.cell? ⟨Bx, 0, none⟩ = some (.int .i64 40) := cell_below hbel rfl b0
            have q1 : wx.cell? ⟨Bx, 1, none⟩ = some (.int .i64 xf) := cell_below hbel rfl b1
            have q2 : wx.cell? ⟨Bx, 2, none⟩ = some (.int .i64 xt) := cell_below hbel rfl b2
            have q3 : wx.cell? ⟨Bx, 3, none⟩ = some (.string xs0) := cell_below hbel rfl b3
            have q4 : wx.cell? ⟨Bx, 4, none⟩ = some (.slice ax xc.len cx) := cell_below hbel rfl b4
            cases e0 with
            | false =>
              cases e1 with
              | false =>
                cases e2 with
                | false =>
                  cases e3 with
                  | false =>
                    cases e4 with
                    | false =>
                      refine inv_ready [0, 1, 4] (by kernel_rfl) (by simp) ?_
                      refine inv_cons rfl (fun K' hK => ?_) ?_
                      · go_simp
                        refine hK _ _ (.inl ⟨true, false, false, false, false, _, _, _, _, _, (fun h => by cases h), (fun _ => rfl), rfl, by simp at hfu ⊢; omega, rfl, (fun _ => rfl), (fun h => by cases h), (fun h => by cases h), (fun h => by cases h), (fun h => by cases h), hbel⟩)
                      refine inv_cons rfl (fun K' hK => ?_) ?_
                      · go_simp
                        refine hK _ _ (.inl ⟨false, true, false, false, false, _, _, _, _, _, (fun _ => rfl), (fun h => by cases h), rfl, by simp at hfu ⊢; omega, rfl, (fun h => by cases h), (fun _ => rfl), (fun h => by cases h), (fun h => by cases h), (fun h => by cases h), hbel⟩)
                      refine inv_cons rfl (fun K' hK => ?_) ?_
                      · go_simp
                        refine hK _ _ (.inl ⟨false, false, false, false, true, _, _, _, _, _, (fun h => by cases h), (fun h => by cases h), rfl, by simp at hfu ⊢; omega, rfl, (fun h => by cases h), (fun h => by cases h), (fun h => by cases h), (fun h => by cases h), (fun _ => ⟨wx.heap.size, rfl, heap_alloc_new wx _, hbel.size⟩), (hbel.alloc hbel.size _)⟩)
                      exact inv_nil
                    | true =>
                      obtain ⟨bz, rfl, hz, hzb⟩ := h17 rfl
                      refine inv_ready [0, 1] (by kernel_rfl) (by simp) ?_
                      refine inv_cons rfl (fun K' hK => ?_) ?_
                      · go_simp
                        refine hK _ _ (.inl ⟨true, false, false, false, true, _, _, _, _, _, (fun h => by cases h), (fun _ => rfl), rfl, by simp at hfu ⊢; omega, rfl, (fun _ => rfl), (fun h => by cases h), (fun h => by cases h), (fun h => by cases h), (fun _ => ⟨bz, rfl, hz, hzb⟩), hbel⟩)
                      refine inv_cons rfl (fun K' hK => ?_) ?_
                      · go_simp
                        refine hK _ _ (.inl ⟨false, true, false, false, true, _, _, _, _, _, (fun _ => rfl), (fun h => by cases h), rfl, by simp at hfu ⊢; omega, rfl, (fun h => by cases h), (fun _ => rfl), (fun h => by cases h), (fun h => by cases h), (fun _ => ⟨bz, rfl, hz, hzb⟩), hbel⟩)
                      exact inv_nil
                  | true =>
                    cases e4 with
                    | false =>
                      exact absurd (h30 rfl) (by decide)
                    | true =>
                      exact absurd (h30 rfl) (by decide)
                | true =>
                  cases e3 with
                  | false =>
                    cases e4 with
                    | false =>
                      exact absurd (h21 rfl) (by decide)
                    | true =>
                      exact absurd (h21 rfl) (by decide)
                  | true =>
                    cases e4 with
                    | false =>
                      exact absurd (h21 rfl) (by decide)
                    | true =>
                      exact absurd (h21 rfl) (by decide)
              | true =>
                cases e2 with
                | false =>
                  cases e3 with
                  | false =>
                    cases e4 with
                    | false =>
                      obtain rfl := h14 rfl
                      refine inv_ready [0, 2, 4] (by kernel_rfl) (by simp) ?_
                      refine inv_cons rfl (fun K' hK => ?_) ?_
                      · go_simp
                        refine hK _ _ (.inl ⟨true, true, false, false, false, _, _, _, _, _, (fun _ => rfl), (fun _ => rfl), rfl, by simp at hfu ⊢; omega, rfl, (fun _ => rfl), (fun _ => rfl), (fun h => by cases h), (fun h => by cases h), (fun h => by cases h), hbel⟩)
                      refine inv_cons rfl (fun K' hK => ?_) ?_
                      · go_simp
                        refine ⟨trivial, ?_⟩
                        refine (CallsIn.inRound l (callsIn_wide.2 (own_any (xc.cnt + 1) (⟨40, xf, xt, xs0, xc⟩ : Nd) (.agg #[.int .i64 40, .int .i64 xf, .int .i64 xt, .string xs0, .slice ax xc.len cx]) wx (Nat.lt_succ_self _) hcc (hnv.below hbel)))).mono ?_
                        rintro e w' hp
                        obtain ⟨ao, co, rfl, ho, hb⟩ := own_open hp
                        refine hK _ _ (.inl ⟨false, true, true, false, false, _, _, _, _, _, (fun _ => rfl), (fun h => by cases h), rfl, by simp at hfu ⊢; omega, rfl, (fun h => by cases h), (fun _ => rfl), (fun _ => ⟨ao, co, rfl, ho.mono fun k hk => Nat.le_trans hbel.size hk⟩), (fun h => by cases h), (fun h => by cases h), (hbel.trans (Below.mono hb hbel.size))⟩)
                      refine inv_cons rfl (fun K' hK => ?_) ?_
                      · go_simp
                        refine hK _ _ (.inl ⟨false, true, false, false, true, _, _, _, _, _, (fun _ => rfl), (fun h => by cases h), rfl, by simp at hfu ⊢; omega, rfl, (fun h => by cases h), (fun _ => rfl), (fun h => by cases h), (fun h => by cases h), (fun _ => ⟨wx.heap.size, rfl, heap_alloc_new wx _, hbel.size⟩), (hbel.alloc hbel.size _)⟩)
                      exact inv_nil
                    | true =>
                      obtain rfl := h14 rfl
                      obtain ⟨bz, rfl, hz, hzb⟩ := h17 rfl
                      refine inv_ready [0, 2] (by kernel_rfl) (by simp) ?_
                      refine inv_cons rfl (fun K' hK => ?_) ?_
                      · go_simp
                        refine hK _ _ (.inl ⟨true, true, false, false, true, _, _, _, _, _, (fun _ => rfl), (fun _ => rfl), rfl, by simp at hfu ⊢; omega, rfl, (fun _ => rfl), (fun _ => rfl), (fun h => by cases h), (fun h => by cases h), (fun _ => ⟨bz, rfl, hz, hzb⟩), hbel⟩)
                      refine inv_cons rfl (fun K' hK => ?_) ?_
                      · go_simp
                        refine ⟨trivial, ?_⟩
                        refine (CallsIn.inRound l (callsIn_wide.2 (own_any (xc.cnt + 1) (⟨40, xf, xt, xs0, xc⟩ : Nd) (.agg #[.int .i64 40, .int .i64 xf, .int .i64 xt, .string xs0, .slice ax xc.len cx]) wx (Nat.lt_succ_self _) hcc (hnv.below hbel)))).mono ?_
                        rintro e w' hp
                        obtain ⟨ao, co, rfl, ho, hb⟩ := own_open hp
                        refine hK _ _ (.inl ⟨false, true, true, false, true, _, _, _, _, _, (fun _ => rfl), (fun h => by cases h), rfl, by simp at hfu ⊢; omega, rfl, (fun h => by cases h), (fun _ => rfl), (fun _ => ⟨ao, co, rfl, ho.mono fun k hk => Nat.le_trans hbel.size hk⟩), (fun h => by cases h), (fun _ => ⟨bz, rfl, (hb.block bz (Array.getElem?_eq_some_iff.1 hz).1).trans hz, hzb⟩), (hbel.trans (Below.mono hb hbel.size))⟩)
                      exact inv_nil
                  | true =>
                    cases e4 with
                    | false =>
                      exact absurd (h30 rfl) (by decide)
                    | true =>
                      exact absurd (h30 rfl) (by decide)
                | true =>
                  cases e3 with
                  | false =>
                    cases e4 with
                    | false =>
                      obtain rfl := h14 rfl
                      obtain ⟨ao, co, rfl, ho⟩ := h15 rfl
                      refine inv_ready [0, 4] (by kernel_rfl) (by simp) ?_
                      refine inv_cons rfl (fun K' hK => ?_) ?_
                      · go_simp
                        refine hK _ _ (.inl ⟨true, true, true, false, false, _, _, _, _, _, (fun _ => rfl), (fun _ => rfl), rfl, by simp at hfu ⊢; omega, rfl, (fun _ => rfl), (fun _ => rfl), (fun _ => ⟨ao, co, rfl, ho⟩), (fun h => by cases h), (fun h => by cases h), hbel⟩)
                      refine inv_cons rfl (fun K' hK => ?_) ?_
                      · go_simp
                        refine hK _ _ (.inl ⟨false, true, true, false, true, _, _, _, _, _, (fun _ => rfl), (fun h => by cases h), rfl, by simp at hfu ⊢; omega, rfl, (fun h => by cases h), (fun _ => rfl), (fun _ => ⟨ao, co, rfl, ho.frame fun k _ hk => Below.heap_alloc _ _ _ hk⟩), (fun h => by cases h), (fun _ => ⟨wx.heap.size, rfl, heap_alloc_new wx _, hbel.size⟩), (hbel.alloc hbel.size _)⟩)
                      exact inv_nil
                    | true =>
                      obtain rfl := h14 rfl
                      obtain ⟨ao, co, rfl, ho⟩ := h15 rfl
                      obtain ⟨bz, rfl, hz, hzb⟩ := h17 rfl
                      refine inv_ready [0] (by kernel_rfl) (by simp) ?_
                      refine inv_cons rfl (fun K' hK => ?_) ?_
                      · go_simp
                        refine hK _ _ (.inl ⟨true, true, true, false, true, _, _, _, _, _, (fun _ => rfl), (fun _ => rfl), rfl, by simp at hfu ⊢; omega, rfl, (fun _ => rfl), (fun _ => rfl), (fun _ => ⟨ao, co, rfl, ho⟩), (fun h => by cases h), (fun _ => ⟨bz, rfl, hz, hzb⟩), hbel⟩)
                      exact inv_nil
                  | true =>
                    cases e4 with
                    | false =>
                      exact absurd (h30 rfl) (by decide)
                    | true =>
                      exact absurd (h30 rfl) (by decide)
            | true =>
              cases e1 with
              | false =>
                cases e2 with
                | false =>
                  cases e3 with
                  | false =>
                    cases e4 with
                    | false =>
                      obtain rfl := h13 rfl
                      refine inv_ready [1, 3, 4] (by kernel_rfl) (by simp) ?_
                      refine inv_cons rfl (fun K' hK => ?_) ?_
                      · go_simp
                        refine hK _ _ (.inl ⟨true, true, false, false, false, _, _, _, _, _, (fun _ => rfl), (fun _ => rfl), rfl, by simp at hfu ⊢; omega, rfl, (fun _ => rfl), (fun _ => rfl), (fun h => by cases h), (fun h => by cases h), (fun h => by cases h), hbel⟩)
                      refine inv_cons rfl (fun K' hK => ?_) ?_
                      · go_simp
                        refine hK _ _ (.inl ⟨true, false, false, true, false, _, _, _, _, _, (fun h => by cases h), (fun _ => rfl), rfl, by simp at hfu ⊢; omega, rfl, (fun _ => rfl), (fun h => by cases h), (fun h => by cases h), (fun _ => rfl), (fun h => by cases h), hbel⟩)
                      refine inv_cons rfl (fun K' hK => ?_) ?_
                      · go_simp
                        refine hK _ _ (.inl ⟨true, false, false, false, true, _, _, _, _, _, (fun h => by cases h), (fun _ => rfl), rfl, by simp at hfu ⊢; omega, rfl, (fun _ => rfl), (fun h => by cases h), (fun h => by cases h), (fun h => by cases h), (fun _ => ⟨wx.heap.size, rfl, heap_alloc_new wx _, hbel.size⟩), (hbel.alloc hbel.size _)⟩)
                      exact inv_nil
                    | true =>
                      obtain rfl := h13 rfl
                      obtain ⟨bz, rfl, hz, hzb⟩ := h17 rfl
                      refine inv_ready [1, 3] (by kernel_rfl) (by simp) ?_
                      refine inv_cons rfl (fun K' hK => ?_) ?_
                      · go_simp
                        refine hK _ _ (.inl ⟨true, true, false, false, true, _, _, _, _, _, (fun _ => rfl), (fun _ => rfl), rfl, by simp at hfu ⊢; omega, rfl, (fun _ => rfl), (fun _ => rfl), (fun h => by cases h), (fun h => by cases h), (fun _ => ⟨bz, rfl, hz, hzb⟩), hbel⟩)
                      refine inv_cons rfl (fun K' hK => ?_) ?_
                      · go_simp
                        refine hK _ _ (.inl ⟨true, false, false, true, true, _, _, _, _, _, (fun h => by cases h), (fun _ => rfl), rfl, by simp at hfu ⊢; omega, rfl, (fun _ => rfl), (fun h => by cases h), (fun h => by cases h), (fun _ => rfl), (fun _ => ⟨bz, rfl, hz, hzb⟩), hbel⟩)
                      exact inv_nil
                  | true =>
                    cases e4 with
                    | false =>
                      obtain rfl := h13 rfl
                      obtain rfl := h16 rfl
                      refine inv_ready [1, 4] (by kernel_rfl) (by simp) ?_
                      refine inv_cons rfl (fun K' hK => ?_) ?_
                      · go_simp
                        refine hK _ _ (.inl ⟨true, true, false, true, false, _, _, _, _, _, (fun _ => rfl), (fun _ => rfl), rfl, by simp at hfu ⊢; omega, rfl, (fun _ => rfl), (fun _ => rfl), (fun h => by cases h), (fun _ => rfl), (fun h => by cases h), hbel⟩)
                      refine inv_cons rfl (fun K' hK => ?_) ?_
                      · go_simp
                        refine hK _ _ (.inl ⟨true, false, false, true, true, _, _, _, _, _, (fun h => by cases h), (fun _ => rfl), rfl, by simp at hfu ⊢; omega, rfl, (fun _ => rfl), (fun h => by cases h), (fun h => by cases h), (fun _ => rfl), (fun _ => ⟨wx.heap.size, rfl, heap_alloc_new wx _, hbel.size⟩), (hbel.alloc hbel.size _)⟩)
                      exact inv_nil
                    | true =>
                      obtain rfl := h13 rfl
                      obtain rfl := h16 rfl
                      obtain ⟨bz, rfl, hz, hzb⟩ := h17 rfl
                      refine inv_ready [1] (by kernel_rfl) (by simp) ?_
                      refine inv_cons rfl (fun K' hK => ?_) ?_
                      · go_simp
                        refine hK _ _ (.inl ⟨true, true, false, true, true, _, _, _, _, _, (fun _ => rfl), (fun _ => rfl), rfl, by simp at hfu ⊢; omega, rfl, (fun _ => rfl), (fun _ => rfl), (fun h => by cases h), (fun _ => rfl), (fun _ => ⟨bz, rfl, hz, hzb⟩), hbel⟩)
                      exact inv_nil
                | true =>
                  cases e3 with
                  | false =>
                    cases e4 with
                    | false =>
                      exact absurd (h21 rfl) (by decide)
                    | true =>
                      exact absurd (h21 rfl) (by decide)
                  | true =>
                    cases e4 with
                    | false =>
                      exact absurd (h21 rfl) (by decide)
                    | true =>
                      exact absurd (h21 rfl) (by decide)
              | true =>
                cases e2 with
                | false =>
                  cases e3 with
                  | false =>
                    cases e4 with
                    | false =>
                      obtain rfl := h13 rfl
                      obtain rfl := h14 rfl
                      refine inv_ready [2, 3, 4] (by kernel_rfl) (by simp) ?_
                      refine inv_cons rfl (fun K' hK => ?_) ?_
                      · go_simp
                        refine ⟨trivial, ?_⟩
                        refine (CallsIn.inRound l (callsIn_wide.2 (own_any (xc.cnt + 1) (⟨40, xf, xt, xs0, xc⟩ : Nd) (.agg #[.int .i64 40, .int .i64 xf, .int .i64 xt, .string xs0, .slice ax xc.len cx]) wx (Nat.lt_succ_self _) hcc (hnv.below hbel)))).mono ?_
                        rintro e w' hp
                        obtain ⟨ao, co, rfl, ho, hb⟩ := own_open hp
                        refine hK _ _ (.inl ⟨true, true, true, false, false, _, _, _, _, _, (fun _ => rfl), (fun _ => rfl), rfl, by simp at hfu ⊢; omega, rfl, (fun _ => rfl), (fun _ => rfl), (fun _ => ⟨ao, co, rfl, ho.mono fun k hk => Nat.le_trans hbel.size hk⟩), (fun h => by cases h), (fun h => by cases h), (hbel.trans (Below.mono hb hbel.size))⟩)
                      refine inv_cons rfl (fun K' hK => ?_) ?_
                      · go_simp
                        refine hK _ _ (.inl ⟨true, true, false, true, false, _, _, _, _, _, (fun _ => rfl), (fun _ => rfl), rfl, by simp at hfu ⊢; omega, rfl, (fun _ => rfl), (fun _ => rfl), (fun h => by cases h), (fun _ => rfl), (fun h => by cases h), hbel⟩)
                      refine inv_cons rfl (fun K' hK => ?_) ?_
                      · go_simp
                        refine hK _ _ (.inl ⟨true, true, false, false, true, _, _, _, _, _, (fun _ => rfl), (fun _ => rfl), rfl, by simp at hfu ⊢; omega, rfl, (fun _ => rfl), (fun _ => rfl), (fun h => by cases h), (fun h => by cases h), (fun _ => ⟨wx.heap.size, rfl, heap_alloc_new wx _, hbel.size⟩), (hbel.alloc hbel.size _)⟩)
                      exact inv_nil
                    | true =>
                      obtain rfl := h13 rfl
                      obtain rfl := h14 rfl
                      obtain ⟨bz, rfl, hz, hzb⟩ := h17 rfl
                      refine inv_ready [2, 3] (by kernel_rfl) (by simp) ?_
                      refine inv_cons rfl (fun K' hK => ?_) ?_
                      · go_simp
                        refine ⟨trivial, ?_⟩
                        refine (CallsIn.inRound l (callsIn_wide.2 (own_any (xc.cnt + 1) (⟨40, xf, xt, xs0, xc⟩ : Nd) (.agg #[.int .i64 40, .int .i64 xf, .int .i64 xt, .string xs0, .slice ax xc.len cx]) wx (Nat.lt_succ_self _) hcc (hnv.below hbel)))).mono ?_
                        rintro e w' hp
                        obtain ⟨ao, co, rfl, ho, hb⟩ := own_open hp
                        refine hK _ _ (.inl ⟨true, true, true, false, true, _, _, _, _, _, (fun _ => rfl), (fun _ => rfl), rfl, by simp at hfu ⊢; omega, rfl, (fun _ => rfl), (fun _ => rfl), (fun _ => ⟨ao, co, rfl, ho.mono fun k hk => Nat.le_trans hbel.size hk⟩), (fun h => by cases h), (fun _ => ⟨bz, rfl, (hb.block bz (Array.getElem?_eq_some_iff.1 hz).1).trans hz, hzb⟩), (hbel.trans (Below.mono hb hbel.size))⟩)
                      refine inv_cons rfl (fun K' hK => ?_) ?_
                      · go_simp
                        refine hK _ _ (.inl ⟨true, true, false, true, true, _, _, _, _, _, (fun _ => rfl), (fun _ => rfl), rfl, by simp at hfu ⊢; omega, rfl, (fun _ => rfl), (fun _ => rfl), (fun h => by cases h), (fun _ => rfl), (fun _ => ⟨bz, rfl, hz, hzb⟩), hbel⟩)
                      exact inv_nil
                  | true =>
                    cases e4 with
                    | false =>
                      obtain rfl := h13 rfl
                      obtain rfl := h14 rfl
                      obtain rfl := h16 rfl
                      refine inv_ready [2, 4] (by kernel_rfl) (by simp) ?_
                      refine inv_cons rfl (fun K' hK => ?_) ?_
                      · go_simp
                        refine ⟨trivial, ?_⟩
                        refine (CallsIn.inRound l (callsIn_wide.2 (own_any (xc.cnt + 1) (⟨40, xf, xt, xs0, xc⟩ : Nd) (.agg #[.int .i64 40, .int .i64 xf, .int .i64 xt, .string xs0, .slice ax xc.len cx]) wx (Nat.lt_succ_self _) hcc (hnv.below hbel)))).mono ?_
                        rintro e w' hp
                        obtain ⟨ao, co, rfl, ho, hb⟩ := own_open hp
                        refine hK _ _ (.inl ⟨true, true, true, true, false, _, _, _, _, _, (fun _ => rfl), (fun _ => rfl), rfl, by simp at hfu ⊢; omega, rfl, (fun _ => rfl), (fun _ => rfl), (fun _ => ⟨ao, co, rfl, ho.mono fun k hk => Nat.le_trans hbel.size hk⟩), (fun _ => rfl), (fun h => by cases h), (hbel.trans (Below.mono hb hbel.size))⟩)
                      refine inv_cons rfl (fun K' hK => ?_) ?_
                      · go_simp
                        refine hK _ _ (.inl ⟨true, true, false, true, true, _, _, _, _, _, (fun _ => rfl), (fun _ => rfl), rfl, by simp at hfu ⊢; omega, rfl, (fun _ => rfl), (fun _ => rfl), (fun h => by cases h), (fun _ => rfl), (fun _ => ⟨wx.heap.size, rfl, heap_alloc_new wx _, hbel.size⟩), (hbel.alloc hbel.size _)⟩)
                      exact inv_nil
                    | true =>
                      obtain rfl := h13 rfl
                      obtain rfl := h14 rfl
                      obtain rfl := h16 rfl
                      obtain ⟨bz, rfl, hz, hzb⟩ := h17 rfl
                      refine inv_ready [2] (by kernel_rfl) (by simp) ?_
                      refine inv_cons rfl (fun K' hK => ?_) ?_
                      · go_simp
                        refine ⟨trivial, ?_⟩
                        refine (CallsIn.inRound l (callsIn_wide.2 (own_any (xc.cnt + 1) (⟨40, xf, xt, xs0, xc⟩ : Nd) (.agg #[.int .i64 40, .int .i64 xf, .int .i64 xt, .string xs0, .slice ax xc.len cx]) wx (Nat.lt_succ_self _) hcc (hnv.below hbel)))).mono ?_
                        rintro e w' hp
                        obtain ⟨ao, co, rfl, ho, hb⟩ := own_open hp
                        refine hK _ _ (.inl ⟨true, true, true, true, true, _, _, _, _, _, (fun _ => rfl), (fun _ => rfl), rfl, by simp at hfu ⊢; omega, rfl, (fun _ => rfl), (fun _ => rfl), (fun _ => ⟨ao, co, rfl, ho.mono fun k hk => Nat.le_trans hbel.size hk⟩), (fun _ => rfl), (fun _ => ⟨bz, rfl, (hb.block bz (Array.getElem?_eq_some_iff.1 hz).1).trans hz, hzb⟩), (hbel.trans (Below.mono hb hbel.size))⟩)
                      exact inv_nil
                | true =>
                  cases e3 with
                  | false =>
                    cases e4 with
                    | false =>
                      obtain rfl := h13 rfl
                      obtain rfl := h14 rfl
                      obtain ⟨ao, co, rfl, ho⟩ := h15 rfl
                      refine inv_ready [3, 4] (by kernel_rfl) (by simp) ?_
                      refine inv_cons rfl (fun K' hK => ?_) ?_
                      · go_simp
                        refine hK _ _ (.inl ⟨true, true, true, true, false, _, _, _, _, _, (fun _ => rfl), (fun _ => rfl), rfl, by simp at hfu ⊢; omega, rfl, (fun _ => rfl), (fun _ => rfl), (fun _ => ⟨ao, co, rfl, ho⟩), (fun _ => rfl), (fun h => by cases h), hbel⟩)
                      refine inv_cons rfl (fun K' hK => ?_) ?_
                      · go_simp
                        refine hK _ _ (.inl ⟨true, true, true, false, true, _, _, _, _, _, (fun _ => rfl), (fun _ => rfl), rfl, by simp at hfu ⊢; omega, rfl, (fun _ => rfl), (fun _ => rfl), (fun _ => ⟨ao, co, rfl, ho.frame fun k _ hk => Below.heap_alloc _ _ _ hk⟩), (fun h => by cases h), (fun _ => ⟨wx.heap.size, rfl, heap_alloc_new wx _, hbel.size⟩), (hbel.alloc hbel.size _)⟩)
                      exact inv_nil
                    | true =>
                      obtain rfl := h13 rfl
                      obtain rfl := h14 rfl
                      obtain ⟨ao, co, rfl, ho⟩ := h15 rfl
                      obtain ⟨bz, rfl, hz, hzb⟩ := h17 rfl
                      refine inv_ready [3] (by kernel_rfl) (by simp) ?_
                      refine inv_cons rfl (fun K' hK => ?_) ?_
                      · go_simp
                        refine hK _ _ (.inl ⟨true, true, true, true, true, _, _, _, _, _, (fun _ => rfl), (fun _ => rfl), rfl, by simp at hfu ⊢; omega, rfl, (fun _ => rfl), (fun _ => rfl), (fun _ => ⟨ao, co, rfl, ho⟩), (fun _ => rfl), (fun _ => ⟨bz, rfl, hz, hzb⟩), hbel⟩)
                      exact inv_nil
                  | true =>
                    cases e4 with
                    | false =>
                      obtain rfl := h13 rfl
                      obtain rfl := h14 rfl
                      obtain rfl := h16 rfl
                      obtain ⟨ao, co, rfl, ho⟩ := h15 rfl
                      refine inv_ready [4] (by kernel_rfl) (by simp) ?_
                      refine inv_cons rfl (fun K' hK => ?_) ?_
                      · go_simp
                        refine hK _ _ (.inl ⟨true, true, true, true, true, _, _, _, _, _, (fun _ => rfl), (fun _ => rfl), rfl, by simp at hfu ⊢; omega, rfl, (fun _ => rfl), (fun _ => rfl), (fun _ => ⟨ao, co, rfl, ho.frame fun k _ hk => Below.heap_alloc _ _ _ hk⟩), (fun _ => rfl), (fun _ => ⟨wx.heap.size, rfl, heap_alloc_new wx _, hbel.size⟩), (hbel.alloc hbel.size _)⟩)
                      exact inv_nil
                    | true =>
                      obtain rfl := h13 rfl
                      obtain rfl := h14 rfl
                      obtain rfl := h16 rfl
                      obtain ⟨ao, co, rfl, ho⟩ := h15 rfl
                      obtain ⟨bz, rfl, hz, hzb⟩ := h17 rfl
                      refine inv_ready [5] (by kernel_rfl) (by simp) ?_
                      refine inv_cons rfl (fun K' hK => ?_) ?_
                      · have hrO := hrow.below hbel
                        have hrw : wx.ownsRow (w.heap.size + 3) 24 5 (.slice av n cv) n (cellsL Lc) := row_same h2 (fun k e => hbel.block k (h2.lt k e).2)
                        refine stepIn_app rfl _ _ _ rfl (w.heap.size + 3) 24 ni _ 5 64 Try.underlying22 hni hnz hns hnb rfl (.slice av n cv) n (cellsL Lc) rfl hrw ⟨bz, 0, none⟩ 1 1 [.int .i64 0, .int .i64 0, .int .i64 0, .string ⟨#[]⟩, .slice none 0 0] rfl rfl (World.news_of_block hz) (fun u hu => by simp at hu; rcases hu with h | h | h <;> (subst h; rfl)) (by omega) (by unfold maxLen; omega) (by omega) (by have := h3.size; have := hbel.size; have := (Array.getElem?_eq_some_iff.1 hz).1; omega) ?_
                        intro g cap2 w' hown hat
                        obtain ⟨s1, s2, s3, s4, s5⟩ := app_state hrw hbel h1 Hgo.out hown hat
                        exact hK _ _ (.inr ⟨false, false, false, g, cap2, _, undef, ao, co, (fun h => by cases h), rfl, by simp at hfu ⊢; omega, rfl, (fun h => by cases h), s1, s2, s3, s5, s4, hown, app_elems hrO ho (fun k e => (h2.lt k e).2) hW3 hat⟩)
                      exact inv_nil
          · obtain ⟨e6, e7, e8, g, cap2, v17, v19, ao, co, h76, rfl, hfu, rfl, h19, hR, hob, hg, hgB, hF, hrr, hel⟩ := h2
            have hne : g ≠ w.heap.size + 1 := fun e => by
              obtain ⟨cur, r1, _⟩ := hR
              rw [e, hob] at r1
              simp at r1
            have hoc := cell_of_box hob
            obtain ⟨⟨u0, c0⟩, hfz⟩ := hR.cell 0 (by decide)
            obtain ⟨⟨u1, c1⟩, hfz⟩ := hR.cell 1 (by decide)
            obtain ⟨⟨u2, c2⟩, hfz⟩ := hR.cell 2 (by decide)
            obtain ⟨⟨u3, c3⟩, hfz⟩ := hR.cell 3 (by decide)
            obtain ⟨⟨u4, c4⟩, hfz⟩ := hR.cell 4 (by decide)
            have z0 := hfz (n * 5 + 0)
            have z1 := hfz (n * 5 + 1)
            have z2 := hfz (n * 5 + 2)
            have z3 := hfz (n * 5 + 3)
            have z4 := hfz (n * 5 + 4)
            rw [Nat.add_zero] at c0 z0
            cases e6 with
            | false =>
              cases e7 with
              | false =>
                cases e8 with
                | false =>
                  simp only [Bool.false_eq_true, if_false] at hob hoc
                  refine inv_ready [6, 8] (by kernel_rfl) (by simp) ?_
                  refine inv_cons rfl (fun K' hK => ?_) ?_
                  · go_simp
                    rw [if_pos (by omega)]
                    go_simp
                    refine hK _ _ (.inr ⟨true, false, false, g, cap2, _, _, ao, co, (fun _ => rfl), rfl, by simp at hfu ⊢; omega, rfl, (fun _ => rfl), hR, by simpa using hob, hg, hgB, hF, hrr, hel⟩)
                  refine inv_cons rfl (fun K' hK => ?_) ?_
                  · go_simp
                    refine hK _ _ (.inr ⟨false, false, true, g, cap2, _, _, ao, co, (fun h => by cases h), rfl, by simp at hfu ⊢; omega, rfl, (fun h => by cases h), hR.other (Ne.symm hne) _, ?_, hg, hgB, hF.set (.inr (.inl rfl)) _ _, row_other hrr (Ne.symm hne) _, hel.set (.inr (by simp only; omega)) _⟩)
                    simp only [World.setCell, Array.getElem?_modify, hob]
                    simp
                  exact inv_nil
                | true =>
                  simp only [if_true] at hob hoc
                  refine inv_ready [6] (by kernel_rfl) (by simp) ?_
                  refine inv_cons rfl (fun K' hK => ?_) ?_
                  · go_simp
                    rw [if_pos (by omega)]
                    go_simp
                    refine hK _ _ (.inr ⟨true, false, true, g, cap2, _, _, ao, co, (fun _ => rfl), rfl, by simp at hfu ⊢; omega, rfl, (fun _ => rfl), hR, by simpa using hob, hg, hgB, hF, hrr, hel⟩)
                  exact inv_nil
              | true =>
                cases e8 with
                | false =>
                  exact absurd (h76 rfl) (by decide)
                | true =>
                  exact absurd (h76 rfl) (by decide)
            | true =>
              cases e7 with
              | false =>
                cases e8 with
                | false =>
                  obtain rfl := h19 rfl
                  simp only [Bool.false_eq_true, if_false] at hob hoc
                  refine inv_ready [7, 8] (by kernel_rfl) (by simp) ?_
                  refine inv_cons rfl (fun K' hK => ?_) ?_
                  · go_simp
                    refine hK _ _ (.inr ⟨true, true, false, g, cap2, _, _, ao, co, (fun _ => rfl), rfl, by simp at hfu ⊢; omega, rfl, (fun _ => rfl), ((((hR.set _ _).set _ _).set _ _).set _ _).set _ _, ?_, hg, hgB, ((((hF.set (hg.imp_right .inr) _ _).set (hg.imp_right .inr) _ _).set (hg.imp_right .inr) _ _).set (hg.imp_right .inr) _ _).set (hg.imp_right .inr) _ _, row_set5 hrr hLl _ _ _ _ _, ((((hel.set (.inl rfl) _).set (.inl rfl) _).set (.inl rfl) _).set (.inl rfl) _).set (.inl rfl) _⟩)
                    simp only [World.setCell, Array.getElem?_modify, if_neg hne, hob]
                    simp
                  refine inv_cons rfl (fun K' hK => ?_) ?_
                  · go_simp
                    refine hK _ _ (.inr ⟨true, false, true, g, cap2, _, _, ao, co, (fun _ => rfl), rfl, by simp at hfu ⊢; omega, rfl, (fun _ => rfl), hR.other (Ne.symm hne) _, ?_, hg, hgB, hF.set (.inr (.inl rfl)) _ _, row_other hrr (Ne.symm hne) _, hel.set (.inr (by simp only; omega)) _⟩)
                    simp only [World.setCell, Array.getElem?_modify, hob]
                    simp
                  exact inv_nil
                | true =>
                  obtain rfl := h19 rfl
                  simp only [if_true] at hob hoc
                  refine inv_ready [7] (by kernel_rfl) (by simp) ?_
                  refine inv_cons rfl (fun K' hK => ?_) ?_
                  · go_simp
                    refine hK _ _ (.inr ⟨true, true, true, g, cap2, _, _, ao, co, (fun _ => rfl), rfl, by simp at hfu ⊢; omega, rfl, (fun _ => rfl), ((((hR.set _ _).set _ _).set _ _).set _ _).set _ _, ?_, hg, hgB, ((((hF.set (hg.imp_right .inr) _ _).set (hg.imp_right .inr) _ _).set (hg.imp_right .inr) _ _).set (hg.imp_right .inr) _ _).set (hg.imp_right .inr) _ _, row_set5 hrr hLl _ _ _ _ _, ((((hel.set (.inl rfl) _).set (.inl rfl) _).set (.inl rfl) _).set (.inl rfl) _).set (.inl rfl) _⟩)
                    simp only [World.setCell, Array.getElem?_modify, if_neg hne, hob]
                    simp
                  exact inv_nil
              | true =>
                cases e8 with
                | false =>
                  obtain rfl := h19 rfl
                  simp only [Bool.false_eq_true, if_false] at hob hoc
                  refine inv_ready [8] (by kernel_rfl) (by simp) ?_
                  refine inv_cons rfl (fun K' hK => ?_) ?_
                  · go_simp
                    refine hK _ _ (.inr ⟨true, true, true, g, cap2, _, _, ao, co, (fun _ => rfl), rfl, by simp at hfu ⊢; omega, rfl, (fun _ => rfl), hR.other (Ne.symm hne) _, ?_, hg, hgB, hF.set (.inr (.inl rfl)) _ _, row_other hrr (Ne.symm hne) _, hel.set (.inr (by simp only; omega)) _⟩)
                    simp only [World.setCell, Array.getElem?_modify, hob]
                    simp
                  exact inv_nil
                | true =>
                  obtain rfl := h19 rfl
                  simp only [if_true] at hob hoc
                  refine inv_done (by kernel_rfl) ?_
                  obtain ⟨d1, d2, d3, d4⟩ := idents_done h1 (row_mono (Nat.le_add_right _ 3) h2o) h3 rfl hR hob hg (by omega) hF
                  exact ⟨by rw [hsz]; exact d1, d2, ⟨_, Lc ++ [((⟨40, xf, xt, xs0, xc⟩ : Nd), .agg #[.int .i64 40, .int .i64 xf, .int .i64 xt, .string xs0, .slice ao xc.len co])], hob, rowO_of (nv := .agg #[.int .i64 40, .int .i64 xf, .int .i64 xt, .string xs0, .slice ao xc.len co]) Hn.out hrr hel, hmap2 _⟩, d4⟩
        -- REGION END
    | false =>
      have hk : xk ≠ 40 := by simpa using hid
      gi_wp2
      refine ⟨KeepsFrom.refl _ _, Keep.refl _ _ _, ⟨v, Lc, h1, hrow, ?_⟩, h3⟩
      rw [hmap]
      unfold nodesI
      simp [isId, hk]
  case done =>
    rintro D ys W hD hys ⟨⟨v, Lc, h1, h2, h4⟩, h3⟩ hK
    have hc1 := cell_of_box h1
    obtain ⟨av, cv, e⟩ := row_form h2.row
    subst e
    gi_wp2
    refine ⟨by simp, .inl ⟨_, _, rfl, run_takeDeferred hK, ?_⟩⟩
    refine ⟨_, results_tmp rfl _ _ _, ⟨av, _, cv, Lc, rfl, rfl, ?_, ?_⟩, h3.trans (belowK_b (w := w) (Nat.le_refl _) W D _ _ (by omega) hK rfl rfl)⟩
    · refine h2.frameC (fun k cs t fr e => ?_) (by rw [putObj_heap_size]; exact Nat.le_refl _)
      by_cases hkD : k = D
      · subst hkD; rw [hK] at e; cases e
      · rw [World.putObj_heap_other hkD]; exact e
    · rw [h4]
      exact congrArg nodesI hys
  case stop =>
    rintro D c pre W _ _ h _
    exact h.elim
end Go.Proofs.Ytmkjajapbkdpiaa
