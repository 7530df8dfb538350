/- tree.Size, tree.Depth. No condition. -/
import Derived.Test.YtmkjajapbkdpiaaTrAll
namespace Go.Proofs.Ytmkjajapbkdpiaa
open Go.RowKit Go.Shelf
attribute [local go_sem] Oper.semAt_some

theorem putObj_heap_size (W : World) (l : Nat) (o : Obj) : (W.putObj l o).heap.size = W.heap.size := by simp [World.putObj]
/-- One block is the caller's. -/
def oneS (b : Nat) : World → Nat → Prop := fun _ k => k = b
def oneV (b : Nat) : World → Prop := fun W => b < W.heap.size
theorem oneOk {b B : Nat} (h : B ≤ b) : SOk (oneS b) (oneV b) B where
  low := fun W k e => by have e : k = b := e; omega
  fresh := fun W W' k hv hg hk e => by have e : k = b := e; have hv : b < W.heap.size := hv; omega
  grow := fun W W' k _ _ _ e => e
  valid := fun W W' hv hg => by have hv : b < W.heap.size := hv; have := hg.size; show b < W'.heap.size; omega
theorem one_keep_putObj {b : Nat} (W : World) (l : Nat) (o o' : Obj) (h : W.heap[l]? = some o) (hc : o.isCells = false) : Keep (oneS b) (oneV b) W (W.putObj l o') := by
  refine ⟨by rw [putObj_heap_size]; exact Nat.le_refl _, fun hv => ⟨by show b < _; rw [putObj_heap_size]; exact hv, fun k hk hn => ⟨hn, fun cs t fr e => ?_⟩⟩⟩
  by_cases hkl : k = l
  · subst hkl; rw [h] at e; cases e; cases hc
  · rw [World.putObj_heap_other (fun e' => hkl (by omega))]; exact e
theorem one_keep_set {b j : Nat} (W : World) (u : Value) : Keep (oneS b) (oneV b) W (W.setCell ⟨b, j, none⟩ u) := by
  refine ⟨by simp [World.setCell], fun hv => ⟨by show b < _; simp [World.setCell]; exact hv, fun k hk hn => ⟨hn, fun cs t fr e => ?_⟩⟩⟩
  rw [Below.heap_setCell W ⟨b, j, none⟩ u k hn]; exact e

theorem flatF_len : ∀ (F : Fo) (d : Int), (flatF d F).length = F.cnt
  | .nil, _ => rfl
  | .cons k f t s c r, d => by simp [flatF, Fo.cnt, flatF_len c, flatF_len r]; omega
theorem flatN_len (d : Int) (n : Nd) : (flatN d n).length = n.c.cnt + 1 := by simp [flatN, flatF_len]

theorem cell_of_box {W : World} {B : Nat} {v : Value} {t : TypeId} (h : W.heap[B]? = some (.cells #[v] t (0, 0))) : W.cell? ⟨B, 0, none⟩ = some v ∧ W.frozen? ⟨B, 0, none⟩ = false := by
  constructor <;> simp [World.cell?, World.frozen?, h]

set_option maxRecDepth 100000 in
set_option maxHeartbeats 2000000 in
theorem tsize_any (nd : Nd) (v : Value) (w : World) (hn : NodeV w nd v) (hc : nd.c.cnt ≤ 100000000) :
    Calls Try.prog 14 #[v] w fun e w' => e = .returned (.int .i64 (nd.c.cnt + 1 : Nat)) ∧ Below w.heap.size w w' := by
  obtain ⟨L, hL, hLm, _⟩ := LstN.of 0 hn (Nat.le_refl _)
  have hlen : L.length = nd.c.cnt + 1 := by rw [← flatN_len 0 nd, ← hLm]; simp
  obtain ⟨a, cap, hv, _, _, _⟩ := id hn
  obtain ⟨k, f, t, s, c⟩ := nd
  simp only at hv hlen hc hL ⊢
  obtain ⟨len, Hl⟩ : ∃ len, Hid (c.len = len) := ⟨_, Lib.hid rfl⟩
  rw [Hl.out] at hv
  subst hv
  have hfa : Fence.wide.fn 11 := trivial
  refine (callsIn_wide (n := 6)).1 ?_
  refine callsIn_of_wp_marks Try.func14 rfl trivial ?_ rfl
  simp only [Try.ntmps14, List.size_toArray, List.length_cons, List.length_nil, Nat.reduceAdd, Nat.reduceSub, Array.replicate_succ, Array.replicate_zero, List.push_toArray, List.append_toArray, List.nil_append, List.cons_append]
  gi_wp2_with (gi_at_call 11; refine (callsIn_wide.2 (all_any _ _ _ _ _ _ _ _)).mono ?_; rintro e w' ⟨rfl, rfl⟩)
  obtain ⟨w4, Hw4⟩ : ∃ w4, Hid (w4 = ((w.alloc (.cells #[.int .i64 k, .int .i64 f, .int .i64 t, .string s, .slice a len cap] 24)).alloc (.cells #[.int .i64 0] 3)).alloc (.cells #[.int .i64 k, .int .i64 f, .int .i64 t, .string s, .slice a len cap] 24)) := ⟨_, Lib.hid rfl⟩
  have hB0 : Below w.heap.size w w4 := by
    rw [Hw4.out]
    exact (((Below.refl _ w).alloc (Nat.le_refl _) _).alloc (by simp) _).alloc (by simp; omega) _
  have hsz : w4.heap.size = w.heap.size + 3 := by rw [Hw4.out]; simp
  have hb3 : w4.heap[w.heap.size + 1]? = some (.cells #[.int .i64 0] 3 (0, 0)) := by
    have h1 := heap_alloc_new (w.alloc (.cells #[.int .i64 k, .int .i64 f, .int .i64 t, .string s, .slice a len cap] 24)) (.cells #[.int .i64 0] 3)
    rw [World.size_alloc] at h1
    rw [Hw4.out]
    exact (Below.heap_alloc _ _ _ (by simp)).trans h1
  have hb4 : w4.heap[w.heap.size + 1 + 1]? = some (.cells (valOf k f t s a len cap).cells 24 (0, 0)) := by
    have h1 := heap_alloc_new ((w.alloc (.cells #[.int .i64 k, .int .i64 f, .int .i64 t, .string s, .slice a len cap] 24)).alloc (.cells #[.int .i64 0] 3)) (.cells #[.int .i64 k, .int .i64 f, .int .i64 t, .string s, .slice a len cap] 24)
    rw [World.size_alloc, World.size_alloc] at h1
    rw [Hw4.out]
    exact h1
  rw [← Hw4.out]
  have hc3 := cell_of_box hb3
  have hS := oneOk (b := w.heap.size + 1) (B := w.heap.size) (by omega)
  have hV : oneV (w.heap.size + 1) w4 := by show _ < _; omega
  have hst := all_stops 5 w.heap.size (w.heap.size + 1 + 1) hS ⟨k, f, t, s, c⟩ _ L w4 hV hb4 (hL.cells (fun p u hp hu => (hB0.cell hp).trans hu)) hc
  refine wpIn_rangeFunc_ownF rfl (by decide) (gf := 34) (lb := #[.pointer (some ⟨w.heap.size + 1 + 1, 0, none⟩)]) rfl trivial (enters_of Try.func34 (by kernel_rfl) rfl)
    hst (fun h k => Keep.trans h k) (fun W l o o' _ h hc _ => one_keep_putObj W l o o' h hc) (Below.refl _ _) (fun _ => rfl)
    (fun pre W => (W.cell? ⟨w.heap.size + 1, 0, none⟩ = some (.int .i64 (pre.length : Nat)) ∧ W.frozen? ⟨w.heap.size + 1, 0, none⟩ = false) ∧ Below w.heap.size w W)
    (fun _ _ _ => False)
    (OwnFrom.and (Own.from (fun s A B row hs hg hr => ⟨cell_kept hs.1 hg hr, (frozen_kept hs.1 hg hr).trans hs.2⟩) _) (ownFrom_below (Nat.le_refl _) (by omega)))
    (fun _ _ _ _ _ hs _ _ => hs)
    ⟨⟨hc3.1, hc3.2⟩, hB0⟩
    (fun x => { tmps := #[.agg #[.int .i64 k, .int .i64 f, .int .i64 t, .string s, .slice a len cap], .pointer (some ⟨w.heap.size, 0, none⟩), .int .i64 0, .pointer (some ⟨w.heap.size + 1, 0, none⟩), .agg #[.int .i64 k, .int .i64 f, .int .i64 t, .string s, .slice a len cap], .func (.func 34) #[] #[.pointer (some ⟨w.heap.size + 1 + 1, 0, none⟩)], .int .i64 x.1, x.2.2, undef, undef, undef], defers := [] }) ?assign ?body ?done ?stop
  case assign =>
    intro l x W K hK
    gi_wp2
    dsimp only [encI]
    rw [List.zip_toArray, List.foldl_toArray]
    exact hK
  case body =>
    rintro l pre x W ⟨⟨h1, h2⟩, h3⟩ hlt
    have hlt : pre.length < 1000000000 := by omega
    gi_wp2
    exact ⟨KeepsOthers.setCell _ _ _, one_keep_set W _, ⟨by rw [World.cell?_setCell_same' _ _ _ (by rw [h1]; rfl)]; simp, by rw [World.frozen?_setCell]; exact h2⟩, h3.setCell (p := ⟨w.heap.size + 1, 0, none⟩) (by simp) _⟩
  case done =>
    rintro D ys W hD rfl ⟨⟨h1, _⟩, h3⟩ hK
    gi_wp2
    refine ⟨by simp, .inl ⟨_, _, rfl, run_takeDeferred hK, ?_⟩⟩
    refine ⟨_, results_tmp rfl _ _ _, ?_, h3.trans (belowK_b (w := w) (Nat.le_refl _) W D _ _ (by omega) hK rfl rfl)⟩
    exact eret_int (by omega)
  case stop =>
    rintro D c pre W _ _ h _
    exact h.elim
/-- The greatest depth. -/
def depL (l : List Int) : Int := l.foldl (fun m d => max m (wrap64 (d + 1))) 0
theorem depL_snoc (l : List Int) (d : Int) : depL (l ++ [d]) = max (depL l) (wrap64 (d + 1)) := by simp [depL]

set_option maxRecDepth 100000 in
set_option maxHeartbeats 2000000 in
theorem tdepth_any (nd : Nd) (v : Value) (w : World) (hn : NodeV w nd v) (hc : nd.c.cnt ≤ 100000000) :
    Calls Try.prog 15 #[v] w fun e w' => e = .returned (.int .i64 (depL ((flatN 0 nd).map (·.1)))) ∧ Below w.heap.size w w' := by
  obtain ⟨L, hL, hLm, _⟩ := LstN.of 0 hn (Nat.le_refl _)
  have hdl : depL (L.map (·.1)) = depL ((flatN 0 nd).map (·.1)) := by rw [← hLm, List.map_map]; rfl
  have Hdl := Lib.hid hdl
  clear hdl
  obtain ⟨a, cap, hv, _, _, _⟩ := id hn
  obtain ⟨k, f, t, s, c⟩ := nd
  simp only at hv hc hL ⊢
  obtain ⟨len, Hl⟩ : ∃ len, Hid (c.len = len) := ⟨_, Lib.hid rfl⟩
  rw [Hl.out] at hv
  subst hv
  have hfa : Fence.wide.fn 11 := trivial
  refine (callsIn_wide (n := 6)).1 ?_
  refine callsIn_of_wp_marks Try.func15 rfl trivial ?_ rfl
  simp only [Try.ntmps15, List.size_toArray, List.length_cons, List.length_nil, Nat.reduceAdd, Nat.reduceSub, Array.replicate_succ, Array.replicate_zero, List.push_toArray, List.append_toArray, List.nil_append, List.cons_append]
  gi_wp2_with (gi_at_call 11; refine (callsIn_wide.2 (all_any _ _ _ _ _ _ _ _)).mono ?_; rintro e w' ⟨rfl, rfl⟩)
  obtain ⟨w4, Hw4⟩ : ∃ w4, Hid (w4 = ((w.alloc (.cells #[.int .i64 k, .int .i64 f, .int .i64 t, .string s, .slice a len cap] 24)).alloc (.cells #[.int .i64 0] 3)).alloc (.cells #[.int .i64 k, .int .i64 f, .int .i64 t, .string s, .slice a len cap] 24)) := ⟨_, Lib.hid rfl⟩
  have hB0 : Below w.heap.size w w4 := by
    rw [Hw4.out]
    exact (((Below.refl _ w).alloc (Nat.le_refl _) _).alloc (by simp) _).alloc (by simp; omega) _
  have hsz : w4.heap.size = w.heap.size + 3 := by rw [Hw4.out]; simp
  have hb3 : w4.heap[w.heap.size + 1]? = some (.cells #[.int .i64 0] 3 (0, 0)) := by
    have h1 := heap_alloc_new (w.alloc (.cells #[.int .i64 k, .int .i64 f, .int .i64 t, .string s, .slice a len cap] 24)) (.cells #[.int .i64 0] 3)
    rw [World.size_alloc] at h1
    rw [Hw4.out]
    exact (Below.heap_alloc _ _ _ (by simp)).trans h1
  have hb4 : w4.heap[w.heap.size + 1 + 1]? = some (.cells (valOf k f t s a len cap).cells 24 (0, 0)) := by
    have h1 := heap_alloc_new ((w.alloc (.cells #[.int .i64 k, .int .i64 f, .int .i64 t, .string s, .slice a len cap] 24)).alloc (.cells #[.int .i64 0] 3)) (.cells #[.int .i64 k, .int .i64 f, .int .i64 t, .string s, .slice a len cap] 24)
    rw [World.size_alloc, World.size_alloc] at h1
    rw [Hw4.out]
    exact h1
  rw [← Hw4.out]
  have hc3 := cell_of_box hb3
  have hS := oneOk (b := w.heap.size + 1) (B := w.heap.size) (by omega)
  have hV : oneV (w.heap.size + 1) w4 := by show _ < _; omega
  have hst := all_stops 5 w.heap.size (w.heap.size + 1 + 1) hS ⟨k, f, t, s, c⟩ _ L w4 hV hb4 (hL.cells (fun p u hp hu => (hB0.cell hp).trans hu)) hc
  refine wpIn_rangeFunc_ownF rfl (by decide) (gf := 34) (lb := #[.pointer (some ⟨w.heap.size + 1 + 1, 0, none⟩)]) rfl trivial (enters_of Try.func34 (by kernel_rfl) rfl)
    hst (fun h k => Keep.trans h k) (fun W l o o' _ h hc _ => one_keep_putObj W l o o' h hc) (Below.refl _ _) (fun _ => rfl)
    (fun pre W => (W.cell? ⟨w.heap.size + 1, 0, none⟩ = some (.int .i64 (depL (pre.map (·.1)))) ∧ W.frozen? ⟨w.heap.size + 1, 0, none⟩ = false) ∧ Below w.heap.size w W)
    (fun _ _ _ => False)
    (OwnFrom.and (Own.from (fun s A B row hs hg hr => ⟨cell_kept hs.1 hg hr, (frozen_kept hs.1 hg hr).trans hs.2⟩) _) (ownFrom_below (Nat.le_refl _) (by omega)))
    (fun _ _ _ _ _ hs _ _ => hs)
    ⟨⟨hc3.1, hc3.2⟩, hB0⟩
    (fun x => { tmps := #[.agg #[.int .i64 k, .int .i64 f, .int .i64 t, .string s, .slice a len cap], .pointer (some ⟨w.heap.size, 0, none⟩), .int .i64 0, .pointer (some ⟨w.heap.size + 1, 0, none⟩), .int .i64 x.1, .agg #[.int .i64 k, .int .i64 f, .int .i64 t, .string s, .slice a len cap], .func (.func 34) #[] #[.pointer (some ⟨w.heap.size + 1 + 1, 0, none⟩)], .int .i64 x.1, x.2.2, undef, undef, undef, undef, undef], defers := [] }) ?assign ?body ?done ?stop
  case assign =>
    intro l x W K hK
    dsimp only [encI]
    rw [List.zip_toArray, List.foldl_toArray]
    simp only [List.zip_cons_cons, List.zip_nil_left, List.foldl_cons, List.foldl_nil, List.setIfInBounds_toArray, List.set_cons_succ, List.set_cons_zero]
    gi_wp2
    exact hK
  case body =>
    rintro l pre x W ⟨⟨h1, h2⟩, h3⟩ hlt
    gi_wp2
    all_goals exact ⟨KeepsOthers.setCell _ _ _, one_keep_set W _, ⟨by rw [World.cell?_setCell_same' _ _ _ (by rw [h1]; rfl), List.map_append, List.map_cons, List.map_nil, depL_snoc]; exact congrArg (fun z => some (Value.int .i64 z)) (by omega), by rw [World.frozen?_setCell]; exact h2⟩, h3.setCell (p := ⟨w.heap.size + 1, 0, none⟩) (by simp) _⟩
  case done =>
    rintro D ys W hD rfl ⟨⟨h1, _⟩, h3⟩ hK
    gi_wp2
    refine ⟨by simp, .inl ⟨_, _, rfl, run_takeDeferred hK, ?_⟩⟩
    refine ⟨_, results_tmp rfl _ _ _, ?_, h3.trans (belowK_b (w := w) (Nat.le_refl _) W D _ _ (by omega) hK rfl rfl)⟩
    exact eret_int Hdl.out
  case stop =>
    rintro D c pre W _ _ h _
    exact h.elim
end Go.Proofs.Ytmkjajapbkdpiaa
