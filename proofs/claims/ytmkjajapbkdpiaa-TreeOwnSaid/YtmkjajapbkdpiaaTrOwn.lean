/- tree.own: a copy in memory of its own. No condition. -/
import Derived.Test.YtmkjajapbkdpiaaTrClone
namespace Go.Proofs.Ytmkjajapbkdpiaa
open Go.RowKit

theorem five_cells {w : World} {g i : Nat} {cur : Array Value} {t : TypeId} (h : w.heap[g]? = some (.cells cur t (0, 0))) (hi : i + 4 < cur.size) :
    (∃ u0 u1 u2 u3 u4, w.cell? ⟨g, i, none⟩ = some u0 ∧ w.cell? ⟨g, i + 1, none⟩ = some u1 ∧ w.cell? ⟨g, i + 2, none⟩ = some u2 ∧ w.cell? ⟨g, i + 3, none⟩ = some u3 ∧ w.cell? ⟨g, i + 4, none⟩ = some u4) ∧ ∀ j, w.frozen? ⟨g, j, none⟩ = false := by
  refine ⟨⟨cur[i]'(by omega), cur[i + 1]'(by omega), cur[i + 2]'(by omega), cur[i + 3]'(by omega), cur[i + 4]'(by omega), ?_, ?_, ?_, ?_, ?_⟩, fun j => ?_⟩
  · simp only [World.cell?, h]; simp [show i < cur.size by omega]
  · simp only [World.cell?, h]; simp [show i + 1 < cur.size by omega]
  · simp only [World.cell?, h]; simp [show i + 2 < cur.size by omega]
  · simp only [World.cell?, h]; simp [show i + 3 < cur.size by omega]
  · simp only [World.cell?, h]; simp [hi]
  · simp only [World.frozen?, h]; simp

def OwnPost (nd : Nd) (w : World) (e : Ending) (w' : World) : Prop :=
  ∃ a' cap', e = .returned (.agg #[.int .i64 nd.k, .int .i64 nd.f, .int .i64 nd.t, .string nd.s, .slice a' nd.c.len cap']) ∧ nd.c.len ≤ cap' ∧ cap' ≤ maxLen ∧ Below w.heap.size w w' ∧
    (nd.c.len = 0 ∨ ∃ g cur, a' = some ⟨g, 0, none⟩ ∧ w.heap.size ≤ g ∧ w'.heap[g]? = some (.cells cur 24 (0, 0)) ∧ cur.size = cap' * 5 ∧ ∀ j, j < nd.c.len → ElemG (w.heap.size ≤ ·) w' g j (nd.c.get j))
theorem kidsP_empty {P : Nat → Prop} {w : World} {a : Option Addr} {i : Nat} {F : Fo} (h : F.len = 0) : KidsP P w a i F := by
  cases F with
  | nil => trivial
  | cons => simp [Fo.len] at h
theorem OwnPost.node {nd : Nd} {w w' : World} {e : Ending} (h : OwnPost nd w e w') : ∃ a' cap', e = .returned (.agg #[.int .i64 nd.k, .int .i64 nd.f, .int .i64 nd.t, .string nd.s, .slice a' nd.c.len cap']) ∧ nd.c.len ≤ cap' ∧ cap' ≤ maxLen ∧ KidsP (w.heap.size ≤ ·) w' a' 0 nd.c := by
  obtain ⟨a', cap', h1, h2, h3, h4, h5⟩ := h
  refine ⟨a', cap', h1, h2, h3, ?_⟩
  rcases h5 with h5 | ⟨g, cur, rfl, h6, h7, h8, h9⟩
  · exact kidsP_empty h5
  · exact kidsP_of_elems (fun _ h => h) h6 _ 0 (fun j hj => by rw [Nat.zero_add]; exact h9 j hj)

/-- The copy's row, at round i: what stands ahead is the copy's own, the rest is the elder's. -/
def OwnR (B0 len cap' i : Nat) (c : Fo) (g : Nat) (wr : World) : Prop :=
  ∃ cur, wr.heap[g]? = some (.cells cur 24 (0, 0)) ∧ cur.size = cap' * 5 ∧ (∀ j, j < i → ElemG (fun k => B0 ≤ k ∧ k ≠ g) wr g j (c.get j)) ∧ ∀ j, i ≤ j → j < len → ElemG (· < B0) wr g j (c.get j)

theorem OwnR.next {B0 len cap' i g : Nat} {c : Fo} {wr w' : World} {nd : Nd} {a'' : Option Addr} {cap'' : Nat} (h : OwnR B0 len cap' i c g wr) (hi : i < len) (hlc : len ≤ cap') (hnd : c.get i = nd) (hB : B0 ≤ g) (hg : g < wr.heap.size)
    (hb : Below wr.heap.size wr w') (h1 : nd.c.len ≤ cap'') (h2 : cap'' ≤ maxLen) (hk : KidsP (wr.heap.size ≤ ·) w' a'' 0 nd.c) :
    OwnR B0 len cap' (i + 1) c g (set5 w' g (i * 5) (.int .i64 nd.k) (.int .i64 nd.f) (.int .i64 nd.t) (.string nd.s) (.slice a'' nd.c.len cap'')) := by
  obtain ⟨cur, q1, q2, q3, q4⟩ := h
  have q1' := (hb.block g hg).trans q1
  have hsz : i * 5 + 4 < cur.size := by rw [q2]; omega
  have hBw : B0 ≤ wr.heap.size := by omega
  obtain ⟨z0, z1, z2, z3, z4⟩ := set5_new (.int .i64 nd.k) (.int .i64 nd.f) (.int .i64 nd.t) (.string nd.s) (.slice a'' nd.c.len cap'') q1' hsz
  have far : ∀ p v, p.block ≠ g → wr.cell? p = some v → (set5 w' g (i * 5) (.int .i64 nd.k) (.int .i64 nd.f) (.int .i64 nd.t) (.string nd.s) (.slice a'' nd.c.len cap'')).cell? p = some v := fun p v hp hc => set5_cell hp (cell_below hb rfl hc)
  have near : ∀ j, j ≠ i → ∀ o v, o < 5 → wr.cell? ⟨g, j * 5 + o, none⟩ = some v → (set5 w' g (i * 5) (.int .i64 nd.k) (.int .i64 nd.f) (.int .i64 nd.t) (.string nd.s) (.slice a'' nd.c.len cap'')).cell? ⟨g, j * 5 + o, none⟩ = some v := fun j hj o v ho hc =>
    set5_other (by omega) (cell_below hb rfl hc)
  refine ⟨_, set5_same _ _ _ _ _ _ q1', by simp [q2], fun j hj => ?_, fun j hj hj2 => (q4 j (by omega) hj2).cells (fun p v hp hc => far p v (by have hp : p.block < B0 := hp; omega) hc) (near j (by omega))⟩
  by_cases hji : j = i
  · subst hji
    rw [hnd]
    refine ⟨a'', cap'', z0, z1, z2, z3, z4, h1, h2, ?_⟩
    refine KidsP.cells (fun p v hp hc => set5_cell hp.2 hc) (hk.mono fun k hk => ?_)
    have hk : wr.heap.size ≤ k := hk
    exact ⟨by omega, by omega⟩
  · exact (q3 j (by omega)).cells (fun p v hp hc => far p v hp.2 hc) (near j hji)

set_option maxRecDepth 100000 in
set_option maxHeartbeats 1600000 in
theorem own_any : ∀ (m : Nat) (nd : Nd) (v : Value) (w : World), nd.c.cnt < m → nd.c.cnt ≤ 1000000 → NodeV w nd v → Calls Try.prog 38 #[v] w (OwnPost nd w) := by
  intro m
  induction m with
  | zero => intro nd v w h; omega
  | succ m ih =>
    intro nd v w hm hcb hn
    obtain ⟨k, f, t, s, c⟩ := nd
    obtain ⟨a, cap, rfl, hl1, hl2, hK⟩ := hn
    simp only at hl1 hl2 hK hm hcb ⊢
    obtain ⟨len, Hlen⟩ : ∃ len, Hid (c.len = len) := ⟨_, Lib.hid rfl⟩
    have hlc : len ≤ 1000000 := by
      have : ∀ F : Fo, F.len ≤ F.cnt := by
        intro F
        induction F with
        | nil => exact Nat.le_refl _
        | cons k f t s c r _ ih => simp only [Fo.len, Fo.cnt]; omega
      have := this c
      have := Hlen.out
      omega
    have hKp := hK.p
    obtain ⟨w1, Hw1⟩ : ∃ w1, Hid (w1 = (w.alloc (.cells #[.int .i64 k, .int .i64 f, .int .i64 t, .string s, .slice a len cap] 24)).alloc (.cells #[.int .i64 0, .int .i64 0, .int .i64 0, .string ⟨#[]⟩, .slice none 0 0] 24)) := ⟨_, Lib.hid rfl⟩
    obtain ⟨bn, Hbn⟩ : ∃ b, Hid (b = w.heap.size) := ⟨_, Lib.hid rfl⟩
    obtain ⟨bo, Hbo⟩ : ∃ b, Hid (b = w.heap.size + 1) := ⟨_, Lib.hid rfl⟩
    have hB : Below w.heap.size w w1 := by
      rw [Hw1.out]
      exact ((Below.refl _ w).alloc (Nat.le_refl _) _).alloc (by simp) _
    have q1 : w1.heap[bn]? = some (.cells #[.int .i64 k, .int .i64 f, .int .i64 t, .string s, .slice a len cap] 24 (0, 0)) := by
      rw [Hw1.out, Hbn.out]
      exact (Below.heap_alloc _ _ _ (by simp)).trans (heap_alloc_new w _)
    have q2 : w1.heap[bo]? = some (.cells #[.int .i64 0, .int .i64 0, .int .i64 0, .string ⟨#[]⟩, .slice none 0 0] 24 (0, 0)) := by
      have := heap_alloc_new (w.alloc (.cells #[.int .i64 k, .int .i64 f, .int .i64 t, .string s, .slice a len cap] 24)) (.cells #[.int .i64 0, .int .i64 0, .int .i64 0, .string ⟨#[]⟩, .slice none 0 0] 24)
      rw [World.size_alloc] at this
      rw [Hw1.out, Hbo.out]
      exact this
    have hsz1 : w1.heap.size = w.heap.size + 2 := by rw [Hw1.out]; simp
    have HCL := Lib.hid (clone_any (· < w.heap.size) c a cap w1 (hKp.cells (fun p v _ hc => cell_below hB rfl hc)) (by rw [Hlen.out] at hl1 ⊢; exact hl1) hl2 (by rw [Hlen.out]; exact hlc))
    rw [Hlen.out] at HCL hl1 ⊢
    have HM := Lib.hid (And.intro hm hcb)
    have HB := Lib.hid (And.intro hB hsz1)
    have IH := Lib.hid ih
    have HQ := Lib.hid (And.intro q1 q2)
    clear hm hcb hB hsz1 ih hK hKp q1 q2 hl1 hl2
    go_enter Try.func38, Try.ntmps38
    go_wp2_with (go_at_call 42; refine hold ?_)
    rw [← Hw1.out]
    try rw [← Hbo.out]
    try rw [← Hbn.out]
    refine Hold.mk ?_
    refine HCL.out.mono ?_
    rintro e w2 ⟨a', cap', rfl, hk1, hk2, hb2, hrow⟩
    rw [Hlen.out] at hk1 hrow ⊢
    obtain ⟨q1, q2⟩ := HQ.out
    have p1 := (hb2.block bn (Array.getElem?_eq_some_iff.1 q1).1).trans q1
    have p2 := (hb2.block bo (Array.getElem?_eq_some_iff.1 q2).1).trans q2
    have c4 : w2.cell? ⟨bn, 4, none⟩ = some (.slice a len cap) := by simp only [World.cell?, p1]; rfl
    have f4 : w2.frozen? ⟨bn, 4, none⟩ = false := by simp only [World.frozen?, p1]; simp
    have HR := Lib.hid (And.intro p1 (And.intro p2 (And.intro hb2 hrow)))
    clear q1 q2 p1 p2 hb2 hrow
    go_upto_region 2 with fail
    have HW3 := Lib.hid (show Below w.heap.size w (w2.setCell ⟨bn, 4, none⟩ (.slice a' len cap')) ∧ (w2.setCell ⟨bn, 4, none⟩ (.slice a' len cap')).heap[bn]? = some (.cells #[.int .i64 k, .int .i64 f, .int .i64 t, .string s, .slice a' len cap'] 24 (0, 0)) ∧
        (∃ u0 u1 u2 u3 u4, (w2.setCell ⟨bn, 4, none⟩ (.slice a' len cap')).heap[bo]? = some (.cells #[u0, u1, u2, u3, u4] 24 (0, 0))) ∧
        (len = 0 ∨ ∃ g, a' = some ⟨g, 0, none⟩ ∧ bo < g ∧ OwnR w1.heap.size len cap' 0 c g (w2.setCell ⟨bn, 4, none⟩ (.slice a' len cap'))) from by
      obtain ⟨p1, p2, hb2, hrow⟩ := HR.out
      obtain ⟨hB, hsz1⟩ := HB.out
      have hbn := Hbn.out
      have hbo := Hbo.out
      refine ⟨(hB.trans (Below.mono hb2 hB.size)).setCell (p := ⟨bn, 4, none⟩) (by simp only; omega) _, (setCell_heap_same p1 _).trans rfl, ⟨.int .i64 0, .int .i64 0, .int .i64 0, .string ⟨#[]⟩, .slice none 0 0, (Below.heap_setCell _ _ _ _ (by simp only; omega)).trans p2⟩, ?_⟩
      rcases hrow with h | ⟨g, cur, e, h6, h7, h8, h9⟩
      · exact .inl h
      · refine .inr ⟨g, e, by omega, cur, (Below.heap_setCell _ _ _ _ (by simp only; omega)).trans h7, h8, fun j hj => absurd hj (by omega), fun j _ hj => ?_⟩
        have h10 := h9 j hj
        have far : ∀ p v, p.block ≠ bn → w2.cell? p = some v → (w2.setCell ⟨bn, 4, none⟩ (.slice a' len cap')).cell? p = some v := fun p v hp hc =>
          cell_same (fun cs t fr e => (Below.heap_setCell _ _ _ _ hp).trans e) hc
        exact (h10.cells (fun p v hp hc => far p v (by have hp : p.block < w.heap.size := hp; omega) hc) (fun o v _ hc => far _ v (by simp only; omega) hc)).mono fun k hk => by have hk : k < w.heap.size := hk; show k < w1.heap.size; omega)
    obtain ⟨w3, Hw3⟩ : ∃ w3, Hid (w3 = w2.setCell ⟨bn, 4, none⟩ (.slice a' len cap')) := ⟨_, Lib.hid rfl⟩
    rw [← Hw3.out] at HW3 ⊢
    clear c4 f4
    have d4 : w3.cell? ⟨bn, 4, none⟩ = some (.slice a' len cap') := by
      have := HW3.out.2.1
      simp only [World.cell?, this]; rfl
    have hls : len ≤ 9223372036854775807 := by omega
    go_wp2_with fail
    go_loopg [12] len (fun gg v12 wr => ∃ i : Nat, i ≤ len ∧ v12 = .int .i64 i ∧ gg = len - i ∧ Hid (Below w.heap.size w wr ∧ wr.heap[bn]? = some (.cells #[.int .i64 k, .int .i64 f, .int .i64 t, .string s, .slice a' len cap'] 24 (0, 0)) ∧
        (∃ u0 u1 u2 u3 u4, wr.heap[bo]? = some (.cells #[u0, u1, u2, u3, u4] 24 (0, 0))) ∧
        (len = 0 ∨ ∃ g, a' = some ⟨g, 0, none⟩ ∧ bo < g ∧ OwnR w1.heap.size len cap' i c g wr)))
    case atStart => exact ⟨0, Nat.zero_le _, rfl, rfl, HW3⟩
    case round =>
      clear HW3 d4
      obtain ⟨i, hi, rfl, hgg, Hr⟩ := hrel
      by_cases hlt : i < len
      · obtain ⟨hbr, hr1, hr2, hr3⟩ := Hr.out
        rcases hr3 with h | ⟨g, e, hbg, hR⟩
        · omega
        · subst e
          have hR0 := hR
          obtain ⟨cur, x1, x2, x3, x4⟩ := hR
          obtain ⟨nd, Hnd⟩ : ∃ nd, Hid (c.get i = nd) := ⟨_, Lib.hid rfl⟩
          have x5 := x4 i (Nat.le_refl _) hlt
          have hcn := Fo.get_cnt c i (by rw [Hlen.out]; exact hlt)
          rw [Hnd.out] at x5 hcn
          obtain ⟨a'', cap'', y0, y1, y2, y3, y4, y5, y6, y7⟩ := x5
          have d4 : wr.cell? ⟨bn, 4, none⟩ = some (.slice (some ⟨g, 0, none⟩) len cap') := by simp only [World.cell?, hr1]; rfl
          have hal := (Below.refl _ wr).alloc (Nat.le_refl _) (.cells #[.int .i64 nd.k, .int .i64 nd.f, .int .i64 nd.t, .string nd.s, .slice a'' nd.c.len cap''] 24)
          obtain ⟨wa, Hwa⟩ : ∃ wa, Hid (wa = wr.alloc (.cells #[.int .i64 nd.k, .int .i64 nd.f, .int .i64 nd.t, .string nd.s, .slice a'' nd.c.len cap''] 24)) := ⟨_, Lib.hid rfl⟩
          obtain ⟨bx, Hbx⟩ : ∃ b, Hid (b = wr.heap.size) := ⟨_, Lib.hid rfl⟩
          rw [← Hwa.out] at hal
          have hbx : wa.heap[bx]? = some (.cells #[.int .i64 nd.k, .int .i64 nd.f, .int .i64 nd.t, .string nd.s, .slice a'' nd.c.len cap''] 24 (0, 0)) := by rw [Hwa.out, Hbx.out]; exact heap_alloc_new wr _
          have HS : (fun w' => w'.cell? ⟨bn, 4, none⟩ = some (.slice (some ⟨g, 0, none⟩) len cap') ∧ w'.cell? ⟨bx, 0, none⟩ = some (.int .i64 nd.k) ∧ w'.cell? ⟨bx, 1, none⟩ = some (.int .i64 nd.f) ∧ w'.cell? ⟨bx, 2, none⟩ = some (.int .i64 nd.t) ∧ w'.cell? ⟨bx, 3, none⟩ = some (.string nd.s) ∧ w'.cell? ⟨bx, 4, none⟩ = some (.slice a'' nd.c.len cap'')) wa.drew := by
            refine ⟨cell_below hal rfl d4, ?_, ?_, ?_, ?_, ?_⟩ <;> (show wa.cell? _ = _; simp only [World.cell?, hbx]; rfl)
          have hwd : Below wr.heap.size wr wa.drew := hal.trans (Below.refl _ wa).drew
          have HIH := Lib.hid (IH.out nd (.agg #[.int .i64 nd.k, .int .i64 nd.f, .int .i64 nd.t, .string nd.s, .slice a'' nd.c.len cap'']) wa.drew (by have := HM.out.1; omega) (by have := HM.out.2; omega) ⟨a'', cap'', rfl, y5, y6, (y7.cells (fun p v hp hc => cell_below hwd rfl hc)).at⟩)
          have HX := Lib.hid (And.intro hwd (And.intro hR0 (And.intro hbr (And.intro hr1 hr2))))
          clear x1 x2 x3 x4 y5 y6 y7 hr1 hr2 hbr hR0 hal hbx hwd hcn
          go_upto_region 5 with fail
          rw [← Hwa.out]
          try rw [← Hbx.out]
          clear y0 y1 y2 y3 y4 d4
          refine wp_region_pi (fun w' => w'.cell? ⟨bn, 4, none⟩ = some (.slice (some ⟨g, 0, none⟩) len cap') ∧ w'.cell? ⟨bx, 0, none⟩ = some (.int .i64 nd.k) ∧ w'.cell? ⟨bx, 1, none⟩ = some (.int .i64 nd.f) ∧ w'.cell? ⟨bx, 2, none⟩ = some (.int .i64 nd.t) ∧ w'.cell? ⟨bx, 3, none⟩ = some (.string nd.s) ∧ w'.cell? ⟨bx, 4, none⟩ = some (.slice a'' nd.c.len cap'')) [(0, 1), (1, 0), (2, 1), (3, 0), (4, 2), (5, 1), (6, 3)] [(6, [1]), (6, [3])] (by kernel_rfl) (by kernel_rfl) (fun _ _ _ _ _ h => h) (HS) ?_
          refine pd_pu (some 17) rfl rfl (by rfl) (fun ws => by go_simp; try with_reducible rfl) ?_; go_frame   -- 0 Op.fieldAddr 24 (Operand.tmp 1) 4
          refine pd_ld (some 18) rfl rfl (by rfl) (fun ws HS => by go_split_ands; go_simp; try with_reducible rfl) ?_; go_frame   -- 1 Op.load 22 (Operand.tmp 17)
          refine pd_pu (some 19) rfl rfl (by rfl) (fun ws => by go_simp; try with_reducible rfl) ?_; go_frame   -- 2 Op.move (Operand.tmp 3)
          refine pd_ld (some 20) rfl rfl (by rfl) (fun ws HS => by go_split_ands; go_simp; try with_reducible rfl) ?_; go_frame   -- 3 Op.load 24 (Operand.tmp 4)
          refine pi_ke rfl (fun J hJ => ?_)   -- 4 Op.call { callee := Callee.value (Operand.func 38), args := #[Operand.tmp 20], argTypes := #[24] }
          go_wp2_with (go_at_call 38; refine HIH.out.mono ?_; rintro e w5 hp; obtain ⟨b', cb', rfl, z1, z2, z3⟩ := hp.node; have hb5 := hp.choose_spec.choose_spec.2.2.2.1; clear hp)
          have HS5 : (fun w' => w'.cell? ⟨bn, 4, none⟩ = some (.slice (some ⟨g, 0, none⟩) len cap') ∧ w'.cell? ⟨bx, 0, none⟩ = some (.int .i64 nd.k) ∧ w'.cell? ⟨bx, 1, none⟩ = some (.int .i64 nd.f) ∧ w'.cell? ⟨bx, 2, none⟩ = some (.int .i64 nd.t) ∧ w'.cell? ⟨bx, 3, none⟩ = some (.string nd.s) ∧ w'.cell? ⟨bx, 4, none⟩ = some (.slice a'' nd.c.len cap'')) w5 := by
            obtain ⟨s0, s1, s2, s3, s4, s5⟩ := HS
            exact ⟨cell_below hb5 rfl s0, cell_below hb5 rfl s1, cell_below hb5 rfl s2, cell_below hb5 rfl s3, cell_below hb5 rfl s4, cell_below hb5 rfl s5⟩
          obtain ⟨hwd, ⟨cur, x1, x2, x3, x4⟩, hbr, hr1, hr2⟩ := HX.out
          have hgr := (Array.getElem?_eq_some_iff.1 x1).1
          have hb6 : Below wr.heap.size wr w5 := hwd.trans (Below.mono hb5 hwd.size)
          have g5 := (hb6.block g hgr).trans x1
          have hcs : i * 5 + 4 < cur.size := by rw [x2]; have := hk1; omega
          obtain ⟨⟨v0, v1, v2, v3, v4, k0, k1, k2, k3, k4⟩, fz⟩ := five_cells g5 hcs
          have f0 := fz (i * 5)
          have f1 := fz (i * 5 + 1)
          have f2 := fz (i * 5 + 2)
          have f3 := fz (i * 5 + 3)
          have f4 := fz (i * 5 + 4)
          have hs6 : wr.heap.size ≤ wa.drew.heap.size := hwd.size
          have HY := Lib.hid (And.intro hb6 (And.intro z1 (And.intro z2 (And.intro (show KidsP (wr.heap.size ≤ ·) w5 b' 0 nd.c from z3.mono fun k hk => Nat.le_trans hs6 hk) hgr))))
          have HX2 := Lib.hid (And.intro (show OwnR w1.heap.size len cap' i c g wr from ⟨cur, x1, x2, x3, x4⟩) (And.intro hbr (And.intro hr1 hr2)))
          clear hb5 z1 z2 z3 hwd x1 x2 x3 x4 hbr hr1 hr2 hb6 g5 hcs fz hs6 hgr HX HIH
          refine hJ _ _ HS5 ?_
          refine pd_pu (some 22) rfl rfl (by rfl) (fun ws => by go_simp; try with_reducible rfl) ?_; go_frame   -- 5 Op.indexAddr 22 (Operand.tmp 18) (Operand.tmp 19)
          refine pi_tail (by rfl) ?_; simp only [opsAt, List.getElem?_toArray, List.getElem?_cons_zero, List.getElem?_cons_succ]   -- [(6, 'Op.store 24 (Operand.tmp 22) (Operand.tmp 21)')]
          go_wp2_with fail
          obtain ⟨hb6, z1, z2, z3, hgr⟩ := HY.out
          obtain ⟨hR, hbr, hr1, hr2⟩ := HX2.out
          have hn6 := hR.next hlt hk1 Hnd.out (by have := Hbo.out; have := HB.out.2; omega) hgr hb6 z1 z2 z3
          have hB6 := set5_below (hbr.trans (Below.mono hb6 hbr.size)) (g := g) (i := i * 5) (by have := Hbo.out; omega) (.int .i64 nd.k) (.int .i64 nd.f) (.int .i64 nd.t) (.string nd.s) (.slice b' nd.c.len cb')
          obtain ⟨u0, u1, u2, u3, u4, hr2⟩ := hr2
          have hr1' := (set5_block w5 (i := i * 5) (.int .i64 nd.k) (.int .i64 nd.f) (.int .i64 nd.t) (.string nd.s) (.slice b' nd.c.len cb') (show bn ≠ g by have := Hbo.out; have := Hbn.out; omega)).trans ((hb6.block bn (Array.getElem?_eq_some_iff.1 hr1).1).trans hr1)
          have hr2' := (set5_block w5 (i := i * 5) (.int .i64 nd.k) (.int .i64 nd.f) (.int .i64 nd.t) (.string nd.s) (.slice b' nd.c.len cb') (show bo ≠ g by omega)).trans ((hb6.block bo (Array.getElem?_eq_some_iff.1 hr2).1).trans hr2)
          have HF := Lib.hid (And.intro hB6 (And.intro hr1' (And.intro hr2' hn6)))
          unfold set5 at HF
          clear hb6 z1 z2 z3 hgr hR hbr hr1 hr2 hn6 hB6 hr1' hr2'
          go_roundg (len - (i + 1))
          case measure => omega
          case rel => exact ⟨i + 1, by omega, by go_num, rfl, Lib.hid ⟨HF.out.1, HF.out.2.1, ⟨_, _, _, _, _, HF.out.2.2.1⟩, .inr ⟨g, rfl, hbg, HF.out.2.2.2⟩⟩⟩
      · have hge : len ≤ i := by omega
        have hil : i = len := by omega
        obtain ⟨hbr, hr1, ⟨u0, u1, u2, u3, u4, hr2⟩, hr3⟩ := Hr.out
        rw [hil] at hr3
        have n0 : wr.cell? ⟨bn, 0, none⟩ = some (.int .i64 k) := by simp only [World.cell?, hr1]; rfl
        have n1 : wr.cell? ⟨bn, 1, none⟩ = some (.int .i64 f) := by simp only [World.cell?, hr1]; rfl
        have n2 : wr.cell? ⟨bn, 2, none⟩ = some (.int .i64 t) := by simp only [World.cell?, hr1]; rfl
        have n3 : wr.cell? ⟨bn, 3, none⟩ = some (.string s) := by simp only [World.cell?, hr1]; rfl
        have n4 : wr.cell? ⟨bn, 4, none⟩ = some (.slice a' len cap') := by simp only [World.cell?, hr1]; rfl
        have o0 : wr.cell? ⟨bo, 0, none⟩ = some u0 := by simp only [World.cell?, hr2]; rfl
        have o1 : wr.cell? ⟨bo, 1, none⟩ = some u1 := by simp only [World.cell?, hr2]; rfl
        have o2 : wr.cell? ⟨bo, 2, none⟩ = some u2 := by simp only [World.cell?, hr2]; rfl
        have o3 : wr.cell? ⟨bo, 3, none⟩ = some u3 := by simp only [World.cell?, hr2]; rfl
        have o4 : wr.cell? ⟨bo, 4, none⟩ = some u4 := by simp only [World.cell?, hr2]; rfl
        have fz : ∀ j, wr.frozen? ⟨bo, j, none⟩ = false := fun j => by simp only [World.frozen?, hr2]; simp
        have g0 := fz 0
        have g1 := fz 1
        have g2 := fz 2
        have g3 := fz 3
        have g4 := fz 4
        have H2 := Lib.hid (And.intro hbr (And.intro hr2 hr3))
        clear hbr hr1 hr2 hr3 fz Hr hlt hil
        go_wp2_with fail
        obtain ⟨hbr, hr2, hr3⟩ := H2.out
        have h5 := set5_same wr (i := 0) (.int .i64 k) (.int .i64 f) (.int .i64 t) (.string s) (.slice a' len cap') hr2
        have hB6 := set5_below hbr (g := bo) (i := 0) (by have := Hbo.out; omega) (.int .i64 k) (.int .i64 f) (.int .i64 t) (.string s) (.slice a' len cap')
        refine bodyPost_ret (results_cell_row rfl _ _ bo 24 #[.int .i64 k, .int .i64 f, .int .i64 t, .string s, .slice a' len cap'] (0, 0) _ rfl h5 Try.underlying24 rfl infoNd) rfl ?_
        refine ⟨a', cap', ?_, by rw [Hlen.out]; exact hk1, hk2, hB6, ?_⟩
        · rw [Hlen.out]
        · rw [Hlen.out]
          rcases hr3 with h | ⟨g, e, hbg, cur, x1, x2, x3, _⟩
          · exact .inl h
          · refine .inr ⟨g, cur, e, by have := Hbo.out; omega, (set5_block wr (i := 0) _ _ _ _ _ (show g ≠ bo by omega)).trans x1, x2, fun j hj => ?_⟩
            refine ((x3 j hj).mono (Q := fun k => w1.heap.size ≤ k) fun k hk => hk.1).cells (fun p v hp hc => ?_) (fun o v _ hc => ?_) |>.mono ?_
            · have hp : w1.heap.size ≤ p.block := hp
              exact set5_cell (i := 0) (by have := Hbo.out; have := HB.out.2; omega) hc
            · exact set5_cell (i := 0) (by simp only; omega) hc
            · intro k hk
              have hk : w1.heap.size ≤ k := hk
              show w.heap.size ≤ k
              have := HB.out.2
              omega
end Go.Proofs.Ytmkjajapbkdpiaa
