/- What a law's body holds: boxes with numbers. No condition. -/
import Derived.Test.YtcnakbhogmnddaaDoorExWhole
namespace Go.Proofs.YtcnakbhogmnddaaDoor
open Go.RowKit

/-- The world W behind w, with boxes of numbers (block, sign, words) and numbers. -/
structure St (w W : World) (LB : List (Nat × Bool × Value)) (LN : List (Value × Bool × List Nat)) : Prop where
  below : Below w.heap.size w W
  boxes : ∀ x ∈ LB, W.heap[x.1]? = some (.cells #[.bool x.2.1, x.2.2] 25 (0, 0))
  nums : ∀ x ∈ LN, IntV W x.1 x.2.1 x.2.2
section
variable {w W W' : World} {LB : List (Nat × Bool × Value)} {LN : List (Value × Bool × List Nat)}
theorem St.start (w : World) : St w w [] [] := ⟨Below.refl _ _, fun _ h => by simp at h, fun _ h => by simp at h⟩
theorem St.go (h : St w W LB LN) (hb : Below W.heap.size W W') : St w W' LB LN :=
  ⟨h.below.trans (Below.mono hb h.below.size), fun x hx => (hb.block _ (Array.getElem?_eq_some_iff.1 (h.boxes x hx)).1).trans (h.boxes x hx), fun x hx => (h.nums x hx).below hb⟩
theorem St.num (h : St w W LB LN) {v : Value} {g : Bool} {z : List Nat} (hv : IntV W v g z) : St w W LB ((v, g, z) :: LN) :=
  ⟨h.below, h.boxes, fun x hx => by
    rcases List.mem_cons.1 hx with rfl | hx
    · exact hv
    · exact h.nums x hx⟩
theorem St.next (h : St w W LB LN) (hb : Below W.heap.size W W') {v : Value} {g : Bool} {z : List Nat} (hv : IntV W' v g z) : St w W' LB ((v, g, z) :: LN) := (h.go hb).num hv
theorem St.box (h : St w W LB LN) {b : Nat} {n : Bool} {s : Value} (hb : b = W.heap.size) (hW : W' = W.alloc (.cells #[.bool n, s] 25)) : St w W' ((b, n, s) :: LB) LN := by
  subst hb
  have hb := (Below.refl W.heap.size W).alloc (Nat.le_refl _) (.cells #[.bool n, s] 25)
  rw [← hW] at hb
  have h' := h.go hb
  refine ⟨h'.below, fun x hx => ?_, h'.nums⟩
  rcases List.mem_cons.1 hx with rfl | hx
  · rw [hW]
    exact heap_alloc_new W _
  · exact h'.boxes x hx
theorem St.cells (h : St w W LB LN) {b : Nat} {n : Bool} {s : Value} (hm : (b, n, s) ∈ LB) : W.cell? ⟨b, 0, none⟩ = some (.bool n) ∧ W.cell? ⟨b, 1, none⟩ = some s := (box_cells (h.boxes _ hm)).1
theorem St.get (h : St w W LB LN) {v : Value} {g : Bool} {z : List Nat} (hm : (v, g, z) ∈ LN) : IntV W v g z := h.nums _ hm
theorem St.getC (h : St w W LB LN) {v : Value} {i : Int} (hm : (v, decide (i < 0), canW i.natAbs) ∈ LN) : IntC W v i := h.nums _ hm
end
theorem whole_int (v1 v2 : Value) (i j : Int) (w : World) (h1 : IntC w v1 i) (h2 : IntC w v2 j) :
    Calls Tryd.prog 40 #[v1, v2] w fun e w' => e = .returned (.bool (decide (i = j))) ∧ Below w.heap.size w w' := by
  have h := whole_any v1 v2 _ _ _ _ w h1 h2
  have e : decide (decide (i < 0) = decide (j < 0) ∧ canW i.natAbs = canW j.natAbs) = decide (i = j) := by
    refine decide_eq_decide.2 ⟨fun ⟨h1, h2⟩ => ?_, fun h => by rw [h]; exact ⟨rfl, rfl⟩⟩
    have h3 := congrArg ofW h2
    rw [(canW_words _).2, (canW_words _).2] at h3
    have h4 := decide_eq_decide.1 h1
    omega
  rw [e] at h
  exact h
theorem whole_same (v1 v2 : Value) (i : Int) (w : World) (h1 : IntC w v1 i) (h2 : IntC w v2 i) :
    Calls Tryd.prog 40 #[v1, v2] w fun e w' => e = .returned (.bool true) ∧ Below w.heap.size w w' := by
  have h := whole_int v1 v2 i i w h1 h2
  rw [decide_eq_true rfl] at h
  exact h
theorem text_int (v : Value) (i : Int) (w : World) (h : IntC w v i) :
    Calls Tryd.prog 46 #[v] w fun e w' => e = .returned (.string (strL (decI i))) ∧ Below w.heap.size w w' := by
  have := text_any v _ _ w h
  rw [valI_can] at this
  exact this

set_option maxRecDepth 100000 in
set_option maxHeartbeats 1600000 in
theorem awake_any (w : World) : Calls Tryd.prog 36 #[] w fun e w' => e = .returned (.bool true) ∧ Below w.heap.size w w' := by
  have HQ := Lib.hid (fun (v1 v2 : Value) (w : World) (h1 : IntC w v1 (-7)) (h2 : IntC w v2 2) => quo_any v1 v2 _ _ _ _ w h1 h2)
  have e3 : strL (decI (-3)) = ⟨#[45, 51]⟩ := by unfold decI; rw [if_pos (by decide), show (-3 : Int).natAbs = 3 from rfl, decN_small (by decide)]; rfl
  have e1 : strL (decI (-1)) = ⟨#[45, 49]⟩ := by unfold decI; rw [if_pos (by decide), show (-1 : Int).natAbs = 1 from rfl, decN_small (by decide)]; rfl
  have H3 := Lib.hid (fun (v : Value) (w : World) (h : IntC w v (-3)) => text_int v (-3) w h)
  have H1 := Lib.hid (fun (v : Value) (w : World) (h : IntC w v (-1)) => text_int v (-1) w h)
  rw [e3] at H3
  rw [e1] at H1
  clear e3 e1
  have ST0 := Lib.hid (St.start w)
  go_enter Tryd.func36, Tryd.ntmps36
  go_wp2_with (go_at_call 43; refine hold ?_)
  refine Hold.mk ?_
  refine (of_any (-7) w (by decide) (by decide)).mono ?_
  rintro e w1 ⟨v1, rfl, hv, hb⟩
  have ST1 := Lib.hid (ST0.out.next hb hv)
  clear hb hv
  go_wp2_with (go_at_call 43; refine hold ?_)
  refine Hold.mk ?_
  refine (of_any 2 w1 (by decide) (by decide)).mono ?_
  rintro e w2 ⟨v2, rfl, hv, hb⟩
  have ST2 := Lib.hid (ST1.out.next hb hv)
  clear hb hv
  go_wp2_with (go_at_call 38; refine hold ?_)
  refine Hold.mk ?_
  refine (HQ.out v1 v2 w2 (ST2.out.getC (by simp)) (ST2.out.getC (by simp))).mono ?_
  rintro e w3 ⟨⟨v3, v4, k, rfl, hk, hv3, hv4⟩, hb⟩
  have hk0 : k = 0 := by
    rw [hk]
    rw [valI_can, valI_can]
    have h7 : big (-7) = false := decide_eq_false (lt512 (by decide))
    have h2 : big 2 = false := decide_eq_false (lt512 (by decide))
    rw [h7, h2]
    rfl
  subst hk0
  rw [if_pos rfl, valI_can, valI_can] at hv3 hv4
  have hv3 : IntC w3 v3 (-3) := hv3
  have hv4 : IntC w3 v4 (-1) := hv4
  obtain ⟨n3, a3, k3, c3, rfl⟩ := hv3.agg
  obtain ⟨n4, a4, k4, c4, rfl⟩ := hv4.agg
  have ST3 := Lib.hid ((ST2.out.next hb hv3).num hv4)
  clear hb hv3 hv4 hk
  go_upto_region 2 with fail
  obtain ⟨W4, HW4⟩ : ∃ W', Hid (W' = w3.alloc (.cells #[.bool n3, .slice a3 k3 c3] 25)) := ⟨_, Lib.hid rfl⟩
  obtain ⟨b4, Hb4⟩ : ∃ b, Hid (b = w3.heap.size) := ⟨_, Lib.hid rfl⟩
  have Hb5' : w3.heap.size + 1 = W4.heap.size := by rw [HW4.out]; simp
  rw [← HW4.out, Hb5', ← Hb4.out]
  have ST4 := Lib.hid (ST3.out.box Hb4.out HW4.out)
  obtain ⟨W5, HW5⟩ : ∃ W', Hid (W' = W4.alloc (.cells #[.bool n4, .slice a4 k4 c4] 25)) := ⟨_, Lib.hid rfl⟩
  obtain ⟨b5, Hb5⟩ : ∃ b, Hid (b = W4.heap.size) := ⟨_, Lib.hid rfl⟩
  rw [← HW5.out, ← Hb5.out]
  have ST5 := Lib.hid (ST4.out.box Hb5.out HW5.out)
  clear Hb5'
  obtain ⟨c40, c41⟩ := ST5.out.cells (b := b4) (n := n3) (s := .slice a3 k3 c3) (by simp)
  go_wp2_with (go_at_call 46; refine hold ?_)
  refine Hold.mk ?_
  refine (H3.out _ W5 (ST5.out.getC (by simp))).mono ?_
  rintro e W6 ⟨rfl, hb⟩
  have ST6 := Lib.hid (ST5.out.go hb)
  clear hb c40 c41
  obtain ⟨c50, c51⟩ := ST6.out.cells (b := b5) (n := n4) (s := .slice a4 k4 c4) (by simp)
  go_wp2_with (go_at_call 46; refine hold ?_)
  refine Hold.mk ?_
  refine (H1.out _ W6 (ST6.out.getC (by simp))).mono ?_
  rintro e W7 ⟨rfl, hb⟩
  have ST7 := Lib.hid (ST6.out.go hb)
  clear hb c50 c51
  go_wp2_with fail
  go_ret
  exact ⟨rfl, ST7.out.below⟩
end Go.Proofs.YtcnakbhogmnddaaDoor
