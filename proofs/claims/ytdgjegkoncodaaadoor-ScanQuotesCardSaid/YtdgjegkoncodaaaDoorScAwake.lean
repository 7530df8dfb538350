/- What the document fixes of scan (recastlaw3.awake); the walk of ScanNames. Conditions: the tables of unicode/utf8 stand in blocks 0 and 1; the library's MaxLen holds an int. -/
import Derived.Test.YtdgjegkoncodaaaDoorScTok
namespace Go.Proofs.YtdgjegkoncodaaaDoor
open Go.RowKit

/-- What the library's variables hold. -/
structure Lay (w : World) : Prop where
  tabs : Lib.Utf8Tabs 0 1 w
  max : ∃ m, w.cell? ⟨2, 0, none⟩ = some (.int .i64 m)
theorem Lay.go {w w' : World} (h : Lay w) (hb : Below w.heap.size w w') : Lay w' := by
  refine ⟨utf8_below h.tabs hb, ?_⟩
  obtain ⟨m, hm⟩ := h.max
  exact ⟨m, by rw [hb.cell (World.block_lt_of_cell? _ _ hm)]; exact hm⟩
theorem tokens_lay (src : ByteArray) {w : World} (h : Lay w) : Calls Tryd.prog 13 #[.string src] w fun e w' => TokP w w' e (resT (scanAll src.data.toList)) ∧ Below w.heap.size w w' := by
  obtain ⟨m, hm⟩ := h.max
  exact tokens_any src w h.tabs hm
theorem comments_lay (src : ByteArray) {w : World} (h : Lay w) : Calls Tryd.prog 20 #[.string src] w fun e w' => ComP w w' e (resT (scanAll src.data.toList)) ∧ Below w.heap.size w w' := by
  obtain ⟨m, hm⟩ := h.max
  exact comments_any src w h.tabs hm
theorem scan_aw : resT (scanAll (⟨#[97, 58, 61, 49]⟩ : ByteArray).data.toList) = (0, 0, [⟨1, 0, 1, [97]⟩, ⟨5, 1, 3, [58, 61]⟩, ⟨2, 3, 4, [49]⟩, ⟨6, 4, 4, [10]⟩, ⟨7, 4, 4, []⟩], []) := by kernel_rfl
/-- A row of tokens that is owned, in a world behind. -/
theorem tok_row {w : World} {b : Nat} {tv : Value} {l : List Tok} (h : w.ownsRow b 35 4 tv l.length (tokCells l)) (hl : l ≠ []) : ∃ g cap, tv = .slice (some ⟨g, 0, none⟩) l.length cap ∧ b ≤ g ∧ g < w.heap.size ∧ ∀ j v, (tokCells l)[j]? = some v → w.cell? ⟨g, j, none⟩ = some v := by
  rcases h.2 with ⟨_, e⟩ | ⟨g, cap, cur, e, hg, hh, _⟩
  · exact absurd (List.eq_nil_of_length_eq_zero e) hl
  · subst e
    refine ⟨g, cap, rfl, hg, (Array.getElem?_eq_some_iff.1 hh).1, fun j v hj => ?_⟩
    have := h.cells (g := g) rfl j v hj
    simpa [Addr.add_lit] using this
set_option maxRecDepth 100000 in
theorem aw_any {w : World} (h : Lay w) : Calls Tryd.prog 12 #[] w fun e w' => e = .returned (.bool true) ∧ Below w.heap.size w w' := by
  have HT := Lib.hid (tokens_lay ⟨#[97, 58, 61, 49]⟩ h)
  rw [scan_aw] at HT
  have HWd := Lib.hid (fun w => show Calls Tryd.prog 16 #[.string ⟨#[102, 117, 110, 99]⟩] w (fun e w' => e = .returned (.bool true) ∧ w = w') from by
    have h := word_any ⟨#[102, 117, 110, 99]⟩ w
    rw [show wordB (⟨#[102, 117, 110, 99]⟩ : ByteArray).toList = true from by kernel_rfl] at h
    exact h)
  have HId := Lib.hid (fun w => show Calls Tryd.prog 18 #[.string ⟨#[102, 117, 110, 99]⟩] w (fun e w' => e = .returned (.bool false) ∧ w = w') from by
    have h := ident_any ⟨#[102, 117, 110, 99]⟩ w (by decide)
    rw [show identB (⟨#[102, 117, 110, 99]⟩ : ByteArray) = false from by kernel_rfl] at h
    exact h)
  clear h
  go_enter Tryd.func12, Tryd.ntmps12
  go_wp2_with (go_at_call 13; refine hold ?_)
  refine Hold.mk ?_
  refine HT.out.mono ?_
  rintro e W1 ⟨⟨tv, rfl, hr⟩, hb⟩
  obtain ⟨g, cap, rfl, hg, hgs, hcl⟩ := tok_row hr (by simp)
  have HB := Lib.hid hb
  have ca : ∀ o, (W1.alloc o).cell? ⟨g, 7, none⟩ = some (.string ⟨#[58, 61]⟩) := fun o => cell_alloc (hcl 7 _ rfl)
  have cb : ∀ o, (W1.alloc o).cell? ⟨g, 12, none⟩ = some (.int .i64 6) := fun o => cell_alloc (hcl 12 _ rfl)
  have cc : ∀ o, (W1.alloc o).cell? ⟨g, 13, none⟩ = some (.int .i64 4) := fun o => cell_alloc (hcl 13 _ rfl)
  have cd : ∀ o, (W1.alloc o).cell? ⟨g, 14, none⟩ = some (.int .i64 4) := fun o => cell_alloc (hcl 14 _ rfl)
  have ce : ∀ o, (W1.alloc o).cell? ⟨g, 15, none⟩ = some (.string ⟨#[10]⟩) := fun o => cell_alloc (hcl 15 _ rfl)
  clear hr hb hg hgs hcl
  go_wp2_with (first | (go_at_call 16; refine (HWd.out _).mono ?_; rintro e W' ⟨rfl, rfl⟩) | (go_at_call 18; refine (HId.out _).mono ?_; rintro e W' ⟨rfl, rfl⟩))
  go_ret
  exact ⟨rfl, HB.out.trans (Below.mono ((Below.refl W1.heap.size W1).alloc (Nat.le_refl _) _) HB.out.size)⟩
set_option maxRecDepth 100000 in
theorem scanNames_any (s : ByteArray) {w : World} (hL : Lay w) : Calls Tryd.prog 4 #[.string s] w fun e w' => e = .returned (.bool true) ∧ Below w.heap.size w w' := by
  by_cases hb : (4000 : Int) < (s.size : Int)
  · clear hL
    go_enter Tryd.func4, Tryd.ntmps4
    go_wp2_with fail
    go_ret
    exact ⟨rfl, Below.refl _ _⟩
  · have hs : s.size ≤ maxLen := by unfold maxLen; omega
    obtain ⟨b1, Hb1⟩ : ∃ b, Hid (wordB s.toList = b) := ⟨_, Lib.hid rfl⟩
    obtain ⟨b2, Hb2⟩ : ∃ b, Hid (identB s = b) := ⟨_, Lib.hid rfl⟩
    have H1 := Lib.hid (word_any s w)
    have H2 := Lib.hid (rword_any s w)
    have H3 := Lib.hid (ident_any s w hs)
    have H4 := Lib.hid (rident_any s w hs)
    have HA := Lib.hid (aw_any hL)
    rw [Hb1.out] at H1 H2
    rw [Hb2.out] at H3 H4
    clear hL hs
    cases b1
    all_goals
      cases b2
      all_goals
        go_enter Tryd.func4, Tryd.ntmps4
        go_wp2_with (first | (go_at_call 16; refine H1.out.mono ?_; rintro e W' ⟨rfl, rfl⟩) | (go_at_call 17; refine H2.out.mono ?_; rintro e W' ⟨rfl, rfl⟩) | (go_at_call 18; refine H3.out.mono ?_; rintro e W' ⟨rfl, rfl⟩) | (go_at_call 19; refine H4.out.mono ?_; rintro e W' ⟨rfl, rfl⟩) | (go_at_call 12; refine hold ?_))
        refine Hold.mk ?_
        refine HA.out.mono ?_
        rintro e W1 ⟨rfl, hb2⟩
        have HB := Lib.hid hb2
        clear hb2
        go_wp2_with fail
        go_ret
        exact ⟨rfl, HB.out⟩
end Go.Proofs.YtdgjegkoncodaaaDoor
