/- scan's line. Condition: no more than a million tokens. -/
import Derived.Test.YtdgjegkoncodaaaDoorScBad
namespace Go.Proofs.YtdgjegkoncodaaaDoor
open Go.RowKit

theorem lineT_push (l : List Tok) (t : Tok) (b : Nat) : lineT (l ++ [t]) b = if endsB t.kind t.text then (l ++ [t]) ++ [⟨6, b, b, [10]⟩] else l ++ [t] := by
  unfold lineT
  rw [List.getLast?_append]
  simp
theorem toList_strB (l : List UInt8) : (strB l).toList = l := by rw [Lib.toList_data, strB_toList]
theorem tok_cell {w : World} {b n g cap : Nat} {l : List Tok} {t : Tok} {e : TypeId} (h : w.ownsRow b e 4 (.slice (some ⟨g, 0, none⟩) n cap) n (tokCells (l ++ [t]))) (j : Nat) (v : Value) (hj : (tokC t)[j]? = some v) : w.cell? ⟨g, l.length * 4 + j, none⟩ = some v := by
  have hl : j < (tokC t).length := (List.getElem?_eq_some_iff.1 hj).1
  have := h.cells (g := g) rfl (l.length * 4 + j) v (by rw [tokCells_push, List.getElem?_append_right (by rw [tokCells_len]; omega), tokCells_len]; simpa using hj)
  simpa [Addr.add_lit] using this
theorem list_last {α : Type} (l : List α) (h : l ≠ []) : ∃ l' t, l = l' ++ [t] := ⟨l.dropLast, l.getLast h, (List.dropLast_concat_getLast h).symm⟩
set_option maxRecDepth 100000 in
theorem line_any {w0 W : World} {p a : Nat} {src : ByteArray} {l : List Tok} {c : List (Nat × Nat)} (h : ScE w0 W p src a l c) (hn : l.length ≤ 1000000) (b : Nat) :
    Calls Tryd.prog 49 #[.pointer (some ⟨p, 0, none⟩), .int .i64 (b : Int)] W fun e W' => e = .returned (.tuple #[]) ∧ ScE w0 W' p src a (lineT l b) c := by
  obtain ⟨tv, rv, h⟩ := h
  by_cases hl : l = []
  · subst hl
    obtain ⟨ad, cap, rfl⟩ := h.tvForm
    have HT := Lib.hid h
    obtain ⟨_, _, c2, _⟩ := h.cells
    clear h
    go_enter Tryd.func49, Tryd.ntmps49
    go_wp2_with fail
    go_end0
    exact ⟨rfl, _, _, HT.out⟩
  · obtain ⟨l', t, rfl⟩ := list_last l hl
    obtain ⟨m, Hm⟩ : ∃ m, Hid (l'.length = m) := ⟨_, Lib.hid rfl⟩
    have hlen : (l' ++ [t]).length = m + 1 := by rw [List.length_append, Hm.out]; rfl
    have hm : m < 1000000 := by rw [hlen] at hn; omega
    obtain ⟨g, cap, hg, rfl⟩ : ∃ g cap, p + 1 ≤ g ∧ tv = .slice (some ⟨g, 0, none⟩) (m + 1) cap := by
      rcases h.toks.2 with ⟨_, e⟩ | ⟨g, cap, cur, e, hg, _⟩
      · rw [hlen] at e; omega
      · exact ⟨g, cap, hg, by rw [e, hlen]⟩
    have HT := Lib.hid h
    have HL := Lib.hid hlen
    obtain ⟨_, _, c2, _⟩ := h.cells
    have htk := h.toks
    rw [hlen] at htk
    have d0 := tok_cell (w := W) htk 0 _ rfl
    have d1 := tok_cell (w := W) htk 1 _ rfl
    have d2 := tok_cell (w := W) htk 2 _ rfl
    have d3 := tok_cell (w := W) htk 3 _ rfl
    rw [Hm.out] at d0 d1 d2 d3
    rw [Nat.add_zero] at d0
    obtain ⟨k, f, o, x⟩ := t
    simp only at d0 d1 d2 d3
    obtain ⟨s, Hs⟩ : ∃ s, Hid (strB x = s) := ⟨_, Lib.hid rfl⟩
    rw [Hs.out] at d3
    clear h hlen hn hl hg htk
    have hw : IntKind.i64.wrap (((m + 1 : Nat) : Int) - 1) = (m : Int) := by rw [IntKind.wrap_i64]; omega
    go_enter Tryd.func49, Tryd.ntmps49
    go_wp2_with (go_at_call 60; refine hold ?_)
    refine Hold.mk ?_
    obtain ⟨u, Hu⟩ : ∃ u, Hid (endsB k x = u) := ⟨_, Lib.hid rfl⟩
    have HE := Lib.hid (ends_any k f o s W)
    rw [show s.toList = x from by rw [← Hs.out, toList_strB], Hu.out] at HE
    refine HE.out.mono ?_
    rintro e W1 ⟨rfl, hb⟩
    have H1 := Lib.hid (HT.out.go hb)
    have HQ := Lib.hid (show lineT (l' ++ [⟨k, f, o, x⟩]) b = if u then (l' ++ [⟨k, f, o, x⟩]) ++ [⟨6, b, b, [10]⟩] else l' ++ [⟨k, f, o, x⟩] from by rw [lineT_push, ← Hu.out])
    clear hb d0 d1 d2 d3 c2 hw
    cases u with
    | false =>
      go_wp2_with fail
      go_end0
      exact ⟨rfl, _, _, by rw [HQ.out]; exact H1.out⟩
    | true =>
      obtain ⟨_, _, c2, _⟩ := H1.out.cells
      obtain ⟨j0, hj, hy0, hy1, hy2⟩ := info_parts Tryd.infoTok
      have HG := Lib.hid (H1.out.go ((Below.refl _ W1).alloc (Nat.le_refl _) (.cells #[.int .i64 6, .int .i64 (b : Int), .int .i64 (b : Int), .string ⟨#[10]⟩] 35)))
      have hrow := HG.out.toks
      have hp1 := HT.out.lt
      have hp2 := H1.out.lt
      rw [HL.out] at hrow
      go_wp2_with (at_builtin; refine hold ?_)
      refine Hold.mk ?_
      refine wpList_app _ rfl _ _ _ rfl (p + 1) 35 j0 _ 4 40 Tryd.underlying23 hj hy0 hy1 hy2 rfl (.slice (some ⟨g, 0, none⟩) (m + 1) cap) (m + 1) (tokCells (l' ++ [⟨k, f, o, x⟩])) rfl hrow ⟨W1.heap.size, 0, none⟩ 1 1 [.int .i64 6, .int .i64 (b : Int), .int .i64 (b : Int), .string ⟨#[10]⟩] rfl rfl (World.news_of_block (cs := #[.int .i64 6, .int .i64 (b : Int), .int .i64 (b : Int), .string ⟨#[10]⟩]) (t := 35) (fr := (0, 0)) (heap_alloc_new _ _)) ?c1 (by omega) (by unfold maxLen; omega) (by omega) (by simp; omega) ?_
      case c1 => intro u hu; simp at hu; rcases hu with h | h | h <;> (subst h; rfl)
      intro gg cap2 w2 hown2 hat
      have HA := Lib.hid (HG.out.app hat)
      have HP := Lib.hid (Sc.pushT (t := ⟨6, b, b, [10]⟩) HG.out hat (by rw [HL.out]; exact hown2))
      rw [HL.out] at HP
      have c2 : w2.cell? ⟨p, 2, none⟩ = some (.slice (some ⟨g, 0, none⟩) (m + 1) cap) := by have h := HA.out.2.1; simp only [World.cell?, h]; rfl
      have f2 : w2.frozen? ⟨p, 2, none⟩ = false := by have h := HA.out.2.1; simp only [World.frozen?, h]; simp
      clear hat hown2 hrow hp1 hp2
      go_wp2
      go_end0
      exact ⟨rfl, _, _, by rw [HQ.out]; exact HP.out⟩
end Go.Proofs.YtdgjegkoncodaaaDoor
