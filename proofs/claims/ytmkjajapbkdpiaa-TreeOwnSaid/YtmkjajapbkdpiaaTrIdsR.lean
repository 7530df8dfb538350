/- recastref4.Idents, and that both Idents tell the same. No condition. -/
import Derived.Test.YtmkjajapbkdpiaaTrSome
namespace Go.Proofs.Ytmkjajapbkdpiaa
open Go.RowKit

theorem kidsOf_fo (z : List Int) (M : List Nd) : kidsOf z (foOf M) M.length = M.filter fun n => z.contains n.k := by
  unfold kidsOf
  congr 1
  apply List.ext_getElem (by simp)
  intro i h1 h2
  simp only [List.getElem_map, List.getElem_range]
  exact foOf_get M i h2
theorem idents_eq (L : List Item) : kidsOf [40] (foOf (L.map (·.2.1))) L.length = nodesI L := by
  have h := kidsOf_fo [40] (L.map (·.2.1))
  rw [List.length_map] at h
  rw [h]
  unfold nodesI
  rw [List.filter_map]
  congr 1
  apply List.filter_congr
  intro x _
  simp only [Function.comp, isId, List.contains, List.elem]
  cases h : (x.2.1.k == 40)
  · have : x.2.1.k ≠ 40 := by simpa using h
    simp [this]
  · have : x.2.1.k = 40 := by simpa using h
    simp [this]

theorem ridents_any (nd : Nd) (v : Value) (L : List Item) (w : World) (hL : LstN w w.heap.size 0 nd v L) (hc : nd.c.cnt ≤ 1000000) (hlen : L.length ≤ 1000000) :
    Calls Try.prog 23 #[v] w fun e w' => ∃ a1 nn k1, e = .returned (.slice a1 nn k1) ∧ nn = (nodesI L).length ∧ KidsAt w' a1 0 (foOf (nodesI L)) ∧ Below w.heap.size w w' := by
  obtain ⟨a, cap, Lk, hv, -, -, -, -⟩ := id hL
  obtain ⟨k, f, t, s, c⟩ := nd
  unfold valOf at hv
  simp only at hv hc
  obtain ⟨len, Hl⟩ : ∃ len, Hid (c.len = len) := ⟨_, Lib.hid rfl⟩
  rw [Hl.out] at hv
  subst hv
  obtain ⟨w1, Hw1⟩ : ∃ w1, Hid (w1 = w.alloc (.cells #[.int .i64 k, .int .i64 f, .int .i64 t, .string s, .slice a len cap] 24)) := ⟨_, Lib.hid rfl⟩
  have hB : Below w.heap.size w w1 := by
    rw [Hw1.out]
    exact (Below.refl _ w).alloc (Nat.le_refl _) _
  have HA := Lib.hid (rall_any ⟨k, f, t, s, c⟩ _ L w1 (hL.up hB) hc hlen)
  have HLL := Lib.hid (And.intro hB hlen)
  clear hL hB
  go_enter Try.func23, Try.ntmps23
  go_wp2_with (go_at_call 31; refine hold ?_)
  rw [← Hw1.out]
  refine Hold.mk ?_
  refine HA.out.mono ?_
  rintro e w2 ⟨a1, n, c1, rfl, hn, hr, hb⟩
  subst hn
  have hk := row_kids (Q := (· < w2.heap.size)) (fun k hk => Nat.lt_of_lt_of_le hk hb.size) (fun g e => (hr.row.lt g (by rw [List.length_map] at e; exact e)).2) (by have := hr.row; rw [List.length_map] at this ⊢; exact this) hr.low
  rw [List.map_map] at hk
  have HS := Lib.hid (some_any (foOf (L.map (·.2.1))) a1 L.length c1 40 w2 (by rw [foOf_len, List.length_map]) (by omega) hk)
  rw [idents_eq] at HS
  have hHb := Lib.hid hb
  clear hr hb hk
  go_wp2_with (go_at_call 39; refine HS.out.mono ?_; rintro e w3 ⟨a3, nn, k3, rfl, h1, h2, h3⟩; have HZ := Lib.hid (And.intro h1 (And.intro h2 h3)); clear h1 h2 h3)
  go_ret
  obtain ⟨h1, h2, h3⟩ := HZ.out
  exact ⟨a3, nn, k3, rfl, h1, h2, HLL.out.1.trans (Below.mono (hHb.out.trans (Below.mono h3 hHb.out.size)) HLL.out.1.size)⟩
end Go.Proofs.Ytmkjajapbkdpiaa
