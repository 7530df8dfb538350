/- The document's access: the count and the list, behind the walk. No condition. -/
import Derived.Test.YtkcaeeighjblkaaRegD
namespace Go.Proofs.Ytkcaeeighjblkaa
open Go.RowKit

theorem rbump_next {st st' : RSt} {K K1 : List (List Int)} {A : Acs} {N who m gk c ga : Nat} {r : List Int} {w wr wz : World} (hw : who < K.length) (hN : N < 100000)
    (HX : RPad st K A N who who w st' K1 m gk c (some ⟨ga, 0, none⟩) r wr) (hz : RAt st K.length w st' K1 A N wz) (hlt : who < r.length) :
    ∃ x : Int, 0 ≤ x ∧ x ≤ 100000 ∧ x ≤ N ∧ (bump (K.getD who []) who).getD who 0 = x + 1 ∧ (bump (K.getD who []) who).length = r.length ∧ wz.cell? ⟨ga, who, none⟩ = some (.int .i64 x) ∧ wz.frozen? ⟨ga, who, none⟩ = false ∧
      RAt st K.length w st' (K.set who (bump (K.getD who []) who)) A (N + 1) (wz.setCell ⟨ga, who, none⟩ (.int .i64 (x + 1))) := by
  have hl1 := hz.len
  have hw' : who < K1.length := by omega
  have hrow := hz.ord.rs.row who hw'
  rw [HX.row, HX.form] at hrow
  have hv := hz.ord.rval who who
  rw [HX.row] at hv
  have hsm := hz.ord.small
  have hm1 := HX.m1
  have hm2 := HX.m2
  have hrl := HX.len
  have hpad : r = padTo (K.getD who []) (who + 1) := by
    rw [← HX.Hr]; unfold padTo
    congr 2; omega
  have hb : bump (K.getD who []) who = r.set who (r.getD who 0 + 1) := by unfold bump; rw [← hpad]
  refine ⟨r.getD who 0, hv.1, by omega, hv.2, ?_, by rw [hb]; simp, ints_cell hrow who hlt, ?_, ?_⟩
  · rw [hb]; exact getD_set_eq hlt
  · obtain ⟨cur, e⟩ := row_at hrow (k := ga) rfl
    simp [World.frozen?, e]
  · obtain ⟨h1, h2⟩ := hz.ord.poke (x := r.getD who 0 + 1) (g := ga) (M := N + 1) hw' (by omega) (by omega) (by rw [HX.form, HX.row]) (by rw [HX.row]; exact hlt) (by omega)
    have e2 : K1.set who ((K1.getD who []).set who (r.getD who 0 + 1)) = K.set who (bump (K.getD who []) who) := by
      rw [HX.row, ← HX.HK, List.set_set, hb]
    rw [e2] at h1
    rw [hl1] at h2
    exact hz.step rfl h1 (by simp) h2 (fun k hk => .inl hk)

theorem racc_push {st st' : RSt} {K2 : List (List Int)} {A : Acs} {N L gg cap : Nat} {a : Nat × Int × Bool × Int} {o : Obj} {w wz w2 : World} (h : RAt st L w st' K2 A N wz) (hN : N < 100000)
    (hown2 : w2.ownsRow 0 70 4 (.slice (some ⟨gg, 0, none⟩) (A.length + 1) cap) (A.length + 1) (accs A ++ acOf a)) (hat : AppAt (wz.alloc o) st'.av gg w2)
    (ha : 0 ≤ a.2.1 ∧ a.2.1 ≤ N) :
    (w2.cell? ⟨st.po, 1, none⟩ = some st'.av ∧ w2.frozen? ⟨st.po, 1, none⟩ = false) ∧
    ∃ st2, RAt st L w st2 K2 (A ++ [a]) (N + 1) (w2.setCell ⟨st.po, 1, none⟩ (.slice (some ⟨gg, 0, none⟩) (A.length + 1) cap)) := by
  have hl := h.len
  have hX := h.alloc o
  have hne : some st'.po ≠ st'.av.ownBlock := fun e => h.ord.av_ne_po e.symm
  have hc := hat.grown.cell hX.ord.c1 hne
  have hf := (hat.grown.frozen_far ⟨st'.po, 1, none⟩ (hX.ord.lt _ (.inl rfl)) hne).trans (hX.ord.f0 1)
  obtain ⟨h1, h2, h3⟩ := h.ord.pushAcc hN hown2 hat ha
  rw [h.po] at hc hf
  rw [hl] at h2 h3
  have := h.step (st2 := ⟨st'.po, st'.pk, st'.cap, st'.rows, .slice (some ⟨gg, 0, none⟩) (A.length + 1) cap⟩) rfl h1 hl h2 h3
  rw [h.po] at this
  exact ⟨⟨hc, hf⟩, _, this⟩
end Go.Proofs.Ytkcaeeighjblkaa
