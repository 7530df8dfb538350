/- The document's Receive: one round, behind the walk. No condition. -/
import Derived.Test.YtkcaeeighjblkaaRefAccess
namespace Go.Proofs.Ytkcaeeighjblkaa
open Go.RowKit

theorem RAt.trans {st stI st' : RSt} {L N N' : Nat} {w wr wz : World} {KI K' : List (List Int)} {AI A' : Acs} (h : RAt st L w stI KI AI N wr) (h2 : RAt stI L wr st' K' A' N' wz) : RAt st L w st' K' A' N' wz :=
  h.step h2.po h2.ord h2.len h2.fr h2.fp

theorem maxL_pad_step {r c p : List Int} {i m : Nat} (hi : i < c.length) (hp : maxL r (c.take i) ++ List.replicate m 0 = p) (hlen : i < p.length) (hm2 : (maxL r (c.take i)).length + m ≤ max (maxL r (c.take i)).length (i + 1)) (hr : ∀ j, 0 ≤ r.getD j 0) :
    maxL r (c.take (i + 1)) = p.set i (max (p.getD i 0) (c.getD i 0)) := by
  have hpl : p.length = (maxL r (c.take i)).length + m := by rw [← hp]; simp
  have hpg : ∀ j, p.getD j 0 = (maxL r (c.take i)).getD j 0 := fun j => by rw [← hp]; exact getD_append_rep _ _ _
  have hl0 : (maxL r (c.take i)).length = max r.length i := by rw [maxL_len, List.length_take]; omega
  apply list_ext_getD
  · rw [maxL_len, List.length_set, List.length_take]; omega
  · intro j _
    rw [maxL_getD, getD_set_cases _ _ _ _ _ hlen, hpg, hpg, maxL_getD, maxL_getD, take_getD, take_getD, take_getD]
    have := hr i
    have := hr j
    by_cases e : i = j
    · subst e
      rw [if_pos (by omega), if_pos rfl, if_neg (by omega)]; omega
    · rw [if_neg e]
      by_cases h1 : j < i
      · rw [if_pos (by omega), if_pos h1]
      · rw [if_neg (by omega), if_neg h1]

def RJoinRel (st : RSt) (K : List (List Int)) (A : Acs) (N who : Nat) (c : List Int) (w : World) (i : Nat) (wr : World) : Prop :=
  ∃ st', RAt st K.length w st' (K.set who (maxL (K.getD who []) (c.take i))) A N wr

theorem RJoinRel.start {st : RSt} {K : List (List Int)} {A : Acs} {N who : Nat} {c : List Int} {w : World} (h : ROrd w st K A N) (hw : who < K.length) : RJoinRel st K A N who c w 0 w := by
  refine ⟨st, ?_⟩
  rw [List.take_zero, maxL_take_nil _ (fun j => (h.rval who j).1), set_self _ _ _ hw]
  exact RAt.refl h

theorem rjoin_next {st stI st' : RSt} {K KI K1 : List (List Int)} {A : Acs} {N who i m gk cc ga : Nat} {c r : List Int} {v : Int} {w wr wz : World} (hw : who < K.length)
    (h : ROrd w st K A N) (HKI : K.set who (maxL (K.getD who []) (c.take i)) = KI) (hI : RAt st K.length w stI KI A N wr)
    (HX : RPad stI KI A N who i wr st' K1 m gk cc (some ⟨ga, 0, none⟩) r wz) (hlt : i < r.length) (hi : i < c.length) (hv : c.getD i 0 = v) (hvb : 0 ≤ v ∧ v ≤ N) :
    ∃ x, wz.cell? ⟨ga, i, none⟩ = some (.int .i64 x) ∧ wz.frozen? ⟨ga, i, none⟩ = false ∧
      ∀ wy, Below wz.heap.size wz wy → (v ≤ x → RJoinRel st K A N who c w (i + 1) wy) ∧ (x < v → RJoinRel st K A N who c w (i + 1) (wy.setCell ⟨ga, i, none⟩ (.int .i64 v))) := by
  have hKl : KI.length = K.length := by rw [← HKI]; simp
  have hz := HX.at_
  rw [hKl] at hz
  have hl1 := hz.len
  have hw' : who < K1.length := by omega
  have hrow := hz.ord.rs.row who hw'
  rw [HX.row, HX.form] at hrow
  have hKIw : KI.getD who [] = maxL (K.getD who []) (c.take i) := by rw [← HKI]; exact getD_set_eq hw
  have hHr := HX.Hr
  have hm1 := HX.m1
  rw [hKIw] at hHr hm1
  have hst := maxL_pad_step hi hHr hlt hm1 (fun j => (h.rval who j).1)
  rw [hv] at hst
  have e1 : K1 = K.set who r := by rw [← HX.HK, ← HKI, List.set_set]
  refine ⟨r.getD i 0, ints_cell hrow i hlt, ?_, fun wy hy => ⟨fun hle => ?_, fun hgt => ?_⟩⟩
  · obtain ⟨cur, e⟩ := row_at hrow (k := ga) rfl
    simp [World.frozen?, e]
  · refine ⟨st', ?_⟩
    have e2 : maxL (K.getD who []) (c.take (i + 1)) = r := by
      rw [hst, show max (r.getD i 0) v = r.getD i 0 by omega]
      exact set_self r 0 i hlt
    rw [e2, ← e1]
    exact hI.trans (hz.below hy)
  · refine ⟨st', ?_⟩
    have hzy := hz.below hy
    obtain ⟨h1, h2⟩ := hzy.ord.poke (x := v) (g := ga) (j := i) (M := N) hw' (Nat.le_refl _) hzy.ord.small (by rw [HX.form, HX.row]) (by rw [HX.row]; exact hlt) hvb
    rw [HX.row, e1, List.set_set] at h1
    rw [hl1] at h2
    rw [hst, show max (r.getD i 0) v = v by omega]
    exact hI.trans (hzy.step rfl h1 (by simp) h2 (fun k hk => .inl hk))
end Go.Proofs.Ytkcaeeighjblkaa
