/- The document's accesses. No condition. -/
import Derived.Test.YtkcaeeighjblkaaRefTurn
import Derived.Test.YtkcaeeighjblkaaRefBase
namespace Go.Proofs.Ytkcaeeighjblkaa
open Go.RowKit

/-- From (w, st) on: the order as it is now. -/
structure RAt (st : RSt) (L : Nat) (w : World) (st' : RSt) (K' : List (List Int)) (A' : Acs) (N : Nat) (wr : World) : Prop where
  po : st'.po = st.po
  ord : ROrd wr st' K' A' N
  len : K'.length = L
  fr : Fr (st.fp L) w wr
  fp : ∀ k, st'.fp L k → st.fp L k ∨ w.heap.size ≤ k

section
variable {st st' st2 : RSt} {L N M : Nat} {w wr w2 : World} {K K' K2 : List (List Int)} {A A' A2 : Acs}
theorem RAt.refl (h : ROrd w st K A N) : RAt st K.length w st K A N w := ⟨rfl, h, rfl, Fr.refl _ _, fun _ h => .inl h⟩
theorem RAt.step (h : RAt st L w st' K' A' N wr) (hp : st2.po = st'.po) (ho : ROrd w2 st2 K2 A2 M) (hl : K2.length = L) (hf : Fr (st'.fp L) wr w2) (hfp : ∀ k, st2.fp L k → st'.fp L k ∨ wr.heap.size ≤ k) : RAt st L w st2 K2 A2 M w2 where
  po := hp.trans h.po
  ord := ho
  len := hl
  fr := h.fr.trans hf (fun _ h => h) h.fp
  fp := fun k hk => by
    rcases hfp k hk with e | e
    · exact h.fp k e
    · have := h.fr.size; right; omega
theorem RAt.below (h : RAt st L w st' K' A' N wr) (hb : Below wr.heap.size wr w2) : RAt st L w st' K' A' N w2 :=
  h.step rfl (h.ord.of_below hb) h.len (Fr.of_below hb) (fun _ h => .inl h)
theorem RAt.alloc (h : RAt st L w st' K' A' N wr) (o : Obj) : RAt st L w st' K' A' N (wr.alloc o) := h.below ((Below.refl _ _).alloc (Nat.le_refl _) o)
theorem RAt.drew (h : RAt st L w st' K' A' N wr) : RAt st L w st' K' A' N wr.drew := h.below (Below.refl _ _).drew
theorem RAt.mono (h : RAt st L w st' K' A' N wr) (hm : N ≤ M) (hs : M ≤ 100000) : RAt st L w st' K' A' M wr := ⟨h.po, h.ord.mono hm hs, h.len, h.fr, h.fp⟩
theorem RAt.c0 (h : RAt st L w st' K' A' N wr) : wr.cell? ⟨st.po, 0, none⟩ = some (.slice (some ⟨st'.pk, 0, none⟩) L st'.cap) := by
  have := h.ord.c0; rw [h.po, h.len] at this; exact this
theorem RAt.c1 (h : RAt st L w st' K' A' N wr) : wr.cell? ⟨st.po, 1, none⟩ = some st'.av := by
  have := h.ord.c1; rw [h.po] at this; exact this

/-- A store of a row. -/
theorem RAt.store {i : Nat} {v2 : Value} {r2 : List Int} (h : RAt st L w st' K' A' N wr) (hi : i < L)
    (hg : wr.grownBy w2 (st'.rows.getD i undef).ownBlock) (hv : w2.ownsRow 0 3 1 v2 r2.length (ints r2))
    (hb : ∀ k, v2.ownBlock = some k → (st'.rows.getD i undef).ownBlock = some k ∨ wr.heap.size ≤ k)
    (hl : r2.length ≤ N + 2) (hp : 0 < r2.length) (hr : ∀ j, 0 ≤ r2.getD j 0 ∧ r2.getD j 0 ≤ N) :
    RAt st L w (st'.withRows (st'.rows.set i v2)) (K'.set i r2) A' N (w2.setCell ⟨st'.pk, i, none⟩ v2) := by
  have hlen := h.len
  obtain ⟨h1, h2, h3⟩ := h.ord.store (by omega) (Nat.le_refl N) h.ord.small hg hv hb hl hp hr
  rw [hlen] at h2 h3
  exact h.step rfl h1 (by simp [hlen]) h2 h3
end

/-- Between two rounds of a loop that makes a row long enough. -/
def RPadRel (st : RSt) (K : List (List Int)) (A : Acs) (N who lim : Nat) (w : World) (g : Nat) (wr : World) : Prop :=
  ∃ (st' : RSt) (m : Nat), RAt st K.length w st' (K.set who (K.getD who [] ++ List.replicate m 0)) A N wr ∧
    (K.getD who []).length + m ≤ max (K.getD who []).length (lim + 1) ∧ lim + 1 - ((K.getD who []).length + m) ≤ g

theorem set_self {α : Type} (l : List α) (d : α) (i : Nat) (h : i < l.length) : l.set i (l.getD i d) = l := by
  apply List.ext_getElem?
  intro k
  by_cases e : i = k
  · subst e; simp [List.getD, h]
  · simp [List.getElem?_set_ne e]

theorem RPadRel.start {st : RSt} {K : List (List Int)} {A : Acs} {N who lim : Nat} {w : World} (h : ROrd w st K A N) (hw : who < K.length) : RPadRel st K A N who lim w (lim + 1) w := by
  refine ⟨st, 0, ?_, by omega, by omega⟩
  rw [List.replicate_zero, List.append_nil, set_self _ _ _ hw]
  exact RAt.refl h

/-- What is known between two rounds, the row under a name. -/
structure RPad (st : RSt) (K : List (List Int)) (A : Acs) (N who lim : Nat) (w : World) (st' : RSt) (K1 : List (List Int)) (m gk c : Nat) (a : Option Addr) (r : List Int) (wr : World) : Prop where
  at_ : RAt st K.length w st' K1 A N wr
  form : st'.rows.getD who undef = .slice a r.length c
  row : K1.getD who [] = r
  m1 : (K.getD who []).length + m ≤ max (K.getD who []).length (lim + 1)
  m2 : lim + 1 - ((K.getD who []).length + m) ≤ gk
  len : r.length = (K.getD who []).length + m
  Hr : K.getD who [] ++ List.replicate m 0 = r
  HK : K.set who r = K1

theorem RPadRel.open {st : RSt} {K : List (List Int)} {A : Acs} {N who lim gk : Nat} {w wr : World} (h : RPadRel st K A N who lim w gk wr) (hw : who < K.length) :
    ∃ st' K1 m c a r, RPad st K A N who lim w st' K1 m gk c a r wr ∧ wr.cell? ⟨st'.pk, who, none⟩ = some (.slice a r.length c) ∧ wr.ownsRow 0 3 1 (.slice a r.length c) r.length (ints r) ∧ r.length ≤ N + 2 ∧ 0 < r.length := by
  obtain ⟨st', m, hR, hm1, hm2⟩ := h
  have er : (K.set who (K.getD who [] ++ List.replicate m 0)).getD who [] = K.getD who [] ++ List.replicate m 0 := getD_set_eq hw
  have hw' : who < (K.set who (K.getD who [] ++ List.replicate m 0)).length := by simpa using hw
  have hck := hR.ord.ck hw'
  have hrow := hR.ord.rs.row who hw'
  have hrl := hR.ord.rlen who
  have hrp := hR.ord.rpos who hw'
  obtain ⟨a, c, hrv⟩ := row_form hrow
  rw [er] at hrow hrv hrl hrp
  rw [hrv] at hck hrow
  exact ⟨st', _, m, c, a, _, ⟨hR, hrv, er, hm1, hm2, by simp, rfl, rfl⟩, hck, hrow, hrl, hrp⟩

theorem rpad_next {st st' : RSt} {K K1 : List (List Int)} {A : Acs} {N who lim m gk gg cap c : Nat} {a : Option Addr} {r : List Int} {w wr w2 : World} {o : Obj} (hw : who < K.length) (hlim : lim ≤ N + 1)
    (HX : RPad st K A N who lim w st' K1 m gk c a r wr) (hlt : r.length ≤ lim)
    (hown2 : w2.ownsRow 0 3 1 (.slice (some ⟨gg, 0, none⟩) (r.length + 1) cap) (r.length + 1) (ints r ++ [.int .i64 0])) (hat : AppAt (wr.alloc o).drew (.slice a r.length c) gg w2) :
    (w2.cell? ⟨st.po, 0, none⟩ = some (.slice (some ⟨st'.pk, 0, none⟩) K.length st'.cap) ∧ w2.cell? ⟨st'.pk, who, none⟩ = some (.slice a r.length c) ∧ w2.frozen? ⟨st'.pk, who, none⟩ = false) ∧
    0 < gk ∧ RPadRel st K A N who lim w (gk - 1) (w2.setCell ⟨st'.pk, who, none⟩ (.slice (some ⟨gg, 0, none⟩) (r.length + 1) cap)) := by
  have hm1 := HX.m1
  have hm2 := HX.m2
  have hrl := HX.len
  have hX := (HX.at_.alloc o).drew
  have hl1 := hX.len
  have hg := hat.grown
  rw [← HX.form] at hg
  obtain ⟨b1, b2, b3⟩ := hX.ord.beside (i := who) (by omega) hg
  rw [hl1, hX.po] at b1
  have b2' := b2 who (by omega)
  rw [HX.form] at b2'
  refine ⟨⟨b1, b2', b3 who⟩, by omega, ?_⟩
  have hr1 := hX.ord.rval who
  rw [HX.row] at hr1
  have hown3 : w2.ownsRow 0 3 1 (.slice (some ⟨gg, 0, none⟩) (r.length + 1) cap) (r ++ [0]).length (ints (r ++ [0])) := by simpa using hown2
  have hst := hX.store (i := who) hw hg hown3 (fun k e => by
    have e : gg = k := by simpa [Value.ownBlock] using e
    rw [← e, HX.form]
    rcases hat.at with e | e
    · exact .inl e
    · exact .inr (by omega)) (by simp; omega) (by simp) (fun j => by
      have e : (r ++ [0]).getD j 0 = r.getD j 0 := getD_append_rep r 1 j
      rw [e]; exact hr1 j)
  have e1 : K.getD who [] ++ List.replicate (m + 1) 0 = r ++ [0] := by
    rw [← HX.Hr, List.replicate_succ', List.append_assoc]
  have e2 : K1.set who (r ++ [0]) = K.set who (K.getD who [] ++ List.replicate (m + 1) 0) := by rw [← HX.HK, List.set_set, e1]
  rw [e2] at hst
  exact ⟨_, m + 1, hst, by omega, by omega⟩
end Go.Proofs.Ytkcaeeighjblkaa
