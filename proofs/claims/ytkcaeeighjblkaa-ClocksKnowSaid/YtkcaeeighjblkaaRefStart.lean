/- The document's Start and Send. No condition. -/
import Derived.Test.YtkcaeeighjblkaaRefAcc
namespace Go.Proofs.Ytkcaeeighjblkaa
open Go.RowKit

/-- The cells of a row of ints, for an append of it. -/
theorem ints_news {w : World} {base : Nat} {e : TypeId} {g n cap : Nat} {xs : List Int} (h : w.ownsRow base e 1 (.slice (some ⟨g, 0, none⟩) n cap) n (ints xs)) : ∀ j u, (ints xs)[j]? = some u → w.cell? ((⟨g, 0, none⟩ : Addr).add j) = some u := h.cells (g := g) rfl
theorem ints_one (xs : List Int) : ∀ u ∈ ints xs, u.oneCell' = true := by
  intro u hu
  simp only [ints, List.mem_map] at hu
  obtain ⟨z, _, rfl⟩ := hu
  rfl
theorem AppAt.below {w w' : World} {g : Nat} (h : AppAt w (.slice none 0 0) g w') : Below w.heap.size w w' := by
  rcases h with ⟨h1, _⟩ | ⟨_, h2⟩
  · cases h1
  · exact ⟨h2.os, h2.tape, h2.output, h2.size, fun k hk => h2.block k hk (by simp)⟩

theorem rstart_bad (po : Nat) (st : RSt) (K : List (List Int)) (A : Acs) (N : Nat) (b : Int) (w : World) (hpo : st.po = po) (h : ROrd w st K A N) (hb : b < 0 ∨ (K.length : Int) ≤ b) :
    Calls Try.prog 32 #[.pointer (some ⟨po, 0, none⟩), .int .i64 b] w fun e w' => e = .returned (.int .i64 (-1)) ∧ w = w' := by
  have hk := h.klen
  have hs := h.small
  have h0 := h.c0
  rw [hpo] at h0
  have hd : (decide (0 ≤ b) && decide (b < (K.length : Int))) = false := by grind
  clear h hb hpo
  go_enter Try.func32, Try.ntmps32
  go_wp2_with (go_at_call 45; refine (ris_any _ _ _ _ _ _ h0 (by omega)).mono ?_; rintro e w' ⟨rfl, rfl⟩)
  go_ret
  exact ⟨rfl, rfl⟩

def RSendPost (K : List (List Int)) (who : Nat) (w : World) (e : Ending) (w' : World) : Prop :=
  ∃ g cap, e = .returned (.slice (some ⟨g, 0, none⟩) (K.getD who []).length cap) ∧ w'.ownsRow w.heap.size 3 1 (.slice (some ⟨g, 0, none⟩) (K.getD who []).length cap) (K.getD who []).length (ints (K.getD who [])) ∧ Below w.heap.size w w'

theorem rsend_bad (po : Nat) (st : RSt) (K : List (List Int)) (A : Acs) (N : Nat) (who : Int) (w : World) (hpo : st.po = po) (h : ROrd w st K A N) (hb : who < 0 ∨ (K.length : Int) ≤ who) :
    Calls Try.prog 35 #[.pointer (some ⟨po, 0, none⟩), .int .i64 who] w fun e w' => e = .returned (.slice none 0 0) ∧ w = w' := by
  have hk := h.klen
  have hs := h.small
  have h0 := h.c0
  rw [hpo] at h0
  have hd : (decide (0 ≤ who) && decide (who < (K.length : Int))) = false := by grind
  clear h hb hpo
  go_enter Try.func35, Try.ntmps35
  go_wp2_with (go_at_call 45; refine (ris_any _ _ _ _ _ _ h0 (by omega)).mono ?_; rintro e w' ⟨rfl, rfl⟩)
  go_ret
  exact ⟨rfl, rfl⟩

set_option maxHeartbeats 800000 in
theorem rsend_any (po : Nat) (st : RSt) (K : List (List Int)) (A : Acs) (N who : Nat) (w : World) (hpo : st.po = po) (h : ROrd w st K A N) (hw : who < K.length) :
    Calls Try.prog 35 #[.pointer (some ⟨po, 0, none⟩), .int .i64 who] w (RSendPost K who w) := by
  have hk := h.klen
  have hs := h.small
  have h0 := h.c0
  rw [hpo] at h0
  have hck := h.ck hw
  have hrow := h.rs.row who hw
  have hrl := h.rlen who
  have hrp := h.rpos who hw
  have hd : (decide ((0 : Int) ≤ who) && decide ((who : Int) < (K.length : Int))) = true := by simp; omega
  obtain ⟨i0, hi, hz0, hz1, hz2⟩ := info_parts Try.info3
  obtain ⟨r, Hr⟩ : ∃ r, Hid (K.getD who [] = r) := ⟨_, Lib.hid rfl⟩
  obtain ⟨rv, Hrv⟩ : ∃ rv, Hid (st.rows.getD who undef = rv) := ⟨_, Lib.hid rfl⟩
  rw [Hr.out] at hrow hrl hrp
  rw [Hrv.out] at hrow hck
  obtain ⟨gr, cr, e, _, _⟩ := hrow.form hrp
  subst e
  clear h hpo
  go_enter Try.func35, Try.ntmps35
  go_wp2_with first
    | (go_at_call 45; refine (ris_any _ _ _ _ _ _ h0 (by omega)).mono ?_; rintro e w' ⟨rfl, rfl⟩)
    | (refine wpList_app _ rfl _ _ _ rfl w.heap.size 3 i0 _ 1 8 Try.underlying46 hi hz0 hz1 hz2 rfl (.slice none 0 0) 0 [] rfl (World.ownsRow_nil _ _ _ _) ⟨gr, 0, none⟩ r.length cr (ints r) rfl (by simp) (ints_news hrow) (ints_one r) hrp (by unfold maxLen; omega) (by omega) (Nat.le_refl _) ?_; intro gg cap w2 hown2 hat)
  have hown3 : w2.ownsRow w.heap.size 3 1 (.slice (some ⟨gg, 0, none⟩) r.length cap) r.length (ints r) := by simpa using hown2
  go_ret
  exact ⟨gg, cap, by rw [Hr.out]; rfl, by rw [Hr.out]; exact hown3, hat.below⟩

def RStartPost (st : RSt) (K : List (List Int)) (A : Acs) (N b : Nat) (w : World) (e : Ending) (w' : World) : Prop :=
  ∃ st' : RSt, e = .returned (.int .i64 K.length) ∧ st'.po = st.po ∧ ROrd w' st' (K ++ [padTo (K.getD b []) (K.length + 1)]) A (N + 1) ∧ Fr (st.fp K.length) w w' ∧ ∀ k, st'.fp (K.length + 1) k → st.fp K.length k ∨ w.heap.size ≤ k

/-- Between two rounds of Start's loop. -/
def RStRel (w : World) (r : List Int) (L g : Nat) (v : Value) (wr : World) : Prop :=
  ∃ m, wr.ownsRow w.heap.size 3 1 v (r ++ List.replicate m 0).length (ints (r ++ List.replicate m 0)) ∧ Below w.heap.size w wr ∧ r.length + m ≤ max r.length (L + 1) ∧ L + 1 - (r.length + m) ≤ g

theorem RStRel.next {w wr w2 : World} {r r1 : List Int} {L gk m gg cap : Nat} {v : Value} {o : Obj} (hbel : Below w.heap.size w wr) (hm1 : r.length + m ≤ max r.length (L + 1)) (hm2 : L + 1 - (r.length + m) ≤ gk) (Hr1 : r ++ List.replicate m 0 = r1) (hlt : r1.length ≤ L)
    (hvb : ∀ k, v.ownBlock = some k → w.heap.size ≤ k)
    (hown2 : w2.ownsRow w.heap.size 3 1 (.slice (some ⟨gg, 0, none⟩) (r1.length + 1) cap) (r1.length + 1) (ints r1 ++ [.int .i64 0])) (hat : AppAt (wr.alloc o) v gg w2) :
    0 < gk ∧ RStRel w r L (gk - 1) (.slice (some ⟨gg, 0, none⟩) (r1.length + 1) cap) w2 := by
  have hl : r1.length = r.length + m := by rw [← Hr1]; simp
  refine ⟨by omega, m + 1, ?_, ?_, by omega, by omega⟩
  · have e1 : r ++ List.replicate (m + 1) 0 = r1 ++ [0] := by rw [← Hr1, List.replicate_succ', List.append_assoc]
    rw [e1]
    simpa using hown2
  · have hX : Below w.heap.size w (wr.alloc o) := hbel.alloc hbel.size _
    have hg := hat.grown
    exact hX.trans ⟨hg.os, hg.tape, hg.output, hg.size, fun k hk => hg.block k (Nat.lt_of_lt_of_le hk hX.size) (fun e => by have := hvb k e.symm; omega)⟩

set_option maxHeartbeats 1600000 in
theorem rstart_any (po : Nat) (st : RSt) (K : List (List Int)) (A : Acs) (N b : Nat) (w : World) (hpo : st.po = po) (h : ROrd w st K A N) (hb : b < K.length) (hN : N < 100000) :
    Calls Try.prog 32 #[.pointer (some ⟨po, 0, none⟩), .int .i64 b] w (RStartPost st K A N b w) := by
  have hk := h.klen
  have hs := h.small
  have h0 := h.c0
  rw [hpo] at h0
  have hck := h.ck hb
  have hrow := h.rs.row b hb
  have hrl := h.rlen b
  have hrp := h.rpos b hb
  have hrv := h.rval b
  have hd : (decide ((0 : Int) ≤ b) && decide ((b : Int) < (K.length : Int))) = true := by simp; omega
  obtain ⟨i0, hi, hz0, hz1, hz2⟩ := info_parts Try.info3
  obtain ⟨j0, hj, hy0, hy1, hy2⟩ := info_parts Try.info46
  obtain ⟨r, Hr⟩ : ∃ r, Hid (K.getD b [] = r) := ⟨_, Lib.hid rfl⟩
  obtain ⟨rv, Hrv⟩ : ∃ rv, Hid (st.rows.getD b undef = rv) := ⟨_, Lib.hid rfl⟩
  rw [Hr.out] at hrow hrl hrp hrv
  rw [Hrv.out] at hrow hck
  obtain ⟨gr, cr, e, _, _⟩ := hrow.form hrp
  subst e
  have HO := Lib.hid h
  have HV := Lib.hid hrv
  have HP := Lib.hid hpo
  clear h hpo hrv
  go_enter Try.func32, Try.ntmps32
  go_wp2_with first
    | (go_at_call 45; refine (ris_any _ _ _ _ _ _ h0 (by omega)).mono ?_; rintro e w' ⟨rfl, rfl⟩)
    | (refine wpList_app _ rfl _ _ _ rfl w.heap.size 3 i0 _ 1 8 Try.underlying46 hi hz0 hz1 hz2 rfl (.slice none 0 0) 0 [] rfl (World.ownsRow_nil _ _ _ _) ⟨gr, 0, none⟩ r.length cr (ints r) rfl (by simp) (ints_news hrow) (ints_one r) hrp (by unfold maxLen; omega) (by omega) (Nat.le_refl _) ?_; intro gg cap w2 hown2 hat)
  have Hst := Lib.hid (show RStRel w r K.length (K.length + 1) (.slice (some ⟨gg, 0, none⟩) r.length cap) w2 from ⟨0, by simpa using hown2, hat.below, by omega, by omega⟩)
  clear hown2 hat hrow hck
  go_loopg [5] (K.length + 1) (fun g v5 wr => RStRel w r K.length g v5 wr)
  case atStart => exact Hst.out
  case round =>
    clear Hst
    obtain ⟨m, hown, hbel, hm1, hm2⟩ := hrel
    obtain ⟨r1, Hr1⟩ : ∃ r1, Hid (r ++ List.replicate m 0 = r1) := ⟨_, Lib.hid rfl⟩
    rw [Hr1.out] at hown
    have hl1 : r1.length ≤ r.length + m ∧ r.length + m ≤ r1.length := by rw [← Hr1.out]; simp
    obtain ⟨hl1, hl2⟩ := hl1
    obtain ⟨a, c, e⟩ := row_form hown
    cases e
    have h0' := cell_below hbel rfl h0
    have hsz := hbel.size
    by_cases hlt : r1.length ≤ K.length
    · go_wp2_with (refine wpList_app _ rfl _ _ _ rfl w.heap.size 3 i0 _ 1 8 Try.underlying46 hi hz0 hz1 hz2 rfl (.slice a r1.length c) r1.length (ints r1) rfl (hown.alloc _) ⟨wr.heap.size, 0, none⟩ 1 1 [.int .i64 0] rfl rfl (World.news_of_block (cs := #[.int .i64 0]) (t := 3) (fr := (0, 0)) (heap_alloc_new wr _)) ?c1 (by omega) (by unfold maxLen; omega) (by omega) (by simp; omega) ?_)
      case c1 => intro u hu; simp at hu; subst hu; rfl
      intro gg2 cap2 w3 hown3 hat3
      have hn := RStRel.next hbel hm1 hm2 Hr1.out hlt (fun k e => (hown.lt k e).1) hown3 hat3
      obtain ⟨hg0, hn⟩ := hn
      have HN := Lib.hid hn
      clear hn hown3 hat3 hown
      go_wp2
      go_roundg (gk - 1)
      case measure => omega
      case rel => exact HN.out
    · have hlt' : K.length < r1.length := by omega
      have HR : Hid (r1 = padTo r (K.length + 1)) := Lib.hid (by
        rw [← Hr1.out]; unfold padTo; congr 2; omega)
      have hOw := HO.out.of_below hbel
      have hXc := hOw.alloc (.cells #[.slice a r1.length c] 46)
      have hc1 := hXc.c0
      rw [HP.out] at hc1
      go_wp2_with (refine wpList_app _ rfl _ _ _ rfl 0 46 j0 _ 1 24 Try.underlying40 hj hy0 hy1 hy2 rfl _ K.length st.rows rfl hXc.rs.kn ⟨wr.heap.size, 0, none⟩ 1 1 [.slice a r1.length c] rfl rfl (World.news_of_block (cs := #[.slice a r1.length c]) (t := 46) (fr := (0, 0)) (heap_alloc_new wr _)) ?c2 (by omega) (by unfold maxLen; omega) (by omega) (by omega) ?_)
      case c2 => intro u hu; simp at hu; subst hu; rfl
      intro gg2 cap2 w3 hown3 hat3
      have hfin := HO.out.pushRow (o := .cells #[.slice a r1.length c] 46) hN hbel hown hown3 hat3 (by omega) (by omega) (fun j => by rw [HR.out, padTo_getD]; exact HV.out j)
      have HF := Lib.hid hfin
      have hne : some po ≠ some st.pk := by
        have := HO.out.po_ne_pk
        rw [HP.out] at this
        simpa using this
      have hc2 : w3.cell? ⟨po, 0, none⟩ = some (.slice (some ⟨st.pk, 0, none⟩) K.length st.cap) := hat3.grown.cell hc1 hne
      have hf2 : w3.frozen? ⟨po, 0, none⟩ = false := by
        have e1 := hXc.f0 0
        have e2 := hXc.lt st.po (.inl rfl)
        rw [HP.out] at e1 e2
        exact (hat3.grown.frozen_far _ e2 hne).trans e1
      clear hfin hown3 hat3 hown hOw hXc hc1
      go_wp2
      go_ret
      obtain ⟨f1, f2, f3⟩ := HF.out
      rw [HP.out] at f1 f2 f3
      refine ⟨⟨po, gg2, cap2, st.rows ++ [.slice a r1.length c], st.av⟩, eret_int (by simp), HP.out.symm, ?_, f2, f3⟩
      rw [Hr.out, ← HR.out]
      exact f1
end Go.Proofs.Ytkcaeeighjblkaa
