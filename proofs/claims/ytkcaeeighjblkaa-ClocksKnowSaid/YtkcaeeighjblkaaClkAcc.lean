/- (*clocks.Order).access: what it reckons. -/
import Derived.Test.YtkcaeeighjblkaaClkMap
namespace Go.Proofs.Ytkcaeeighjblkaa
open Go.RowKit

def padTo (r : List Int) (n : Nat) : List Int := r ++ List.replicate (n - r.length) 0
def bump (r : List Int) (i : Nat) : List Int := (padTo r (i + 1)).set i ((padTo r (i + 1)).getD i 0 + 1)

theorem getD_append_rep (r : List Int) (m j : Nat) : (r ++ List.replicate m 0).getD j 0 = r.getD j 0 := by
  by_cases h : j < r.length
  · simp [List.getD, List.getElem?_append_left h]
  · have h' : r.length ≤ j := by omega
    simp only [List.getD, List.getElem?_append_right h', List.getElem?_replicate, List.getElem?_eq_none h']
    split <;> rfl
theorem padTo_len (r : List Int) (n : Nat) : (padTo r n).length = max r.length n := by simp [padTo]; omega
theorem padTo_getD (r : List Int) (n j : Nat) : (padTo r n).getD j 0 = r.getD j 0 := getD_append_rep _ _ _
theorem bump_len (r : List Int) (i : Nat) : (bump r i).length = max r.length (i + 1) := by simp [bump, padTo_len]
theorem bump_getD (r : List Int) (i j : Nat) : (bump r i).getD j 0 = if i = j then r.getD j 0 + 1 else r.getD j 0 := by
  unfold bump
  rw [getD_set_cases _ _ _ _ _ (by rw [padTo_len]; omega)]
  split
  · rename_i e; subst e; rw [padTo_getD]
  · rw [padTo_getD]

def AccNew (P : Acc) (cell who : Int) (write : Bool) (n : Int) : Acc := fun c k => if c = cell ∧ k = who then (if write then ((P c k).1, n) else (n, (P c k).2)) else P c k
def needOf' (p : Int × Int) (write : Bool) : Int := if write then max p.2 p.1 else p.2

def AccPost (st : OSt) (K : List (List Int)) (P : Acc) (N who : Nat) (cell : Int) (write : Bool) (w : World) (e : Ending) (w' : World) : Prop :=
  ∃ (st' : OSt) (ok : Bool), e = .returned (.bool ok) ∧ st'.bo = st.bo ∧
    Ord w' st' (K.set who (bump (K.getD who []) who)) (AccNew P cell who write ((bump (K.getD who []) who).getD who 0)) (N + 3) ∧ Fr st.fp w w' ∧ (∀ k, st'.fp k → st.fp k ∨ w.heap.size ≤ k) ∧
    (ok = true ↔ ∀ k : Int, wfi k → k = who ∨ needOf' (P cell k) write ≤ (bump (K.getD who []) who).getD k.toNat 0)

/-- Between two rounds of the loop that makes the row long enough. -/
def PadRel (st : OSt) (K : List (List Int)) (P : Acc) (N who : Nat) (w : World) (g : Nat) (wr : World) : Prop :=
  ∃ (st' : OSt) (m : Nat), st'.bo = st.bo ∧ Ord wr st' (K.set who (K.getD who [] ++ List.replicate m 0)) P (N + 1) ∧ Fr st.fp w wr ∧ (∀ k, st'.fp k → st.fp k ∨ w.heap.size ≤ k) ∧
    (K.getD who []).length + m ≤ max (K.getD who []).length (who + 1) ∧ who + 1 - ((K.getD who []).length + m) ≤ g

theorem PadRel.start {st : OSt} {K : List (List Int)} {P : Acc} {N who : Nat} {w : World} (h : Ord w st K P N) (hw : who < K.length) (hN : N < 100000) : PadRel st K P N who w (who + 1) w := by
  refine ⟨st, 0, rfl, ?_, Fr.refl _ _, fun k h => .inl h, by omega, by omega⟩
  have e : K.set who (K.getD who [] ++ List.replicate 0 0) = K := by
    rw [List.replicate_zero, List.append_nil]
    apply List.ext_getElem?
    intro k
    by_cases e : who = k
    · subst e; simp [List.getD, hw]
    · simp [List.getElem?_set_ne e]
  rw [e]
  exact h.mono (by omega) (by omega)

theorem pad_next {st st' : OSt} {K K1 : List (List Int)} {P : Acc} {N who m gk gg cap c : Nat} {a : Option Addr} {r : List Int} {w wr w2 : World} {o : Obj} (hN : N < 100000) (hw : who < K.length) (hkl : K.length ≤ N + 1)
    (HX : Ord wr st' K1 P (N + 1) ∧ Fr st.fp w wr ∧ (∀ (k : Nat), st'.fp k → st.fp k ∨ w.heap.size ≤ k) ∧ st'.rows.getD who undef = Value.slice a r.length c ∧ K1.getD who [] = r ∧
      (K.getD who []).length + m ≤ max (K.getD who []).length (who + 1) ∧ who + 1 - ((K.getD who []).length + m) ≤ gk ∧ st'.bo = st.bo ∧ K1.length = K.length ∧ who < K1.length ∧ r.length = (K.getD who []).length + m)
    (Hr : K.getD who [] ++ List.replicate m 0 = r) (HK1 : K.set who r = K1) (hlt : r.length ≤ who)
    (hown2 : w2.ownsRow 0 3 1 (.slice (some ⟨gg, 0, none⟩) (r.length + 1) cap) (r.length + 1) (ints r ++ [.int .i64 0])) (hat : AppAt (wr.alloc o).drew (.slice a r.length c) gg w2) :
    (w2.cell? ⟨st.bo, 0, none⟩ = some (.slice (some ⟨st'.bk, 0, none⟩) K.length st'.cap) ∧ w2.cell? ⟨st'.bk, who, none⟩ = some (.slice a r.length c) ∧ w2.frozen? ⟨st'.bk, who, none⟩ = false) ∧
    0 < gk ∧ PadRel st K P N who w (gk - 1) (w2.setCell ⟨st'.bk, who, none⟩ (.slice (some ⟨gg, 0, none⟩) (r.length + 1) cap)) := by
  obtain ⟨hO, hfr, hfp, hrv, er, hm1, hm2, hbo, hk', hw', hrl⟩ := HX
  have hX := (hO.alloc o).drew
  have hg := hat.grown
  rw [← hrv] at hg
  obtain ⟨b1, b2, b3⟩ := hX.beside hw' hg
  rw [hk', hbo] at b1
  have b2' := b2 who hw'
  rw [hrv] at b2'
  refine ⟨⟨b1, b2', b3 who⟩, by omega, ?_⟩
  have hr1 := hO.rval who
  rw [er] at hr1
  have hown3 : w2.ownsRow 0 3 1 (.slice (some ⟨gg, 0, none⟩) (r.length + 1) cap) (r ++ [0]).length (ints (r ++ [0])) := by simpa using hown2
  have hst := hX.store hw' (Nat.le_refl (N + 1)) (by omega) hg hown3 (fun k e => by
    have e : gg = k := by simpa [Value.ownBlock] using e
    rw [← e, hrv]
    rcases hat.at with e | e
    · exact .inl e
    · exact .inr (by omega)) (by simp; omega) (fun j => by
      have e : (r ++ [0]).getD j 0 = r.getD j 0 := getD_append_rep r 1 j
      rw [e]; exact hr1 j)
  obtain ⟨s1, s2, s3⟩ := hst
  refine ⟨st'.setRow who (.slice (some ⟨gg, 0, none⟩) (r.length + 1) cap), m + 1, hbo, ?_, ?_, ?_, by omega, by omega⟩
  · have e1 : K.getD who [] ++ List.replicate (m + 1) 0 = r ++ [0] := by
      rw [← Hr, List.replicate_succ', List.append_assoc]
    have e2 : K1.set who (r ++ [0]) = K.set who (r ++ [0]) := by rw [← HK1, List.set_set]
    rw [e1, ← e2]
    exact s1
  · have f1 : Fr st.fp w (wr.alloc o).drew := (hfr.alloc o).drew
    exact f1.trans s2 (fun _ h => h) (fun j hj => hfp j hj)
  · intro k hk
    have hsz : w.heap.size ≤ wr.heap.size := hfr.size
    rcases s3 k hk with e | e
    · exact hfp k e
    · right; simp at e; omega

/-- Behind 'o.known[who][who]++'. -/
def Bumped (st : OSt) (K : List (List Int)) (P : Acc) (N who : Nat) (w : World) (st' : OSt) (wr : World) : Prop :=
  st'.bo = st.bo ∧ Ord wr st' (K.set who (bump (K.getD who []) who)) P (N + 1) ∧ Fr st.fp w wr ∧ ∀ k, st'.fp k → st.fp k ∨ w.heap.size ≤ k

theorem bump_next {st st' : OSt} {K K1 : List (List Int)} {P : Acc} {N who m gk c : Nat} {a : Option Addr} {r : List Int} {w wr : World} (hN : N < 100000) (hw : who < K.length) (hv : ∀ j, 0 ≤ (K.getD who []).getD j 0 ∧ (K.getD who []).getD j 0 ≤ N)
    (HX : Ord wr st' K1 P (N + 1) ∧ Fr st.fp w wr ∧ (∀ (k : Nat), st'.fp k → st.fp k ∨ w.heap.size ≤ k) ∧ st'.rows.getD who undef = Value.slice a r.length c ∧ K1.getD who [] = r ∧
      (K.getD who []).length + m ≤ max (K.getD who []).length (who + 1) ∧ who + 1 - ((K.getD who []).length + m) ≤ gk ∧ st'.bo = st.bo ∧ K1.length = K.length ∧ who < K1.length ∧ r.length = (K.getD who []).length + m)
    (Hr : K.getD who [] ++ List.replicate m 0 = r) (HK1 : K.set who r = K1) (hlt : who < r.length) :
    ∃ g x, a = some ⟨g, 0, none⟩ ∧ 0 ≤ x ∧ x ≤ 100000 ∧ wr.cell? ⟨g, who, none⟩ = some (.int .i64 x) ∧ wr.frozen? ⟨g, who, none⟩ = false ∧ Bumped st K P N who w st' (wr.setCell ⟨g, who, none⟩ (.int .i64 (x + 1))) := by
  obtain ⟨hO, hfr, hfp, hrv, er, hm1, hm2, hbo, hk', hw', hrl⟩ := HX
  have hrow := hO.row who hw'
  rw [er, hrv] at hrow
  obtain ⟨g, cap, e1, _, hglt⟩ := hrow.form (by omega)
  cases e1
  have hx : r.getD who 0 = (K.getD who []).getD who 0 := by rw [← Hr]; exact getD_append_rep _ _ _
  have hb := hv who
  have hpad : r = padTo (K.getD who []) (who + 1) := by
    rw [← Hr]; unfold padTo
    congr 2; omega
  refine ⟨g, r.getD who 0, rfl, by rw [hx]; exact hb.1, by rw [hx]; omega, ints_cell hrow who hlt, ?_, hbo, ?_, ?_, hfp⟩
  · obtain ⟨cur, e⟩ := row_at hrow (k := g) rfl
    simp [World.frozen?, e]
  · have := hO.poke (x := r.getD who 0 + 1) hw' (Nat.le_refl _) (by omega) (by rw [hrv, er]) (by rw [er]; exact hlt) (by rw [hx]; omega)
    have e2 : K1.set who ((K1.getD who []).set who (r.getD who 0 + 1)) = K.set who (bump (K.getD who []) who) := by
      rw [er, ← HK1, List.set_set]
      unfold bump
      rw [← hpad]
    rw [e2] at this
    exact this.1
  · have := hO.poke (x := r.getD who 0 + 1) hw' (Nat.le_refl _) (by omega) (by rw [hrv, er]) (by rw [er]; exact hlt) (by rw [hx]; omega)
    exact hfr.trans this.2 (fun _ h => h) hfp

/-- Between two rounds of the loop over the accesses of a cell. -/
def RngRel (D : DataW Unit) (b n : Nat) (r2 : List Int) (who : Int) (write : Bool) (wX : World) (g : Nat) (ok : Bool) (wr : World) : Prop :=
  ∃ left, wr.ranges Try.prog 3 accR b wX.heap.size n D left g ∧ Below wX.heap.size wX wr ∧
    (ok = true ↔ ∀ k p, wfi k → left (.int .i64 k) = false → (∀ zd, D.atKey (.int .i64 k) zd = accD p) → k = who ∨ needOf' p write ≤ r2.getD k.toNat 0)

theorem atKey_indep {H : Type} {D : DataW H} {k : Lit} (h : Maps.has D k = true) (z z' : DataW H) : D.atKey k z = D.atKey k z' := by
  cases D <;> try (cases h; done)
  rename_i es
  obtain ⟨p, hp, hk⟩ := List.any_eq_true.1 h
  show (match es.find? (fun p => p.1.sameKey k) with | some p => p.2 | none => z) = (match es.find? (fun p => p.1.sameKey k) with | some p => p.2 | none => z')
  cases hf : es.find? (fun p => p.1.sameKey k) with
  | some q => rfl
  | none => exact absurd hk (List.find?_eq_none.1 hf p hp)

theorem rng_next {D : DataW Unit} {b n cnt1 : Nat} {r2 : List Int} {who k : Int} {write ok ok' : Bool} {wX wE : World} {left : Lit → Bool} {p : Int × Int} {kl : Lit} {y : DataW Unit × List MemPlace}
    (hok : ok = true ↔ ∀ k p, wfi k → left (.int .i64 k) = false → (∀ zd, D.atKey (.int .i64 k) zd = accD p) → k = who ∨ needOf' p write ≤ r2.getD k.toNat 0)
    (hkl : keyOf Try.prog 3 (.int .i64 k) = some kl) (hRp : accR (.agg #[.int .i64 p.1, .int .i64 p.2]) = some y) (hat : ∀ zd, D.atKey kl zd = y.1)
    (hrg : wE.ranges Try.prog 3 accR b wX.heap.size n D (fun z => left z && !z.sameKey kl) cnt1) (hbel : Below wX.heap.size wX wE)
    (h' : ok' = true ↔ ok = true ∧ (k = who ∨ needOf' p write ≤ r2.getD k.toNat 0)) : RngRel D b n r2 who write wX cnt1 ok' wE := by
  obtain ⟨k', e, rfl, hwf⟩ := Maps.keyOf_int_inv Try.underlying3 hkl
  cases e
  rw [accR_mk] at hRp
  cases hRp
  refine ⟨_, hrg, hbel, ?_⟩
  rw [h', hok]
  constructor
  · rintro ⟨h1, h2⟩ j q hj hl hq
    by_cases e : j = k
    · subst e
      have : q = p := accD_inj ((hq .nil).symm.trans (hat .nil))
      rw [this]; exact h2
    · refine h1 j q hj ?_ hq
      cases hlj : left (.int .i64 j) with
      | false => rfl
      | true =>
        have hs : (Lit.int .i64 j).sameKey (.int .i64 k) = false := by
          cases hs : (Lit.int .i64 j).sameKey (.int .i64 k) with
          | false => rfl
          | true => have := WideAt.sameKey_eq hs; cases this; exact absurd rfl e
        simp [hlj, hs] at hl
  · intro h
    refine ⟨fun j q hj hl hq => h j q hj (by simp [hl]) hq, h k p hwf ?_ hat⟩
    have : (Lit.int .i64 k).sameKey (.int .i64 k) = true := WideAt.sameKey_self (isKeyI k)
    simp [this]

theorem rng_done {D : DataW Unit} {r2 : List Int} {who : Int} {write ok : Bool} {left : Lit → Bool} {Pc : Int → Int × Int}
    (hok : ok = true ↔ ∀ k p, wfi k → left (.int .i64 k) = false → (∀ zd, D.atKey (.int .i64 k) zd = accD p) → k = who ∨ needOf' p write ≤ r2.getD k.toNat 0)
    (hl : ∀ kl, left kl = false) (hD : ∀ k, wfi k → D.atKey (.int .i64 k) (accD (0, 0)) = accD (Pc k)) (hr : ∀ j, 0 ≤ r2.getD j 0) :
    ok = true ↔ ∀ k : Int, wfi k → k = who ∨ needOf' (Pc k) write ≤ r2.getD k.toNat 0 := by
  rw [hok]
  constructor
  · intro h k hk
    cases hh : Maps.has D (.int .i64 k) with
    | true => exact h k (Pc k) hk (hl _) (fun zd => (atKey_indep hh zd _).trans (hD k hk))
    | false =>
      have e := hD k hk
      rw [Maps.atKey_of_not_has hh] at e
      have e2 : Pc k = (0, 0) := (accD_inj e).symm
      right
      rw [e2]
      have h0 := hr k.toNat
      have e3 : needOf' (0, 0) write = 0 := by cases write <;> rfl
      rw [e3]; exact h0
  · intro h k p hk _ hq
    have : p = Pc k := accD_inj ((hq _).symm.trans (hD k hk))
    rw [this]; exact h k hk

theorem acc_end {st stB : OSt} {K K2 : List (List Int)} {P : Acc} {N who : Nat} {cell n2 : Int} {write ok : Bool} {w wX wr wF : World} {r2 : List Int} {q pr : Int × Int} {o : Obj} {e : Ending}
    (HF : (ok = true ↔ ∀ k : Int, wfi k → k = (who : Int) ∨ needOf' (P cell k) write ≤ r2.getD k.toNat 0) ∧ Ord wF stB K2 (fun d k => if d = cell ∧ k = (who : Int) then q else P d k) (N + 2 + 1) ∧ Fr stB.fp (wr.alloc o) wF ∧
      Ord wX stB K2 P (N + 2) ∧ Fr st.fp w wX ∧ (∀ (k : Nat), stB.fp k → st.fp k ∨ w.heap.size ≤ k) ∧ stB.bo = st.bo ∧ Below wX.heap.size wX wr)
    (Hq : q = if write then (pr.1, n2) else (n2, pr.2)) (Hpr : P cell who = pr) (HK2 : K.set who (bump (K.getD who []) who) = K2) (Hr2 : K2.getD who [] = r2) (Hn2 : r2.getD who 0 = n2) (hw : who < K.length)
    (he : e = .returned (.bool ok)) : AccPost st K P N who cell write w e wF := by
  obtain ⟨h1, h2, h3, h4, h5, h6, h7, h8⟩ := HF
  have er : bump (K.getD who []) who = r2 := by rw [← Hr2, ← HK2]; exact (getD_set_eq hw).symm
  refine ⟨stB, ok, he, h7, ?_, ?_, h6, ?_⟩
  · rw [HK2, er]
    have e2 : (fun d k => if d = cell ∧ k = (who : Int) then q else P d k) = AccNew P cell who write (r2.getD who 0) := by
      funext d k
      unfold AccNew
      by_cases hc : d = cell ∧ k = (who : Int)
      · rw [if_pos hc, if_pos hc, Hq, hc.1, hc.2, Hpr, Hn2]
      · rw [if_neg hc, if_neg hc]
    rw [e2] at h2
    exact h2
  · have f1 : Fr stB.fp wX wF := ((Fr.of_below h8).alloc o).trans h3 (fun _ h => h) (fun _ h => .inl h)
    exact h5.trans f1 (fun _ h => h) h6
  · rw [er]; exact h1

theorem accInvK (key : Value) (kl : Lit) (h : keyOf Try.prog 3 key = some kl) : ∃ x, key = .int .i64 x := by
  obtain ⟨x, e, _⟩ := Maps.keyOf_int_inv Try.underlying3 h; exact ⟨x, e⟩
theorem accInvV (v : Value) (y : DataW Unit × List MemPlace) (h : accR v = some y) : ∃ p : Int × Int, v = .agg #[.int .i64 p.1, .int .i64 p.2] := by
  obtain ⟨p, e, _⟩ := accR_inv h; exact ⟨p, e⟩

set_option maxRecDepth 100000 in
set_option maxHeartbeats 3200000 in
theorem access_any (st : OSt) (K : List (List Int)) (P : Acc) (N who : Nat) (cell : Int) (write : Bool) (w : World) (h : Ord w st K P N) (hw : who < K.length) (hN : N + 3 ≤ 100000) (hc : wfi cell) :
    Calls Try.prog 28 #[.pointer (some ⟨st.bo, 0, none⟩), .int .i64 who, .int .i64 cell, .bool write] w (AccPost st K P N who cell write w) := by
  have hk := h.klen
  have h0 := h.c0
  obtain ⟨i0, hi, hz0, hz1, hz2⟩ := info_parts Try.info3
  have hd : (decide ((0 : Int) ≤ who) && decide ((who : Int) < (K.length : Int))) = true := by simp; omega
  have Hst := Lib.hid (PadRel.start h hw (by omega))
  have Hv := Lib.hid (h.rval who)
  go_enter Try.func28, Try.ntmps28
  go_wp2_with (go_at_call 29; refine (is_any _ _ _ _ _ _ h0 (by omega)).mono ?_; rintro e w' ⟨rfl, rfl⟩)
  go_loopg [] (who + 1) (fun g wr => PadRel st K P N who w g wr)
  case atStart => exact Hst.out
  case round =>
    clear h0 h Hst
    obtain ⟨st', m, hbo, hO, hfr, hfp, hm1, hm2⟩ := hrel
    have hk' : (K.set who (K.getD who [] ++ List.replicate m 0)).length = K.length := by simp
    have hw' : who < (K.set who (K.getD who [] ++ List.replicate m 0)).length := by omega
    have h0 := hO.c0
    have hck := hO.ck hw'
    have hrow := hO.row who hw'
    have er : (K.set who (K.getD who [] ++ List.replicate m 0)).getD who [] = K.getD who [] ++ List.replicate m 0 := getD_set_eq hw
    rw [hk', hbo] at h0
    obtain ⟨a, c, hrv⟩ := row_form hrow
    rw [er] at hrow hrv
    rw [hrv] at hck hrow
    obtain ⟨r, Hr⟩ : ∃ r, Hid (K.getD who [] ++ List.replicate m 0 = r) := ⟨_, Lib.hid rfl⟩
    rw [Hr.out] at hck hrow hO hk' hw' er hrv
    have hrl : r.length ≤ N + 2 := by have := hO.rlen who; rw [er] at this; omega
    have hrm : r.length = (K.getD who []).length + m := by rw [← Hr.out]; simp
    obtain ⟨K1, HK1⟩ : ∃ K1, Hid (K.set who r = K1) := ⟨_, Lib.hid rfl⟩
    rw [HK1.out] at hO hk' hw' er
    have HX := Lib.hid (And.intro hO (And.intro hfr (And.intro hfp (And.intro hrv (And.intro er (And.intro hm1 (And.intro hm2 (And.intro hbo (And.intro hk' (And.intro hw' hrm))))))))))
    have hbo2 : w.heap.size ≤ wr.heap.size := hfr.size
    clear hO hfr hfp hrv er hm1 hm2 hbo hk' hw' hrm
    by_cases hlt : r.length ≤ who
    · have HS : (fun w' => w'.cell? ⟨st.bo, 0, none⟩ = some (.slice (some ⟨st'.bk, 0, none⟩) K.length st'.cap) ∧ w'.cell? ⟨st'.bk, who, none⟩ = some (.slice a r.length c)) wr.drew := ⟨h0, hck⟩
      go_wp2
      refine wp_region_pi (fun w' => w'.cell? ⟨st.bo, 0, none⟩ = some (.slice (some ⟨st'.bk, 0, none⟩) K.length st'.cap) ∧ w'.cell? ⟨st'.bk, who, none⟩ = some (.slice a r.length c)) [(0, 1), (1, 1), (2, 1), (3, 0), (4, 1), (5, 1), (6, 1), (7, 1), (8, 0), (9, 1), (10, 1), (11, 0), (12, 2), (13, 2), (14, 1), (15, 3)] [(15, [3]), (15, [8]), (15, [11])] (by kernel_rfl) (by kernel_rfl) (fun _ _ _ _ _ h => h) (HS) ?_
      refine pi_pu rfl (by rfl) (fun ws => by go_simp; try with_reducible rfl) ?_; go_frame   -- 0 Op.move (Operand.tmp 0)
      refine pi_pu rfl (by rfl) (fun ws => by go_simp; try with_reducible rfl) ?_; go_frame   -- 1 Op.nilCheck (Operand.tmp 29)
      refine pi_pu rfl (by rfl) (fun ws => by go_simp; try with_reducible rfl) ?_; go_frame   -- 2 Op.fieldAddr 51 (Operand.tmp 30) 0
      refine pi_ld rfl (by rfl) (fun ws HS => by go_split_ands; go_simp; try with_reducible rfl) ?_; go_frame   -- 3 Op.load 40 (Operand.tmp 31)
      refine pi_pu rfl (by rfl) (fun ws => by go_simp; try with_reducible rfl) ?_; go_frame   -- 4 Op.move (Operand.tmp 1)
      refine pi_pu rfl (by rfl) (fun ws => by go_simp; try with_reducible rfl) ?_; go_frame   -- 5 Op.move (Operand.tmp 0)
      refine pi_pu rfl (by rfl) (fun ws => by go_simp; try with_reducible rfl) ?_; go_frame   -- 6 Op.nilCheck (Operand.tmp 34)
      refine pi_pu rfl (by rfl) (fun ws => by go_simp; try with_reducible rfl) ?_; go_frame   -- 7 Op.fieldAddr 51 (Operand.tmp 35) 0
      refine pi_ld rfl (by rfl) (fun ws HS => by go_split_ands; go_simp; try with_reducible rfl) ?_; go_frame   -- 8 Op.load 40 (Operand.tmp 36)
      refine pi_pu rfl (by rfl) (fun ws => by go_simp; try with_reducible rfl) ?_; go_frame   -- 9 Op.move (Operand.tmp 1)
      refine pi_pu rfl (by rfl) (fun ws => by go_simp; try with_reducible rfl) ?_; go_frame   -- 10 Op.indexAddr 40 (Operand.tmp 37) (Operand.tmp 38)
      refine pi_ld rfl (by rfl) (fun ws HS => by go_split_ands; go_simp; try with_reducible rfl) ?_; go_frame   -- 11 Op.load 46 (Operand.tmp 39)
      refine pi_ke rfl (fun J hJ => ?_)   -- 12 Op.buildSlice 46 1 #[(0, Operand.const (Value.int IntKind.i64 0))]
      go_wp2
      refine hJ _ _ ⟨cell_alloc HS.1, cell_alloc HS.2⟩ ?_
      refine pi_ke rfl (fun J hJ => ?_)   -- 13 Op.call { callee := Callee.builtin Builtin.append, args := #[Operand.tmp 40, Operand.tmp 41], argTypes := #[46, 46] }
      go_wp2_with (refine wpList_app _ rfl _ _ _ rfl 0 3 i0 _ 1 8 Try.underlying46 hi hz0 hz1 hz2 rfl (.slice a r.length c) r.length (ints r) rfl (row_drew (hrow.alloc _)) ⟨wr.heap.size, 0, none⟩ 1 1 [.int .i64 0] rfl rfl (World.news_of_block (cs := #[.int .i64 0]) (t := 3) (fr := (0, 0)) (heap_alloc_new wr _)) ?c1 (by omega) (by unfold maxLen; omega) (by omega) (by omega) ?_)
      case c1 => intro u hu; simp at hu; subst hu; rfl
      intro gg cap w2 hown2 hat
      obtain ⟨⟨hc2, hk2, hf2⟩, hg0, hnext⟩ := pad_next (by omega) hw hk HX.out Hr.out HK1.out hlt hown2 hat
      have Hn := Lib.hid hnext
      clear hown2 hat hnext
      go_wp2
      refine hJ _ _ ⟨hc2, hk2⟩ ?_
      refine pi_pu rfl (by rfl) (fun ws => by go_simp; try with_reducible rfl) ?_; go_frame   -- 14 Op.indexAddr 40 (Operand.tmp 32) (Operand.tmp 33)
      refine pi_tail (by rfl) ?_; simp only [opsAt, List.getElem?_toArray, List.getElem?_cons_zero, List.getElem?_cons_succ]   -- [(15, 'Op.store 46 (Operand.tmp 43) (Operand.tmp 42)')]
      go_wp2
      go_roundg (gk - 1)
      case measure => omega
      case rel => exact Hn.out
    · obtain ⟨g, x, rfl, hx0, hx1, hcx, hfx, hnext⟩ := bump_next (by omega) hw Hv.out HX.out Hr.out HK1.out (by omega)
      have Hn := Lib.hid hnext
      clear hnext HX hrow hi hz0 hz1 hz2 Hv
      go_upto_region 6 with fail
      obtain ⟨wA, hwA⟩ : ∃ wA, wA = wr.setCell ⟨g, who, none⟩ (.int .i64 (x + 1)) := ⟨_, rfl⟩
      rw [← hwA] at Hn ⊢
      clear hcx hfx hck h0 hwA hlt
      obtain ⟨K2, HK2⟩ : ∃ K2, Hid (K.set who (bump (K.getD who []) who) = K2) := ⟨_, Lib.hid rfl⟩
      obtain ⟨hbo, hO, hfr, hfp⟩ := Hn.out
      rw [HK2.out] at hO
      clear Hn
      have hqm := fun (w : World) (r : Option Nat) => run_eql_map_nil (P := Try.prog) w 66 3 68 r Try.underlying66
      have hqn := fun (w : World) (r : Option Nat) => run_eql_map_nil (P := Try.prog) w 49 3 66 r Try.underlying49
      have hmm := @run_makeMap Try.prog
      have hc1 := hO.c1
      rw [hbo] at hc1
      have hlk := outer_lookup hO.outer hc
      have Hbo := Lib.hid hbo
      clear hbo
      cases hin : st'.inner cell
      case' none =>
        rw [hin] at hlk
        obtain ⟨wB, hup, hOB, hfB, hpB⟩ := hO.newCell (by omega) hc hin
        have hc1b := cell_alloc (o := .map #[] 0) hc1
        have HB := Lib.hid (show ∃ wX stB b, wX = wB ∧ b = wA.heap.size ∧ stB.bo = st.bo ∧ stB.inner cell = some b ∧ Ord wX stB K2 P (N + 2) ∧ Fr st.fp w wX ∧ (∀ k, stB.fp k → st.fp k ∨ w.heap.size ≤ k) from
          ⟨wB, st'.setInner cell wA.heap.size, _, rfl, rfl, Hbo.out, by simp [OSt.setInner], hOB, hfr.trans hfB (fun _ h => h) hfp, fun k hk => by
            rcases hpB k hk with e | e
            · exact hfp k e
            · exact .inr (Nat.le_trans hfr.size e)⟩)
        clear hO hfr hfp hOB hfB hpB hin Hbo
        go_upto_region 12 with fail
        obtain ⟨wX, stB, b, hwX, hb, hbo, hin, hO, hfr, hfp⟩ := HB.out
        rw [← hb, ← hwX]
        clear hb hwX HB hup hc1b hlk hc1
      case' some b0 =>
        rw [hin] at hlk
        have HB := Lib.hid (show ∃ wX stB b, wX = wA ∧ b = b0 ∧ stB.bo = st.bo ∧ stB.inner cell = some b ∧ Ord wX stB K2 P (N + 2) ∧ Fr st.fp w wX ∧ (∀ k, stB.fp k → st.fp k ∨ w.heap.size ≤ k) from
          ⟨wA, st', b0, rfl, rfl, Hbo.out, hin, hO.mono (by omega) (by omega), hfr, hfp⟩)
        clear hO hfr hfp hin Hbo
        go_upto_region 12 with fail
        obtain ⟨wX, stB, b, hwX, hb, hbo, hin, hO, hfr, hfp⟩ := HB.out
        rw [← hb, ← hwX]
        clear hb hwX HB hlk hc1
      all_goals
        have hk2 : K2.length = K.length := by rw [← HK2.out]; simp
        have hw2 : who < K2.length := by omega
        obtain ⟨r2, Hr2⟩ : ∃ r2, Hid (K2.getD who [] = r2) := ⟨_, Lib.hid rfl⟩
        have hrow2 := hO.row who hw2
        obtain ⟨a2, cc2, hrv2⟩ := row_form hrow2
        have hck2 := hO.ck hw2
        rw [hrv2] at hck2 hrow2
        rw [Hr2.out] at hck2 hrow2 hrv2
        have h02 := hO.c0
        rw [hk2, hbo] at h02
        have hrl2 : r2.length ≤ N + 3 := by have := hO.rlen who; rw [Hr2.out] at this; omega
        have hrowB : ∀ wy, Below wX.heap.size wX wy → wy.ownsRow 0 3 1 (.slice a2 r2.length cc2) r2.length (ints r2) := fun wy hy => row_same hrow2 (fun k e => hy.block k (hrow2.lt k e).2)
        obtain ⟨D, hown, hmap, hDk, hDp⟩ := (hO.inn cell b hc hin).1
        have HH := Lib.hid (And.intro hO (And.intro hfr (And.intro hfp (And.intro hin (And.intro hbo (And.intro hmap (And.intro hDk (And.intro hDp (And.intro hrv2 (And.intro hk2 hw2))))))))))
        have HrowB := Lib.hid hrowB
        clear hO hfr hfp hin hbo hmap hDk hDp hrv2 hk2 hw2 hrowB hqm hqn hmm hrow2
        go_wp2_with (at_range; refine wpList_range_own _ rfl _ 66 rfl 3 68 keyI Try.underlying66 accR b (N + 2) D rfl hown ?_; intro w0 hrg0 hg0 hs0)
        go_frame
        have hbX : Below wX.heap.size wX w0 := (Below.refl _ _).grown hg0 (Nat.le_refl _) (fun k e => by cases e)
        have Hst := Lib.hid (show RngRel D b (N + 2) r2 who write wX (Maps.size D) true w0 from ⟨_, hrg0, hbX, ⟨fun _ k p _ h2 h3 => (by rw [Maps.has_true_of_atKey h3] at h2; cases h2), fun _ => rfl⟩⟩)
        clear hrg0 hg0 hs0 hbX hown
        go_loopg [10] (Maps.size D) (fun gg v10 wr2 => ∃ ok : Bool, v10 = .bool ok ∧ RngRel D b (N + 2) r2 who write wX gg ok wr2)
        case atStart => exact ⟨true, rfl, Hst.out⟩
        case round =>
          obtain ⟨ok, rfl, left, hrg, hbel, hok⟩ := hrel
          have Hok := Lib.hid hok
          clear hok Hst
          go_wp2_with (at_next; refine hold ?_)
          refine Hold.mk (wpList_next_ranges _ rfl _ rfl 3 keyI accR (Value.int .i64) (fun p : Int × Int => .agg #[.int .i64 p.1, .int .i64 p.2]) accInvK accInvV b wX.heap.size (N + 2) D left _ rfl hrg ?_ ?_)
          · intro _ hleft
            obtain ⟨hO, hfr, hfp, hin, hbo, hmap, hDk, hDp, hrv2, hk2, hw2⟩ := HH.out
            have hOr := hO.of_below hbel
            have hlen2 : who < r2.length := by
              have e : r2 = bump (K.getD who []) who := by rw [← Hr2.out, ← HK2.out]; exact getD_set_eq hw
              rw [e, bump_len]; omega
            have hvals : ∀ j, 0 ≤ r2.getD j 0 := fun j => by have := hO.rval who j; rw [Hr2.out] at this; exact this.1
            have hfin := rng_done Hok.out hleft hDk hvals
            have hrowr := HrowB.out wr hbel
            obtain ⟨g2, cap2, e2, _, hg2⟩ := hrowr.form (by omega)
            cases e2
            obtain ⟨n2, Hn2⟩ : ∃ n2, Hid (r2.getD who 0 = n2) := ⟨_, Lib.hid rfl⟩
            have hcn := ints_cell hrowr who hlen2
            rw [Hn2.out] at hcn
            have hwho : wfi (who : Int) := WalkArith.wf_i64 ⟨by omega, by omega⟩
            have hlk2 := inner_lookup (hOr.inn cell b hc hin).1 hwho
            have hc2 : wr.cell? ⟨st.bo, 0, none⟩ = some (.slice (some ⟨stB.bk, 0, none⟩) K.length stB.cap) := cell_below hbel rfl h02
            have hk2' : wr.cell? ⟨stB.bk, who, none⟩ = some (.slice (some ⟨g2, 0, none⟩) r2.length cc2) := cell_below hbel rfl hck2
            obtain ⟨pr, Hpr⟩ : ∃ pr, Hid (P cell who = pr) := ⟨_, Lib.hid rfl⟩
            rw [Hpr.out] at hlk2
            have hz := zeroAcc
            have hb1 : st.bo < wr.heap.size := World.block_lt_of_cell? _ _ hc2
            have hb2 : stB.bk < wr.heap.size := World.block_lt_of_cell? _ _ hk2'
            obtain ⟨q, Hq⟩ : ∃ q : Int × Int, Hid (q = if write then (pr.1, n2) else (n2, pr.2)) := ⟨_, Lib.hid rfl⟩
            obtain ⟨wF, hup, hOF, hfF⟩ := (hOr.alloc (.cells #[.int .i64 q.1, .int .i64 q.2] 68)).setAcc (by omega) hc hin hwho (by omega) q
            have HF := Lib.hid (And.intro hfin (And.intro hOF (And.intro hfF (And.intro hO (And.intro hfr (And.intro hfp (And.intro hbo hbel)))))))
            clear hfin hOF hfF hO hfr hfp hbo hbel hin hmap hDk hDp hrv2 hk2 hw2 hOr hleft hrg hrowr hvals h02 hck2
            cases write
            · rw [show q = (n2, pr.2) from Hq.out] at hup
              go_wp2
              go_ret
              exact acc_end HF.out Hq.out Hpr.out HK2.out Hr2.out Hn2.out hw rfl
            · rw [show q = (pr.1, n2) from Hq.out] at hup
              go_wp2
              go_ret
              exact acc_end HF.out Hq.out Hpr.out HK2.out Hr2.out Hn2.out hw rfl
          · intro k p kl y w1 cnt1 hkl hlk hRp hat hrg1 hlt1 hg1 hs1 hen
            have hbel1 : Below wX.heap.size wX w1 := hbel.grown hg1 hbel.size (fun k e => by cases e; exact Nat.le_refl _)
            have hkpos : 0 ≤ k := by
              obtain ⟨k', e, rfl, hwf⟩ := Maps.keyOf_int_inv Try.underlying3 hkl
              cases e
              exact HH.out.2.2.2.2.2.2.2.1 k (Maps.has_true_of_atKey hat)
            have hbelE : Below wX.heap.size wX (w1.alloc (.cells #[.int .i64 p.1, .int .i64 p.2] 68)) := hbel1.alloc hbel1.size _
            have HN := fun ok' => Lib.hid (fun h' : ok' = true ↔ ok = true ∧ (k = who ∨ needOf' p write ≤ r2.getD k.toNat 0) => rng_next (ok' := ok') Hok.out hkl hRp hat (hrg1.alloc (.cells #[.int .i64 p.1, .int .i64 p.2] 68)) hbelE h')
            have hcE := cell_below hbelE rfl h02
            have hkE := cell_below hbelE rfl hck2
            have hrE := HrowB.out _ hbelE
            have HNN := Lib.hid HN
            clear hkl hlk hRp hat hrg1 hg1 hs1 hbel1 hbel hrg h02 hck2 hbelE HN
            go_upto_region 16 with fail
            obtain ⟨wE, hwE⟩ : ∃ wE, wE = w1.alloc (.cells #[.int .i64 p.1, .int .i64 p.2] 68) := ⟨_, rfl⟩
            have hp0 : wE.cell? ⟨w1.heap.size, 0, none⟩ = some (.int .i64 p.1) := by rw [hwE, World.cell?_alloc_new]; rfl
            have hp1 : wE.cell? ⟨w1.heap.size, 1, none⟩ = some (.int .i64 p.2) := by rw [hwE, World.cell?_alloc_new]; rfl
            rw [← hwE] at HNN hcE hkE hrE ⊢
            clear hwE hen
            obtain ⟨kb, Hkb⟩ : ∃ kb : Bool, Hid (kb = (k == (who : Int))) := ⟨_, Lib.hid rfl⟩
            have hkb := Hkb.out
            cases kb <;> cases write <;> cases ok
            all_goals
              replace hkb := hkb.symm
              go_wp2_with (go_at_call 38; refine (count_any _ _ _ _ _ hrE (by omega) hkpos).mono ?_; rintro e w' ⟨rfl, rfl⟩)
              all_goals
                go_roundg cnt1
                case measure => exact hlt1
                case rel => exact ⟨_, rfl, (HNN.out _).out (by clear HNN HH HrowB Hok; unfold needOf'; grind)⟩
end Go.Proofs.Ytkcaeeighjblkaa
