/- The law ClocksKnow: the walk. No condition. -/
import Derived.Test.YtkcaeeighjblkaaTwoPlay
namespace Go.Proofs.Ytkcaeeighjblkaa
open Go.RowKit

/-- The clock that was told last, beside the orders. -/
def LastAt (w : World) (x : TwoSt) (N : Nat) (who : Int) (c : Clk) (wr : World) : Prop :=
  c.2 = vSend x.K who ∧ ClkIs wr c N ∧ ∀ b v, c.1 = some (b, v) → (b < wr.heap.size ∧ ¬ x.fp b ∧ w.heap.size ≤ b) ∧ ∀ k, v.ownBlock = some k → k < wr.heap.size ∧ ¬ x.fp k ∧ w.heap.size ≤ k

theorem ClkIs.frame {w w' : World} {c : Clk} {N M : Nat} (h : ClkIs w c N) (hm : N ≤ M) (hk : ∀ b v, c.1 = some (b, v) → w'.heap[b]? = w.heap[b]? ∧ ∀ k, v.ownBlock = some k → w'.heap[k]? = w.heap[k]?) : ClkIs w' c M := by
  obtain ⟨h1, h2, h3, h4⟩ := h
  exact ⟨fun b v e => ⟨(hk b v e).1.trans (h1 b v e).1, row_same (h1 b v e).2 (hk b v e).2⟩, h2, by omega, fun j => by have := h4 j; omega⟩

theorem vSend_le {K K' : List (List Int)} (h : Kle K K') (hv : ∀ i j, 0 ≤ (K'.getD i []).getD j 0) (a : Int) : ∀ j, (vSend K a).getD j 0 ≤ (vSend K' a).getD j 0 := by
  intro j
  unfold vSend
  cases hb : inK K a with
  | false =>
    rw [if_neg (by decide)]
    split
    · simpa using hv _ j
    · exact Int.le_refl _
  | true =>
    have hb' : inK K' a = true := by
      obtain ⟨n, rfl, hn⟩ := inK_nat hb
      unfold inK
      have := h.1
      simp
      omega
    rw [hb', if_pos rfl, if_pos rfl]
    exact h.2 _ j

theorem aheadB_refl (a : List Int) (h : ∀ j, 0 ≤ a.getD j 0) : aheadB a a = true := (aheadB_all h).2 (fun _ => Int.le_refl _)

/-- What is told last, from a Send on. -/
theorem last_new {w wr w' : World} {x : TwoSt} {N : Nat} {who : Int} {o : Option (Nat × Value)} (h : TwoMem wr x N N) (hs : w.heap.size ≤ wr.heap.size) (hbel : Below wr.heap.size wr w') (hn1 : o = none → vSend x.K who = [])
    (hn2 : ∀ b v, o = some (b, v) → wr.heap.size ≤ b ∧ w'.heap[b]? = some (.cells #[v] 57 (0, 0)) ∧ w'.ownsRow wr.heap.size 3 1 v (vSend x.K who).length (ints (vSend x.K who))) :
    LastAt w x N who (o, vSend x.K who) w' := by
  have hb := vSend_bounds h who
  have hfp : ∀ k, wr.heap.size ≤ k → ¬ x.fp k := fun k hk ⟨i, hi⟩ => by have := h.lt i k hi; omega
  refine ⟨rfl, ⟨fun b v e => ⟨(hn2 b v e).2.1, row_zero (hn2 b v e).2.2⟩, hn1, hb.1, hb.2.1⟩, fun b v e => ?_⟩
  obtain ⟨h1, h2, h3⟩ := hn2 b v e
  refine ⟨⟨(Array.getElem?_eq_some_iff.1 h2).1, hfp b h1, by omega⟩, fun k hk => ?_⟩
  have := h3.lt k hk
  exact ⟨this.2, hfp k this.1, by omega⟩

theorem LastAt.step {w wr w' : World} {x x' : TwoSt} {N : Nat} {who : Int} {c : Clk} (h : LastAt w x N who c wr) (hs : TwoStep wr x w' x' (N + 3) (N + 3)) : ClkIs w' c (N + 3) ∧ ∀ b v, c.1 = some (b, v) → b < w'.heap.size ∧ ∀ k, v.ownBlock = some k → k < w'.heap.size := by
  obtain ⟨_, h2, h3⟩ := h
  have hsz := hs.2.1.size
  refine ⟨h2.frame (by omega) (fun b v e => ⟨hs.2.1.block b (h3 b v e).1.1 (h3 b v e).1.2.1, fun k hk => hs.2.1.block k ((h3 b v e).2 k hk).1 ((h3 b v e).2 k hk).2.1⟩), fun b v e => ⟨by have := (h3 b v e).1.1; omega, fun k hk => by have := ((h3 b v e).2 k hk).1; omega⟩⟩

/-- What is told now is ahead of nothing that was told ahead of it. -/
theorem know_calls {w' w2 : World} {x x' : TwoSt} {N : Nat} {who : Int} {c : Clk} {o : Option (Nat × Value)} {q1 q2 : Option Addr} (hN : N ≤ 100000) (hk : Kle x.K x'.K) (hv : ∀ i j, 0 ≤ (x'.K.getD i []).getD j 0) (hc : c.2 = vSend x.K who)
    (h1 : ClkIs w2 c N) (h2 : ClkIs w2 (o, vSend x'.K who) N) (e1 : ptrOf c = .pointer q1) (e2 : ptrOf (o, vSend x'.K who) = .pointer q2) (hw : w' = w2) :
    ∀ p a b, (a = q1 ∧ b = q2) ∨ (a = q2 ∧ b = q2) ∨ (a = none ∧ b = q2) → Calls Try.prog 22 #[p, .pointer a, .pointer b] w' fun e w' => e = .returned (.bool true) ∧ w2 = w' := by
  subst hw
  have hv2 : ∀ j, 0 ≤ (vSend x'.K who).getD j 0 := fun j => (h2.2.2.2 j).1
  rintro p a b (⟨rfl, rfl⟩ | ⟨rfl, rfl⟩ | ⟨rfl, rfl⟩)
  · rw [← e1, ← e2]
    have := wahead p c (o, vSend x'.K who) N w' hN h1 h2
    have e : aheadB c.2 (vSend x'.K who) = true := (aheadB_all hv2).2 (by rw [hc]; exact vSend_le hk hv who)
    rw [e] at this
    exact this
  · rw [← e2]
    have := wahead p (o, vSend x'.K who) (o, vSend x'.K who) N w' hN h2 h2
    have e : aheadB (vSend x'.K who) (vSend x'.K who) = true := aheadB_refl _ hv2
    rw [e] at this
    exact this
  · rw [← e2]
    exact ahead_none p _ w'

set_option maxRecDepth 100000 in
set_option maxHeartbeats 6400000 in
theorem clocksKnow_any (a : Option Addr) (len cap : Nat) (f : Nat → Int × Int × Int) (who : Int) (w : World) (hs : IsSteps w a len cap f) :
    Calls Try.prog 9 #[.slice a len cap, .int .i64 who] w fun e w' => e = .returned (.bool true) ∧ Below w.heap.size w w' := by
  have hlm : len ≤ maxLen := by rcases hs with ⟨_, h, _⟩ | ⟨x, _, h1, h2, _⟩ <;> omega
  by_cases hlen : (200 : Int) < len
  · clear hs
    go_enter Try.func9, Try.ntmps9
    go_wp2_with (go_at_call 13; refine (awake_any _).mono ?_; rintro e w' ⟨rfl, hb⟩)
    go_ret
    exact ⟨rfl, hb⟩
  have HS := Lib.hid hs
  clear hs
  go_enter Try.func9, Try.ntmps9
  go_wp2_with first
    | (go_at_call 14; refine (new_any w).mono ?_; rintro e w1 ⟨st1, rfl, hO1, hb1, hp1⟩)
    | (go_at_call 20; refine (rnew_any _).mono ?_; rintro e w2 ⟨st2, rfl, hO2, hb2, hp2⟩; refine hold ?_)
  have H0 := two_start hO1 hb1 hp1 hO2 hb2 hp2
  obtain ⟨bx, hbx⟩ : ∃ bx, bx = w2.heap.size := ⟨_, rfl⟩
  obtain ⟨bo, hbo⟩ : ∃ bo, bo = st1.bo := ⟨_, rfl⟩
  obtain ⟨po, hpo⟩ : ∃ po, po = st2.po := ⟨_, rfl⟩
  rw [← hbx, ← hbo, ← hpo] at H0
  rw [← hbo, ← hpo]
  have HH0 := Lib.hid (show ∃ x, TwoAt w bx bo po 0 x (w2.alloc (.cells #[.pointer (some ⟨bo, 0, none⟩), .pointer (some ⟨po, 0, none⟩), .slice none 0 0, .slice none 0 0] 42)) from ⟨_, H0⟩)
  have hb0 := H0.1.b0
  have hb0 : (w2.alloc (.cells #[.pointer (some ⟨bo, 0, none⟩), .pointer (some ⟨po, 0, none⟩), .slice none 0 0, .slice none 0 0] 42)).cell? ⟨bx, 0, none⟩ = some (.pointer (some ⟨bo, 0, none⟩)) := by
    have e := H0.2.2.2.1
    rw [e] at hb0
    exact hb0
  rw [hbx] at hb0
  clear hO1 hb1 hp1 hO2 hb2 hp2 H0 hbo hpo
  refine Hold.mk ?_
  go_wp2_with (go_at_call 19; refine hold ?_)
  try rw [← hbx]
  clear hbx hb0
  obtain ⟨x0, hx0⟩ := HH0.out
  obtain ⟨wA, hwA⟩ : ∃ wA, wA = w2.alloc (.cells #[.pointer (some ⟨bo, 0, none⟩), .pointer (some ⟨po, 0, none⟩), .slice none 0 0, .slice none 0 0] 42) := ⟨_, rfl⟩
  rw [← hwA] at hx0 ⊢
  clear HH0 hwA
  have HX0 := Lib.hid hx0
  clear hx0
  refine Hold.mk ?_
  refine (wsend bo who wA HX0.out.1 HX0.out.2.2.2.1).mono ?_
  rintro e w3 ⟨o, rfl, hbel, hn1, _, hn2⟩
  have HL0 := Lib.hid (last_new (w := w) HX0.out.1 HX0.out.2.2.2.2.2.1.size hbel hn1 hn2)
  obtain ⟨q, Hq⟩ : ∃ q, Hid (ptrOf (o, vSend x0.K who) = .pointer q) := ⟨_, Lib.hid rfl⟩
  rw [Hq.out]
  have HX1 := Lib.hid (show ∃ x c, ptrOf c = .pointer q ∧ TwoAt w bx bo po (3 * 0) x w3 ∧ LastAt w x (3 * 0) who c w3 from ⟨x0, _, Hq.out, HX0.out.below hbel, HL0.out⟩)
  clear hbel hn1 hn2 HL0 Hq HX0
  go_wp2_with fail
  go_loopg [6, 7] len (fun g v6 v7 wr => ∃ (i : Nat) (q : Option Addr), i ≤ len ∧ v7 = .int .i64 i ∧ v6 = .pointer q ∧ g = len - i ∧ Hid (∃ x c, ptrOf c = .pointer q ∧ TwoAt w bx bo po (3 * i) x wr ∧ LastAt w x (3 * i) who c wr))
  case atStart => exact ⟨0, _, Nat.zero_le _, rfl, rfl, rfl, HX1⟩
  case round =>
    clear HX1
    obtain ⟨i, q, hi, rfl, rfl, hg, hrel⟩ := hrel
    by_cases hlt : i < len
    · obtain ⟨x, c, hqc, hx, hL⟩ := hrel.out
      rcases HS.out with ⟨_, h, _⟩ | ⟨ad, had, hl1, hl2, hcs⟩
      · omega
      subst had
      obtain ⟨hc0, hc1, hc2, hw0, hw1, hw2⟩ := hcs i hlt
      obtain ⟨⟨kd, sa, sb⟩, Hf⟩ : ∃ t, Hid (f i = t) := ⟨_, Lib.hid rfl⟩
      rw [Hf.out] at hc0 hc1 hc2 hw0 hw1 hw2
      have hbel := hx.2.2.2.2.2.1
      have hr0 := cell_below hbel rfl hc0
      have hr1 := cell_below hbel rfl hc1
      have hr2 := cell_below hbel rfl hc2
      rw [add_fld _ _ _ (by decide)] at hr1 hr2
      have HX := Lib.hid hx
      have HL := Lib.hid hL
      have HQ := Lib.hid hqc
      have HW := Lib.hid hw2
      clear hcs hc0 hc1 hc2 hrel hw0 hw1 hw2 hx hL hqc hbel
      go_wp2_with (go_at_call 21; refine (does_any bx bo po x (3 * i) kd sa sb _ HX.out.1 HX.out.2.1 HX.out.2.2.1 HX.out.2.2.2.1 HX.out.2.2.2.2.1 (by omega) HW.out).mono ?_; rintro e w4 ⟨rfl, x', hs', hr', hk'⟩; refine hold ?_)
      have HN := Lib.hid (HX.out.next hs' hr')
      have HL2 := Lib.hid (HL.out.step hs')
      have HK := Lib.hid hk'
      have b0 := HN.out.1.b0
      rw [HN.out.2.2.1, HN.out.2.2.2.1] at b0
      clear hs' hr' hk' hr0 hr1 hr2
      refine Hold.mk ?_
      go_wp2_with (go_at_call 19; refine (wsend bo who w4 HN.out.1 HN.out.2.2.2.1).mono ?_; rintro e w5 ⟨o, rfl, hbel, hn1, _, hn2⟩; refine hold ?_)
      have HL3 := Lib.hid (last_new (w := w) HN.out.1 HN.out.2.2.2.2.2.1.size hbel hn1 hn2)
      obtain ⟨q2, Hq2⟩ : ∃ q, Hid (ptrOf (o, vSend x'.K who) = .pointer q) := ⟨_, Lib.hid rfl⟩
      rw [Hq2.out]
      have HN5 := Lib.hid (HN.out.below hbel)
      have HL5 := Lib.hid (HL2.out.1.frame (Nat.le_refl _) (fun b v e => ⟨hbel.block b (HL2.out.2 b v e).1, fun k hk => hbel.block k ((HL2.out.2 b v e).2 k hk)⟩))
      have HC := Lib.hid (know_calls (w' := w5) (by omega) HK.out (fun i j => (HN.out.1.ord.rval i j).1) HL.out.1 HL5.out HL3.out.2.1 HQ.out Hq2.out rfl)
      have b0 := HN5.out.1.b0
      rw [HN5.out.2.2.1, HN5.out.2.2.2.1] at b0
      have HE := Lib.hid (show ∃ x c, ptrOf c = .pointer q2 ∧ TwoAt w bx bo po (3 * i + 3) x w5 ∧ LastAt w x (3 * i + 3) who c w5 from ⟨x', _, Hq2.out, HN5.out, HL3.out⟩)
      clear hbel hn1 hn2
      refine Hold.mk ?_
      go_wp2_with (go_at_call 22; refine (HC.out _ _ _ (by first | exact .inl ⟨rfl, rfl⟩ | exact .inr (.inl ⟨rfl, rfl⟩) | exact .inr (.inr ⟨rfl, rfl⟩))).mono ?_; rintro e w6 ⟨rfl, rfl⟩)
      go_roundg (len - (i + 1))
      case measure => omega
      case rel => exact ⟨i + 1, q2, by omega, by go_num, rfl, rfl, HE⟩
    · obtain ⟨x, c, _, hx, _⟩ := hrel.out
      obtain ⟨N, HN⟩ : ∃ N, Hid (3 * i = N) := ⟨_, Lib.hid rfl⟩
      have hNb : N ≤ 700 := by have := HN.out; omega
      rw [HN.out] at hx
      have HX := Lib.hid hx
      obtain ⟨n, Hn⟩ : ∃ n, Hid (x.Cs.length = n) := ⟨_, Lib.hid rfl⟩
      have hnN : n ≤ N := by have := hx.2.1.cn; rw [Hn.out] at this; exact this
      obtain ⟨ac, cc, ecv⟩ := row_form hx.1.cs.row
      rw [Hn.out] at ecv
      have Hcv := Lib.hid ecv
      have hb2 := hx.1.b2
      rw [hx.2.2.1, ecv] at hb2
      have hge : decide (i < len) = false := by simp; omega
      clear hx hrel ecv hi hg hlt
      go_wp2_with fail
      go_loopg [9] n (fun g v5 wr => ∃ i : Nat, i ≤ n ∧ i ≤ 12 ∧ v5 = .int .i64 i ∧ g = n - i ∧ Hid (TwoAt w bx bo po N x wr))
      case atStart => exact ⟨0, Nat.zero_le _, by omega, rfl, rfl, HX⟩
      case round =>
        clear HX hb2
        obtain ⟨i, hi, hi20, rfl, hg, HX⟩ := hrel
        have hb2 := HX.out.1.b2
        rw [HX.out.2.2.1, Hcv.out] at hb2
        by_cases hlt : i < n
        · by_cases hlt20 : i < 12
          · have hd1 : decide ((i : Int) < (n : Int)) = true := by simp; omega
            have hd2 : decide ((i : Int) < 12) = true := by simp; omega
            obtain ⟨gc, cc', ec, _, _⟩ := (show wr.ownsRow 0 33 1 x.cv n (x.Cs.map ptrOf) by have := HX.out.1.cs.row; rwa [Hn.out] at this).form (by omega)
            rw [Hcv.out] at ec
            cases ec
            go_wp2_with fail
            go_loopg [10] n (fun g v6 wr => ∃ k : Nat, k ≤ n ∧ k ≤ 12 ∧ v6 = .int .i64 k ∧ g = n - k ∧ Hid (TwoAt w bx bo po N x wr))
            case atStart => exact ⟨0, Nat.zero_le _, by omega, rfl, rfl, HX⟩
            case round =>
              clear HX hb2
              obtain ⟨k, hk, hk20, rfl, hgk, HX⟩ := hrel
              have hb2 := HX.out.1.b2
              rw [HX.out.2.2.1, Hcv.out] at hb2
              by_cases hkn : k < n
              · by_cases hk20' : k < 12
                · have hd3 : decide ((k : Int) < (n : Int)) = true := by simp; omega
                  have hd4 : decide ((k : Int) < 12) = true := by simp; omega
                  go_wp2_with fail
                  go_loopg [11] n (fun g v6 wr => ∃ j : Nat, j ≤ n ∧ j ≤ 12 ∧ v6 = .int .i64 j ∧ g = n - j ∧ Hid (TwoAt w bx bo po N x wr))
                  case atStart => exact ⟨0, Nat.zero_le _, by omega, rfl, rfl, HX⟩
                  case round =>
                    clear HX hb2
                    obtain ⟨j, hj, hj20, rfl, hgj, HX⟩ := hrel
                    have hb2 := HX.out.1.b2
                    rw [HX.out.2.2.1, Hcv.out] at hb2
                    by_cases hjn : j < n
                    · by_cases hj20' : j < 12
                      · have hb0 := HX.out.1.b0
                        rw [HX.out.2.2.1, HX.out.2.2.2.1] at hb0
                        have hci := HX.out.1.clk Hcv.out (i := i) (by rw [Hn.out]; exact hlt)
                        have hck := HX.out.1.clk Hcv.out (i := k) (by rw [Hn.out]; exact hkn)
                        have hcj := HX.out.1.clk Hcv.out (i := j) (by rw [Hn.out]; exact hjn)
                        obtain ⟨e1, He1⟩ : ∃ e, Hid (x.Cs.getD i (none, []) = e) := ⟨_, Lib.hid rfl⟩
                        obtain ⟨e2, He2⟩ : ∃ e, Hid (x.Cs.getD k (none, []) = e) := ⟨_, Lib.hid rfl⟩
                        obtain ⟨e3, He3⟩ : ∃ e, Hid (x.Cs.getD j (none, []) = e) := ⟨_, Lib.hid rfl⟩
                        rw [He1.out] at hci
                        rw [He2.out] at hck
                        rw [He3.out] at hcj
                        obtain ⟨q1, Hq1⟩ : ∃ q, Hid (ptrOf e1 = .pointer q) := ⟨_, Lib.hid rfl⟩
                        obtain ⟨q2, Hq2⟩ : ∃ q, Hid (ptrOf e2 = .pointer q) := ⟨_, Lib.hid rfl⟩
                        obtain ⟨q3, Hq3⟩ : ∃ q, Hid (ptrOf e3 = .pointer q) := ⟨_, Lib.hid rfl⟩
                        rw [Hq1.out] at hci
                        rw [Hq2.out] at hck
                        rw [Hq3.out] at hcj
                        obtain ⟨t1, Ht1⟩ : ∃ t, Hid (aheadB e1.2 e2.2 = t) := ⟨_, Lib.hid rfl⟩
                        obtain ⟨t2, Ht2⟩ : ∃ t, Hid (aheadB e2.2 e3.2 = t) := ⟨_, Lib.hid rfl⟩
                        have Hc1 := Lib.hid (show ∀ p, Calls Try.prog 22 #[p, .pointer q1, .pointer q2] wr.drew fun e w' => e = .returned (.bool t1) ∧ wr.drew = w' from fun p => by
                          rw [← Hq1.out, ← Hq2.out, ← Ht1.out]
                          exact wahead p e1 e2 N wr.drew (by omega) hci.2 hck.2)
                        have Hc2 := Lib.hid (show ∀ p, Calls Try.prog 22 #[p, .pointer q2, .pointer q3] wr.drew fun e w' => e = .returned (.bool t2) ∧ wr.drew = w' from fun p => by
                          rw [← Hq2.out, ← Hq3.out, ← Ht2.out]
                          exact wahead p e2 e3 N wr.drew (by omega) hck.2 hcj.2)
                        have Hc3 := Lib.hid (show t1 = true → t2 = true → ∀ p, Calls Try.prog 22 #[p, .pointer q1, .pointer q3] wr.drew fun e w' => e = .returned (.bool true) ∧ wr.drew = w' from fun g1 g2 p => by
                          have et : aheadB e1.2 e3.2 = true := by
                            have h1 := (aheadB_all (fun j => (hck.2.2.2.2 j).1)).1 (Ht1.out.trans g1)
                            have h2 := (aheadB_all (fun j => (hcj.2.2.2.2 j).1)).1 (Ht2.out.trans g2)
                            exact (aheadB_all (fun j => (hcj.2.2.2.2 j).1)).2 (fun j => Int.le_trans (h1 j) (h2 j))
                          rw [← Hq1.out, ← Hq3.out, ← et]
                          exact wahead p e1 e3 N wr.drew (by omega) hci.2 hcj.2)
                        have HS2 : (fun w' => w'.cell? ⟨bx, 0, none⟩ = some (.pointer (some ⟨bo, 0, none⟩)) ∧ w'.cell? ⟨bx, 2, none⟩ = some (.slice (some ⟨gc, 0, none⟩) n cc) ∧ w'.cell? ⟨gc, i, none⟩ = some (.pointer q1) ∧ w'.cell? ⟨gc, k, none⟩ = some (.pointer q2) ∧ w'.cell? ⟨gc, j, none⟩ = some (.pointer q3)) wr.drew := ⟨hb0, hb2, hci.1, hck.1, hcj.1⟩
                        clear hb0 hci hck hcj Ht1 Ht2
                        go_upto_region 24 with fail
                        cases t1 with
                        | false =>
                          refine wp_region_pi (fun w' => w'.cell? ⟨bx, 0, none⟩ = some (.pointer (some ⟨bo, 0, none⟩)) ∧ w'.cell? ⟨bx, 2, none⟩ = some (.slice (some ⟨gc, 0, none⟩) n cc) ∧ w'.cell? ⟨gc, i, none⟩ = some (.pointer q1) ∧ w'.cell? ⟨gc, k, none⟩ = some (.pointer q2) ∧ w'.cell? ⟨gc, j, none⟩ = some (.pointer q3)) [(0, 1), (1, 1), (2, 1), (3, 0), (4, 1), (5, 1), (6, 1), (7, 0), (8, 1), (9, 1), (10, 0), (11, 1), (12, 1), (13, 1), (14, 0), (15, 1), (16, 1), (17, 0), (18, 2), (19, 1), (20, 1), (21, 1), (22, 1), (23, 0), (24, 1), (25, 1), (26, 1), (27, 0), (28, 1), (29, 1), (30, 0), (31, 1), (32, 1), (33, 1), (34, 0), (35, 1), (36, 1), (37, 0), (38, 2), (39, 1), (40, 1), (41, 1), (42, 1), (43, 1), (44, 0), (45, 1), (46, 1), (47, 1), (48, 0), (49, 1), (50, 1), (51, 0), (52, 1), (53, 1), (54, 1), (55, 0), (56, 1), (57, 1), (58, 0), (59, 3), (60, 3), (61, 3)] [(59, [40, 39, 19, 18, 3]), (59, [40, 39, 19, 18, 10, 9, 7]), (59, [40, 39, 19, 18, 10]), (59, [40, 39, 19, 18, 17, 16, 14]), (59, [40, 39, 19, 18, 17]), (59, [40, 38, 23]), (59, [40, 38, 30, 29, 27]), (59, [40, 38, 30]), (59, [40, 38, 37, 36, 34]), (59, [40, 38, 37]), (59, [44]), (59, [51, 50, 48]), (59, [51]), (59, [58, 57, 55]), (59, [58]), (60, [40, 39, 19, 18, 3]), (60, [40, 39, 19, 18, 10, 9, 7]), (60, [40, 39, 19, 18, 10]), (60, [40, 39, 19, 18, 17, 16, 14]), (60, [40, 39, 19, 18, 17]), (60, [40, 38, 23]), (60, [40, 38, 30, 29, 27]), (60, [40, 38, 30]), (60, [40, 38, 37, 36, 34]), (60, [40, 38, 37]), (60, [59, 44]), (60, [59, 51, 50, 48]), (60, [59, 51]), (60, [59, 58, 57, 55]), (60, [59, 58]), (61, [40, 39, 19, 18, 3]), (61, [40, 39, 19, 18, 10, 9, 7]), (61, [40, 39, 19, 18, 10]), (61, [40, 39, 19, 18, 17, 16, 14]), (61, [40, 39, 19, 18, 17]), (61, [40, 38, 23]), (61, [40, 38, 30, 29, 27]), (61, [40, 38, 30]), (61, [40, 38, 37, 36, 34]), (61, [40, 38, 37]), (61, [60, 59, 44]), (61, [60, 59, 51, 50, 48]), (61, [60, 59, 51]), (61, [60, 59, 58, 57, 55]), (61, [60, 59, 58])] (by kernel_rfl) (by kernel_rfl) (fun _ _ _ _ _ h => h) (HS2) ?_
                          refine pd_pu (some 116) rfl rfl (by rfl) (fun ws => by go_simp; try with_reducible rfl) ?_; go_frame   -- 0 Op.move (Operand.tmp 5)
                          refine pd_pu (some 117) rfl rfl (by rfl) (fun ws => by go_simp; try with_reducible rfl) ?_; go_frame   -- 1 Op.nilCheck (Operand.tmp 116)
                          refine pd_pu (some 118) rfl rfl (by rfl) (fun ws => by go_simp; try with_reducible rfl) ?_; go_frame   -- 2 Op.fieldAddr 42 (Operand.tmp 117) 0
                          refine pd_ld (some 119) rfl rfl (by rfl) (fun ws HS => by go_split_ands; go_simp; try with_reducible rfl) ?_; go_frame   -- 3 Op.load 25 (Operand.tmp 118)
                          refine pd_pu (some 120) rfl rfl (by rfl) (fun ws => by go_simp; try with_reducible rfl) ?_; go_frame   -- 4 Op.move (Operand.tmp 5)
                          refine pd_pu (some 121) rfl rfl (by rfl) (fun ws => by go_simp; try with_reducible rfl) ?_; go_frame   -- 5 Op.nilCheck (Operand.tmp 120)
                          refine pd_pu (some 122) rfl rfl (by rfl) (fun ws => by go_simp; try with_reducible rfl) ?_; go_frame   -- 6 Op.fieldAddr 42 (Operand.tmp 121) 2
                          refine pd_ld (some 123) rfl rfl (by rfl) (fun ws HS => by go_split_ands; go_simp; try with_reducible rfl) ?_; go_frame   -- 7 Op.load 39 (Operand.tmp 122)
                          refine pd_pu (some 124) rfl rfl (by rfl) (fun ws => by go_simp; try with_reducible rfl) ?_; go_frame   -- 8 Op.move (Operand.tmp 9)
                          refine pd_pu (some 125) rfl rfl (by rfl) (fun ws => by go_simp; try with_reducible rfl) ?_; go_frame   -- 9 Op.indexAddr 39 (Operand.tmp 123) (Operand.tmp 124)
                          refine pd_ld (some 126) rfl rfl (by rfl) (fun ws HS => by go_split_ands; go_simp; try with_reducible rfl) ?_; go_frame   -- 10 Op.load 33 (Operand.tmp 125)
                          refine pd_pu (some 127) rfl rfl (by rfl) (fun ws => by go_simp; try with_reducible rfl) ?_; go_frame   -- 11 Op.move (Operand.tmp 5)
                          refine pd_pu (some 128) rfl rfl (by rfl) (fun ws => by go_simp; try with_reducible rfl) ?_; go_frame   -- 12 Op.nilCheck (Operand.tmp 127)
                          refine pd_pu (some 129) rfl rfl (by rfl) (fun ws => by go_simp; try with_reducible rfl) ?_; go_frame   -- 13 Op.fieldAddr 42 (Operand.tmp 128) 2
                          refine pd_ld (some 130) rfl rfl (by rfl) (fun ws HS => by go_split_ands; go_simp; try with_reducible rfl) ?_; go_frame   -- 14 Op.load 39 (Operand.tmp 129)
                          refine pd_pu (some 131) rfl rfl (by rfl) (fun ws => by go_simp; try with_reducible rfl) ?_; go_frame   -- 15 Op.move (Operand.tmp 10)
                          refine pd_pu (some 132) rfl rfl (by rfl) (fun ws => by go_simp; try with_reducible rfl) ?_; go_frame   -- 16 Op.indexAddr 39 (Operand.tmp 130) (Operand.tmp 131)
                          refine pd_ld (some 133) rfl rfl (by rfl) (fun ws HS => by go_split_ands; go_simp; try with_reducible rfl) ?_; go_frame   -- 17 Op.load 33 (Operand.tmp 132)
                          refine pi_ke rfl (fun J hJ => ?_)   -- 18 Op.call { callee := Callee.value (Operand.func 22), args := #[Operand.tmp 119, Operand.tmp 126, Operand.tmp 133], argTypes := #[25, 33, 33] }
                          go_wp2_with (go_at_call 22; refine (Hc1.out _).mono ?_; rintro e w3 ⟨rfl, rfl⟩)
                          refine hJ _ _ HS2 ?_
                          refine pd_pu (some 135) rfl rfl (by rfl) (fun ws => by go_simp; try with_reducible rfl) ?_; go_frame   -- 19 Op.move (Operand.tmp 134)
                          refine pd_pu_skip (some 136) rfl rfl (by rfl) ?_; go_frame   -- 20 Op.move (Operand.tmp 5)
                          refine pd_pu_skip (some 137) rfl rfl (by rfl) ?_; go_frame   -- 21 Op.nilCheck (Operand.tmp 136)
                          refine pd_pu_skip (some 138) rfl rfl (by rfl) ?_; go_frame   -- 22 Op.fieldAddr 42 (Operand.tmp 137) 0
                          refine pd_ld_skip (some 139) rfl rfl (by rfl) ?_; go_frame   -- 23 Op.load 25 (Operand.tmp 138)
                          refine pd_pu_skip (some 140) rfl rfl (by rfl) ?_; go_frame   -- 24 Op.move (Operand.tmp 5)
                          refine pd_pu_skip (some 141) rfl rfl (by rfl) ?_; go_frame   -- 25 Op.nilCheck (Operand.tmp 140)
                          refine pd_pu_skip (some 142) rfl rfl (by rfl) ?_; go_frame   -- 26 Op.fieldAddr 42 (Operand.tmp 141) 2
                          refine pd_ld_skip (some 143) rfl rfl (by rfl) ?_; go_frame   -- 27 Op.load 39 (Operand.tmp 142)
                          refine pd_pu_skip (some 144) rfl rfl (by rfl) ?_; go_frame   -- 28 Op.move (Operand.tmp 10)
                          refine pd_pu_skip (some 145) rfl rfl (by rfl) ?_; go_frame   -- 29 Op.indexAddr 39 (Operand.tmp 143) (Operand.tmp 144)
                          refine pd_ld_skip (some 146) rfl rfl (by rfl) ?_; go_frame   -- 30 Op.load 33 (Operand.tmp 145)
                          refine pd_pu_skip (some 147) rfl rfl (by rfl) ?_; go_frame   -- 31 Op.move (Operand.tmp 5)
                          refine pd_pu_skip (some 148) rfl rfl (by rfl) ?_; go_frame   -- 32 Op.nilCheck (Operand.tmp 147)
                          refine pd_pu_skip (some 149) rfl rfl (by rfl) ?_; go_frame   -- 33 Op.fieldAddr 42 (Operand.tmp 148) 2
                          refine pd_ld_skip (some 150) rfl rfl (by rfl) ?_; go_frame   -- 34 Op.load 39 (Operand.tmp 149)
                          refine pd_pu_skip (some 151) rfl rfl (by rfl) ?_; go_frame   -- 35 Op.move (Operand.tmp 11)
                          refine pd_pu_skip (some 152) rfl rfl (by rfl) ?_; go_frame   -- 36 Op.indexAddr 39 (Operand.tmp 150) (Operand.tmp 151)
                          refine pd_ld_skip (some 153) rfl rfl (by rfl) ?_; go_frame   -- 37 Op.load 33 (Operand.tmp 152)
                          refine pi_ke rfl (fun J hJ => ?_)   -- 38 Op.call { callee := Callee.value (Operand.func 22), args := #[Operand.tmp 139, Operand.tmp 146, Operand.tmp 153], argTypes := #[25, 33, 33] }
                          go_wp2
                          refine hJ _ _ HS2 ?_
                          refine pd_pu (some 155) rfl rfl (by rfl) (fun ws => by go_simp; try with_reducible rfl) ?_; go_frame   -- 39 Op.pick (Operand.tmp 135) (Operand.tmp 154) (Operand.const (Value.bool false))
                          refine pd_pu (some 156) rfl rfl (by rfl) (fun ws => by go_simp; try with_reducible rfl) ?_; go_frame   -- 40 Op.move (Operand.tmp 155)
                          refine pd_pu_skip (some 157) rfl rfl (by rfl) ?_; go_frame   -- 41 Op.move (Operand.tmp 5)
                          refine pd_pu_skip (some 158) rfl rfl (by rfl) ?_; go_frame   -- 42 Op.nilCheck (Operand.tmp 157)
                          refine pd_pu_skip (some 159) rfl rfl (by rfl) ?_; go_frame   -- 43 Op.fieldAddr 42 (Operand.tmp 158) 0
                          refine pd_ld_skip (some 160) rfl rfl (by rfl) ?_; go_frame   -- 44 Op.load 25 (Operand.tmp 159)
                          refine pd_pu_skip (some 161) rfl rfl (by rfl) ?_; go_frame   -- 45 Op.move (Operand.tmp 5)
                          refine pd_pu_skip (some 162) rfl rfl (by rfl) ?_; go_frame   -- 46 Op.nilCheck (Operand.tmp 161)
                          refine pd_pu_skip (some 163) rfl rfl (by rfl) ?_; go_frame   -- 47 Op.fieldAddr 42 (Operand.tmp 162) 2
                          refine pd_ld_skip (some 164) rfl rfl (by rfl) ?_; go_frame   -- 48 Op.load 39 (Operand.tmp 163)
                          refine pd_pu_skip (some 165) rfl rfl (by rfl) ?_; go_frame   -- 49 Op.move (Operand.tmp 9)
                          refine pd_pu_skip (some 166) rfl rfl (by rfl) ?_; go_frame   -- 50 Op.indexAddr 39 (Operand.tmp 164) (Operand.tmp 165)
                          refine pd_ld_skip (some 167) rfl rfl (by rfl) ?_; go_frame   -- 51 Op.load 33 (Operand.tmp 166)
                          refine pd_pu_skip (some 168) rfl rfl (by rfl) ?_; go_frame   -- 52 Op.move (Operand.tmp 5)
                          refine pd_pu_skip (some 169) rfl rfl (by rfl) ?_; go_frame   -- 53 Op.nilCheck (Operand.tmp 168)
                          refine pd_pu_skip (some 170) rfl rfl (by rfl) ?_; go_frame   -- 54 Op.fieldAddr 42 (Operand.tmp 169) 2
                          refine pd_ld_skip (some 171) rfl rfl (by rfl) ?_; go_frame   -- 55 Op.load 39 (Operand.tmp 170)
                          refine pd_pu_skip (some 172) rfl rfl (by rfl) ?_; go_frame   -- 56 Op.move (Operand.tmp 11)
                          refine pd_pu_skip (some 173) rfl rfl (by rfl) ?_; go_frame   -- 57 Op.indexAddr 39 (Operand.tmp 171) (Operand.tmp 172)
                          refine pd_ld_skip (some 174) rfl rfl (by rfl) ?_; go_frame   -- 58 Op.load 33 (Operand.tmp 173)
                          refine pi_tail (by rfl) ?_; simp only [opsAt, List.getElem?_toArray, List.getElem?_cons_zero, List.getElem?_cons_succ]   -- [(59, 'Op.call { callee := Callee.value (Operand.func 22), args := #[Operand.tmp 160, Operand.tmp 167, Operand.tmp 174], argTypes := #[25, 33, 33] }'), (60, 'Op.unOp UnOp.not 4 (Operand.tmp 175)'), (61, 'Op.pick (Operand.tmp 156) (Operand.tmp 176) (Operand.const (Value.bool false))')]
                          go_wp2
                          go_roundg (n - (j + 1))
                          case measure => omega
                          case rel => exact ⟨j + 1, by omega, by omega, by go_num, rfl, Lib.hid (HX.out.below (Below.refl _ wr).drew)⟩
                        | true =>
                          cases t2 with
                          | false =>
                            refine wp_region_pi (fun w' => w'.cell? ⟨bx, 0, none⟩ = some (.pointer (some ⟨bo, 0, none⟩)) ∧ w'.cell? ⟨bx, 2, none⟩ = some (.slice (some ⟨gc, 0, none⟩) n cc) ∧ w'.cell? ⟨gc, i, none⟩ = some (.pointer q1) ∧ w'.cell? ⟨gc, k, none⟩ = some (.pointer q2) ∧ w'.cell? ⟨gc, j, none⟩ = some (.pointer q3)) [(0, 1), (1, 1), (2, 1), (3, 0), (4, 1), (5, 1), (6, 1), (7, 0), (8, 1), (9, 1), (10, 0), (11, 1), (12, 1), (13, 1), (14, 0), (15, 1), (16, 1), (17, 0), (18, 2), (19, 1), (20, 1), (21, 1), (22, 1), (23, 0), (24, 1), (25, 1), (26, 1), (27, 0), (28, 1), (29, 1), (30, 0), (31, 1), (32, 1), (33, 1), (34, 0), (35, 1), (36, 1), (37, 0), (38, 2), (39, 1), (40, 1), (41, 1), (42, 1), (43, 1), (44, 0), (45, 1), (46, 1), (47, 1), (48, 0), (49, 1), (50, 1), (51, 0), (52, 1), (53, 1), (54, 1), (55, 0), (56, 1), (57, 1), (58, 0), (59, 3), (60, 3), (61, 3)] [(59, [40, 39, 19, 18, 3]), (59, [40, 39, 19, 18, 10, 9, 7]), (59, [40, 39, 19, 18, 10]), (59, [40, 39, 19, 18, 17, 16, 14]), (59, [40, 39, 19, 18, 17]), (59, [40, 38, 23]), (59, [40, 38, 30, 29, 27]), (59, [40, 38, 30]), (59, [40, 38, 37, 36, 34]), (59, [40, 38, 37]), (59, [44]), (59, [51, 50, 48]), (59, [51]), (59, [58, 57, 55]), (59, [58]), (60, [40, 39, 19, 18, 3]), (60, [40, 39, 19, 18, 10, 9, 7]), (60, [40, 39, 19, 18, 10]), (60, [40, 39, 19, 18, 17, 16, 14]), (60, [40, 39, 19, 18, 17]), (60, [40, 38, 23]), (60, [40, 38, 30, 29, 27]), (60, [40, 38, 30]), (60, [40, 38, 37, 36, 34]), (60, [40, 38, 37]), (60, [59, 44]), (60, [59, 51, 50, 48]), (60, [59, 51]), (60, [59, 58, 57, 55]), (60, [59, 58]), (61, [40, 39, 19, 18, 3]), (61, [40, 39, 19, 18, 10, 9, 7]), (61, [40, 39, 19, 18, 10]), (61, [40, 39, 19, 18, 17, 16, 14]), (61, [40, 39, 19, 18, 17]), (61, [40, 38, 23]), (61, [40, 38, 30, 29, 27]), (61, [40, 38, 30]), (61, [40, 38, 37, 36, 34]), (61, [40, 38, 37]), (61, [60, 59, 44]), (61, [60, 59, 51, 50, 48]), (61, [60, 59, 51]), (61, [60, 59, 58, 57, 55]), (61, [60, 59, 58])] (by kernel_rfl) (by kernel_rfl) (fun _ _ _ _ _ h => h) (HS2) ?_
                            refine pd_pu (some 116) rfl rfl (by rfl) (fun ws => by go_simp; try with_reducible rfl) ?_; go_frame   -- 0 Op.move (Operand.tmp 5)
                            refine pd_pu (some 117) rfl rfl (by rfl) (fun ws => by go_simp; try with_reducible rfl) ?_; go_frame   -- 1 Op.nilCheck (Operand.tmp 116)
                            refine pd_pu (some 118) rfl rfl (by rfl) (fun ws => by go_simp; try with_reducible rfl) ?_; go_frame   -- 2 Op.fieldAddr 42 (Operand.tmp 117) 0
                            refine pd_ld (some 119) rfl rfl (by rfl) (fun ws HS => by go_split_ands; go_simp; try with_reducible rfl) ?_; go_frame   -- 3 Op.load 25 (Operand.tmp 118)
                            refine pd_pu (some 120) rfl rfl (by rfl) (fun ws => by go_simp; try with_reducible rfl) ?_; go_frame   -- 4 Op.move (Operand.tmp 5)
                            refine pd_pu (some 121) rfl rfl (by rfl) (fun ws => by go_simp; try with_reducible rfl) ?_; go_frame   -- 5 Op.nilCheck (Operand.tmp 120)
                            refine pd_pu (some 122) rfl rfl (by rfl) (fun ws => by go_simp; try with_reducible rfl) ?_; go_frame   -- 6 Op.fieldAddr 42 (Operand.tmp 121) 2
                            refine pd_ld (some 123) rfl rfl (by rfl) (fun ws HS => by go_split_ands; go_simp; try with_reducible rfl) ?_; go_frame   -- 7 Op.load 39 (Operand.tmp 122)
                            refine pd_pu (some 124) rfl rfl (by rfl) (fun ws => by go_simp; try with_reducible rfl) ?_; go_frame   -- 8 Op.move (Operand.tmp 9)
                            refine pd_pu (some 125) rfl rfl (by rfl) (fun ws => by go_simp; try with_reducible rfl) ?_; go_frame   -- 9 Op.indexAddr 39 (Operand.tmp 123) (Operand.tmp 124)
                            refine pd_ld (some 126) rfl rfl (by rfl) (fun ws HS => by go_split_ands; go_simp; try with_reducible rfl) ?_; go_frame   -- 10 Op.load 33 (Operand.tmp 125)
                            refine pd_pu (some 127) rfl rfl (by rfl) (fun ws => by go_simp; try with_reducible rfl) ?_; go_frame   -- 11 Op.move (Operand.tmp 5)
                            refine pd_pu (some 128) rfl rfl (by rfl) (fun ws => by go_simp; try with_reducible rfl) ?_; go_frame   -- 12 Op.nilCheck (Operand.tmp 127)
                            refine pd_pu (some 129) rfl rfl (by rfl) (fun ws => by go_simp; try with_reducible rfl) ?_; go_frame   -- 13 Op.fieldAddr 42 (Operand.tmp 128) 2
                            refine pd_ld (some 130) rfl rfl (by rfl) (fun ws HS => by go_split_ands; go_simp; try with_reducible rfl) ?_; go_frame   -- 14 Op.load 39 (Operand.tmp 129)
                            refine pd_pu (some 131) rfl rfl (by rfl) (fun ws => by go_simp; try with_reducible rfl) ?_; go_frame   -- 15 Op.move (Operand.tmp 10)
                            refine pd_pu (some 132) rfl rfl (by rfl) (fun ws => by go_simp; try with_reducible rfl) ?_; go_frame   -- 16 Op.indexAddr 39 (Operand.tmp 130) (Operand.tmp 131)
                            refine pd_ld (some 133) rfl rfl (by rfl) (fun ws HS => by go_split_ands; go_simp; try with_reducible rfl) ?_; go_frame   -- 17 Op.load 33 (Operand.tmp 132)
                            refine pi_ke rfl (fun J hJ => ?_)   -- 18 Op.call { callee := Callee.value (Operand.func 22), args := #[Operand.tmp 119, Operand.tmp 126, Operand.tmp 133], argTypes := #[25, 33, 33] }
                            go_wp2_with (go_at_call 22; refine (Hc1.out _).mono ?_; rintro e w3 ⟨rfl, rfl⟩)
                            refine hJ _ _ HS2 ?_
                            refine pd_pu (some 135) rfl rfl (by rfl) (fun ws => by go_simp; try with_reducible rfl) ?_; go_frame   -- 19 Op.move (Operand.tmp 134)
                            refine pd_pu (some 136) rfl rfl (by rfl) (fun ws => by go_simp; try with_reducible rfl) ?_; go_frame   -- 20 Op.move (Operand.tmp 5)
                            refine pd_pu (some 137) rfl rfl (by rfl) (fun ws => by go_simp; try with_reducible rfl) ?_; go_frame   -- 21 Op.nilCheck (Operand.tmp 136)
                            refine pd_pu (some 138) rfl rfl (by rfl) (fun ws => by go_simp; try with_reducible rfl) ?_; go_frame   -- 22 Op.fieldAddr 42 (Operand.tmp 137) 0
                            refine pd_ld (some 139) rfl rfl (by rfl) (fun ws HS => by go_split_ands; go_simp; try with_reducible rfl) ?_; go_frame   -- 23 Op.load 25 (Operand.tmp 138)
                            refine pd_pu (some 140) rfl rfl (by rfl) (fun ws => by go_simp; try with_reducible rfl) ?_; go_frame   -- 24 Op.move (Operand.tmp 5)
                            refine pd_pu (some 141) rfl rfl (by rfl) (fun ws => by go_simp; try with_reducible rfl) ?_; go_frame   -- 25 Op.nilCheck (Operand.tmp 140)
                            refine pd_pu (some 142) rfl rfl (by rfl) (fun ws => by go_simp; try with_reducible rfl) ?_; go_frame   -- 26 Op.fieldAddr 42 (Operand.tmp 141) 2
                            refine pd_ld (some 143) rfl rfl (by rfl) (fun ws HS => by go_split_ands; go_simp; try with_reducible rfl) ?_; go_frame   -- 27 Op.load 39 (Operand.tmp 142)
                            refine pd_pu (some 144) rfl rfl (by rfl) (fun ws => by go_simp; try with_reducible rfl) ?_; go_frame   -- 28 Op.move (Operand.tmp 10)
                            refine pd_pu (some 145) rfl rfl (by rfl) (fun ws => by go_simp; try with_reducible rfl) ?_; go_frame   -- 29 Op.indexAddr 39 (Operand.tmp 143) (Operand.tmp 144)
                            refine pd_ld (some 146) rfl rfl (by rfl) (fun ws HS => by go_split_ands; go_simp; try with_reducible rfl) ?_; go_frame   -- 30 Op.load 33 (Operand.tmp 145)
                            refine pd_pu (some 147) rfl rfl (by rfl) (fun ws => by go_simp; try with_reducible rfl) ?_; go_frame   -- 31 Op.move (Operand.tmp 5)
                            refine pd_pu (some 148) rfl rfl (by rfl) (fun ws => by go_simp; try with_reducible rfl) ?_; go_frame   -- 32 Op.nilCheck (Operand.tmp 147)
                            refine pd_pu (some 149) rfl rfl (by rfl) (fun ws => by go_simp; try with_reducible rfl) ?_; go_frame   -- 33 Op.fieldAddr 42 (Operand.tmp 148) 2
                            refine pd_ld (some 150) rfl rfl (by rfl) (fun ws HS => by go_split_ands; go_simp; try with_reducible rfl) ?_; go_frame   -- 34 Op.load 39 (Operand.tmp 149)
                            refine pd_pu (some 151) rfl rfl (by rfl) (fun ws => by go_simp; try with_reducible rfl) ?_; go_frame   -- 35 Op.move (Operand.tmp 11)
                            refine pd_pu (some 152) rfl rfl (by rfl) (fun ws => by go_simp; try with_reducible rfl) ?_; go_frame   -- 36 Op.indexAddr 39 (Operand.tmp 150) (Operand.tmp 151)
                            refine pd_ld (some 153) rfl rfl (by rfl) (fun ws HS => by go_split_ands; go_simp; try with_reducible rfl) ?_; go_frame   -- 37 Op.load 33 (Operand.tmp 152)
                            refine pi_ke rfl (fun J hJ => ?_)   -- 38 Op.call { callee := Callee.value (Operand.func 22), args := #[Operand.tmp 139, Operand.tmp 146, Operand.tmp 153], argTypes := #[25, 33, 33] }
                            go_wp2_with (go_at_call 22; refine (Hc2.out _).mono ?_; rintro e w3 ⟨rfl, rfl⟩)
                            refine hJ _ _ HS2 ?_
                            refine pd_pu (some 155) rfl rfl (by rfl) (fun ws => by go_simp; try with_reducible rfl) ?_; go_frame   -- 39 Op.pick (Operand.tmp 135) (Operand.tmp 154) (Operand.const (Value.bool false))
                            refine pd_pu (some 156) rfl rfl (by rfl) (fun ws => by go_simp; try with_reducible rfl) ?_; go_frame   -- 40 Op.move (Operand.tmp 155)
                            refine pd_pu_skip (some 157) rfl rfl (by rfl) ?_; go_frame   -- 41 Op.move (Operand.tmp 5)
                            refine pd_pu_skip (some 158) rfl rfl (by rfl) ?_; go_frame   -- 42 Op.nilCheck (Operand.tmp 157)
                            refine pd_pu_skip (some 159) rfl rfl (by rfl) ?_; go_frame   -- 43 Op.fieldAddr 42 (Operand.tmp 158) 0
                            refine pd_ld_skip (some 160) rfl rfl (by rfl) ?_; go_frame   -- 44 Op.load 25 (Operand.tmp 159)
                            refine pd_pu_skip (some 161) rfl rfl (by rfl) ?_; go_frame   -- 45 Op.move (Operand.tmp 5)
                            refine pd_pu_skip (some 162) rfl rfl (by rfl) ?_; go_frame   -- 46 Op.nilCheck (Operand.tmp 161)
                            refine pd_pu_skip (some 163) rfl rfl (by rfl) ?_; go_frame   -- 47 Op.fieldAddr 42 (Operand.tmp 162) 2
                            refine pd_ld_skip (some 164) rfl rfl (by rfl) ?_; go_frame   -- 48 Op.load 39 (Operand.tmp 163)
                            refine pd_pu_skip (some 165) rfl rfl (by rfl) ?_; go_frame   -- 49 Op.move (Operand.tmp 9)
                            refine pd_pu_skip (some 166) rfl rfl (by rfl) ?_; go_frame   -- 50 Op.indexAddr 39 (Operand.tmp 164) (Operand.tmp 165)
                            refine pd_ld_skip (some 167) rfl rfl (by rfl) ?_; go_frame   -- 51 Op.load 33 (Operand.tmp 166)
                            refine pd_pu_skip (some 168) rfl rfl (by rfl) ?_; go_frame   -- 52 Op.move (Operand.tmp 5)
                            refine pd_pu_skip (some 169) rfl rfl (by rfl) ?_; go_frame   -- 53 Op.nilCheck (Operand.tmp 168)
                            refine pd_pu_skip (some 170) rfl rfl (by rfl) ?_; go_frame   -- 54 Op.fieldAddr 42 (Operand.tmp 169) 2
                            refine pd_ld_skip (some 171) rfl rfl (by rfl) ?_; go_frame   -- 55 Op.load 39 (Operand.tmp 170)
                            refine pd_pu_skip (some 172) rfl rfl (by rfl) ?_; go_frame   -- 56 Op.move (Operand.tmp 11)
                            refine pd_pu_skip (some 173) rfl rfl (by rfl) ?_; go_frame   -- 57 Op.indexAddr 39 (Operand.tmp 171) (Operand.tmp 172)
                            refine pd_ld_skip (some 174) rfl rfl (by rfl) ?_; go_frame   -- 58 Op.load 33 (Operand.tmp 173)
                            refine pi_tail (by rfl) ?_; simp only [opsAt, List.getElem?_toArray, List.getElem?_cons_zero, List.getElem?_cons_succ]   -- [(59, 'Op.call { callee := Callee.value (Operand.func 22), args := #[Operand.tmp 160, Operand.tmp 167, Operand.tmp 174], argTypes := #[25, 33, 33] }'), (60, 'Op.unOp UnOp.not 4 (Operand.tmp 175)'), (61, 'Op.pick (Operand.tmp 156) (Operand.tmp 176) (Operand.const (Value.bool false))')]
                            go_wp2
                            go_roundg (n - (j + 1))
                            case measure => omega
                            case rel => exact ⟨j + 1, by omega, by omega, by go_num, rfl, Lib.hid (HX.out.below (Below.refl _ wr).drew)⟩
                          | true =>
                            have Hc4 : Hid (∀ p : Value, Calls Try.prog 22 #[p, .pointer q1, .pointer q3] wr.drew fun e w' => e = .returned (.bool true) ∧ wr.drew = w') := Lib.hid (by intro p; first | exact Hc3.out rfl rfl p | exact Hc3.out trivial trivial p | exact Hc3.out trivial p)
                            refine wp_region_pi (fun w' => w'.cell? ⟨bx, 0, none⟩ = some (.pointer (some ⟨bo, 0, none⟩)) ∧ w'.cell? ⟨bx, 2, none⟩ = some (.slice (some ⟨gc, 0, none⟩) n cc) ∧ w'.cell? ⟨gc, i, none⟩ = some (.pointer q1) ∧ w'.cell? ⟨gc, k, none⟩ = some (.pointer q2) ∧ w'.cell? ⟨gc, j, none⟩ = some (.pointer q3)) [(0, 1), (1, 1), (2, 1), (3, 0), (4, 1), (5, 1), (6, 1), (7, 0), (8, 1), (9, 1), (10, 0), (11, 1), (12, 1), (13, 1), (14, 0), (15, 1), (16, 1), (17, 0), (18, 2), (19, 1), (20, 1), (21, 1), (22, 1), (23, 0), (24, 1), (25, 1), (26, 1), (27, 0), (28, 1), (29, 1), (30, 0), (31, 1), (32, 1), (33, 1), (34, 0), (35, 1), (36, 1), (37, 0), (38, 2), (39, 1), (40, 1), (41, 1), (42, 1), (43, 1), (44, 0), (45, 1), (46, 1), (47, 1), (48, 0), (49, 1), (50, 1), (51, 0), (52, 1), (53, 1), (54, 1), (55, 0), (56, 1), (57, 1), (58, 0), (59, 3), (60, 3), (61, 3)] [(59, [40, 39, 19, 18, 3]), (59, [40, 39, 19, 18, 10, 9, 7]), (59, [40, 39, 19, 18, 10]), (59, [40, 39, 19, 18, 17, 16, 14]), (59, [40, 39, 19, 18, 17]), (59, [40, 38, 23]), (59, [40, 38, 30, 29, 27]), (59, [40, 38, 30]), (59, [40, 38, 37, 36, 34]), (59, [40, 38, 37]), (59, [44]), (59, [51, 50, 48]), (59, [51]), (59, [58, 57, 55]), (59, [58]), (60, [40, 39, 19, 18, 3]), (60, [40, 39, 19, 18, 10, 9, 7]), (60, [40, 39, 19, 18, 10]), (60, [40, 39, 19, 18, 17, 16, 14]), (60, [40, 39, 19, 18, 17]), (60, [40, 38, 23]), (60, [40, 38, 30, 29, 27]), (60, [40, 38, 30]), (60, [40, 38, 37, 36, 34]), (60, [40, 38, 37]), (60, [59, 44]), (60, [59, 51, 50, 48]), (60, [59, 51]), (60, [59, 58, 57, 55]), (60, [59, 58]), (61, [40, 39, 19, 18, 3]), (61, [40, 39, 19, 18, 10, 9, 7]), (61, [40, 39, 19, 18, 10]), (61, [40, 39, 19, 18, 17, 16, 14]), (61, [40, 39, 19, 18, 17]), (61, [40, 38, 23]), (61, [40, 38, 30, 29, 27]), (61, [40, 38, 30]), (61, [40, 38, 37, 36, 34]), (61, [40, 38, 37]), (61, [60, 59, 44]), (61, [60, 59, 51, 50, 48]), (61, [60, 59, 51]), (61, [60, 59, 58, 57, 55]), (61, [60, 59, 58])] (by kernel_rfl) (by kernel_rfl) (fun _ _ _ _ _ h => h) (HS2) ?_
                            refine pd_pu (some 116) rfl rfl (by rfl) (fun ws => by go_simp; try with_reducible rfl) ?_; go_frame   -- 0 Op.move (Operand.tmp 5)
                            refine pd_pu (some 117) rfl rfl (by rfl) (fun ws => by go_simp; try with_reducible rfl) ?_; go_frame   -- 1 Op.nilCheck (Operand.tmp 116)
                            refine pd_pu (some 118) rfl rfl (by rfl) (fun ws => by go_simp; try with_reducible rfl) ?_; go_frame   -- 2 Op.fieldAddr 42 (Operand.tmp 117) 0
                            refine pd_ld (some 119) rfl rfl (by rfl) (fun ws HS => by go_split_ands; go_simp; try with_reducible rfl) ?_; go_frame   -- 3 Op.load 25 (Operand.tmp 118)
                            refine pd_pu (some 120) rfl rfl (by rfl) (fun ws => by go_simp; try with_reducible rfl) ?_; go_frame   -- 4 Op.move (Operand.tmp 5)
                            refine pd_pu (some 121) rfl rfl (by rfl) (fun ws => by go_simp; try with_reducible rfl) ?_; go_frame   -- 5 Op.nilCheck (Operand.tmp 120)
                            refine pd_pu (some 122) rfl rfl (by rfl) (fun ws => by go_simp; try with_reducible rfl) ?_; go_frame   -- 6 Op.fieldAddr 42 (Operand.tmp 121) 2
                            refine pd_ld (some 123) rfl rfl (by rfl) (fun ws HS => by go_split_ands; go_simp; try with_reducible rfl) ?_; go_frame   -- 7 Op.load 39 (Operand.tmp 122)
                            refine pd_pu (some 124) rfl rfl (by rfl) (fun ws => by go_simp; try with_reducible rfl) ?_; go_frame   -- 8 Op.move (Operand.tmp 9)
                            refine pd_pu (some 125) rfl rfl (by rfl) (fun ws => by go_simp; try with_reducible rfl) ?_; go_frame   -- 9 Op.indexAddr 39 (Operand.tmp 123) (Operand.tmp 124)
                            refine pd_ld (some 126) rfl rfl (by rfl) (fun ws HS => by go_split_ands; go_simp; try with_reducible rfl) ?_; go_frame   -- 10 Op.load 33 (Operand.tmp 125)
                            refine pd_pu (some 127) rfl rfl (by rfl) (fun ws => by go_simp; try with_reducible rfl) ?_; go_frame   -- 11 Op.move (Operand.tmp 5)
                            refine pd_pu (some 128) rfl rfl (by rfl) (fun ws => by go_simp; try with_reducible rfl) ?_; go_frame   -- 12 Op.nilCheck (Operand.tmp 127)
                            refine pd_pu (some 129) rfl rfl (by rfl) (fun ws => by go_simp; try with_reducible rfl) ?_; go_frame   -- 13 Op.fieldAddr 42 (Operand.tmp 128) 2
                            refine pd_ld (some 130) rfl rfl (by rfl) (fun ws HS => by go_split_ands; go_simp; try with_reducible rfl) ?_; go_frame   -- 14 Op.load 39 (Operand.tmp 129)
                            refine pd_pu (some 131) rfl rfl (by rfl) (fun ws => by go_simp; try with_reducible rfl) ?_; go_frame   -- 15 Op.move (Operand.tmp 10)
                            refine pd_pu (some 132) rfl rfl (by rfl) (fun ws => by go_simp; try with_reducible rfl) ?_; go_frame   -- 16 Op.indexAddr 39 (Operand.tmp 130) (Operand.tmp 131)
                            refine pd_ld (some 133) rfl rfl (by rfl) (fun ws HS => by go_split_ands; go_simp; try with_reducible rfl) ?_; go_frame   -- 17 Op.load 33 (Operand.tmp 132)
                            refine pi_ke rfl (fun J hJ => ?_)   -- 18 Op.call { callee := Callee.value (Operand.func 22), args := #[Operand.tmp 119, Operand.tmp 126, Operand.tmp 133], argTypes := #[25, 33, 33] }
                            go_wp2_with (go_at_call 22; refine (Hc1.out _).mono ?_; rintro e w3 ⟨rfl, rfl⟩)
                            refine hJ _ _ HS2 ?_
                            refine pd_pu (some 135) rfl rfl (by rfl) (fun ws => by go_simp; try with_reducible rfl) ?_; go_frame   -- 19 Op.move (Operand.tmp 134)
                            refine pd_pu (some 136) rfl rfl (by rfl) (fun ws => by go_simp; try with_reducible rfl) ?_; go_frame   -- 20 Op.move (Operand.tmp 5)
                            refine pd_pu (some 137) rfl rfl (by rfl) (fun ws => by go_simp; try with_reducible rfl) ?_; go_frame   -- 21 Op.nilCheck (Operand.tmp 136)
                            refine pd_pu (some 138) rfl rfl (by rfl) (fun ws => by go_simp; try with_reducible rfl) ?_; go_frame   -- 22 Op.fieldAddr 42 (Operand.tmp 137) 0
                            refine pd_ld (some 139) rfl rfl (by rfl) (fun ws HS => by go_split_ands; go_simp; try with_reducible rfl) ?_; go_frame   -- 23 Op.load 25 (Operand.tmp 138)
                            refine pd_pu (some 140) rfl rfl (by rfl) (fun ws => by go_simp; try with_reducible rfl) ?_; go_frame   -- 24 Op.move (Operand.tmp 5)
                            refine pd_pu (some 141) rfl rfl (by rfl) (fun ws => by go_simp; try with_reducible rfl) ?_; go_frame   -- 25 Op.nilCheck (Operand.tmp 140)
                            refine pd_pu (some 142) rfl rfl (by rfl) (fun ws => by go_simp; try with_reducible rfl) ?_; go_frame   -- 26 Op.fieldAddr 42 (Operand.tmp 141) 2
                            refine pd_ld (some 143) rfl rfl (by rfl) (fun ws HS => by go_split_ands; go_simp; try with_reducible rfl) ?_; go_frame   -- 27 Op.load 39 (Operand.tmp 142)
                            refine pd_pu (some 144) rfl rfl (by rfl) (fun ws => by go_simp; try with_reducible rfl) ?_; go_frame   -- 28 Op.move (Operand.tmp 10)
                            refine pd_pu (some 145) rfl rfl (by rfl) (fun ws => by go_simp; try with_reducible rfl) ?_; go_frame   -- 29 Op.indexAddr 39 (Operand.tmp 143) (Operand.tmp 144)
                            refine pd_ld (some 146) rfl rfl (by rfl) (fun ws HS => by go_split_ands; go_simp; try with_reducible rfl) ?_; go_frame   -- 30 Op.load 33 (Operand.tmp 145)
                            refine pd_pu (some 147) rfl rfl (by rfl) (fun ws => by go_simp; try with_reducible rfl) ?_; go_frame   -- 31 Op.move (Operand.tmp 5)
                            refine pd_pu (some 148) rfl rfl (by rfl) (fun ws => by go_simp; try with_reducible rfl) ?_; go_frame   -- 32 Op.nilCheck (Operand.tmp 147)
                            refine pd_pu (some 149) rfl rfl (by rfl) (fun ws => by go_simp; try with_reducible rfl) ?_; go_frame   -- 33 Op.fieldAddr 42 (Operand.tmp 148) 2
                            refine pd_ld (some 150) rfl rfl (by rfl) (fun ws HS => by go_split_ands; go_simp; try with_reducible rfl) ?_; go_frame   -- 34 Op.load 39 (Operand.tmp 149)
                            refine pd_pu (some 151) rfl rfl (by rfl) (fun ws => by go_simp; try with_reducible rfl) ?_; go_frame   -- 35 Op.move (Operand.tmp 11)
                            refine pd_pu (some 152) rfl rfl (by rfl) (fun ws => by go_simp; try with_reducible rfl) ?_; go_frame   -- 36 Op.indexAddr 39 (Operand.tmp 150) (Operand.tmp 151)
                            refine pd_ld (some 153) rfl rfl (by rfl) (fun ws HS => by go_split_ands; go_simp; try with_reducible rfl) ?_; go_frame   -- 37 Op.load 33 (Operand.tmp 152)
                            refine pi_ke rfl (fun J hJ => ?_)   -- 38 Op.call { callee := Callee.value (Operand.func 22), args := #[Operand.tmp 139, Operand.tmp 146, Operand.tmp 153], argTypes := #[25, 33, 33] }
                            go_wp2_with (go_at_call 22; refine (Hc2.out _).mono ?_; rintro e w3 ⟨rfl, rfl⟩)
                            refine hJ _ _ HS2 ?_
                            refine pd_pu (some 155) rfl rfl (by rfl) (fun ws => by go_simp; try with_reducible rfl) ?_; go_frame   -- 39 Op.pick (Operand.tmp 135) (Operand.tmp 154) (Operand.const (Value.bool false))
                            refine pd_pu (some 156) rfl rfl (by rfl) (fun ws => by go_simp; try with_reducible rfl) ?_; go_frame   -- 40 Op.move (Operand.tmp 155)
                            refine pd_pu (some 157) rfl rfl (by rfl) (fun ws => by go_simp; try with_reducible rfl) ?_; go_frame   -- 41 Op.move (Operand.tmp 5)
                            refine pd_pu (some 158) rfl rfl (by rfl) (fun ws => by go_simp; try with_reducible rfl) ?_; go_frame   -- 42 Op.nilCheck (Operand.tmp 157)
                            refine pd_pu (some 159) rfl rfl (by rfl) (fun ws => by go_simp; try with_reducible rfl) ?_; go_frame   -- 43 Op.fieldAddr 42 (Operand.tmp 158) 0
                            refine pd_ld (some 160) rfl rfl (by rfl) (fun ws HS => by go_split_ands; go_simp; try with_reducible rfl) ?_; go_frame   -- 44 Op.load 25 (Operand.tmp 159)
                            refine pd_pu (some 161) rfl rfl (by rfl) (fun ws => by go_simp; try with_reducible rfl) ?_; go_frame   -- 45 Op.move (Operand.tmp 5)
                            refine pd_pu (some 162) rfl rfl (by rfl) (fun ws => by go_simp; try with_reducible rfl) ?_; go_frame   -- 46 Op.nilCheck (Operand.tmp 161)
                            refine pd_pu (some 163) rfl rfl (by rfl) (fun ws => by go_simp; try with_reducible rfl) ?_; go_frame   -- 47 Op.fieldAddr 42 (Operand.tmp 162) 2
                            refine pd_ld (some 164) rfl rfl (by rfl) (fun ws HS => by go_split_ands; go_simp; try with_reducible rfl) ?_; go_frame   -- 48 Op.load 39 (Operand.tmp 163)
                            refine pd_pu (some 165) rfl rfl (by rfl) (fun ws => by go_simp; try with_reducible rfl) ?_; go_frame   -- 49 Op.move (Operand.tmp 9)
                            refine pd_pu (some 166) rfl rfl (by rfl) (fun ws => by go_simp; try with_reducible rfl) ?_; go_frame   -- 50 Op.indexAddr 39 (Operand.tmp 164) (Operand.tmp 165)
                            refine pd_ld (some 167) rfl rfl (by rfl) (fun ws HS => by go_split_ands; go_simp; try with_reducible rfl) ?_; go_frame   -- 51 Op.load 33 (Operand.tmp 166)
                            refine pd_pu (some 168) rfl rfl (by rfl) (fun ws => by go_simp; try with_reducible rfl) ?_; go_frame   -- 52 Op.move (Operand.tmp 5)
                            refine pd_pu (some 169) rfl rfl (by rfl) (fun ws => by go_simp; try with_reducible rfl) ?_; go_frame   -- 53 Op.nilCheck (Operand.tmp 168)
                            refine pd_pu (some 170) rfl rfl (by rfl) (fun ws => by go_simp; try with_reducible rfl) ?_; go_frame   -- 54 Op.fieldAddr 42 (Operand.tmp 169) 2
                            refine pd_ld (some 171) rfl rfl (by rfl) (fun ws HS => by go_split_ands; go_simp; try with_reducible rfl) ?_; go_frame   -- 55 Op.load 39 (Operand.tmp 170)
                            refine pd_pu (some 172) rfl rfl (by rfl) (fun ws => by go_simp; try with_reducible rfl) ?_; go_frame   -- 56 Op.move (Operand.tmp 11)
                            refine pd_pu (some 173) rfl rfl (by rfl) (fun ws => by go_simp; try with_reducible rfl) ?_; go_frame   -- 57 Op.indexAddr 39 (Operand.tmp 171) (Operand.tmp 172)
                            refine pd_ld (some 174) rfl rfl (by rfl) (fun ws HS => by go_split_ands; go_simp; try with_reducible rfl) ?_; go_frame   -- 58 Op.load 33 (Operand.tmp 173)
                            refine pi_tail (by rfl) ?_; simp only [opsAt, List.getElem?_toArray, List.getElem?_cons_zero, List.getElem?_cons_succ]   -- [(59, 'Op.call { callee := Callee.value (Operand.func 22), args := #[Operand.tmp 160, Operand.tmp 167, Operand.tmp 174], argTypes := #[25, 33, 33] }'), (60, 'Op.unOp UnOp.not 4 (Operand.tmp 175)'), (61, 'Op.pick (Operand.tmp 156) (Operand.tmp 176) (Operand.const (Value.bool false))')]
                            go_wp2_with fail
                            refine (Hc4.out _).mono ?_
                            rintro e w3 ⟨rfl, e3⟩
                            subst e3
                            go_wp2
                            go_roundg (n - (j + 1))
                            case measure => omega
                            case rel => exact ⟨j + 1, by omega, by omega, by go_num, rfl, Lib.hid (HX.out.below (Below.refl _ wr).drew)⟩
                      · have hge : (12 : Int) ≤ j := by omega
                        have hd5 : decide ((j : Int) < (n : Int)) = true := by simp; omega
                        go_wp2_with fail
                        go_roundg (n - (k + 1))
                        case measure => omega
                        case rel => exact ⟨k + 1, by omega, by omega, by go_num, rfl, HX⟩
                    · have hge : (n : Int) ≤ j := by omega
                      go_wp2_with fail
                      go_roundg (n - (k + 1))
                      case measure => omega
                      case rel => exact ⟨k + 1, by omega, by omega, by go_num, rfl, HX⟩
                · have hge : (12 : Int) ≤ k := by omega
                  have hd3 : decide ((k : Int) < (n : Int)) = true := by simp; omega
                  go_wp2_with fail
                  go_roundg (n - (i + 1))
                  case measure => omega
                  case rel => exact ⟨i + 1, by omega, by omega, by go_num, rfl, HX⟩
              · have hge : (n : Int) ≤ k := by omega
                go_wp2_with fail
                go_roundg (n - (i + 1))
                case measure => omega
                case rel => exact ⟨i + 1, by omega, by omega, by go_num, rfl, HX⟩
          · have hge : (12 : Int) ≤ i := by omega
            have hd3 : decide ((i : Int) < (n : Int)) = true := by simp; omega
            go_wp2_with (go_at_call 13; refine (awake_any _).mono ?_; rintro e w' ⟨rfl, hb⟩)
            go_ret
            exact ⟨rfl, HX.out.2.2.2.2.2.1.trans (Below.mono hb HX.out.2.2.2.2.2.1.size)⟩
        · have hge : (n : Int) ≤ i := by omega
          go_wp2_with (go_at_call 13; refine (awake_any _).mono ?_; rintro e w' ⟨rfl, hb⟩)
          go_ret
          exact ⟨rfl, HX.out.2.2.2.2.2.1.trans (Below.mono hb HX.out.2.2.2.2.2.1.size)⟩
end Go.Proofs.Ytkcaeeighjblkaa
