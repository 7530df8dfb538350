/- The law TreeOwn: the walk. No condition. -/
import Derived.Test.YtmkjajapbkdpiaaTrOwnP
namespace Go.Proofs.Ytmkjajapbkdpiaa
open Go.RowKit

theorem Wr.lo {lo lo' hi : Nat} {w : World} {a : Option Addr} {len cap : Nat} (hl : lo' ≤ lo) (h : Wr lo hi w a len cap) : Wr lo' hi w a len cap := by
  rcases h with h | ⟨g, cur, h0, h1, h2, h3, h4, h5, h6⟩
  · exact .inl h
  · refine .inr ⟨g, cur, h0, by omega, h2, h3, h4, h5, fun j hj => ?_⟩
    obtain ⟨a', n', cap', q1, q2, q3, q4⟩ := h6 j hj
    refine ⟨a', n', cap', q1, q2, q3, ?_⟩
    rcases q4 with q4 | ⟨g', cur', e, x1, x2⟩
    · exact .inl q4
    · exact .inr ⟨g', cur', e, by omega, x2⟩
/-- The three lists, and all else. -/
def Own3 (s2 s3 s4 s5 : Nat) (w6 : World) (al : Option Addr) (nl cl : Nat) (am : Option Addr) (nm cm : Nat) (ak : Option Addr) (nk ck : Nat) (w : World) : Prop :=
  Mid s2 s5 w6 w ∧ Wr s2 s3 w al nl cl ∧ Wr s3 s4 w am nm cm ∧ Wr s4 s5 w ak nk ck
/-- A node's kids, while they are written. -/
def KidW (lo hi g i : Nat) (w : World) (a' : Option Addr) (n' cap' : Nat) : Prop :=
  w.cell? ⟨g, i * 5 + 4, none⟩ = some (.slice a' n' cap') ∧ n' ≤ cap' ∧ cap' ≤ maxLen ∧ (n' = 0 ∨ ∃ g' cur', a' = some ⟨g', 0, none⟩ ∧ lo ≤ g' ∧ g' < hi ∧ g' ≠ g ∧ w.heap[g']? = some (.cells cur' 24 (0, 0)) ∧ cur'.size = cap' * 5)
theorem KidW.set {lo hi g i b q : Nat} {w : World} {a' : Option Addr} {n' cap' : Nat} (h : KidW lo hi g i w a' n' cap') (hp : b ≠ g ∨ q ≠ i * 5 + 4) (u : Value) : KidW lo hi g i (w.setCell ⟨b, q, none⟩ u) a' n' cap' := by
  obtain ⟨q1, q2, q3, q4⟩ := h
  refine ⟨?_, q2, q3, ?_⟩
  · rw [World.cell?_setCell_other _ _ _ _ (fun e => ?_)]
    · exact q1
    · injection e with e1 e2
      rcases hp with hp | hp
      · exact hp e1
      · omega
  · rcases q4 with q4 | ⟨g', cur', e, x1, x2, x3, x4, x5⟩
    · exact .inl q4
    · obtain ⟨cur3, y1, y2⟩ := row_put (b := b) (o := q) u ⟨cur', x4, x5⟩
      exact .inr ⟨g', cur3, e, x1, x2, x3, y1, y2⟩

set_option maxRecDepth 100000 in
set_option maxHeartbeats 6400000 in
theorem treeOwn_any (n0 : Nd) (v0 : Value) (w : World) (hn : NodeV w n0 v0) :
    Calls Try.prog 7 #[v0] w fun e w' => e = .returned (.bool true) ∧ Below w.heap.size w w' := by
  obtain ⟨L, hL, hLm, -⟩ := LstN.of 0 hn (Nat.le_refl _)
  have hll : L.length = n0.c.cnt + 1 := by rw [← flatN_len 0 n0, ← hLm]; simp
  obtain ⟨a, cap, e1, -, -, -⟩ := id hn
  obtain ⟨k, f, t, s, c⟩ := n0
  simp only at e1 hll
  obtain ⟨len, H1⟩ : ∃ l, Hid (c.len = l) := ⟨_, Lib.hid rfl⟩
  rw [H1.out] at e1
  subst e1
  obtain ⟨w1, Hw1⟩ : ∃ w1, Hid (w1 = w.alloc (.cells #[.int .i64 k, .int .i64 f, .int .i64 t, .string s, .slice a len cap] 24)) := ⟨_, Lib.hid rfl⟩
  obtain ⟨bn, Hbn⟩ : ∃ b, Hid (b = w.heap.size) := ⟨_, Lib.hid rfl⟩
  have HB := Lib.hid (show Below w.heap.size w w1 from by
    rw [Hw1.out]
    exact (Below.refl _ w).alloc (Nat.le_refl _) _)
  have q1 : w1.heap[bn]? = some (.cells #[.int .i64 k, .int .i64 f, .int .i64 t, .string s, .slice a len cap] 24 (0, 0)) := by
    rw [Hw1.out, Hbn.out]
    exact heap_alloc_new w _
  have HC : Hid (∀ wx, Below w1.heap.size w1 wx → (fun w' => w'.cell? ⟨bn, 0, none⟩ = some (.int .i64 k) ∧ w'.cell? ⟨bn, 1, none⟩ = some (.int .i64 f) ∧ w'.cell? ⟨bn, 2, none⟩ = some (.int .i64 t) ∧ w'.cell? ⟨bn, 3, none⟩ = some (.string s) ∧ w'.cell? ⟨bn, 4, none⟩ = some (.slice a len cap)) wx) := Lib.hid fun wx hx => by
    have e1 := (hx.block bn (Array.getElem?_eq_some_iff.1 q1).1).trans q1
    refine ⟨?_, ?_, ?_, ?_, ?_⟩ <;> (simp only [World.cell?, e1]; rfl)
  have HN := Lib.hid (show ∀ wx, Below w1.heap.size w1 wx → NodeV wx (⟨k, f, t, s, c⟩ : Nd) (.agg #[.int .i64 k, .int .i64 f, .int .i64 t, .string s, .slice a len cap]) ∧ LstN wx wx.heap.size 0 (⟨k, f, t, s, c⟩ : Nd) (.agg #[.int .i64 k, .int .i64 f, .int .i64 t, .string s, .slice a len cap]) L ∧ LstN wx w.heap.size 0 (⟨k, f, t, s, c⟩ : Nd) (.agg #[.int .i64 k, .int .i64 f, .int .i64 t, .string s, .slice a len cap]) L from fun wx hx =>
    ⟨(hn.below HB.out).below hx, (hL.up HB.out).up hx, hL.cells fun p u hp hu => cell_below hx rfl (cell_below HB.out rfl hu)⟩)
  have HI := Lib.hid (fun wx hx => in_any (⟨k, f, t, s, c⟩ : Nd) (.agg #[.int .i64 k, .int .i64 f, .int .i64 t, .string s, .slice a len cap]) wx (HN.out wx hx).1)
  obtain ⟨ta, Hta⟩ : ∃ t, Hid (decide (szF c 1 300 ≤ 300) = t) := ⟨_, Lib.hid rfl⟩
  simp only [Hta.out] at HI
  have hA := Lib.hid (Below.refl w1.heap.size w1)
  have Hll := Lib.hid hll
  clear hn hL hLm q1 hll
  go_enter Try.func7, Try.ntmps7
  go_wp2_with (go_at_call 8; refine hold ?_)
  rw [← Hw1.out]
  try rw [← Hbn.out]
  refine Hold.mk ?_
  refine (HI.out w1 hA.out).mono ?_
  rintro e w2 ⟨rfl, hb2⟩
  have hB := Lib.hid (hA.out.trans (Below.mono hb2 hA.out.size))
  clear hb2
  cases ta with
  | false =>
    go_wp2_with (go_at_call 9; refine (awake_any w2).mono ?_; rintro e w3 ⟨rfl, hb3⟩; have hG := Lib.hid hb3; clear hb3)
    go_ret
    exact ⟨rfl, HB.out.trans (Below.mono (hB.out.trans (Below.mono hG.out hB.out.size)) HB.out.size)⟩
  | true =>
    have hsm : szF c 1 300 ≤ 300 := of_decide_eq_true Hta.out
    have hct := szF_cnt c 1 300 hsm
    have Hcnt := Lib.hid (show c.cnt ≤ 299 from by omega)
    clear hsm hct
    obtain ⟨c0, c1, c2, c3, c4⟩ := HC.out w2 hB.out
    have KI : Hid (∀ wx, Below w1.heap.size w1 wx → Calls Try.prog 22 #[.agg #[.int .i64 k, .int .i64 f, .int .i64 t, .string s, .slice a len cap]] wx fun e w' => IdsR w' (wx.heap.size + 3) (nodesI L) e ∧ Below wx.heap.size wx w') := Lib.hid fun wx hx => by
      have hLx := (HN.out wx hx).2.1
      exact idents_gen (⟨k, f, t, s, c⟩ : Nd) _ wx L hLx hLx.nodes.2 (fun y hy => by have h1 : y.2.1.c.cnt ≤ c.cnt := hLx.ndP.2 y hy; have := Hcnt.out; omega) (by have := Hcnt.out; show c.cnt ≤ _; omega) (by have := Hll.out; have := Hcnt.out; omega)
    have KA : Hid (∀ wx, Below w1.heap.size w1 wx → Calls Try.prog 29 #[.agg #[.int .i64 k, .int .i64 f, .int .i64 t, .string s, .slice a len cap], .int .i64 f, .int .i64 t] wx fun e w' => ∃ a1 nn k1, e = .returned (.slice a1 nn k1) ∧ ListW w' wx.heap.size a1 nn k1 (foOf (atN f t (⟨k, f, t, s, c⟩ : Nd))) ∧ Below wx.heap.size wx w') := Lib.hid fun wx hx =>
      tat_any f t (⟨k, f, t, s, c⟩ : Nd) _ wx (HN.out wx hx).1 (by have := Hcnt.out; show c.cnt ≤ _; omega)
    have KK : Hid (∀ wx, Below w1.heap.size w1 wx → Calls Try.prog 20 #[.agg #[.int .i64 k, .int .i64 f, .int .i64 t, .string s, .slice a len cap], .slice (some ⟨wx.heap.size, 0, none⟩) 3 3] (wx.alloc (.cells #[.int .i64 40, .int .i64 44, .int .i64 60] 3)) fun e w' => ∃ a1 nn k1, e = .returned (.slice a1 nn k1) ∧ KidsR (wx.alloc (.cells #[.int .i64 40, .int .i64 44, .int .i64 60] 3)) w' [40, 44, 60] c c.len a1 nn k1) := Lib.hid fun wx hx => by
      have hwa : Below wx.heap.size wx (wx.alloc (.cells #[.int .i64 40, .int .i64 44, .int .i64 60] 3)) := (Below.refl _ wx).alloc (Nat.le_refl _) _
      exact tkids_any (⟨k, f, t, s, c⟩ : Nd) _ _ 3 3 [40, 44, 60] _ (HN.out _ (hx.trans (Below.mono hwa hx.size))).1 ⟨rfl, fun i hi => ⟨_, rfl, by
        rw [add0]
        have := heap_alloc_new wx (.cells #[.int .i64 40, .int .i64 44, .int .i64 60] 3)
        simp only [World.cell?, this]
        match i, hi with
        | 0, _ => rfl
        | 1, _ => rfl
        | 2, _ => rfl⟩⟩ (by omega) (by have := Hcnt.out; show c.cnt ≤ _; omega)
    have KL : Hid (∀ wx, Below w1.heap.size w1 wx → Calls Try.prog 31 #[.agg #[.int .i64 k, .int .i64 f, .int .i64 t, .string s, .slice a len cap]] wx fun e w' => ∃ a1 n c1, e = .returned (.slice a1 n c1) ∧ AllB wx w.heap.size L w' a1 n c1) := Lib.hid fun wx hx =>
      rall_anyB (⟨k, f, t, s, c⟩ : Nd) _ L wx w.heap.size (Nat.le_trans HB.out.size hx.size) (HN.out wx hx).2.2 (by have := Hcnt.out; show c.cnt ≤ _; omega) (by have := Hll.out; have := Hcnt.out; omega)
    have hc2 := hB
    go_upto_region 8 with first
      | (go_at_call 22; refine (KI.out w2 hB.out).mono ?_; rintro e w3 ⟨⟨al, nl, cl, Ll, rfl, x1, x2, x3⟩, hb⟩; have HLi := Lib.hid (And.intro x1 (And.intro x2 (And.intro x3 hb))); have hC := Lib.hid (hB.out.trans (Below.mono hb hB.out.size)); obtain ⟨d0, d1, d2, d3, d4⟩ := HC.out w3 hC.out; clear x1 x2 x3 hb)
      | (go_at_call 29; refine (KA.out w3 hC.out).mono ?_; rintro e w4 ⟨am, nm, cm, rfl, x1, hb⟩; have HMi := Lib.hid (And.intro x1 hb); have hD := Lib.hid (hC.out.trans (Below.mono hb hC.out.size)); obtain ⟨e0, e1, e2, e3, e4⟩ := HC.out w4 hD.out; clear x1 hb)
      | (go_at_call 20; refine (KK.out w4 hD.out).mono ?_; rintro e w5 ⟨ak, nk, ck, rfl, Lk, x1, x2, x3, hb⟩; have HKi := Lib.hid (And.intro x1 (And.intro x2 (And.intro x3 hb))); have hE := Lib.hid (hD.out.trans (Below.mono (((Below.refl _ w4).alloc (Nat.le_refl _) (.cells #[.int .i64 40, .int .i64 44, .int .i64 60] 3)).trans (Below.mono hb (by simp))) hD.out.size)); obtain ⟨g0, g1, g2, g3, g4⟩ := HC.out w5 hE.out; clear x1 x2 x3 hb)
      | (go_at_call 31; refine (KL.out w5 hE.out).mono ?_; rintro e w6 ⟨aw, nw, cw, rfl, hw⟩; have HWi := Lib.hid hw; clear hw)
    clear c0 c1 c2 c3 c4 d0 d1 d2 d3 d4 e0 e1 e2 e3 e4 g0 g1 g2 g3 g4
    have h45 : w4.heap.size ≤ w5.heap.size := by
      have := HKi.out.2.2.2.size
      simp at this
      omega
    have h34 : w3.heap.size ≤ w4.heap.size := HMi.out.2.size
    have h23 : w2.heap.size ≤ w3.heap.size := HLi.out.2.2.2.size
    have hnl : nl ≤ 1000 := by
      obtain ⟨x1, x2, x3, hb⟩ := HLi.out
      have e := congrArg List.length x3
      have h2 := List.length_filter_le isId L
      unfold nodesI at e
      simp only [List.length_map] at e
      have := Hll.out
      have := Hcnt.out
      omega
    have hnm : nm ≤ 1000 := by
      have e := HMi.out.1.1
      rw [foOf_len] at e
      have h1 := atN_len f t (⟨k, f, t, s, c⟩ : Nd)
      have h1 : _ ≤ c.cnt + 1 := h1
      have := Hcnt.out
      omega
    have hnk : nk ≤ 1000 := by
      obtain ⟨x1, x2, x3, hb⟩ := HKi.out
      have e := congrArg List.length x3
      have h1 := kidsOf_len [40, 44, 60] c c.len
      have h2 := Fo.len_cnt c
      simp only [List.length_map] at e
      have := Hcnt.out
      omega
    have HF := Lib.hid (show Own3 w2.heap.size w3.heap.size w4.heap.size w5.heap.size w6 al nl cl am nm cm ak nk ck w6 from by
      obtain ⟨x1, x2, x3, hb⟩ := HLi.out
      obtain ⟨y1, hb4⟩ := HMi.out
      obtain ⟨z1, z2, z3, hb5⟩ := HKi.out
      have hb6 := HWi.out.2.2.2
      have hb45 : Below w4.heap.size w4 w5 := ((Below.refl _ w4).alloc (Nat.le_refl _) (.cells #[.int .i64 40, .int .i64 44, .int .i64 60] 3)).trans (Below.mono hb5 (by simp))
      have hb46 : Below w4.heap.size w4 w6 := hb45.trans (Below.mono hb6 hb45.size)
      exact ⟨Mid.refl _ _ _, (((x2.wr x1).lo (by omega)).below (hb4.trans (Below.mono hb46 hb4.size))), y1.wr.below hb46, ((z2.wr z1).lo (by simp)).below hb6⟩)
    have HW := Lib.hid (show nw = L.length ∧ KidsP (fun k => k < w.heap.size ∨ w5.heap.size ≤ k) w6 aw 0 (foOf (L.map (·.2.1))) ∧ Below w1.heap.size w1 w6 from by
      obtain ⟨x1, x2, x3, x4⟩ := HWi.out
      have hk := row_kids (P := (· < w.heap.size)) (Q := fun k => k < w.heap.size ∨ w5.heap.size ≤ k) (L := L.map (·.2)) (fun k hk => .inl hk) (fun g e => .inr (x3 g (by rw [List.length_map, x1] at e; exact e))) (by rw [List.length_map, x1]; exact row_len x2.row (by rw [List.length_map, x1])) x2.low
      rw [List.map_map] at hk
      exact ⟨x1.symm, hk, hE.out.trans (Below.mono x4 hE.out.size)⟩)
    clear HLi HMi HKi HWi KI KA KK hc2 hC hD
    have h12 : w1.heap.size ≤ w2.heap.size := hB.out.size
    go_loopg [7] nl (fun gg v7 wr => ∃ i : Nat, i ≤ nl ∧ v7 = .int .i64 i ∧ gg = nl - i ∧ Hid (Own3 w2.heap.size w3.heap.size w4.heap.size w5.heap.size w6 al nl cl am nm cm ak nk ck wr))
    case atStart => exact ⟨0, Nat.zero_le _, rfl, rfl, HF⟩
    case round =>
      clear HF
      obtain ⟨i, hi, rfl, hgg, Hr⟩ := hrel
      by_cases hlt : i < nl
      · obtain ⟨hm, hl, h2, h3⟩ := Hr.out
        obtain ⟨g, cur, rfl, x1, x2, x3, x4, x5, -⟩ : ∃ g cur, al = some ⟨g, 0, none⟩ ∧ w2.heap.size ≤ g ∧ g < w3.heap.size ∧ wr.heap[g]? = some (.cells cur 24 (0, 0)) ∧ cur.size = cl * 5 ∧ nl ≤ cl ∧ True := by
          rcases hl with h | ⟨g, cur, e, x1, x2, x3, x4, x5, _⟩
          · omega
          · exact ⟨g, cur, e, x1, x2, x3, x4, x5, trivial⟩
        obtain ⟨⟨u0, u1, u2, u3, u4, k0, k1, k2, k3, k4⟩, fz⟩ := five_cells (i := i * 5) x3 (by omega)
        have f3 := fz (i * 5 + 3)
        have HF : Hid (Own3 w2.heap.size w3.heap.size w4.heap.size w5.heap.size w6 (some ⟨g, 0, none⟩) nl cl am nm cm ak nk ck (wr.setCell ⟨g, i * 5 + 3, none⟩ (.string ⟨#[63]⟩))) :=
          Lib.hid ⟨hm.set x1 (by simp only; omega) _, hl.set (fun g' e => .inr ⟨i, 3, by omega, rfl⟩) _, h2.other (.inl x2) _, h3.other (.inl (by simp only; omega)) _⟩
        clear hm hl h2 h3 fz Hr k0 k1 k2 k4
        go_wp2_with fail
        go_roundg (nl - (i + 1))
        case measure => omega
        case rel => exact ⟨i + 1, by omega, by go_num, rfl, HF⟩
      · have hge : nl ≤ i := by omega
        clear hlt
        have HF := Hr
        clear Hr
        go_wp2_with fail
        go_loopg [8] nm (fun gg v wr => ∃ i : Nat, i ≤ nm ∧ v = .int .i64 i ∧ gg = nm - i ∧ Hid (Own3 w2.heap.size w3.heap.size w4.heap.size w5.heap.size w6 al nl cl am nm cm ak nk ck wr))
        case atStart => exact ⟨0, Nat.zero_le _, rfl, rfl, HF⟩
        case round =>
          clear HF
          rename World => wo
          obtain ⟨i, hi, rfl, hgg, Hr⟩ := hrel
          by_cases hlt : i < nm
          · obtain ⟨hm, h1, h2, h3⟩ := Hr.out
            obtain ⟨g, cur, rfl, x1, x2, x3, x4, x5, x6⟩ : ∃ g cur, am = some ⟨g, 0, none⟩ ∧ w3.heap.size ≤ g ∧ g < w4.heap.size ∧ wo.heap[g]? = some (.cells cur 24 (0, 0)) ∧ cur.size = cm * 5 ∧ nm ≤ cm ∧ ∃ a' n' cap', KidW w3.heap.size w4.heap.size g i wo a' n' cap' := by
              rcases h2 with h | ⟨g, cur, e, x1, x2, x3, x4, x5, x6⟩
              · omega
              · exact ⟨g, cur, e, x1, x2, x3, x4, x5, x6 i hlt⟩
            obtain ⟨a', n', cap', hk⟩ := x6
            obtain ⟨⟨u0, u1, u2, u3, u4, k0, k1, k2, k3, k4⟩, fz⟩ := five_cells (i := i * 5) x3 (by omega)
            have ff := fz (i * 5 + 3)
            obtain ⟨wb, Hwb⟩ : ∃ wb, Hid (wb = wo.setCell ⟨g, i * 5 + 3, none⟩ (.string ⟨#[63]⟩)) := ⟨_, Lib.hid rfl⟩
            have HF : Hid (Own3 w2.heap.size w3.heap.size w4.heap.size w5.heap.size w6 al nl cl (some ⟨g, 0, none⟩) nm cm ak nk ck wb ∧ KidW w3.heap.size w4.heap.size g i wb a' n' cap') := Lib.hid (by
              rw [Hwb.out]
              exact ⟨⟨hm.set (by simp only; omega) (by simp only; omega) _, h1.other (.inr (by simp only; omega)) _, h2.set (fun g' e => .inr ⟨i, 3, by omega, rfl⟩) _, h3.other (.inl (by simp only; omega)) _⟩, hk.set (.inr (by omega)) _⟩)
            have hn9 : n' ≤ 9223372036854775807 := by
              have h8 := hk.2.1
              have h9 := hk.2.2.1
              unfold maxLen at h9
              omega
            clear hm h1 h2 h3 fz Hr hk k0 k1 k2 k4
            go_upto_region 16 with fail
            rw [← Hwb.out]
            clear k3 ff
            go_loopg [9] n' (fun gg v wi => ∃ j : Nat, j ≤ n' ∧ v = .int .i64 j ∧ gg = n' - j ∧ Hid (Own3 w2.heap.size w3.heap.size w4.heap.size w5.heap.size w6 al nl cl (some ⟨g, 0, none⟩) nm cm ak nk ck wi ∧ KidW w3.heap.size w4.heap.size g i wi a' n' cap'))
            case atStart => exact ⟨0, Nat.zero_le _, rfl, rfl, HF⟩
            case round =>
              clear HF
              obtain ⟨j, hj, rfl, hgj, Hi⟩ := hrel
              have kc := Hi.out.2.1
              by_cases hjl : j < n'
              · obtain ⟨⟨hm, h1, h2, h3⟩, hk⟩ := Hi.out
                obtain ⟨g', cur', rfl, y1, y2, y3, y4, y5⟩ : ∃ g' cur', a' = some ⟨g', 0, none⟩ ∧ w3.heap.size ≤ g' ∧ g' < w4.heap.size ∧ g' ≠ g ∧ wr.heap[g']? = some (.cells cur' 24 (0, 0)) ∧ cur'.size = cap' * 5 := by
                  rcases hk.2.2.2 with h | h
                  · omega
                  · exact h
                have hcc := hk.2.1
                obtain ⟨⟨u0, u1, u2, u3, u4, k0, k1, k2, k3, k4⟩, fz⟩ := five_cells (i := j * 5) y4 (by omega)
                have ff := fz (j * 5 + 3)
                have HF : Hid (Own3 w2.heap.size w3.heap.size w4.heap.size w5.heap.size w6 al nl cl (some ⟨g, 0, none⟩) nm cm ak nk ck (wr.setCell ⟨g', j * 5 + 3, none⟩ (.string ⟨#[63]⟩)) ∧ KidW w3.heap.size w4.heap.size g i (wr.setCell ⟨g', j * 5 + 3, none⟩ (.string ⟨#[63]⟩)) (some ⟨g', 0, none⟩) n' cap') :=
                  Lib.hid ⟨⟨hm.set (by simp only; omega) (by simp only; omega) _, h1.other (.inr (by simp only; omega)) _, h2.set (fun g2 e => .inl (by cases e; exact y3)) _, h3.other (.inl (by simp only; omega)) _⟩, hk.set (.inl y3) _⟩
                clear hm h1 h2 h3 fz hk Hi k0 k1 k2 k4
                go_wp2_with fail
                go_roundg (n' - (j + 1))
                case measure => omega
                case rel => exact ⟨j + 1, by omega, by go_num, rfl, HF⟩
              · have hge2 : n' ≤ j := by omega
                have HF := Lib.hid Hi.out.1
                clear hjl Hi
                go_wp2_with fail
                go_roundg (nm - (i + 1))
                case measure => omega
                case rel => exact ⟨i + 1, by omega, by go_num, rfl, HF⟩
          · have hge : nm ≤ i := by omega
            clear hlt
            have HF := Hr
            clear Hr
            go_wp2_with fail
            go_loopg [10] nk (fun gg v wr => ∃ i : Nat, i ≤ nk ∧ v = .int .i64 i ∧ gg = nk - i ∧ Hid (Own3 w2.heap.size w3.heap.size w4.heap.size w5.heap.size w6 al nl cl am nm cm ak nk ck wr))
            case atStart => exact ⟨0, Nat.zero_le _, rfl, rfl, HF⟩
            case round =>
              clear HF
              rename World => wo
              obtain ⟨i, hi, rfl, hgg, Hr⟩ := hrel
              by_cases hlt : i < nk
              · obtain ⟨hm, h1, h2, h3⟩ := Hr.out
                obtain ⟨g, cur, rfl, x1, x2, x3, x4, x5, x6⟩ : ∃ g cur, ak = some ⟨g, 0, none⟩ ∧ w4.heap.size ≤ g ∧ g < w5.heap.size ∧ wo.heap[g]? = some (.cells cur 24 (0, 0)) ∧ cur.size = ck * 5 ∧ nk ≤ ck ∧ ∃ a' n' cap', KidW w4.heap.size w5.heap.size g i wo a' n' cap' := by
                  rcases h3 with h | ⟨g, cur, e, x1, x2, x3, x4, x5, x6⟩
                  · omega
                  · exact ⟨g, cur, e, x1, x2, x3, x4, x5, x6 i hlt⟩
                obtain ⟨a', n', cap', hk⟩ := x6
                obtain ⟨⟨u0, u1, u2, u3, u4, k0, k1, k2, k3, k4⟩, fz⟩ := five_cells (i := i * 5) x3 (by omega)
                have ff := fz (i * 5)
                obtain ⟨wb, Hwb⟩ : ∃ wb, Hid (wb = wo.setCell ⟨g, i * 5, none⟩ (.int .i64 (-1))) := ⟨_, Lib.hid rfl⟩
                have HF : Hid (Own3 w2.heap.size w3.heap.size w4.heap.size w5.heap.size w6 al nl cl am nm cm (some ⟨g, 0, none⟩) nk ck wb ∧ KidW w4.heap.size w5.heap.size g i wb a' n' cap') := Lib.hid (by
                  rw [Hwb.out]
                  exact ⟨⟨hm.set (by simp only; omega) (by simp only; omega) _, h1.other (.inr (by simp only; omega)) _, h2.other (.inr (by simp only; omega)) _, h3.set (fun g' e => .inr ⟨i, 0, by omega, rfl⟩) _⟩, hk.set (.inr (by omega)) _⟩)
                have hn9 : n' ≤ 9223372036854775807 := by
                  have h8 := hk.2.1
                  have h9 := hk.2.2.1
                  unfold maxLen at h9
                  omega
                clear hm h1 h2 h3 fz Hr hk k1 k2 k3 k4
                go_upto_region 24 with fail
                rw [← Hwb.out]
                clear k0 ff
                go_loopg [11] n' (fun gg v wi => ∃ j : Nat, j ≤ n' ∧ v = .int .i64 j ∧ gg = n' - j ∧ Hid (Own3 w2.heap.size w3.heap.size w4.heap.size w5.heap.size w6 al nl cl am nm cm (some ⟨g, 0, none⟩) nk ck wi ∧ KidW w4.heap.size w5.heap.size g i wi a' n' cap'))
                case atStart => exact ⟨0, Nat.zero_le _, rfl, rfl, HF⟩
                case round =>
                  clear HF
                  obtain ⟨j, hj, rfl, hgj, Hi⟩ := hrel
                  have kc := Hi.out.2.1
                  by_cases hjl : j < n'
                  · obtain ⟨⟨hm, h1, h2, h3⟩, hk⟩ := Hi.out
                    obtain ⟨g', cur', rfl, y1, y2, y3, y4, y5⟩ : ∃ g' cur', a' = some ⟨g', 0, none⟩ ∧ w4.heap.size ≤ g' ∧ g' < w5.heap.size ∧ g' ≠ g ∧ wr.heap[g']? = some (.cells cur' 24 (0, 0)) ∧ cur'.size = cap' * 5 := by
                      rcases hk.2.2.2 with h | h
                      · omega
                      · exact h
                    have hcc := hk.2.1
                    obtain ⟨⟨u0, u1, u2, u3, u4, k0, k1, k2, k3, k4⟩, fz⟩ := five_cells (i := j * 5) y4 (by omega)
                    have ff := fz (j * 5)
                    have HF : Hid (Own3 w2.heap.size w3.heap.size w4.heap.size w5.heap.size w6 al nl cl am nm cm (some ⟨g, 0, none⟩) nk ck (wr.setCell ⟨g', j * 5, none⟩ (.int .i64 (-1))) ∧ KidW w4.heap.size w5.heap.size g i (wr.setCell ⟨g', j * 5, none⟩ (.int .i64 (-1))) (some ⟨g', 0, none⟩) n' cap') :=
                      Lib.hid ⟨⟨hm.set (by simp only; omega) (by simp only; omega) _, h1.other (.inr (by simp only; omega)) _, h2.other (.inr (by simp only; omega)) _, h3.set (fun g2 e => .inl (by cases e; exact y3)) _⟩, hk.set (.inl y3) _⟩
                    clear hm h1 h2 h3 fz hk Hi k1 k2 k3 k4
                    go_wp2_with fail
                    go_roundg (n' - (j + 1))
                    case measure => omega
                    case rel => exact ⟨j + 1, by omega, by go_num, rfl, HF⟩
                  · have hge2 : n' ≤ j := by omega
                    have HF := Lib.hid Hi.out.1
                    clear hjl Hi
                    go_wp2_with fail
                    go_roundg (nk - (i + 1))
                    case measure => omega
                    case rel => exact ⟨i + 1, by omega, by go_num, rfl, HF⟩
              · have hge : nk ≤ i := by omega
                clear hlt
                have HX := Lib.hid (show Below w1.heap.size w1 wo ∧ KidsAt wo aw 0 (foOf (L.map (·.2.1))) from by
                  have hm := Hr.out.1
                  obtain ⟨x1, x2, x3⟩ := HW.out
                  refine ⟨hm.below x3 h12, (x2.cells (w' := wo) fun p u hp hc => ?_).at⟩
                  refine cell_same (fun cs t fr e => (hm.block p.block ?_).trans e) hc
                  have hp : p.block < w.heap.size ∨ w5.heap.size ≤ p.block := hp
                  have := HB.out.size
                  omega)
                have hnw : nw = L.length := HW.out.1
                subst hnw
                obtain ⟨c0, c1, c2, c3, c4⟩ := HC.out wo HX.out.1
                clear Hr HW
                go_wp2_with first
                  | (go_at_call 31; refine (KL.out wo HX.out.1).mono ?_; rintro e w7 ⟨a7, n7, k7, rfl, y1, y2, y3, y4⟩; subst y1; have HY := Lib.hid (show KidsAt w7 a7 0 (foOf (L.map (·.2.1))) ∧ KidsAt w7 aw 0 (foOf (L.map (·.2.1))) ∧ Below w1.heap.size w1 w7 from ⟨by have hk := (row_kids (P := (· < w.heap.size)) (Q := fun _ => True) (L := L.map (·.2)) (fun _ _ => trivial) (fun _ _ => trivial) (by rw [List.length_map]; exact row_len y2.row (by rw [List.length_map])) y2.low).at; rw [List.map_map] at hk; exact hk, HX.out.2.below y4 rfl, HX.out.1.trans (Below.mono y4 HX.out.1.size)⟩); clear y2 y3 y4)
                  | (go_at_call 19; refine (rows_same (foOf (L.map (·.2.1))) a7 aw L.length k7 cw w7 (by rw [foOf_len, List.length_map]) (by have := Hll.out; have := Hcnt.out; omega) HY.out.1 HY.out.2.1).mono ?_; rintro e w8 ⟨rfl, hb⟩; have HZ := Lib.hid (HY.out.2.2.trans (Below.mono hb HY.out.2.2.size)); clear hb)
                  | (go_at_call 9; refine (awake_any w8).mono ?_; rintro e w9 ⟨rfl, hb⟩; have HV := Lib.hid (HZ.out.trans (Below.mono hb HZ.out.size)); clear hb)
                go_ret
                exact ⟨rfl, HB.out.trans (Below.mono HV.out HB.out.size)⟩
end Go.Proofs.Ytmkjajapbkdpiaa
