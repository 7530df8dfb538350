/- recastref4.Flat: the walk. No condition. -/
import Derived.Test.YtmkjajapbkdpiaaTrFlat
namespace Go.Proofs.Ytmkjajapbkdpiaa
open Go.RowKit

theorem two_mid {w w3 : World} {B n g : Nat} {lv av : Value} {xs ds : List Value} {o1 : Obj} (h : Two w B lv av n xs ds) (hat : AppAt (w.alloc o1) lv g w3) : w3.ownsRow B 3 1 av n ds :=
  row_same h.a (fun k e => (hat.grown.block k (by have := (h.a.lt k e).2; simp; omega) (fun e2 => h.apart e2.symm e)).trans (Below.heap_alloc _ _ _ (h.a.lt k e).2))

theorem Two.low {w w' : World} {B n : Nat} {lv av lv' av' : Value} {xs ds : List Value} (h : Two w B lv av n xs ds) (hr : RFr w lv av w' lv' av') (_hB : B ≤ w.heap.size) : ∀ (p : Addr) (v : Value), p.block < B → w.cell? p = some v → w'.cell? p = some v := fun p v hp hc =>
  hr.cell (fun e => by have := (h.l.lt p.block e).1; omega) (fun e => by have := (h.a.lt p.block e).1; omega) hc

set_option maxRecDepth 100000 in
set_option maxHeartbeats 800000 in
theorem flat_any : ∀ (m : Nat) (nd : Nd) (v : Value) (d : Int) (lv av : Value) (n B : Nat) (xs ds : List Value) (L : List Item) (w : World), nd.c.cnt < m → LstN w B d nd v L → Two w B lv av n xs ds → B ≤ w.heap.size → n + L.length ≤ 1000000 → 0 ≤ d → d + nd.c.cnt ≤ 1000000000 →
    Calls Try.prog 10 #[v, .int .i64 d, lv, av] w (FlatPost B n lv av xs ds L w) := by
  intro m
  induction m with
  | zero => intro nd v d lv av n B xs ds L w h; omega
  | succ m ih =>
    intro nd v d lv av n B xs ds L w hm hL hT hBw hN hd0 hd1
    obtain ⟨ni, hni, hnz, hns, hnb⟩ := info_parts infoNd5
    obtain ⟨i0, hi0, hz0, hz1, hz2⟩ := info_parts Try.info3
    obtain ⟨a, cap, Lk, rfl, hl1, hl2, rfl, hLk⟩ := hL
    obtain ⟨k, f, t, s, c⟩ := nd
    simp only at hl1 hl2 hLk hm hd1
    obtain ⟨la, lc, e1⟩ := row_form hT.l
    obtain ⟨aa, ac, e2⟩ := row_form hT.a
    subst e1
    subst e2
    obtain ⟨len, Hlen⟩ : ∃ len, Hid (c.len = len) := ⟨_, Lib.hid rfl⟩
    rw [Hlen.out] at hl1 hN ⊢
    have hls : len ≤ 9223372036854775807 := by unfold maxLen at hl2; omega
    have hdb : d ≤ 1000000000 := by omega
    have hn1 : n + 1 + Lk.length ≤ 1000000 := by simp at hN; omega
    obtain ⟨x, Hx⟩ : ∃ x : Item, Hid (x = (d, ⟨k, f, t, s, c⟩, valOf k f t s a len cap)) := ⟨_, Lib.hid rfl⟩
    have HH := Lib.hid (And.intro hm (And.intro hd1 hBw))
    have HL := Lib.hid hLk
    have HT := Lib.hid hT
    clear hm hd1 hBw hLk hT hN
    unfold valOf
    go_enter Try.func10, Try.ntmps10
    go_upto_region 1 with fail
    obtain ⟨w1, Hw1⟩ : ∃ w1, Hid (w1 = w.alloc (.cells #[.int .i64 k, .int .i64 f, .int .i64 t, .string s, .slice a len cap] 24)) := ⟨_, Lib.hid rfl⟩
    obtain ⟨bs, Hbs⟩ : ∃ bs, Hid (bs = w.heap.size) := ⟨_, Lib.hid rfl⟩
    rw [← Hw1.out]
    try rw [← Hbs.out]
    have hbx : w1.heap[bs]? = some (.cells #[.int .i64 k, .int .i64 f, .int .i64 t, .string s, .slice a len cap] 24 (0, 0)) := by rw [Hw1.out, Hbs.out]; exact heap_alloc_new w _
    have HT1 := Lib.hid (show Two w1 B (.slice la n lc) (.slice aa n ac) n xs ds from by rw [Hw1.out]; exact HT.out.alloc _)
    have HR1 := Lib.hid (show RFr w (.slice la n lc) (.slice aa n ac) w1 (.slice la n lc) (.slice aa n ac) from by rw [Hw1.out]; exact RFr.alloc w _ _ _)
    have b0 : w1.cell? ⟨bs, 0, none⟩ = some (.int .i64 k) := by simp only [World.cell?, hbx]; rfl
    have b1 : w1.cell? ⟨bs, 1, none⟩ = some (.int .i64 f) := by simp only [World.cell?, hbx]; rfl
    have b2 : w1.cell? ⟨bs, 2, none⟩ = some (.int .i64 t) := by simp only [World.cell?, hbx]; rfl
    have b3 : w1.cell? ⟨bs, 3, none⟩ = some (.string s) := by simp only [World.cell?, hbx]; rfl
    have b4 : w1.cell? ⟨bs, 4, none⟩ = some (.slice a len cap) := by simp only [World.cell?, hbx]; rfl
    have hB1 : B ≤ w1.heap.size := by have := HR1.out.size; have := HH.out.2.2; omega
    clear hbx
    go_upto_region 2 with (refine wpList_app _ rfl _ _ _ rfl B 24 ni _ 5 64 Try.underlying22 hni hnz hns hnb rfl (.slice la n lc) n xs rfl (HT1.out.l.alloc _) ⟨w1.heap.size, 0, none⟩ 1 1 [.int .i64 k, .int .i64 f, .int .i64 t, .string s, .slice a len cap] rfl rfl (World.news_of_block (cs := #[.int .i64 k, .int .i64 f, .int .i64 t, .string s, .slice a len cap]) (t := 24) (fr := (0, 0)) (heap_alloc_new w1 _)) (fun u hu => by simp at hu; rcases hu with h | h | h | h | h <;> (subst h; rfl)) (by omega) (by unfold maxLen; omega) (by omega) (by simp; omega) ?_; intro g gc w3 hown hat)
    have Hm := Lib.hid (two_mid HT1.out hat)
    have HA := Lib.hid (And.intro hown hat)
    have hs3 : B ≤ w3.heap.size := by have := (RFr.appL (av := .slice aa n ac) (n := 0) (cap := 0) hat).size; simp at this; omega
    clear hown hat
    go_upto_region 3 with (refine wpList_app _ rfl _ _ _ rfl B 3 i0 _ 1 8 Try.underlying27 hi0 hz0 hz1 hz2 rfl (.slice aa n ac) n ds rfl (Hm.out.alloc _) ⟨w3.heap.size, 0, none⟩ 1 1 [.int .i64 d] rfl rfl (World.news_of_block (cs := #[.int .i64 d]) (t := 3) (fr := (0, 0)) (heap_alloc_new w3 _)) (fun u hu => by simp at hu; subst hu; rfl) (by omega) (by unfold maxLen; omega) (by omega) (by simp; omega) ?_; intro g2 gc2 w5 hown2 hat2)
    obtain ⟨hT5, hR5⟩ := two_next HT1.out HA.out.1 HA.out.2 hown2 hat2
    have hR05 := HR1.out.trans hR5
    have hlow : ∀ (p : Addr) (v : Value), p.block < B → w.cell? p = some v → w5.cell? p = some v := fun p v hp hc => HT.out.low hR05 HH.out.2.2 p v hp hc
    have hbs : ∀ (w' : World) (lv' av' : Value), RFr w1 (.slice la n lc) (.slice aa n ac) w' lv' av' → w'.cell? ⟨bs, 4, none⟩ = some (.slice a len cap) := fun w' lv' av' hr =>
      hr.cell (p := ⟨bs, 4, none⟩) (fun e => by have h9 := (HT.out.l.lt bs e).2; have := Hbs.out; omega) (fun e => by have h9 := (HT.out.a.lt bs e).2; have := Hbs.out; omega) b4
    have Hb := Lib.hid hbs
    have H0 := Lib.hid (show Lk = [] ++ Lk ∧ LstF w5 B (d + 1) a 0 (c.drop 0) Lk ∧ Two w5 B (.slice (some ⟨g, 0, none⟩) (n + 1) gc) (.slice (some ⟨g2, 0, none⟩) (n + 1) gc2) (n + 1 + ([] : List Item).length) (xs ++ itemC x ++ flatC []) (ds ++ [.int .i64 d] ++ flatD []) ∧
        RFr w1 (.slice la n lc) (.slice aa n ac) w5 (.slice (some ⟨g, 0, none⟩) (n + 1) gc) (.slice (some ⟨g2, 0, none⟩) (n + 1) gc2) from
      ⟨rfl, by rw [show c.drop 0 = c by cases c <;> rfl]; exact HL.out.cells (fun p v hp hc => hlow p v hp hc), by
        have e : itemC x = [.int .i64 k, .int .i64 f, .int .i64 t, .string s, .slice a len cap] := by rw [Hx.out]; rfl
        rw [e]
        simpa [flatC, flatD] using hT5, hR5⟩)
    clear hown2 hat2 hT5 hR5 hR05 hlow hbs HA Hm hs3 b0 b1 b2 b3 b4 hB1
    go_wp2_with fail
    go_loopg [2, 3, 10] len (fun gg v2 v3 v10 wr => ∃ (i nn : Nat) (a1 a2 : Option Addr) (k1 k2 : Nat), i ≤ len ∧ v10 = .int .i64 i ∧ v2 = .slice a1 nn k1 ∧ v3 = .slice a2 nn k2 ∧ gg = len - i ∧ nn ≤ 1000000 ∧
      Hid (∃ Ld Lr, nn = n + 1 + Ld.length ∧ Lk = Ld ++ Lr ∧ LstF wr B (d + 1) a i (c.drop i) Lr ∧ Two wr B (.slice a1 nn k1) (.slice a2 nn k2) nn (xs ++ itemC x ++ flatC Ld) (ds ++ [.int .i64 d] ++ flatD Ld) ∧ RFr w1 (.slice la n lc) (.slice aa n ac) wr (.slice a1 nn k1) (.slice a2 nn k2)))
    case atStart => exact ⟨0, n + 1, _, _, _, _, Nat.zero_le _, rfl, rfl, rfl, rfl, by omega, Lib.hid ⟨[], Lk, rfl, H0.out⟩⟩
    case round =>
      clear H0
      obtain ⟨i, nn, a1, a2, k1, k2, hi, rfl, rfl, rfl, hgg, hnn, Hr⟩ := hrel
      obtain ⟨Ld, Lr, hnn2, hLe, hLr, hTr, hRr⟩ := Hr.out
      have c4 := Hb.out _ _ _ hRr
      by_cases hlt : i < len
      · rw [Fo.drop_get c i (by rw [Hlen.out]; exact hlt)] at hLr
        have hcn := Fo.get_cnt c i (by rw [Hlen.out]; exact hlt)
        obtain ⟨nd, Hnd⟩ : ∃ nd, Hid (c.get i = nd) := ⟨_, Lib.hid rfl⟩
        rw [Hnd.out] at hLr hcn
        obtain ⟨ad, a', cap', L1, L2, rfl, hb, g0, g1, g2', g3, g4, g6, g7, rfl, hLa, hLb⟩ := hLr
        have hih := ih nd (valOf nd.k nd.f nd.t nd.s a' nd.c.len cap') (d + 1) (.slice a1 nn k1) (.slice a2 nn k2) nn B _ _ ((d + 1, nd, valOf nd.k nd.f nd.t nd.s a' nd.c.len cap') :: L1) wr (by have := HH.out.1; omega)
          ⟨a', cap', L1, rfl, g6, g7, rfl, hLa⟩ hTr (by have := hRr.size; have := HR1.out.size; have := HH.out.2.2; omega) (by rw [hLe] at hn1; simp at hn1 ⊢; omega) (by omega) (by have := HH.out.2.1; omega)
        have HI := Lib.hid hih
        have HL2 := Lib.hid (And.intro hnn2 (And.intro hLe (And.intro hTr (And.intro hRr hLb))))
        clear hih hLa hLb hTr hRr hnn2 hLe hcn
        simp only [valOf] at HI
        go_wp2_with (go_at_call 10; refine HI.out.mono ?_; rintro e w' ⟨a3, k3, a4, k4, rfl, hT3, hR3⟩; have HT3 := Lib.hid (And.intro hT3 hR3); clear hT3 hR3)
        obtain ⟨hnn2, hLe, hTr, hRr, hLb⟩ := HL2.out
        have hsw : B ≤ wr.heap.size := by have := hRr.size; have := HR1.out.size; have := HH.out.2.2; omega
        have hll : Lk.length = Ld.length + (L1.length + 1 + L2.length) := by rw [hLe]; simp; omega
        have hN2 := Lib.hid (show nn + (L1.length + 1) ≤ 1000000 from by omega)
        have HF := Lib.hid (show ∃ Le Lf, nn + (L1.length + 1) = n + 1 + Le.length ∧ Lk = Le ++ Lf ∧ LstF w' B (d + 1) (some ad) (i + 1) (c.drop (i + 1)) Lf ∧ Two w' B (.slice a3 (nn + (L1.length + 1)) k3) (.slice a4 (nn + (L1.length + 1)) k4) (nn + (L1.length + 1)) (xs ++ itemC x ++ flatC Le) (ds ++ [.int .i64 d] ++ flatD Le) ∧ RFr w1 (.slice la n lc) (.slice aa n ac) w' (.slice a3 (nn + (L1.length + 1)) k3) (.slice a4 (nn + (L1.length + 1)) k4) from
          ⟨Ld ++ ((d + 1, nd, valOf nd.k nd.f nd.t nd.s a' nd.c.len cap') :: L1), L2, by simp; omega, by rw [hLe]; simp, hLb.cells (fun p u hp hc => hTr.low HT3.out.2 hsw p u hp hc), by
            have h9 := HT3.out.1
            have e1 : flatC (Ld ++ ((d + 1, nd, valOf nd.k nd.f nd.t nd.s a' nd.c.len cap') :: L1)) = flatC Ld ++ flatC ((d + 1, nd, valOf nd.k nd.f nd.t nd.s a' nd.c.len cap') :: L1) := by simp [flatC]
            have e2 : flatD (Ld ++ ((d + 1, nd, valOf nd.k nd.f nd.t nd.s a' nd.c.len cap') :: L1)) = flatD Ld ++ flatD ((d + 1, nd, valOf nd.k nd.f nd.t nd.s a' nd.c.len cap') :: L1) := by simp [flatD]
            rw [e1, e2, ← List.append_assoc, ← List.append_assoc]
            exact h9, hRr.trans HT3.out.2⟩)
        clear hnn2 hLe hTr hRr hLb hll HT3 HL2 hsw
        go_roundg (len - (i + 1))
        case measure => omega
        case rel => exact ⟨i + 1, nn + (L1.length + 1), a3, a4, k3, k4, by omega, by go_num, rfl, rfl, rfl, hN2.out, HF⟩
      · rw [Fo.drop_len c i (by rw [Hlen.out]; omega)] at hLr
        have hLr : Lr = [] := hLr
        subst hLr
        have HF := Lib.hid (And.intro hnn2 (And.intro hLe (And.intro hTr hRr)))
        have hge : len ≤ i := by omega
        clear hlt hnn2 hLe hTr hRr
        go_wp2_with fail
        go_ret2
        obtain ⟨hnn2, hLe, hTr, hRr⟩ := HF.out
        rw [List.append_nil] at hLe
        have hne : n + ((d, ⟨k, f, t, s, c⟩, Value.agg #[.int .i64 k, .int .i64 f, .int .i64 t, .string s, .slice a len cap]) :: Lk : List Item).length = nn := by rw [hLe]; simp; omega
        have hx : x = (d, ⟨k, f, t, s, c⟩, Value.agg #[.int .i64 k, .int .i64 f, .int .i64 t, .string s, .slice a len cap]) := Hx.out
        rw [← hx] at hne ⊢
        refine ⟨a1, k1, a2, k2, ?_, ?_, ?_⟩
        · rw [hne]; rfl
        · rw [hne]
          have e1 : flatC (x :: Lk) = itemC x ++ flatC Ld := by rw [hLe]; simp [flatC]
          have e2 : flatD (x :: Lk) = [.int .i64 d] ++ flatD Ld := by rw [hLe, hx]; simp [flatD]
          rw [e1, e2, ← List.append_assoc, ← List.append_assoc]
          exact hTr
        · rw [hne]
          exact HR1.out.trans hRr
end Go.Proofs.Ytmkjajapbkdpiaa
