/- What path tells; recastref4.At. No condition. -/
import Derived.Test.YtmkjajapbkdpiaaTrPath
namespace Go.Proofs.Ytmkjajapbkdpiaa
open Go.RowKit

theorem flat_ge : ∀ (F : Fo) (d : Int) (L : List Item), L.map (fun x => (x.1, x.2.1)) = flatF d F → ∀ x ∈ L, d ≤ x.1 := by
  have : ∀ (F : Fo) (d : Int), ∀ y ∈ flatF d F, d ≤ y.1 := by
    intro F
    induction F with
    | nil => intro d y h; simp [flatF] at h
    | cons k f t s c r ihc ihr =>
      intro d y h
      simp only [flatF, List.mem_cons, List.mem_append] at h
      rcases h with rfl | h | h
      · exact Int.le_refl _
      · have := ihc (d + 1) y h; omega
      · exact ihr d y h
  intro F d L h x hx
  exact this F d (x.1, x.2.1) (by rw [← h]; exact List.mem_map.2 ⟨x, hx, rfl⟩)

theorem path_tell {w : World} {B : Nat} {fa ta : Int} {n : Nd} {L : List Item} {e : Ending} (h : PathR w B fa ta L e) (hL : L.map (fun x => (x.1, x.2.1)) = flatN 0 n) :
    ∃ a m cap, e = .returned (.slice a m cap) ∧ ((m = 0 ∧ pathF fa ta n.c = []) ∨ ∃ Lc : List Nv, Lc.length = m ∧ RowL w B (.slice a m cap) Lc ∧ Lc.map (·.1) = n :: pathF fa ta n.c ∧ pathF fa ta n.c ≠ []) := by
  obtain ⟨a, m, cap, rfl, h⟩ := h
  refine ⟨a, m, cap, rfl, ?_⟩
  unfold flatN at hL
  cases L with
  | nil => simp at hL
  | cons x0 Lk =>
    obtain ⟨x1, x2, x3⟩ := x0
    simp only [List.map_cons, List.cons.injEq, Prod.mk.injEq] at hL
    obtain ⟨⟨rfl, rfl⟩, hk⟩ := hL
    have hk1 : Lk.map (fun x => (x.1, x.2.1)) = flatF ((1 : Nat) : Int) x2.c := hk
    have hge := flat_ge _ _ _ hk
    have hsp : ∀ y ∈ Lk, stopI fa ta y = spN fa ta y.2.1 := fun y hy => by
      have := hge y hy
      unfold stopI
      rw [decide_eq_true (by omega)]
      simp
    rcases h with ⟨h0, h1⟩ | ⟨pre, x, rest, e, h1, h2, h3, h4⟩
    · exact .inl ⟨h0, (path_nil_iff fa ta x2.c 1 Lk hk1).2 fun y hy => by rw [← hsp y hy]; exact h1 y (by simp [hy])⟩
    · right
      cases pre with
      | nil =>
        simp only [List.nil_append, List.cons.injEq] at e
        obtain ⟨rfl, _⟩ := e
        simp [stopI] at h2
      | cons y pre =>
        simp only [List.cons_append, List.cons.injEq] at e
        obtain ⟨rfl, e⟩ := e
        have hx : x ∈ Lk := by rw [e]; simp
        have hp : ∀ y ∈ pre, spN fa ta y.2.1 = false := fun y hy => by rw [← hsp y (by rw [e]; simp [hy])]; exact h1 y (by simp [hy])
        have hf := fold_path fa ta x2.c 1 Lk [(x2, x3)] pre x rest hk1 (by simp) e hp (by rw [← hsp x hx]; exact h2)
        have e3 : foldUp ((((0 : Int), x2, x3) : Item) :: pre ++ [x]) [] = foldUp (pre ++ [x]) [(x2, x3)] := rfl
        rw [e3] at h3 h4
        refine ⟨_, h3, h4, by rw [hf]; rfl, fun hn => ?_⟩
        have := (path_nil_iff fa ta x2.c 1 Lk hk1).1 hn x hx
        rw [hsp x hx, this] at h2
        cases h2

theorem own_fresh {w : World} {B g m cap : Nat} {cur : Array Value} {xs : List Value} (hB : B ≤ g) (hg : w.heap[g]? = some (.cells cur 24 (0, 0))) (hc : m ≤ cap) (hm : cap ≤ maxLen) (hs : cur.size = cap * 5) (hx : cur.toList.take (m * 5) = xs) :
    w.ownsRow B 24 5 (.slice (some ⟨g, 0, none⟩) m cap) m xs := by
  refine ⟨?_, .inr ⟨g, cap, cur, rfl, hB, hg, hc, hm, hs, hx⟩⟩
  rw [← hx, List.length_take, Array.length_toList, hs]
  omega

def AtR (w w' : World) (B : Nat) (N : List Nd) (a1 : Option Addr) (nn k1 : Nat) : Prop :=
  ∃ L : List Nv, L.length = nn ∧ RowL w' B (.slice a1 nn k1) L ∧ L.map (·.1) = N ∧ Below w.heap.size w w'

set_option maxRecDepth 100000 in
set_option maxHeartbeats 1600000 in
theorem rat_any (fa ta : Int) : ∀ (m : Nat) (nd : Nd) (v : Value) (B : Nat) (w : World), nd.c.cnt < m → nd.c.cnt ≤ 1000000 → NdV (· < B) w nd v → B ≤ w.heap.size → (atN fa ta nd).length ≤ 1000001 →
    Calls Try.prog 30 #[v, .int .i64 fa, .int .i64 ta] w fun e w' => ∃ a1 nn k1, e = .returned (.slice a1 nn k1) ∧ AtR w w' B (atN fa ta nd) a1 nn k1 := by
  obtain ⟨ni, hni, hnz, hns, hnb⟩ := info_parts infoNd5
  intro m
  induction m with
  | zero => intro nd v B w h; omega
  | succ m ih =>
    intro nd v B w hm hcb hn hBw hla
    obtain ⟨k, f, t, s, c⟩ := nd
    obtain ⟨ak, ck, rfl, hl1, hl2, hK⟩ := hn
    simp only at hl1 hl2 hK hm hcb ⊢
    obtain ⟨len, Hlen⟩ : ∃ len, Hid (c.len = len) := ⟨_, Lib.hid rfl⟩
    have hlc : len ≤ 1000000 := by
      have := Fo.len_cnt c
      have := Hlen.out
      omega
    rw [Hlen.out] at hl1 ⊢
    obtain ⟨w1, Hw1⟩ : ∃ w1, Hid (w1 = w.alloc (.cells #[.int .i64 k, .int .i64 f, .int .i64 t, .string s, .slice ak len ck] 24)) := ⟨_, Lib.hid rfl⟩
    obtain ⟨bn, Hbn⟩ : ∃ b, Hid (b = w.heap.size) := ⟨_, Lib.hid rfl⟩
    have hB : Below w.heap.size w w1 := by
      rw [Hw1.out]
      exact (Below.refl _ w).alloc (Nat.le_refl _) _
    have q1 : w1.heap[bn]? = some (.cells #[.int .i64 k, .int .i64 f, .int .i64 t, .string s, .slice ak len ck] 24 (0, 0)) := by
      rw [Hw1.out, Hbn.out]
      exact heap_alloc_new w _
    have HC : Hid (∀ wx : World, Below w1.heap.size w1 wx → wx.cell? ⟨bn, 0, none⟩ = some (.int .i64 k) ∧ wx.cell? ⟨bn, 1, none⟩ = some (.int .i64 f) ∧ wx.cell? ⟨bn, 2, none⟩ = some (.int .i64 t) ∧ wx.cell? ⟨bn, 3, none⟩ = some (.string s) ∧ wx.cell? ⟨bn, 4, none⟩ = some (.slice ak len ck)) := Lib.hid fun wx hx => by
      have e1 := (hx.block bn (Array.getElem?_eq_some_iff.1 q1).1).trans q1
      refine ⟨?_, ?_, ?_, ?_, ?_⟩ <;> (simp only [World.cell?, e1]; rfl)
    have hsw1 : w.heap.size + 1 = w1.heap.size := by rw [Hw1.out]; simp
    have HK := Lib.hid (show ∀ wx : World, Below w1.heap.size w1 wx → KidsP (· < B) wx ak 0 c ∧ NdV (· < B) wx ⟨k, f, t, s, c⟩ (.agg #[.int .i64 k, .int .i64 f, .int .i64 t, .string s, .slice ak len ck]) from fun wx hx => by
      have hw : KidsP (· < B) wx ak 0 c := hK.cells fun p u _ hc => cell_below hx rfl (cell_below hB rfl hc)
      refine ⟨hw, ak, ck, ?_, by rw [Hlen.out]; exact hl1, hl2, hw⟩
      rw [Hlen.out])
    have HM := Lib.hid (And.intro hm (And.intro hcb hla))
    have HB := Lib.hid hB
    have IH := Lib.hid ih
    clear hK hB q1 hm hcb hl1 hl2 ih hla
    obtain ⟨c0, c1, c2, c3, c4⟩ := HC.out w1 (Below.refl _ _)
    go_enter Try.func30, Try.ntmps30
    go_upto_region 2 with fail
    rw [← Hw1.out]
    try rw [← Hbn.out]
    clear c0 c1 c2 c3 c4
    go_loopg [7] len (fun gg v7 wr => ∃ i : Nat, i ≤ len ∧ v7 = .int .i64 i ∧ gg = len - i ∧ Hid (atF fa ta (c.drop i) = atF fa ta c ∧ Below w1.heap.size w1 wr))
    case atStart => exact ⟨0, Nat.zero_le _, rfl, rfl, Lib.hid ⟨by cases c <;> rfl, Below.refl _ _⟩⟩
    case round =>
      obtain ⟨i, hi, rfl, hgg, Hr⟩ := hrel
      obtain ⟨c0, c1, c2, c3, c4⟩ := HC.out wr Hr.out.2
      have hsw : w1.heap.size ≤ wr.heap.size := Hr.out.2.size
      by_cases hlt : i < len
      · obtain ⟨hKp, hNd⟩ := HK.out wr Hr.out.2
        obtain ⟨ad, a', cap', rfl, g0, g1, g2, g3, g4, g5, g6, g7⟩ := hKp.at.get i (by rw [Hlen.out]; exact hlt)
        rw [Nat.zero_add] at g0 g1 g2 g3 g4
        have hnv := nd_of_get hKp i (by rw [Hlen.out]; exact hlt) ad a' cap' rfl g4
        have hcn := Fo.get_cnt c i (by rw [Hlen.out]; exact hlt)
        have hdr := atF_drop fa ta c i (by rw [Hlen.out]; exact hlt)
        obtain ⟨nd, Hnd⟩ : ∃ nd, Hid (c.get i = nd) := ⟨_, Lib.hid rfl⟩
        rw [Hnd.out] at g0 g1 g2 g3 g4 g5 g7 hnv hcn hdr
        have hlen2 : (atN fa ta nd).length ≤ 1000000 := by
          by_cases h0 : (atN fa ta nd).isEmpty = true
          · have : atN fa ta nd = [] := by simpa using h0
            rw [this]; simp
          · rw [if_neg h0] at hdr
            have h1 := HM.out.2.2
            unfold atN at h1
            rw [← Hr.out.1, hdr] at h1
            rw [if_neg h0] at h1
            simp at h1
            exact h1
        have HI := Lib.hid (IH.out nd _ B wr (by have := HM.out.1; omega) (by have := HM.out.2.1; omega) hnv (by omega) (by omega))
        have HD := Lib.hid (And.intro hdr (And.intro hNd hlen2))
        clear hKp hnv hcn hdr g5 g6 g7 hNd hlen2
        go_upto_region 5 with (go_at_call 30; refine HI.out.mono ?_; rintro e w2 ⟨a1, nn, k1, rfl, Lc, h1, h2, h3, h4⟩; have HQ := Lib.hid (And.intro h1 (And.intro h2 (And.intro h3 h4))); clear h1 h2 h3 h4)
        have hb2 : Below w1.heap.size w1 w2 := Hr.out.2.trans (Below.mono HQ.out.2.2.2 Hr.out.2.size)
        have hsw2 : w1.heap.size ≤ w2.heap.size := hb2.size
        have HB2 := Lib.hid hb2
        clear hb2 c0 c1 c2 c3 c4 g0 g1 g2 g3 g4
        by_cases h0 : 0 < nn
        · obtain ⟨c0, c1, c2, c3, c4⟩ := HC.out w2 HB2.out
          have hnn : nn ≤ 1000000 := by
            obtain ⟨h1, h2, h3, h4⟩ := HQ.out
            have := HD.out.2.2
            rw [← h3] at this
            simp at this
            omega
          obtain ⟨gl, rfl⟩ : ∃ gl, a1 = some ⟨gl, 0, none⟩ := by
            obtain ⟨h1, h2, h3, h4⟩ := HQ.out
            rcases h2.row.2 with ⟨e, hn0⟩ | ⟨g', cap', cur, e, _⟩
            · omega
            · cases e; exact ⟨_, rfl⟩
          have hwa : Below w2.heap.size w2 (w2.alloc (.cells #[.int .i64 k, .int .i64 f, .int .i64 t, .string s, .slice (some ad) len ck] 24)) := (Below.refl _ w2).alloc (Nat.le_refl _) _
          have HR := Lib.hid (And.intro hwa (HQ.out.2.1.below hwa))
          clear hwa
          go_wp2_with (refine wpList_app _ rfl _ _ _ rfl B 24 ni _ 5 64 Try.underlying22 hni hnz hns hnb rfl (.slice (some ⟨w2.heap.size, 0, none⟩) 1 1) 1 [.int .i64 k, .int .i64 f, .int .i64 t, .string s, .slice (some ad) len ck] rfl (own_fresh (by omega) (heap_alloc_new w2 _) (Nat.le_refl _) (by unfold maxLen; omega) rfl rfl) ⟨gl, 0, none⟩ nn k1 (cellsL Lc) rfl (by have := HR.out.2.row.1; rw [HQ.out.1] at this; exact this) (fun j u hu => ?_) (fun u hu => ?_) (by omega) (by unfold maxLen; omega) (by omega) (by simp; omega) ?_)
          · obtain ⟨g', e, hc⟩ := row_cell (row_len HR.out.2.row HQ.out.1) hu
            cases e
            rw [add0]
            exact hc
          · obtain ⟨x, hx, hu⟩ := List.mem_flatMap.1 hu
            obtain ⟨xa, xc, e, _⟩ := HR.out.2.low x hx
            rw [e] at hu
            simp [Value.cells] at hu
            rcases hu with h | h | h | h | h <;> (subst h; rfl)
          · intro g gc w3 hown hat
            have HZ := Lib.hid (And.intro hown hat)
            clear hown hat
            go_wp2_with fail
            go_ret
            obtain ⟨hown, hat⟩ := HZ.out
            obtain ⟨h1, h2, h3, h4⟩ := HQ.out
            have hgb := hat.grown
            have low : ∀ (p : Addr) (u : Value), p.block < B → (w2.alloc (.cells #[.int .i64 k, .int .i64 f, .int .i64 t, .string s, .slice (some ad) len ck] 24)).cell? p = some u → w3.cell? p = some u := fun p u hp hc =>
              cell_same (fun cs t fr e => (hgb.block p.block (World.block_lt_of_cell? _ _ hc) (fun e => by
                have e : p.block = w2.heap.size := by simpa [Value.ownBlock] using e
                omega)).trans e) hc
            refine ⟨some ⟨g, 0, none⟩, 1 + nn, gc, rfl, ((⟨k, f, t, s, c⟩ : Nd), .agg #[.int .i64 k, .int .i64 f, .int .i64 t, .string s, .slice (some ad) len ck]) :: Lc, by simp [h1]; omega, ⟨?_, fun x hx => ?_⟩, ?_, ?_⟩
            · have e : (((⟨k, f, t, s, c⟩ : Nd), (.agg #[.int .i64 k, .int .i64 f, .int .i64 t, .string s, .slice (some ad) len ck] : Value)) :: Lc).length = 1 + nn := by simp [h1]; omega
              rw [e]
              exact hown
            · rcases List.mem_cons.1 hx with rfl | hx
              · exact (HD.out.2.1.cells fun p u hp hc => low p u hp (cell_below (h4.trans (Below.mono HR.out.1 h4.size)) rfl hc))
              · exact (HR.out.2.low x hx).cells low
            · simp only [List.map_cons, h3]
              have h5 := HD.out.1
              have h6 : (atN fa ta nd).isEmpty = false := by
                rw [← h3]
                cases Lc with
                | nil => simp at h1; omega
                | cons => rfl
              rw [h6] at h5
              simp only [Bool.false_eq_true, if_false] at h5
              have h7 : atF fa ta c = atN fa ta nd := by rw [← Hr.out.1, h5]
              rw [show atN fa ta ⟨k, f, t, s, c⟩ = if (atF fa ta c).isEmpty then (if spN fa ta ⟨k, f, t, s, c⟩ then [⟨k, f, t, s, c⟩] else []) else ⟨k, f, t, s, c⟩ :: atF fa ta c from rfl, h7, h6]
              rfl
            · refine app_below (HB.out.trans (Below.mono (HB2.out.trans (Below.mono HR.out.1 HB2.out.size)) HB.out.size)) (fun k e => ?_) (Nat.le_refl _) hat
              have e : w2.heap.size = k := by simpa [Value.ownBlock] using e
              omega
        · have hn0 : nn = 0 := by omega
          clear h0
          subst hn0
          go_wp2_with fail
          go_roundg (len - (i + 1))
          case measure => omega
          case rel =>
            refine ⟨i + 1, by omega, by go_num, rfl, Lib.hid ⟨?_, HB2.out⟩⟩
            obtain ⟨h1, h2, h3, h4⟩ := HQ.out
            have h5 := HD.out.1
            have h6 : (atN fa ta nd).isEmpty = true := by
              rw [← h3]
              cases Lc with
              | nil => rfl
              | cons => simp at h1
            rw [h6] at h5
            simp only [if_true] at h5
            rw [← h5]
            exact Hr.out.1
      · have hge : len ≤ i := by omega
        clear hlt
        have Hz := Lib.hid (show atF fa ta c = [] from by
          rw [← Hr.out.1, Fo.drop_len c i (by rw [Hlen.out]; omega)]
          rfl)
        have Hn := Lib.hid (HK.out wr Hr.out.2).2
        cases d1 : (f == fa) with
        | false =>
          go_wp2_with fail
          go_ret
          refine ⟨none, 0, 0, rfl, [], rfl, RowL.nil _ _, ?_, HB.out.trans (Below.mono Hr.out.2 HB.out.size)⟩
          unfold atN spN
          simp [Hz.out, d1]
        | true =>
          cases d2 : (t == ta) with
          | false =>
            go_wp2_with fail
            go_ret
            refine ⟨none, 0, 0, rfl, [], rfl, RowL.nil _ _, ?_, HB.out.trans (Below.mono Hr.out.2 HB.out.size)⟩
            unfold atN spN
            simp [Hz.out, d1, d2]
          | true =>
            go_wp2_with fail
            go_ret
            have hwa : Below wr.heap.size wr (wr.alloc (.cells #[.int .i64 k, .int .i64 f, .int .i64 t, .string s, .slice ak len ck] 24)) := (Below.refl _ wr).alloc (Nat.le_refl _) _
            refine ⟨some ⟨wr.heap.size, 0, none⟩, 1, 1, rfl, [((⟨k, f, t, s, c⟩ : Nd), .agg #[.int .i64 k, .int .i64 f, .int .i64 t, .string s, .slice ak len ck])], rfl, ⟨?_, fun x hx => ?_⟩, ?_, HB.out.trans (Below.mono (Hr.out.2.trans (Below.mono hwa Hr.out.2.size)) HB.out.size)⟩
            · exact own_fresh (by omega) (heap_alloc_new wr _) (Nat.le_refl _) (by unfold maxLen; omega) rfl rfl
            · have hx := List.mem_singleton.1 hx
              subst hx
              exact Hn.out.cells fun p u _ hc => cell_below hwa rfl hc
            · unfold atN spN
              simp [Hz.out, d1, d2]
end Go.Proofs.Ytmkjajapbkdpiaa
