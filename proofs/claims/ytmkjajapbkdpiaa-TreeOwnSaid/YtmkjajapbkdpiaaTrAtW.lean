/- tree.At. No condition. -/
import Derived.Test.YtmkjajapbkdpiaaTrAtP
namespace Go.Proofs.Ytmkjajapbkdpiaa
open Go.RowKit

theorem cellsL_len : ∀ {L : List Nv}, (∀ y ∈ L, y.2.cells.toList.length = 5) → (cellsL L).length = L.length * 5
  | [], _ => rfl
  | y :: L, h => by
    have h5 := h y (by simp)
    have := cellsL_len (L := L) (fun y hy => h y (by simp [hy]))
    unfold cellsL at this ⊢
    simp only [List.flatMap_cons, List.length_append, List.length_cons, this, h5]
    omega
theorem addN (g a j : Nat) : (⟨g, a, none⟩ : Addr).add j = ⟨g, a + j, none⟩ := by
  unfold Addr.add
  by_cases h : j = 0
  · subst h; rfl
  · rw [if_neg h]
theorem atF_cnt (fa ta : Int) : ∀ (F : Fo), ∀ x ∈ atF fa ta F, x.c.cnt ≤ F.cnt
  | .nil, x, h => by simp [atF] at h
  | .cons k f t s c r, x, h => by
    simp only [atF] at h
    simp only [Fo.cnt]
    split at h
    · split at h
      · have h := List.mem_singleton.1 h
        subst h
        simp only
        omega
      · have := atF_cnt fa ta r x h; omega
    · rcases List.mem_cons.1 h with rfl | h
      · simp only; omega
      · have := atF_cnt fa ta c x h; omega
theorem atN_cnt (fa ta : Int) (n : Nd) : ∀ x ∈ atN fa ta n, x.c.cnt ≤ n.c.cnt := fun x h => by
  unfold atN at h
  split at h
  · split at h
    · have h := List.mem_singleton.1 h
      subst h
      exact Nat.le_refl _
    · simp at h
  · rcases List.mem_cons.1 h with rfl | h
    · exact Nat.le_refl _
    · exact atF_cnt fa ta n.c x h
/-- The list's copies, ahead of round i. -/
def AtO (w wr : World) (a1 : Option Addr) (nn k1 i : Nat) (F : Fo) : Prop :=
  F.len = nn ∧ Below w.heap.size w wr ∧ (nn = 0 ∨ ∃ g, a1 = some ⟨g, 0, none⟩ ∧ w.heap.size + 2 ≤ g ∧ g < wr.heap.size ∧ nn ≤ k1 ∧ k1 ≤ maxLen ∧ OwnS w.heap.size nn k1 i F g wr)
/-- The walk down, ahead of a round: what is told so far, and the last node, in its box. -/
def AtL (w wr : World) (bl : Nat) (fa ta : Int) (n0 lst : Nd) (al : Option Addr) (cl : Nat) (a1 : Option Addr) (nn k1 : Nat) : Prop :=
  ∃ Lc : List Nv, Lc.length = nn ∧ RowL wr w.heap.size (.slice a1 nn k1) Lc ∧ (∀ k, (Value.slice a1 nn k1).ownBlock = some k → w.heap.size + 2 ≤ k) ∧ Below w.heap.size w wr ∧ w.heap.size + 2 ≤ wr.heap.size ∧
    wr.heap[bl]? = some (.cells #[.int .i64 lst.k, .int .i64 lst.f, .int .i64 lst.t, .string lst.s, .slice al lst.c.len cl] 24 (0, 0)) ∧ NdV (· < w.heap.size) wr lst (.agg #[.int .i64 lst.k, .int .i64 lst.f, .int .i64 lst.t, .string lst.s, .slice al lst.c.len cl]) ∧
    lst.c.cnt ≤ 100000 ∧ ((nn = 0 ∧ lst = n0 ∧ spN fa ta n0 = false) ∨ (0 < nn ∧ Lc.map (·.1) ++ atF fa ta lst.c = atN fa ta n0))

set_option maxRecDepth 100000 in
set_option maxHeartbeats 3200000 in
theorem tat_any (fa ta : Int) (nd : Nd) (v : Value) (w : World) (hn : NodeV w nd v) (hc : nd.c.cnt ≤ 100000) :
    Calls Try.prog 29 #[v, .int .i64 fa, .int .i64 ta] w fun e w' => ∃ a1 nn k1, e = .returned (.slice a1 nn k1) ∧ ListW w' w.heap.size a1 nn k1 (foOf (atN fa ta nd)) ∧ Below w.heap.size w w' := by
  obtain ⟨ni, hni, hnz, hns, hnb⟩ := info_parts infoNd5
  have hlen := atN_len fa ta nd
  obtain ⟨N, HN⟩ : ∃ N, Hid (N = nd) := ⟨_, Lib.hid rfl⟩
  obtain ⟨k, f, t, s, c⟩ := nd
  obtain ⟨ak, ck, rfl, hl1, hl2, hK⟩ := hn
  simp only at hl1 hl2 hK hc ⊢
  obtain ⟨len, Hlen⟩ : ∃ len, Hid (c.len = len) := ⟨_, Lib.hid rfl⟩
  rw [Hlen.out] at hl1 ⊢
  obtain ⟨w1, Hw1⟩ : ∃ w1, Hid (w1 = (w.alloc (.cells #[.int .i64 k, .int .i64 f, .int .i64 t, .string s, .slice ak len ck] 24)).alloc (.cells #[.int .i64 k, .int .i64 f, .int .i64 t, .string s, .slice ak len ck] 24)) := ⟨_, Lib.hid rfl⟩
  obtain ⟨bn, Hbn⟩ : ∃ b, Hid (b = w.heap.size) := ⟨_, Lib.hid rfl⟩
  obtain ⟨bl, Hbl⟩ : ∃ b, Hid (b = w.heap.size + 1) := ⟨_, Lib.hid rfl⟩
  have hB : Below w.heap.size w w1 := by
    rw [Hw1.out]
    exact ((Below.refl _ w).alloc (Nat.le_refl _) _).alloc (by simp) _
  have hh : ∀ i, i < 2 → w1.heap[w.heap.size + i]? = ([.cells #[.int .i64 k, .int .i64 f, .int .i64 t, .string s, .slice ak len ck] 24, .cells #[.int .i64 k, .int .i64 f, .int .i64 t, .string s, .slice ak len ck] 24] : List Obj)[i]? := fun i hi => by
    rw [Hw1.out]
    exact heap_fold [.cells #[.int .i64 k, .int .i64 f, .int .i64 t, .string s, .slice ak len ck] 24, .cells #[.int .i64 k, .int .i64 f, .int .i64 t, .string s, .slice ak len ck] 24] w i hi
  have q1 : w1.heap[bn]? = some (.cells #[.int .i64 k, .int .i64 f, .int .i64 t, .string s, .slice ak len ck] 24 (0, 0)) := by rw [Hbn.out]; exact hh 0 (by decide)
  have q2 : w1.heap[bl]? = some (.cells #[.int .i64 k, .int .i64 f, .int .i64 t, .string s, .slice ak len ck] 24 (0, 0)) := by rw [Hbl.out]; exact hh 1 (by decide)
  have hsz : w1.heap.size = w.heap.size + 2 := by rw [Hw1.out]; simp
  have hND : NdV (· < w.heap.size) w1 ⟨k, f, t, s, c⟩ (.agg #[.int .i64 k, .int .i64 f, .int .i64 t, .string s, .slice ak len ck]) := by
    refine ⟨ak, ck, ?_, by rw [Hlen.out]; exact hl1, hl2, hK.p.cells fun p u _ hc => cell_below hB rfl hc⟩
    rw [Hlen.out]
  have HB := Lib.hid (And.intro hB (And.intro hsz (And.intro hc hlen)))
  have HQ := Lib.hid (And.intro q1 q2)
  have HND := Lib.hid hND
  have c0 : w1.cell? ⟨bn, 0, none⟩ = some (.int .i64 k) := by simp only [World.cell?, q1]; rfl
  have c1 : w1.cell? ⟨bn, 1, none⟩ = some (.int .i64 f) := by simp only [World.cell?, q1]; rfl
  have c2 : w1.cell? ⟨bn, 2, none⟩ = some (.int .i64 t) := by simp only [World.cell?, q1]; rfl
  have c3 : w1.cell? ⟨bn, 3, none⟩ = some (.string s) := by simp only [World.cell?, q1]; rfl
  have c4 : w1.cell? ⟨bn, 4, none⟩ = some (.slice ak len ck) := by simp only [World.cell?, q1]; rfl
  clear hK hB q1 q2 hc hl1 hl2 hh hsz hND hlen
  go_enter Try.func29, Try.ntmps29
  go_upto_region 3 with fail
  rw [← Hw1.out]
  try rw [← Hbl.out]
  try rw [← Hbn.out]
  rename_i K1 hK1
  have HR : ∀ (b : Bool) (u13 u14 u15 u16 u17 u18 u19 u20 u21 u22 : Value), b = spN fa ta ⟨k, f, t, s, c⟩ → K1 { tmps := #[.agg #[.int .i64 k, .int .i64 f, .int .i64 t, .string s, .slice ak len ck], .int .i64 fa, .int .i64 ta, .pointer (some ⟨bn, 0, none⟩), undef, undef, .slice none 0 0, .slice none 0 0, .pointer (some ⟨bl, 0, none⟩), .bool b, undef, undef, .agg #[.int .i64 k, .int .i64 f, .int .i64 t, .string s, .slice ak len ck], u13, u14, u15, u16, u17, u18, u19, u20, u21, u22, undef, undef, undef, undef, undef, undef, undef, undef, undef, undef, undef, undef, undef, undef, undef, undef, undef, undef, undef, undef, undef, undef, undef, undef, undef, undef, undef, undef, undef, undef, undef, undef, undef, undef, undef, undef, undef, undef, undef, undef, undef], defers := [] } w1 := by
    intro b u13 u14 u15 u16 u17 u18 u19 u20 u21 u22 hb
    have Hb := Lib.hid hb
    clear hb
    refine hK1 _ _ ?_
    clear hK1
    go_upto_region 4 with fail
    rename_i Ko hKo Ki hKi
    have HL : ∀ (a1 : Option Addr) (nn k1 : Nat) (v23 v24 v25 v26 v27 : Value) (w2 : World), AtL w w2 bl fa ta ⟨k, f, t, s, c⟩ ⟨k, f, t, s, c⟩ ak ck a1 nn k1 → Ko { tmps := #[.agg #[.int .i64 k, .int .i64 f, .int .i64 t, .string s, .slice ak len ck], .int .i64 fa, .int .i64 ta, .pointer (some ⟨bn, 0, none⟩), undef, undef, .slice none 0 0, .slice a1 nn k1, .pointer (some ⟨bl, 0, none⟩), .bool b, undef, undef, .agg #[.int .i64 k, .int .i64 f, .int .i64 t, .string s, .slice ak len ck], u13, u14, u15, u16, u17, u18, u19, u20, u21, u22, v23, v24, v25, v26, v27, undef, undef, undef, undef, undef, undef, undef, undef, undef, undef, undef, undef, undef, undef, undef, undef, undef, undef, undef, undef, undef, undef, undef, undef, undef, undef, undef, undef, undef, undef, undef, undef, undef, undef, undef, undef], defers := [] } w2 := by
      intro a1 nn k1 v23 v24 v25 v26 v27 w2 hS
      have HS2 := Lib.hid hS
      refine hKo _ _ ?_
      clear hKo hKi hS
      go_wp2_with fail
      go_loopg [7] c.cnt (fun gg v7 wr => ∃ (lst : Nd) (al : Option Addr) (cl : Nat) (a1 : Option Addr) (nn k1 : Nat), v7 = .slice a1 nn k1 ∧ gg = lst.c.cnt ∧ Hid (AtL w wr bl fa ta ⟨k, f, t, s, c⟩ lst al cl a1 nn k1))
      case atStart => exact ⟨_, _, _, _, _, _, rfl, rfl, HS2⟩
      case round =>
        clear HS2
        obtain ⟨lst, al, cl, a1, nn, k1, rfl, hgg, Hr⟩ := hrel
        obtain ⟨Lc, h1, h2, h3, h4, h5, h6, h7, h8, h9⟩ := Hr.out
        obtain ⟨Lx, hL, hLm⟩ := LstN.ofP 0 h7
        have hll : Lx.length = lst.c.cnt + 1 := by rw [← flatN_len 0 lst, ← hLm]; simp
        have HP := Lib.hid (path_any lst _ fa ta wr w.heap.size h4.size Lx hL (good_of hLm (by omega)) (by omega) (by omega))
        have HLm := Lib.hid hLm
        have b0 : wr.cell? ⟨bl, 0, none⟩ = some (.int .i64 lst.k) := by simp only [World.cell?, h6]; rfl
        have b1 : wr.cell? ⟨bl, 1, none⟩ = some (.int .i64 lst.f) := by simp only [World.cell?, h6]; rfl
        have b2 : wr.cell? ⟨bl, 2, none⟩ = some (.int .i64 lst.t) := by simp only [World.cell?, h6]; rfl
        have b3 : wr.cell? ⟨bl, 3, none⟩ = some (.string lst.s) := by simp only [World.cell?, h6]; rfl
        have b4 : wr.cell? ⟨bl, 4, none⟩ = some (.slice al lst.c.len cl) := by simp only [World.cell?, h6]; rfl
        have hnn : nn ≤ 1000001 := by
          rcases h9 with h9 | ⟨_, h9⟩
          · omega
          · have q1 := congrArg List.length h9
            have q2 := HB.out.2.2.2
            have q3 := HB.out.2.2.1
            simp only [List.length_append, List.length_map] at q1 q2
            omega
        have hsw : w.heap.size + 2 ≤ wr.heap.size := h5
        clear h1 h2 h3 h4 h5 h6 h7 h8 h9 hL hLm hll
        go_upto_region 7 with (go_at_call 40; refine HP.out.mono ?_; rintro e w3 ⟨hp, hb⟩; obtain ⟨ap, m, cp, rfl, hq⟩ := path_tell hp HLm.out; have HPP := Lib.hid (And.intro hq hb); clear hp hq hb)
        clear b0 b1 b2 b3 b4
        by_cases hm0 : m = 0
        · have HF := Lib.hid (show AtO w w3 a1 nn k1 0 (foOf (atN fa ta ⟨k, f, t, s, c⟩)) from by
            obtain ⟨hq, hb⟩ := HPP.out
            obtain ⟨Lc, h1, h2, h3, h4, h5, h6, h7, h8, h9⟩ := Hr.out
            have hp : pathF fa ta lst.c = [] := by
              rcases hq with ⟨_, h⟩ | ⟨Lp, q1, _, q3, _⟩
              · exact h
              · have := congrArg List.length q3
                simp at this
                omega
            have ha := path_last.path_none fa ta lst.c hp
            have hmap : Lc.map (·.1) = atN fa ta ⟨k, f, t, s, c⟩ := by
              rcases h9 with ⟨h0, rfl, h9⟩ | ⟨_, h9⟩
              · have hL0 : Lc = [] := List.length_eq_zero_iff.1 (by omega)
                subst hL0
                have ha : atF fa ta c = [] := ha
                unfold atN
                simp [ha, h9]
              · rw [ha] at h9
                simpa using h9
            have h2' := h2.below hb
            refine ⟨by rw [foOf_len, ← hmap, List.length_map, h1], h4.trans (Below.mono hb h4.size), ?_⟩
            by_cases h0 : nn = 0
            · exact .inl h0
            · right
              rcases h2.row.2 with ⟨e, hn0⟩ | ⟨g', cap', cur, e, _⟩
              · cases e; omega
              · cases e
                obtain ⟨o1, o2, o3, o4⟩ := h2'.ownS h1
                rw [hmap] at o1
                exact ⟨g', rfl, h3 g' rfl, o4, o2, o3, o1⟩)
          have HC := Lib.hid (show ∀ j, j < nn → ((foOf (atN fa ta ⟨k, f, t, s, c⟩)).get j).c.cnt ≤ 100000 from fun j hj => by
            have hl := HF.out.1
            rw [foOf_len] at hl
            rw [foOf_get _ j (by omega)]
            have := atN_cnt fa ta ⟨k, f, t, s, c⟩ _ (List.getElem_mem (show j < (atN fa ta ⟨k, f, t, s, c⟩).length by omega))
            have h9 := HB.out.2.2.1
            have this : _ ≤ c.cnt := this
            omega)
          obtain ⟨F, HFe⟩ : ∃ F, Hid (foOf (atN fa ta ⟨k, f, t, s, c⟩) = F) := ⟨_, Lib.hid rfl⟩
          rw [HFe.out] at HF HC
          subst hm0
          clear Hr HPP HP HLm
          go_wp2_with fail
          go_loopg [51] nn (fun gg v51 wr => ∃ i : Nat, i ≤ nn ∧ v51 = .int .i64 i ∧ gg = nn - i ∧ Hid (AtO w wr a1 nn k1 i F))
          case atStart => exact ⟨0, Nat.zero_le _, rfl, rfl, HF⟩
          case round =>
            clear HF
            obtain ⟨i, hi, rfl, hgi, Hr⟩ := hrel
            by_cases hlt : i < nn
            · obtain ⟨hF, hbel, h0 | ⟨g, rfl, hg2, hgl, hnk, hk9, cur, o1, o2, o3, o4⟩⟩ := Hr.out
              · omega
              obtain ⟨a', cap', g0, g1, g2, g3, g4, g5, g6, g7⟩ := o4 i (Nat.le_refl _) hlt
              obtain ⟨x, Hx⟩ : ∃ x, Hid (F.get i = x) := ⟨_, Lib.hid rfl⟩
              have hcn := HC.out i hlt
              rw [Hx.out] at g0 g1 g2 g3 g4 g5 g7 hcn
              have HO := Lib.hid (own_any (x.c.cnt + 1) x (.agg #[.int .i64 x.k, .int .i64 x.f, .int .i64 x.t, .string x.s, .slice a' x.c.len cap']) wr (Nat.lt_succ_self _) (by omega) ⟨a', cap', rfl, g5, g6, g7.at⟩)
              have HS := Lib.hid (And.intro hF (And.intro hbel (And.intro hgl (And.intro hk9 (show OwnS w.heap.size nn k1 i F g wr from ⟨cur, o1, o2, o3, o4⟩)))))
              have HG := Lib.hid (And.intro o1 o2)
              clear o1 o2 o3 o4 g5 g6 g7 hcn hF hbel hgl hk9 Hr
              go_wp2_with (go_at_call 38; refine HO.out.mono ?_; rintro e w5 hp; obtain ⟨b', cb', rfl, ho, hb⟩ := own_open hp; have HP := Lib.hid (And.intro ho hb); have g5 := (hb.block g HS.out.2.2.1).trans HG.out.1; have hcs : i * 5 + 4 < cur.size := (by have := HG.out.2; omega); obtain ⟨⟨v0, v1, v2, v3, v4, k0, k1', k2, k3, k4⟩, fz⟩ := five_cells g5 hcs; have f0 := fz (i * 5); have f1 := fz (i * 5 + 1); have f2 := fz (i * 5 + 2); have f3 := fz (i * 5 + 3); have f4 := fz (i * 5 + 4); clear fz hcs g5 ho hb hp g0 g1 g2 g3 g4)
              have HF : Hid (AtO w (set5 w5 g (i * 5) (.int .i64 x.k) (.int .i64 x.f) (.int .i64 x.t) (.string x.s) (.slice b' x.c.len cb')) (some ⟨g, 0, none⟩) nn k1 (i + 1) F) := Lib.hid (by
                obtain ⟨hF, hbel, hgl, hk9, hS⟩ := HS.out
                obtain ⟨ho, hb⟩ := HP.out
                exact ⟨hF, set5_below (hbel.trans (Below.mono hb hbel.size)) (by omega) _ _ _ _ _, .inr ⟨g, rfl, hg2, by rw [set5_size]; have := hb.size; omega, hnk, hk9, hS.next hlt hnk Hx.out (by omega) hgl hb ho⟩⟩)
              unfold set5 at HF
              go_roundg (nn - (i + 1))
              case measure => omega
              case rel => exact ⟨i + 1, by omega, by go_num, rfl, HF⟩
            · have hge : nn ≤ i := by omega
              have hil : i = nn := by omega
              have HF := Lib.hid (show AtO w wr a1 nn k1 nn F from hil ▸ Hr.out)
              clear hlt hil Hr
              go_wp2_with fail
              go_ret
              obtain ⟨hF, hbel, h⟩ := HF.out
              rw [HFe.out]
              refine ⟨a1, nn, k1, rfl, ⟨hF, ?_⟩, hbel⟩
              rcases h with h | ⟨g, rfl, hg2, hgl, hnk, hk9, cur, o1, o2, o3, o4⟩
              · exact .inl h
              · exact .inr ⟨g, cur, rfl, by omega, o1, o2, hnk, o3⟩
        · have hmb : ((m : Int) == 0) = false := by simp; omega
          go_upto_region 8 with fail
          rename_i Ko2 hKo2 Ki2 hKi2
          obtain ⟨hq, hb⟩ := HPP.out
          obtain ⟨Lc, h1, h2, h3, h4, h5, h6, h7, h8, h9⟩ := Hr.out
          obtain ⟨Lp, p1, p2, p3, p4⟩ : ∃ Lp : List Nv, Lp.length = m ∧ RowL w3 w.heap.size (.slice ap m cp) Lp ∧ Lp.map (·.1) = lst :: pathF fa ta lst.c ∧ pathF fa ta lst.c ≠ [] := by
            rcases hq with ⟨h, _⟩ | h
            · exact absurd h hm0
            · exact h
          obtain ⟨gp, rfl, hpc, hpm⟩ : ∃ gp, ap = some ⟨gp, 0, none⟩ ∧ m ≤ cp ∧ cp ≤ maxLen := by
            rcases p2.row.2 with ⟨e, hn0⟩ | ⟨g', cap', cur, e, _, _, x1, x2, _⟩
            · cases e; simp at p1; omega
            · cases e; exact ⟨_, rfl, by rw [p1] at x1; exact x1, x2⟩
          have hm9 : m ≤ 1000001 := by
            have q1 := congrArg List.length p3
            have q2 := atN_len fa ta lst
            obtain ⟨x, hx⟩ : ∃ x, (pathF fa ta lst.c).getLast? = some x := by
              cases h : (pathF fa ta lst.c).getLast? with
              | none => simp [List.getLast?_eq_none_iff] at h; exact absurd h p4
              | some x => exact ⟨x, rfl⟩
            have q3 := congrArg List.length (path_last fa ta lst.c x hx).1
            have q4 := atF_len fa ta lst.c
            simp only [List.length_map, List.length_cons, List.length_append] at q1 q3
            omega
          have h2' := h2.below hb
          have hobw := h3
          have hw3 : w.heap.size + 2 ≤ w3.heap.size := Nat.le_trans h5 hb.size
          have h63 := (hb.block bl (Array.getElem?_eq_some_iff.1 h6).1).trans h6
          have hB3 : Below w.heap.size w w3 := h4.trans (Below.mono hb h4.size)
          have HM : ∀ (z35 z36 z37 z38 z39 : Value) (ad : Addr) (mm c2 : Nat) (M : List Nv), M.length = mm → 0 < mm → mm ≤ 1000001 → (∀ j u, (cellsL M)[j]? = some u → w3.cell? (ad.add j) = some u) → (∀ x ∈ M, NdV (· < w.heap.size) w3 x.1 x.2) →
              (∀ x, M.getLast? = some x → x.1.c.cnt < lst.c.cnt ∧ Lc.map (·.1) ++ M.map (·.1) ++ atF fa ta x.1.c = atN fa ta ⟨k, f, t, s, c⟩) → Ko2 { tmps := #[.agg #[.int .i64 k, .int .i64 f, .int .i64 t, .string s, .slice ak len ck], .int .i64 fa, .int .i64 ta, .pointer (some ⟨bn, 0, none⟩), undef, undef, .slice none 0 0, .slice a1 nn k1, .pointer (some ⟨bl, 0, none⟩), .bool b, .slice (some ad) mm c2, undef, .agg #[.int .i64 k, .int .i64 f, .int .i64 t, .string s, .slice ak len ck], u13, u14, u15, u16, u17, u18, u19, u20, u21, u22, v23, v24, v25, v26, v27, .agg #[.int .i64 lst.k, .int .i64 lst.f, .int .i64 lst.t, .string lst.s, .slice al lst.c.len cl], .int .i64 fa, .int .i64 ta, .slice (some ⟨gp, 0, none⟩) m cp, .slice (some ⟨gp, 0, none⟩) m cp, .int .i64 m, .bool false, z35, z36, z37, z38, z39, u40, u41, u42, u43, u44, u45, u46, u47, u48, undef, undef, undef, undef, undef, undef, undef, undef, undef, undef, undef, undef, undef, undef, undef], defers := [] } w3 := by
            intro z35 z36 z37 z38 z39 ad mm c2 M m1 m2 m3 m4 m5 m6
            have HMM := Lib.hid (And.intro m1 (And.intro m5 m6))
            have HH := Lib.hid (And.intro h1 (And.intro h2' (And.intro hobw (And.intro h63 (And.intro hB3 h8)))))
            refine hKo2 _ _ ?_
            clear hKo2 hKi2 h1 h2 h3 h4 h5 h6 h7 h8 h9 hq hb p1 p2 p3 p4 m6 Hr HP HLm HPP h63 hB3
            go_upto_region 11 with (refine wpList_app _ rfl _ _ _ rfl w.heap.size 24 ni _ 5 64 Try.underlying22 hni hnz hns hnb rfl (.slice a1 nn k1) nn (cellsL Lc) rfl (row_len h2'.row HH.out.1) ad mm c2 (cellsL M) rfl (by rw [← m1]; exact cellsL_len fun y hy => (m5 y hy).five) m4 (cells_oneL m5) (by omega) (by unfold maxLen; omega) (by omega) (by omega) ?_; intro g gc w4 hown hat; have HZ := Lib.hid (And.intro hown hat); clear hown hat)
            obtain ⟨q, hq⟩ : ∃ q, nn + mm = q + 1 := ⟨nn + mm - 1, by omega⟩
            obtain ⟨hown, hat⟩ := HZ.out
            obtain ⟨m1, m5, m6⟩ := HMM.out
            obtain ⟨h1, h2, h3, h63, hB3, h8⟩ := HH.out
            have hgb := hat.grown
            have hR := RowL.many h2 h1 m1 m5 hown hat
            have hgl : w.heap.size + 2 ≤ g := by
              rcases hat.at with e | e
              · exact h3 g e
              · omega
            have h64 : w4.heap[bl]? = some (.cells #[.int .i64 lst.k, .int .i64 lst.f, .int .i64 lst.t, .string lst.s, .slice al lst.c.len cl] 24 (0, 0)) := (hgb.block bl (Array.getElem?_eq_some_iff.1 h63).1 (fun e => by have := h3 bl e.symm; have := Hbl.out; omega)).trans h63
            obtain ⟨x, hx⟩ : ∃ x, M.getLast? = some x := by
              cases h : M.getLast? with
              | none => simp [List.getLast?_eq_none_iff] at h; subst h; simp at m1; omega
              | some x => exact ⟨x, rfl⟩
            have hxq : (Lc ++ M)[q]? = some x := by
              rw [List.getElem?_append_right (by omega), ← hx, List.getLast?_eq_getElem?]
              congr 1
              omega
            obtain ⟨xa, xc, ex, y0, y1, y2, y3, y4⟩ := hR.five (by simp; omega) hxq
            have hxn := hR.low x (List.mem_of_getElem? hxq)
            rw [ex] at hxn
            obtain ⟨r1, r2⟩ := m6 x hx
            obtain ⟨l2, Hl2⟩ : ∃ n, Hid (x.1 = n) := ⟨_, Lib.hid rfl⟩
            rw [Hl2.out] at y0 y1 y2 y3 y4 hxn r1 r2
            have b0 : w4.cell? ⟨bl, 0, none⟩ = some (.int .i64 lst.k) := by simp only [World.cell?, h64]; rfl
            have b1 : w4.cell? ⟨bl, 1, none⟩ = some (.int .i64 lst.f) := by simp only [World.cell?, h64]; rfl
            have b2 : w4.cell? ⟨bl, 2, none⟩ = some (.int .i64 lst.t) := by simp only [World.cell?, h64]; rfl
            have b3 : w4.cell? ⟨bl, 3, none⟩ = some (.string lst.s) := by simp only [World.cell?, h64]; rfl
            have b4 : w4.cell? ⟨bl, 4, none⟩ = some (.slice al lst.c.len cl) := by simp only [World.cell?, h64]; rfl
            have fz : ∀ j, w4.frozen? ⟨bl, j, none⟩ = false := fun j => by simp only [World.frozen?, h64]; simp
            have f0 := fz 0
            have f1 := fz 1
            have f2 := fz 2
            have f3 := fz 3
            have f4 := fz 4
            have hbel := app_below hB3 (fun k e => by have := h3 k e; omega) (Nat.le_refl _) hat
            have hb5 := set5_below hbel (g := bl) (i := 0) (by have := Hbl.out; omega) (.int .i64 l2.k) (.int .i64 l2.f) (.int .i64 l2.t) (.string l2.s) (.slice xa l2.c.len xc)
            have hs5 := set5_same w4 (i := 0) (.int .i64 l2.k) (.int .i64 l2.f) (.int .i64 l2.t) (.string l2.s) (.slice xa l2.c.len xc) h64
            have hR5 : RowL (set5 w4 bl 0 (.int .i64 l2.k) (.int .i64 l2.f) (.int .i64 l2.t) (.string l2.s) (.slice xa l2.c.len xc)) w.heap.size (.slice (some ⟨g, 0, none⟩) (nn + mm) gc) (Lc ++ M) := by
              have o : ∀ j, (Value.slice (some ⟨g, 0, none⟩) (nn + mm) gc).ownBlock ≠ some (⟨bl, j, none⟩ : Addr).block := fun j e => by
                have e : g = bl := by simpa [Value.ownBlock] using e
                have := Hbl.out
                omega
              have hB : ∀ j, w.heap.size ≤ (⟨bl, j, none⟩ : Addr).block := fun j => by have := Hbl.out; simp only; omega
              unfold set5
              exact ((((hR.set (o 0) (hB 0) _).set (o _) (hB _) _).set (o _) (hB _) _).set (o _) (hB _) _).set (o _) (hB _) _
            have hn5 : NdV (· < w.heap.size) (set5 w4 bl 0 (.int .i64 l2.k) (.int .i64 l2.f) (.int .i64 l2.t) (.string l2.s) (.slice xa l2.c.len xc)) l2 (.agg #[.int .i64 l2.k, .int .i64 l2.f, .int .i64 l2.t, .string l2.s, .slice xa l2.c.len xc]) :=
              hxn.cells fun p u hp hc => set5_cell (by have hp : p.block < w.heap.size := hp; have := Hbl.out; omega) hc
            have HF : Hid (AtL w (set5 w4 bl 0 (.int .i64 l2.k) (.int .i64 l2.f) (.int .i64 l2.t) (.string l2.s) (.slice xa l2.c.len xc)) bl fa ta ⟨k, f, t, s, c⟩ l2 xa xc (some ⟨g, 0, none⟩) (nn + mm) gc) :=
              Lib.hid ⟨Lc ++ M, by simp [h1, m1], hR5, fun k e => by
                have e : g = k := by simpa [Value.ownBlock] using e
                omega, hb5, by have := set5_size w4 (g := bl) (i := 0) (.int .i64 l2.k) (.int .i64 l2.f) (.int .i64 l2.t) (.string l2.s) (.slice xa l2.c.len xc); have := hgb.size; omega, hs5, hn5, by omega, .inr ⟨by omega, by rw [List.map_append]; exact r2⟩⟩
            rw [hq] at HF ⊢
            unfold set5 at HF
            clear hown hat m5 m6 h2 h3 h63 hB3 h8 hgb hR h64 hxq ex hxn r2 fz hbel hb5 hs5 hR5 hn5 HZ HMM HH m4 h2' hobw
            clear m5
            go_wp2_with fail
            go_roundg (l2.c.cnt)
            case measure => omega
            case rel => exact ⟨l2, xa, xc, some ⟨g, 0, none⟩, q + 1, gc, rfl, rfl, HF⟩
          have HMh := Lib.hid HM
          have hcl : ∀ j u, (cellsL Lp)[j]? = some u → w3.cell? ⟨gp, j, none⟩ = some u := fun j u hu => by
            obtain ⟨g', e, hc⟩ := row_cell (row_len p2.row p1) hu
            cases e
            exact hc
          have hlast : ∀ x : Nv, Lp.getLast? = some x → (pathF fa ta lst.c).getLast? = some x.1 := fun x hx => by
            have e : (Lp.map (·.1)).getLast? = some x.1 := by rw [List.getLast?_map, hx]; rfl
            rw [p3, List.getLast?_cons] at e
            cases h : (pathF fa ta lst.c).getLast? with
            | none => simp [List.getLast?_eq_none_iff] at h; exact absurd h p4
            | some y => rw [h] at e; simpa using e
          have hm2 : 2 ≤ m := by
            have e := congrArg List.length p3
            have : 0 < (pathF fa ta lst.c).length := List.length_pos_iff.2 p4
            simp only [List.length_map, List.length_cons] at e
            omega
          have hcp : 2 ≤ cp := by omega
          by_cases hn0 : nn = 0
          · have HX := Lib.hid (show Lp.length = m ∧ 0 < m ∧ m ≤ 1000001 ∧ (∀ j u, (cellsL Lp)[j]? = some u → w3.cell? ((⟨gp, 0, none⟩ : Addr).add j) = some u) ∧ (∀ x ∈ Lp, NdV (· < w.heap.size) w3 x.1 x.2) ∧ (∀ x, Lp.getLast? = some x → x.1.c.cnt < lst.c.cnt ∧ Lc.map (·.1) ++ Lp.map (·.1) ++ atF fa ta x.1.c = atN fa ta ⟨k, f, t, s, c⟩) from by
              refine ⟨p1, by omega, hm9, fun j u hu => by rw [add0]; exact hcl j u hu, p2.low, fun x hx => ?_⟩
              obtain ⟨e1, e2⟩ := path_last fa ta lst.c x.1 (hlast x hx)
              refine ⟨e2, ?_⟩
              rcases h9 with ⟨_, rfl, h9⟩ | ⟨h9, _⟩
              · have hL0 : Lc = [] := List.length_eq_zero_iff.1 (by omega)
                subst hL0
                rw [p3]
                have e1 : atF fa ta c = pathF fa ta c ++ atF fa ta x.1.c := e1
                have hne : (atF fa ta c).isEmpty = false := by
                  rw [e1]
                  have p4 : pathF fa ta c ≠ [] := p4
                  simp [p4]
                rw [show atN fa ta ⟨k, f, t, s, c⟩ = if (atF fa ta c).isEmpty then (if spN fa ta ⟨k, f, t, s, c⟩ then [⟨k, f, t, s, c⟩] else []) else ⟨k, f, t, s, c⟩ :: atF fa ta c from rfl, hne, e1]
                rfl
              · omega)
            subst hn0
            clear hKo2 HM h1 h2 h3 h4 h5 h6 h7 h8 h9 hq hb p1 p2 p3 p4 Hr HP HLm HPP h63 hB3 hcl hlast h2' hobw
            go_wp2_with fail
            obtain ⟨x1, x2, x3, x4, x5, x6⟩ := HX.out
            exact HMh.out _ _ _ _ _ _ _ _ Lp x1 x2 x3 x4 x5 x6
          · have hgt : 0 < nn := by omega
            have HX := Lib.hid (show (Lp.drop 1).length = m - 1 ∧ 0 < m - 1 ∧ m - 1 ≤ 1000001 ∧ (∀ j u, (cellsL (Lp.drop 1))[j]? = some u → w3.cell? ((⟨gp, 5, none⟩ : Addr).add j) = some u) ∧ (∀ x ∈ Lp.drop 1, NdV (· < w.heap.size) w3 x.1 x.2) ∧ (∀ x, (Lp.drop 1).getLast? = some x → x.1.c.cnt < lst.c.cnt ∧ Lc.map (·.1) ++ (Lp.drop 1).map (·.1) ++ atF fa ta x.1.c = atN fa ta ⟨k, f, t, s, c⟩) from by
              refine ⟨by simp [p1], by omega, by omega, fun j u hu => ?_, fun x hx => p2.low x (List.mem_of_mem_drop hx), fun x hx => ?_⟩
              · cases Lp with
                | nil => simp at p1; omega
                | cons y Lp =>
                  have h5 := (p2.low y (by simp)).five
                  have := hcl (5 + j) u (by
                    unfold cellsL at hu ⊢
                    rw [List.flatMap_cons, List.getElem?_append_right (by omega), show 5 + j - y.2.cells.toList.length = j by omega]
                    exact hu)
                  rw [addN]
                  exact this
              · have hx2 : Lp.getLast? = some x := by
                  rw [List.getLast?_drop] at hx
                  split at hx
                  · cases hx
                  · exact hx
                obtain ⟨e1, e2⟩ := path_last fa ta lst.c x.1 (hlast x hx2)
                refine ⟨e2, ?_⟩
                rcases h9 with ⟨h9, _⟩ | ⟨_, h9⟩
                · omega
                · rw [← h9, e1, List.map_drop, p3]
                  simp)
            clear hKo2 HM h1 h2 h3 h4 h5 h6 h7 h8 h9 hq hb p1 p2 p3 p4 Hr HP HLm HPP h63 hB3 hcl hlast h2' hobw
            go_wp2_with fail
            obtain ⟨x1, x2, x3, x4, x5, x6⟩ := HX.out
            exact HMh.out _ _ _ _ _ _ _ _ (Lp.drop 1) x1 x2 x3 x4 x5 x6
    have HLh := Lib.hid HL
    clear hKo HL
    cases b with
    | false =>
      go_wp2_with fail
      obtain ⟨hB, hsz, hc, _⟩ := HB.out
      refine HLh.out _ _ _ _ _ _ _ _ _ ⟨[], rfl, RowL.nil _ _, (fun k e => by cases e), hB, by omega, ?_, ?_, hc, .inl ⟨rfl, rfl, Hb.out.symm⟩⟩
      · simp only [Hlen.out]
        exact HQ.out.2
      · simp only [Hlen.out]
        exact HND.out
    | true =>
      have hs2 : w.heap.size ≤ w1.heap.size := HB.out.1.size
      go_wp2_with (refine wpList_app _ rfl _ _ _ rfl w.heap.size 24 ni _ 5 64 Try.underlying22 hni hnz hns hnb rfl (.slice none 0 0) 0 [] rfl (World.ownsRow_nil _ _ _ _) ⟨w1.heap.size, 0, none⟩ 1 1 [.int .i64 k, .int .i64 f, .int .i64 t, .string s, .slice ak len ck] rfl rfl (World.news_of_block (cs := #[.int .i64 k, .int .i64 f, .int .i64 t, .string s, .slice ak len ck]) (t := 24) (fr := (0, 0)) (heap_alloc_new w1 _)) (fun u hu => by simp at hu; rcases hu with h | h | h | h | h <;> (subst h; rfl)) (by omega) (by unfold maxLen; omega) (by omega) (by simp; omega) ?_; intro g gc w3 hown hat; have HZ := Lib.hid (And.intro hown hat); clear hown hat)
      obtain ⟨hB, hsz, hc, _⟩ := HB.out
      obtain ⟨hown, hat⟩ := HZ.out
      have hwa : Below w1.heap.size w1 (w1.alloc (.cells #[.int .i64 k, .int .i64 f, .int .i64 t, .string s, .slice ak len ck] 24)) := (Below.refl _ w1).alloc (Nat.le_refl _) _
      have hgb := hat.grown
      have hbg : w1.heap.size ≤ g := by
        rcases hat.at with e | e
        · cases e
        · simp at e; omega
      have hbel : Below w1.heap.size w1 w3 := app_below hwa (fun k e => by cases e) (Nat.le_refl _) hat
      refine HLh.out _ _ _ _ _ _ _ _ _ ⟨[((⟨k, f, t, s, c⟩ : Nd), .agg #[.int .i64 k, .int .i64 f, .int .i64 t, .string s, .slice ak len ck])], rfl, ⟨hown, fun x hx => ?_⟩, fun j e => ?_, hB.trans (Below.mono hbel hB.size), by have := hbel.size; omega, ?_, ?_, hc, .inr ⟨by omega, ?_⟩⟩
      · have hx := List.mem_singleton.1 hx
        subst hx
        exact HND.out.cells fun p u _ hc => cell_below hbel rfl hc
      · have e : g = j := by simpa [Value.ownBlock] using e
        omega
      · simp only [Hlen.out]
        exact (hbel.block bl (Array.getElem?_eq_some_iff.1 HQ.out.2).1).trans HQ.out.2
      · simp only [Hlen.out]
        exact HND.out.cells fun p u _ hc => cell_below hbel rfl hc
      · have h1 := Hb.out
        unfold atN
        rw [← h1]
        cases h : (atF fa ta c).isEmpty with
        | true => simp at h; simp [h]
        | false => simp
  have HRh := Lib.hid HR
  clear hK1 HR
  cases d1 : (f == fa) with
  | false =>
    go_wp2_with fail
    exact HRh.out _ _ _ _ _ _ _ _ _ _ _ (by unfold spN; simp [d1])
  | true =>
    cases d2 : (t == ta) with
    | false =>
      go_wp2_with fail
      exact HRh.out _ _ _ _ _ _ _ _ _ _ _ (by unfold spN; simp [d1, d2])
    | true =>
      go_wp2_with fail
      exact HRh.out _ _ _ _ _ _ _ _ _ _ _ (by unfold spN; simp [d1, d2])
end Go.Proofs.Ytmkjajapbkdpiaa
