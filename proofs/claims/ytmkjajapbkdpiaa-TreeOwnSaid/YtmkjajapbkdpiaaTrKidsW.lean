/- tree.Kids. No condition. -/
import Derived.Test.YtmkjajapbkdpiaaTrLists
namespace Go.Proofs.Ytmkjajapbkdpiaa
open Go.RowKit

def kidsOf (z : List Int) (c : Fo) (i : Nat) : List Nd := ((List.range i).map c.get).filter fun n => z.contains n.k
theorem kidsOf_succ (z : List Int) (c : Fo) (i : Nat) : kidsOf z c (i + 1) = if z.contains (c.get i).k then kidsOf z c i ++ [c.get i] else kidsOf z c i := by
  unfold kidsOf
  rw [List.range_succ, List.map_append, List.filter_append]
  simp only [List.map_cons, List.map_nil, List.filter_cons, List.filter_nil]
  split <;> simp
theorem kidsOf_len (z : List Int) (c : Fo) (i : Nat) : (kidsOf z c i).length ≤ i := by
  unfold kidsOf
  exact Nat.le_trans (List.length_filter_le _ _) (by simp)
theorem Fo.len_cnt : ∀ F : Fo, F.len ≤ F.cnt := by
  intro F
  induction F with
  | nil => exact Nat.le_refl _
  | cons k f t s c r _ ih => simp only [Fo.len, Fo.cnt]; omega
theorem own_open {n : Nd} {w w' : World} {e : Ending} (h : OwnPost n w e w') : ∃ a' cap', e = .returned (.agg #[.int .i64 n.k, .int .i64 n.f, .int .i64 n.t, .string n.s, .slice a' n.c.len cap']) ∧
    OwnV (w.heap.size ≤ ·) w' n (.agg #[.int .i64 n.k, .int .i64 n.f, .int .i64 n.t, .string n.s, .slice a' n.c.len cap']) ∧ Below w.heap.size w w' := by
  obtain ⟨a', cap', h1, h2, h3, h4, h5⟩ := h
  exact ⟨a', cap', h1, ⟨a', cap', rfl, h2, h3, h5⟩, h4⟩

def KidsR (w wr : World) (z : List Int) (c : Fo) (i : Nat) (a1 : Option Addr) (nn k1 : Nat) : Prop :=
  ∃ L : List Nv, L.length = nn ∧ RowO wr w.heap.size (.slice a1 nn k1) L ∧ L.map (·.1) = kidsOf z c i ∧ Below w.heap.size w wr

set_option maxRecDepth 100000 in
set_option maxHeartbeats 1600000 in
theorem tkids_any (nd : Nd) (v : Value) (a : Option Addr) (n cap : Nat) (z : List Int) (w : World) (hn : NodeV w nd v) (hz : IntsAt w a n z) (hn9 : n ≤ 1000000) (hc9 : nd.c.cnt ≤ 1000000) :
    Calls Try.prog 20 #[v, .slice a n cap] w fun e w' => ∃ a1 nn k1, e = .returned (.slice a1 nn k1) ∧ KidsR w w' z nd.c nd.c.len a1 nn k1 := by
  obtain ⟨ni, hni, hnz, hns, hnb⟩ := info_parts infoNd5
  obtain ⟨k, f, t, s, c⟩ := nd
  obtain ⟨ak, ck, rfl, hl1, hl2, hK⟩ := hn
  simp only at hl1 hl2 hK hc9 ⊢
  obtain ⟨len, Hlen⟩ : ∃ len, Hid (c.len = len) := ⟨_, Lib.hid rfl⟩
  have hlc : len ≤ 1000000 := by
    have := Fo.len_cnt c
    have := Hlen.out
    omega
  rw [Hlen.out] at hl1 ⊢
  obtain ⟨w1, Hw1⟩ : ∃ w1, Hid (w1 = w.alloc (.cells #[.int .i64 k, .int .i64 f, .int .i64 t, .string s, .slice ak len ck] 24)) := ⟨_, Lib.hid rfl⟩
  obtain ⟨bn, Hbn⟩ : ∃ b, Hid (b = w.heap.size) := ⟨_, Lib.hid rfl⟩
  have hB : Below w.heap.size w w1 := by
    rw [Hw1.out]
    exact (Below.refl _ w).alloc (Nat.le_refl _) _
  have q1 : w1.heap[bn]? = some (.cells #[.int .i64 k, .int .i64 f, .int .i64 t, .string s, .slice ak len ck] 24 (0, 0)) := by
    rw [Hw1.out, Hbn.out]
    exact heap_alloc_new w _
  have q4 : w1.cell? ⟨bn, 4, none⟩ = some (.slice ak len ck) := by simp only [World.cell?, q1]; rfl
  have HK := Lib.hid (And.intro hK (And.intro hz hc9))
  have HB := Lib.hid hB
  clear hK hz hB q1 hc9
  go_enter Try.func20, Try.ntmps20
  go_upto_region 2 with fail
  rw [← Hw1.out]
  try rw [← Hbn.out]
  go_wp2_with fail
  go_loopg [5, 11] len (fun gg v5 v11 wr => ∃ (i nn : Nat) (a1 : Option Addr) (k1 : Nat), i ≤ len ∧ v11 = .int .i64 i ∧ v5 = .slice a1 nn k1 ∧ gg = len - i ∧ nn ≤ 1000000 ∧ Hid (KidsR w wr z c i a1 nn k1))
  case atStart => exact ⟨0, 0, none, 0, Nat.zero_le _, rfl, rfl, rfl, by omega, Lib.hid ⟨[], rfl, RowO.nil _ _, rfl, HB.out⟩⟩
  case round =>
    clear q4
    obtain ⟨i, nn, a1, k1, hi, rfl, rfl, hgg, hnn, Hr⟩ := hrel
    by_cases hlt : i < len
    · obtain ⟨L, h1, h2, h3, h4⟩ := Hr.out
      obtain ⟨ad, a', cap', rfl, g0, g1, g2, g3, g4, g5, g6, g7⟩ := (HK.out.1.below h4 rfl).get i (by rw [Hlen.out]; exact hlt)
      rw [Nat.zero_add] at g0 g1 g2 g3 g4
      have hcn := Fo.get_cnt c i (by rw [Hlen.out]; exact hlt)
      obtain ⟨nd, Hnd⟩ : ∃ nd, Hid (c.get i = nd) := ⟨_, Lib.hid rfl⟩
      rw [Hnd.out] at g0 g1 g2 g3 g4 g5 g7 hcn
      have hk := kidsOf_succ z c i
      rw [Hnd.out] at hk
      obtain ⟨wa, Hwa⟩ : ∃ wa, Hid (wa = wr.alloc (.cells #[.int .i64 nd.k, .int .i64 nd.f, .int .i64 nd.t, .string nd.s, .slice a' nd.c.len cap'] 24)) := ⟨_, Lib.hid rfl⟩
      obtain ⟨bx, Hbx⟩ : ∃ b, Hid (b = wr.heap.size) := ⟨_, Lib.hid rfl⟩
      have hal : Below wr.heap.size wr wa := by rw [Hwa.out]; exact (Below.refl _ wr).alloc (Nat.le_refl _) _
      have hbx : wa.heap[bx]? = some (.cells #[.int .i64 nd.k, .int .i64 nd.f, .int .i64 nd.t, .string nd.s, .slice a' nd.c.len cap'] 24 (0, 0)) := by rw [Hwa.out, Hbx.out]; exact heap_alloc_new wr _
      have b0 : wa.cell? ⟨bx, 0, none⟩ = some (.int .i64 nd.k) := by simp only [World.cell?, hbx]; rfl
      have b1 : wa.cell? ⟨bx, 1, none⟩ = some (.int .i64 nd.f) := by simp only [World.cell?, hbx]; rfl
      have b2 : wa.cell? ⟨bx, 2, none⟩ = some (.int .i64 nd.t) := by simp only [World.cell?, hbx]; rfl
      have b3 : wa.cell? ⟨bx, 3, none⟩ = some (.string nd.s) := by simp only [World.cell?, hbx]; rfl
      have b4 : wa.cell? ⟨bx, 4, none⟩ = some (.slice a' nd.c.len cap') := by simp only [World.cell?, hbx]; rfl
      have hba : Below w.heap.size w wa := h4.trans (Below.mono hal h4.size)
      have HC := Lib.hid (contains_any a n cap z nd.k wa (HK.out.2.1.below hba) (by omega))
      have HO := Lib.hid (own_any (nd.c.cnt + 1) nd (.agg #[.int .i64 nd.k, .int .i64 nd.f, .int .i64 nd.t, .string nd.s, .slice a' nd.c.len cap']) wa (Nat.lt_succ_self _) (by have := HK.out.2.2; omega) ⟨a', cap', rfl, g5, g6, g7.below hal rfl⟩)
      have HL := Lib.hid (And.intro h1 (And.intro (h2.below hal) (And.intro h3 (And.intro hba hk))))
      have hsw : w.heap.size ≤ wa.heap.size := hba.size
      clear h1 h2 h3 h4 hk hba hal hbx hcn g5 g6 g7
      go_upto_region 5 with fail
      rw [← Hwa.out]
      try rw [← Hbx.out]
      clear g0 g1 g2 g3 g4
      obtain ⟨tc, Htc⟩ : ∃ t, Hid (z.contains nd.k = t) := ⟨_, Lib.hid rfl⟩
      rw [Htc.out] at HC
      cases tc with
      | false =>
        go_wp2_with (go_at_call 37; refine HC.out.mono ?_; rintro e w2 ⟨rfl, rfl⟩)
        go_roundg (len - (i + 1))
        case measure => omega
        case rel =>
          obtain ⟨h1, h2, h3, hba, hk⟩ := HL.out
          exact ⟨i + 1, nn, a1, k1, by omega, by go_num, rfl, rfl, hnn, Lib.hid ⟨L, h1, h2, by rw [hk, Htc.out]; exact h3, hba⟩⟩
      | true =>
        have hnl : nn ≤ i := by
          obtain ⟨h1, h2, h3, hba, hk⟩ := HL.out
          have := kidsOf_len z c i
          rw [← h3] at this
          simp at this
          omega
        go_upto_region 6 with (go_at_call 37; refine HC.out.mono ?_; rintro e w2 ⟨rfl, rfl⟩)
        go_wp2_with first
          | (go_at_call 38; refine HO.out.mono ?_; rintro e w2 hp; obtain ⟨b', cb', rfl, ho, hb⟩ := own_open hp; have HO2 := Lib.hid (And.intro ho hb); have HR2 := Lib.hid (HL.out.2.1.below hb); have hs2 : w.heap.size ≤ w2.heap.size := Nat.le_trans hsw hb.size; clear ho hb hp)
          | (refine wpList_app _ rfl _ _ _ rfl w.heap.size 24 ni _ 5 64 Try.underlying22 hni hnz hns hnb rfl (.slice a1 nn k1) nn (cellsL L) rfl (by have := HR2.out.row.alloc (.cells #[.int .i64 nd.k, .int .i64 nd.f, .int .i64 nd.t, .string nd.s, .slice b' nd.c.len cb'] 24); rw [HL.out.1] at this; exact this) ⟨w2.heap.size, 0, none⟩ 1 1 [.int .i64 nd.k, .int .i64 nd.f, .int .i64 nd.t, .string nd.s, .slice b' nd.c.len cb'] rfl rfl (World.news_of_block (cs := #[.int .i64 nd.k, .int .i64 nd.f, .int .i64 nd.t, .string nd.s, .slice b' nd.c.len cb']) (t := 24) (fr := (0, 0)) (heap_alloc_new w2 _)) (fun u hu => by simp at hu; rcases hu with h | h | h | h | h <;> (subst h; rfl)) (by omega) (by unfold maxLen; omega) (by omega) (by simp; omega) ?_; intro g gc w3 hown hat; have HZ := Lib.hid (And.intro hown hat); clear hown hat)
        go_roundg (len - (i + 1))
        case measure => omega
        case rel =>
          obtain ⟨h1, h2, h3, hba, hk⟩ := HL.out
          obtain ⟨hown, hat⟩ := HZ.out
          obtain ⟨ho, hb⟩ := HO2.out
          have hal2 := (Below.refl _ w2).alloc (Nat.le_refl _) (.cells #[.int .i64 nd.k, .int .i64 nd.f, .int .i64 nd.t, .string nd.s, .slice b' nd.c.len cb'] 24)
          have hb3 : Below wa.heap.size wa (w2.alloc (.cells #[.int .i64 nd.k, .int .i64 nd.f, .int .i64 nd.t, .string nd.s, .slice b' nd.c.len cb'] 24)) := hb.trans (Below.mono hal2 hb.size)
          have h2' := h2.below hb3
          subst h1
          exact ⟨i + 1, L.length + 1, some ⟨g, 0, none⟩, gc, by omega, by go_num, rfl, rfl, by omega, Lib.hid ⟨L ++ [(nd, .agg #[.int .i64 nd.k, .int .i64 nd.f, .int .i64 nd.t, .string nd.s, .slice b' nd.c.len cb'])], by simp,
            h2'.next (n := nd) (nv := .agg #[.int .i64 nd.k, .int .i64 nd.f, .int .i64 nd.t, .string nd.s, .slice b' nd.c.len cb']) (s := wa.heap.size) (ho.also.frame (fun k _ hk => hal2.block k hk) |>.mono fun k hk => hk.1) (fun k e => (h2.row.lt k e).2) hsw hown hat, by rw [hk, Htc.out]; simp [h3], app_below (hba.trans (Below.mono hb3 hba.size)) (fun k e => (h2.row.lt k e).1) (Nat.le_refl _) hat⟩⟩
    · have hge : len ≤ i := by omega
      have hil : i = len := by omega
      have HF := Lib.hid (show KidsR w wr z c len a1 nn k1 from hil ▸ Hr.out)
      clear hlt hil Hr
      go_wp2_with fail
      go_ret
      exact ⟨a1, nn, k1, rfl, HF.out⟩
end Go.Proofs.Ytmkjajapbkdpiaa
