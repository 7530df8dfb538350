/- recastref4.Depth, and that tree.Depth tells the same. No condition. -/
import Derived.Test.YtmkjajapbkdpiaaTrNodes
import Derived.Test.YtmkjajapbkdpiaaTrLoops
namespace Go.Proofs.Ytmkjajapbkdpiaa
open Go.RowKit

theorem w64 {n : Int} (h : -9223372036854775808 ≤ n ∧ n ≤ 9223372036854775807) : wrap64 n = n := by unfold wrap64; omega

def heightF : Fo → Int
  | .nil => 0
  | .cons _ _ _ _ c r => max (heightF c + 1) (heightF r)
theorem heightF_bound : ∀ F : Fo, 0 ≤ heightF F ∧ heightF F ≤ F.cnt
  | .nil => by simp [heightF, Fo.cnt]
  | .cons k f t s c r => by
    have h1 := heightF_bound c
    have h2 := heightF_bound r
    simp only [heightF, Fo.cnt]
    omega

theorem depL_fold : ∀ (F : Fo) (d m : Int), 0 ≤ d → d + F.cnt ≤ 1000000000 → d ≤ m → ((flatF d F).map (·.1)).foldl (fun m d => max m (wrap64 (d + 1))) m = max m (d + heightF F) := by
  intro F
  induction F with
  | nil => intro d m h0 _ h1; simp [flatF, heightF]; omega
  | cons k f t s c r ihc ihr =>
    intro d m h0 hb h1
    have hw : wrap64 (d + 1) = d + 1 := by
      simp only [Fo.cnt] at hb
      exact w64 ⟨by omega, by omega⟩
    simp only [Fo.cnt] at hb
    simp only [flatF, List.map_cons, List.map_append, List.foldl_cons, List.foldl_append]
    rw [hw, ihc (d + 1) _ (by omega) (by omega) (by omega), ihr d _ h0 (by omega) (by omega)]
    have h9 := heightF_bound c
    have h8 := heightF_bound r
    simp only [heightF]
    omega
theorem depL_flat (n : Nd) (h : n.c.cnt ≤ 100000000) : depL ((flatN 0 n).map (·.1)) = heightF n.c + 1 := by
  have hb := heightF_bound n.c
  have hw : wrap64 ((0 : Int) + 1) = 1 := w64 ⟨by omega, by omega⟩
  unfold depL flatN
  simp only [List.map_cons, List.foldl_cons]
  rw [hw, depL_fold n.c (0 + 1) _ (by omega) (by omega) (by omega)]
  omega

set_option maxRecDepth 100000 in
set_option maxHeartbeats 1600000 in
theorem rdepth_any : ∀ (m : Nat) (n : Nd) (v : Value) (w : World), n.c.cnt < m → n.c.cnt ≤ 100000000 → NodeV w n v →
    Calls Try.prog 16 #[v] w fun e w' => e = .returned (.int .i64 (heightF n.c + 1)) ∧ Below w.heap.size w w' := by
  intro m
  induction m with
  | zero => intro n v w h; omega
  | succ m ih =>
    intro n v w hm hcb hn
    obtain ⟨k, f, t, s, c⟩ := n
    obtain ⟨a, cap, rfl, hl1, hl2, hK⟩ := hn
    simp only at hl1 hl2 hK hm hcb ⊢
    obtain ⟨L, HLe⟩ : ∃ L, Hid (c.len = L) := ⟨_, Lib.hid rfl⟩
    rw [HLe.out] at hl1 ⊢
    have hLs : L ≤ 9223372036854775807 := by unfold maxLen at hl2; omega
    have hb1 := (Below.refl _ w).alloc (Nat.le_refl _) (.cells #[.int .i64 k, .int .i64 f, .int .i64 t, .string s, .slice a L cap] 24)
    have n4 : (w.alloc (.cells #[.int .i64 k, .int .i64 f, .int .i64 t, .string s, .slice a L cap] 24)).cell? ⟨w.heap.size, 4, none⟩ = some (.slice a L cap) := World.cell?_alloc_new w #[.int .i64 k, .int .i64 f, .int .i64 t, .string s, .slice a L cap] _ 4
    have HK := Lib.hid (hK.below hb1 rfl)
    have Hm := Lib.hid (show c.cnt ≤ m by omega)
    have Hcb := Lib.hid hcb
    have HB := Lib.hid hb1
    have Hbd := Lib.hid (heightF_bound c)
    clear hK hm hb1 hcb
    go_enter Try.func16, Try.ntmps16
    go_wp2_with fail
    obtain ⟨w1, hw1⟩ : ∃ w1, w1 = w.alloc (.cells #[.int .i64 k, .int .i64 f, .int .i64 t, .string s, .slice a L cap] 24) := ⟨_, rfl⟩
    obtain ⟨bs, hbs⟩ : ∃ bs, bs = w.heap.size := ⟨_, rfl⟩
    rw [← hw1] at n4 HK HB ⊢
    rw [← hbs] at n4 ⊢
    clear hw1 hbs
    go_loopg [3, 4] L (fun g v3 v4 wr => ∃ (i : Nat) (x : Int), i ≤ L ∧ v4 = .int .i64 i ∧ v3 = .int .i64 x ∧ 0 ≤ x ∧ x ≤ 100000002 ∧ g = L - i ∧ Hid (max x (heightF (c.drop i)) = heightF c ∧ Below w1.heap.size w1 wr))
    case atStart => exact ⟨0, 0, Nat.zero_le _, rfl, rfl, by omega, by omega, rfl, Lib.hid ⟨by have := Hbd.out; rw [show c.drop 0 = c by cases c <;> rfl]; omega, Below.refl _ _⟩⟩
    case round =>
      obtain ⟨i, x, hi, rfl, rfl, hx1, hx2, hg, Hr⟩ := hrel
      have c4 := cell_below Hr.out.2 rfl n4
      by_cases hlt : i < L
      · obtain ⟨ad, a', cap', rfl, g0, g1, g2, g3, g4, g5, g6, g7⟩ := (HK.out.below Hr.out.2 rfl).get i (by rw [HLe.out]; exact hlt)
        rw [Nat.zero_add] at g0 g1 g2 g3 g4
        obtain ⟨nd, Hnd⟩ : ∃ nd, Hid (c.get i = nd) := ⟨_, Lib.hid rfl⟩
        have Hcnt := Lib.hid (show nd.c.cnt < m ∧ nd.c.cnt ≤ 100000000 from by
          have := Fo.get_cnt c i (by rw [HLe.out]; exact hlt)
          have h2 := Hm.out
          have h3 := Hcb.out
          rw [Hnd.out] at this; omega)
        rw [Hnd.out] at g0 g1 g2 g3 g4 g5 g7
        have Hdr := Lib.hid (show heightF (c.drop i) = max (heightF nd.c + 1) (heightF (c.drop (i + 1))) from by
          rw [Fo.drop_get c i (by rw [HLe.out]; exact hlt), Hnd.out]; rfl)
        have hbz := heightF_bound nd.c
        obtain ⟨z, Hz⟩ : ∃ z, Hid (heightF nd.c + 1 = z) := ⟨_, Lib.hid rfl⟩
        have hz1 : 1 ≤ z ∧ z ≤ 100000001 := by have := Hz.out; have := Hcnt.out.2; omega
        obtain ⟨hz1, hz2⟩ := hz1
        have HV := Lib.hid (show NodeV wr nd (.agg #[.int .i64 nd.k, .int .i64 nd.f, .int .i64 nd.t, .string nd.s, .slice a' nd.c.len cap']) from ⟨a', cap', rfl, g5, g6, g7⟩)
        clear g5 g6 g7 hbz
        by_cases hgt : x < z
        · go_wp2_with (go_at_call 16; refine (ih nd _ wr Hcnt.out.1 Hcnt.out.2 HV.out).mono ?_; rintro e w' ⟨he, hb⟩; rw [Hz.out] at he; subst he; have HB2 := Lib.hid hb; clear hb)
          go_roundg (L - (i + 1))
          case measure => omega
          case rel => exact ⟨i + 1, z, by omega, by go_num, rfl, by omega, by omega, rfl, Lib.hid ⟨by have h1 := Hr.out.1; have h2 := Hdr.out; have h3 := Hz.out; omega, Hr.out.2.trans (Below.mono HB2.out Hr.out.2.size)⟩⟩
        · have hle : z ≤ x := by omega
          clear hgt
          go_wp2_with (go_at_call 16; refine (ih nd _ wr Hcnt.out.1 Hcnt.out.2 HV.out).mono ?_; rintro e w' ⟨he, hb⟩; rw [Hz.out] at he; subst he; have HB2 := Lib.hid hb; clear hb)
          go_roundg (L - (i + 1))
          case measure => omega
          case rel => exact ⟨i + 1, x, by omega, by go_num, rfl, by omega, by omega, rfl, Lib.hid ⟨by have h1 := Hr.out.1; have h2 := Hdr.out; have h3 := Hz.out; omega, Hr.out.2.trans (Below.mono HB2.out Hr.out.2.size)⟩⟩
      · have Hv : Hid (x = heightF c) := Lib.hid (by
          have := Hr.out.1
          rw [Fo.drop_len c i (by rw [HLe.out]; omega)] at this
          simp only [heightF] at this
          omega)
        have hge : L ≤ i := by omega
        clear hlt
        go_wp2_with fail
        go_ret
        exact ⟨eret_int (by rw [← Hv.out]), HB.out.trans (Below.mono Hr.out.2 HB.out.size)⟩
end Go.Proofs.Ytmkjajapbkdpiaa
