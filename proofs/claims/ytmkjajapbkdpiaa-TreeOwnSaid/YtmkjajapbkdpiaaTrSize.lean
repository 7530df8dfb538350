/- recastalike.Size, recastlaw4.in. No condition. -/
import Derived.Test.YtmkjajapbkdpiaaTrBase
namespace Go.Proofs.Ytmkjajapbkdpiaa
open Go.RowKit

def szF : Fo → Int → Int → Int
  | .nil, s, _ => s
  | .cons _ _ _ _ c r, s, most => if s ≤ most then szF r (s + szF c 1 (most - s)) most else s

theorem szF_le : ∀ (F : Fo) (s most : Int), s ≤ szF F s most ∧ (s ≤ most → szF F s most ≤ most + 1) := by
  intro F
  induction F with
  | nil => intro s most; exact ⟨Int.le_refl _, fun h => by simp only [szF]; omega⟩
  | cons k f t s' c r ihc ihr =>
    intro s most
    simp only [szF]
    split
    · rename_i h
      have h1 := ihc 1 (most - s)
      have h2 := ihr (s + szF c 1 (most - s)) most
      refine ⟨by omega, fun _ => ?_⟩
      by_cases h3 : s + szF c 1 (most - s) ≤ most
      · exact h2.2 h3
      · have h4 : szF r (s + szF c 1 (most - s)) most = s + szF c 1 (most - s) := by
          cases r with
          | nil => rfl
          | cons => simp only [szF]; rw [if_neg h3]
        rw [h4]
        by_cases h5 : (1 : Int) ≤ most - s
        · have := h1.2 h5; omega
        · have h6 : szF c 1 (most - s) = 1 := by
            cases c with
            | nil => rfl
            | cons => simp only [szF]; rw [if_neg (by omega)]
          omega
    · exact ⟨Int.le_refl _, fun h => by omega⟩

theorem szF_cnt : ∀ (F : Fo) (s most : Int), szF F s most ≤ most → szF F s most = s + F.cnt := by
  intro F
  induction F with
  | nil => intro s most _; simp [szF, Fo.cnt]
  | cons k f t s' c r ihc ihr =>
    intro s most h
    simp only [szF] at h ⊢
    split at h
    · rename_i h0
      rw [if_pos h0]
      have h1 := ihr _ _ h
      have h2 := (szF_le r (s + szF c 1 (most - s)) most).1
      have h3 := ihc 1 (most - s) (by omega)
      rw [h1, h3]
      simp only [Fo.cnt]
      omega
    · rename_i h0; exact absurd h h0

theorem szF_stop (F : Fo) (s most : Int) (h : ¬ s ≤ most) : szF F s most = s := by
  cases F with
  | nil => rfl
  | cons => simp only [szF]; rw [if_neg h]

set_option maxRecDepth 100000 in
set_option maxHeartbeats 1600000 in
theorem size_any : ∀ (m : Nat) (n : Nd) (v : Value) (most : Int) (w : World), n.c.cnt < m → NodeV w n v → -1 ≤ most → most ≤ 1000 →
    Calls Try.prog 32 #[v, .int .i64 most] w fun e w' => e = .returned (.int .i64 (szF n.c 1 most)) ∧ Below w.heap.size w w' := by
  intro m
  induction m with
  | zero => intro n v most w h; omega
  | succ m ih =>
    intro n v most w hm hn hm0 hm1
    obtain ⟨k, f, t, s, c⟩ := n
    obtain ⟨a, cap, rfl, hl1, hl2, hK⟩ := hn
    simp only at hl1 hl2 hK hm ⊢
    obtain ⟨L, HLe⟩ : ∃ L, Hid (c.len = L) := ⟨_, Lib.hid rfl⟩
    rw [HLe.out] at hl1 ⊢
    have hLs : L ≤ 9223372036854775807 := by unfold maxLen at hl2; omega
    have hb1 := (Below.refl _ w).alloc (Nat.le_refl _) (.cells #[.int .i64 k, .int .i64 f, .int .i64 t, .string s, .slice a L cap] 24)
    have n4 : (w.alloc (.cells #[.int .i64 k, .int .i64 f, .int .i64 t, .string s, .slice a L cap] 24)).cell? ⟨w.heap.size, 4, none⟩ = some (.slice a L cap) := World.cell?_alloc_new w #[.int .i64 k, .int .i64 f, .int .i64 t, .string s, .slice a L cap] _ 4
    have HK := Lib.hid (hK.below hb1 rfl)
    have Hm := Lib.hid (show c.cnt ≤ m by omega)
    have HB := Lib.hid hb1
    clear hK hm hb1
    go_enter Try.func32, Try.ntmps32
    go_wp2_with fail
    obtain ⟨w1, hw1⟩ : ∃ w1, w1 = w.alloc (.cells #[.int .i64 k, .int .i64 f, .int .i64 t, .string s, .slice a L cap] 24) := ⟨_, rfl⟩
    obtain ⟨bs, hbs⟩ : ∃ bs, bs = w.heap.size := ⟨_, rfl⟩
    rw [← hw1] at n4 HK HB ⊢
    rw [← hbs] at n4 ⊢
    clear hw1 hbs
    go_loopg [5, 6] L (fun g v5 v6 wr => ∃ (i : Nat) (x : Int), i ≤ L ∧ v6 = .int .i64 i ∧ v5 = .int .i64 x ∧ 1 ≤ x ∧ x ≤ 1002 ∧ g = L - i ∧ Hid (szF (c.drop i) x most = szF c 1 most ∧ Below w1.heap.size w1 wr))
    case atStart => exact ⟨0, 1, Nat.zero_le _, rfl, rfl, by omega, by omega, rfl, Lib.hid ⟨by cases c <;> rfl, Below.refl _ _⟩⟩
    case round =>
      obtain ⟨i, x, hi, rfl, rfl, hx1, hx2, hg, Hr⟩ := hrel
      have c4 := cell_below Hr.out.2 rfl n4
      by_cases hlt : i < L
      · by_cases hle : x ≤ most
        · obtain ⟨ad, a', cap', rfl, g0, g1, g2, g3, g4, g5, g6, g7⟩ := (HK.out.below Hr.out.2 rfl).get i (by rw [HLe.out]; exact hlt)
          rw [Nat.zero_add] at g0 g1 g2 g3 g4
          obtain ⟨nd, Hnd⟩ : ∃ nd, Hid (c.get i = nd) := ⟨_, Lib.hid rfl⟩
          have Hcnt := Lib.hid (show nd.c.cnt < m from by
            have := Fo.get_cnt c i (by rw [HLe.out]; exact hlt)
            have h2 := Hm.out
            rw [Hnd.out] at this; omega)
          rw [Hnd.out] at g0 g1 g2 g3 g4 g5 g7
          have HN : Hid (szF (c.drop (i + 1)) (x + szF nd.c 1 (most - x)) most = szF c 1 most) := Lib.hid (by
            rw [← Hr.out.1, Fo.drop_get c i (by rw [HLe.out]; exact hlt), Hnd.out]
            simp only [szF]
            rw [if_pos hle])
          have hsz := szF_le nd.c 1 (most - x)
          obtain ⟨z, Hz⟩ : ∃ z, Hid (szF nd.c 1 (most - x) = z) := ⟨_, Lib.hid rfl⟩
          have hz : 1 ≤ z ∧ z ≤ 1001 ∧ x + z ≤ 1002 := by
            rw [Hz.out] at hsz
            refine ⟨hsz.1, ?_⟩
            have hxm : x ≤ most := hle
            by_cases h1 : (1 : Int) ≤ most - x
            · have := hsz.2 h1; omega
            · have := Hz.out
              rw [szF_stop _ _ _ h1] at this
              omega
          obtain ⟨hz1, hz2, hz3⟩ := hz
          have HV := Lib.hid (show NodeV wr nd (.agg #[.int .i64 nd.k, .int .i64 nd.f, .int .i64 nd.t, .string nd.s, .slice a' nd.c.len cap']) from ⟨a', cap', rfl, g5, g6, g7⟩)
          have hcap : nd.c.len ≤ maxLen := by omega
          clear g5 g6 g7 hsz
          go_wp2_with (go_at_call 32; refine (ih nd _ (most - x) wr Hcnt.out HV.out (by omega) (by omega)).mono ?_; rintro e w' ⟨rfl, hb⟩; rw [Hz.out]; have HB2 := Lib.hid hb; clear hb)
          go_roundg (L - (i + 1))
          case measure => omega
          case rel => exact ⟨i + 1, x + z, by omega, by go_num, by go_num, by omega, by omega, rfl, Lib.hid ⟨by rw [← Hz.out]; exact HN.out, Hr.out.2.trans (Below.mono HB2.out Hr.out.2.size)⟩⟩
        · have Hv : Hid (x = szF c 1 most) := Lib.hid (by rw [← Hr.out.1, szF_stop _ _ _ hle])
          have hle' : most < x := by omega
          clear hle
          go_wp2_with fail
          go_ret
          exact ⟨eret_int Hv.out, HB.out.trans (Below.mono Hr.out.2 HB.out.size)⟩
      · have Hv : Hid (x = szF c 1 most) := Lib.hid (by
          have := Hr.out.1
          rw [Fo.drop_len c i (by rw [HLe.out]; omega)] at this
          exact this)
        have hge : L ≤ i := by omega
        clear hlt
        go_wp2_with fail
        go_ret
        exact ⟨eret_int Hv.out, HB.out.trans (Below.mono Hr.out.2 HB.out.size)⟩

theorem in_any (n : Nd) (v : Value) (w : World) (hn : NodeV w n v) :
    Calls Try.prog 8 #[v] w fun e w' => e = .returned (.bool (decide (szF n.c 1 300 ≤ 300))) ∧ Below w.heap.size w w' := by
  have HN := Lib.hid hn
  obtain ⟨a, cap, e, h1, h2, h3⟩ := hn
  obtain ⟨k, f, t, s, c⟩ := n
  simp only at e
  subst e
  obtain ⟨L, HLe⟩ : ∃ L, Hid (c.len = L) := ⟨_, Lib.hid rfl⟩
  rw [HLe.out] at HN ⊢
  have hb1 := (Below.refl _ w).alloc (Nat.le_refl _) (.cells #[.int .i64 k, .int .i64 f, .int .i64 t, .string s, .slice a L cap] 24)
  have H := Lib.hid (size_any (c.cnt + 1) ⟨k, f, t, s, c⟩ _ 300 _ (by simp) (HN.out.below hb1) (by omega) (by omega))
  obtain ⟨z, Hz⟩ : ∃ z, Hid (szF c 1 300 = z) := ⟨_, Lib.hid rfl⟩
  have Hb := Lib.hid hb1
  clear hb1 h1 h2 h3
  go_enter Try.func8, Try.ntmps8
  go_wp2_with (go_at_call 32; refine H.out.mono ?_; rintro e w' ⟨rfl, hb⟩; simp only [Hz.out]; have HB2 := Lib.hid hb; clear hb)
  go_ret
  exact ⟨eret_bool (by simp only [Hz.out]), Hb.out.trans (Below.mono HB2.out Hb.out.size)⟩
end Go.Proofs.Ytmkjajapbkdpiaa
