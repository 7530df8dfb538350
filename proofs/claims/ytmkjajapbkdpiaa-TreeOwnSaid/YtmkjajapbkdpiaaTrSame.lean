/- tree.Same, slices.EqualFunc at it. No condition. -/
import Derived.Test.YtmkjajapbkdpiaaTrSize
namespace Go.Proofs.Ytmkjajapbkdpiaa
open Go.RowKit

def sameF : Fo → Fo → Bool
  | .nil, .nil => true
  | .cons k _ _ s c r, .cons k' _ _ s' c' r' => (k == k') && (s.toList == s'.toList) && sameF c c' && sameF r r'
  | .nil, .cons .. => false
  | .cons .., .nil => false
def sameN (n m : Nd) : Bool := (n.k == m.k) && (n.s.toList == m.s.toList) && sameF n.c m.c

theorem sameF_len : ∀ (F G : Fo), F.len ≠ G.len → sameF F G = false
  | .nil, .nil, h => absurd rfl h
  | .nil, .cons .., _ => rfl
  | .cons .., .nil, _ => rfl
  | .cons k f t s c r, .cons k' f' t' s' c' r', h => by
    simp only [sameF]
    rw [sameF_len r r' (by simp [Fo.len] at h; exact h)]
    simp
theorem sameF_drop (F G : Fo) (i : Nat) (h1 : i < F.len) (h2 : i < G.len) : sameF (F.drop i) (G.drop i) = (sameN (F.get i) (G.get i) && sameF (F.drop (i + 1)) (G.drop (i + 1))) := by
  rw [Fo.drop_get F i h1, Fo.drop_get G i h2]
  rfl

def SameC (f m : Nat) : Prop := ∀ (n1 n2 : Nd) (v1 v2 : Value) (w : World), n1.c.cnt < m → NodeV w n1 v1 → NodeV w n2 v2 →
  Calls Try.prog f #[v1, v2] w fun e w' => e = .returned (.bool (sameN n1 n2)) ∧ Below w.heap.size w w'

set_option maxRecDepth 100000 in
set_option maxHeartbeats 1600000 in
theorem eqf_any (m : Nat) (ih : SameC 17 m) (F G : Fo) (a1 a2 : Option Addr) (cap1 cap2 : Nat) (w : World) (hF : F.cnt ≤ m) (hl1 : F.len ≤ cap1) (hm1 : cap1 ≤ maxLen) (hl2 : G.len ≤ cap2) (hm2 : cap2 ≤ maxLen)
    (h1 : KidsAt w a1 0 F) (h2 : KidsAt w a2 0 G) :
    Calls Try.prog 36 #[.slice a1 F.len cap1, .slice a2 G.len cap2, .func (.func 17) #[] #[]] w fun e w' => e = .returned (.bool (sameF F G)) ∧ Below w.heap.size w w' := by
  obtain ⟨L1, HL1⟩ : ∃ L, Hid (F.len = L) := ⟨_, Lib.hid rfl⟩
  obtain ⟨L2, HL2⟩ : ∃ L, Hid (G.len = L) := ⟨_, Lib.hid rfl⟩
  rw [HL1.out] at hl1 ⊢
  rw [HL2.out] at hl2 ⊢
  have hLs : L1 ≤ 9223372036854775807 := by unfold maxLen at hm1; omega
  have hLs2 : L2 ≤ 9223372036854775807 := by unfold maxLen at hm2; omega
  have HH := Lib.hid (And.intro ih (And.intro hF (And.intro h1 h2)))
  clear ih hF h1 h2 hl1 hl2 hm1 hm2
  by_cases hne : L1 = L2
  · subst hne
    go_enter Try.func36, Try.ntmps36
    go_wp2_with fail
    go_loopg [17] L1 (fun g v17 wr => ∃ i : Nat, i ≤ L1 ∧ v17 = .int .i64 i ∧ g = L1 - i ∧ Hid (sameF (F.drop i) (G.drop i) = sameF F G ∧ Below w.heap.size w wr))
    case atStart => exact ⟨0, Nat.zero_le _, rfl, rfl, Lib.hid ⟨by cases F <;> cases G <;> rfl, Below.refl _ _⟩⟩
    case round =>
      obtain ⟨i, hi, rfl, hg, Hr⟩ := hrel
      by_cases hlt : i < L1
      · obtain ⟨ad, a', cap', rfl, g0, g1, g2, g3, g4, g5, g6, g7⟩ := (HH.out.2.2.1.below Hr.out.2 rfl).get i (by rw [HL1.out]; exact hlt)
        obtain ⟨bd, b', cbp', rfl, k0, k1, k2, k3, k4, k5, k6, k7⟩ := (HH.out.2.2.2.below Hr.out.2 rfl).get i (by rw [HL2.out]; exact hlt)
        rw [Nat.zero_add] at g0 g1 g2 g3 g4 k0 k1 k2 k3 k4
        have Hcnt := Fo.get_cnt F i (by rw [HL1.out]; exact hlt)
        have Hdr := Lib.hid (sameF_drop F G i (by rw [HL1.out]; exact hlt) (by rw [HL2.out]; exact hlt))
        obtain ⟨n1, Hn1⟩ : ∃ nd, Hid (F.get i = nd) := ⟨_, Lib.hid rfl⟩
        obtain ⟨n2, Hn2⟩ : ∃ nd, Hid (G.get i = nd) := ⟨_, Lib.hid rfl⟩
        rw [Hn1.out] at g0 g1 g2 g3 g4 g5 g7 Hcnt Hdr
        rw [Hn2.out] at k0 k1 k2 k3 k4 k5 k7 Hdr
        have HV1 := Lib.hid (show NodeV wr n1 (.agg #[.int .i64 n1.k, .int .i64 n1.f, .int .i64 n1.t, .string n1.s, .slice a' n1.c.len cap']) from ⟨a', cap', rfl, g5, g6, g7⟩)
        have HV2 := Lib.hid (show NodeV wr n2 (.agg #[.int .i64 n2.k, .int .i64 n2.f, .int .i64 n2.t, .string n2.s, .slice b' n2.c.len cbp']) from ⟨b', cbp', rfl, k5, k6, k7⟩)
        have HC := Lib.hid (show n1.c.cnt < m from Nat.lt_of_lt_of_le Hcnt HH.out.2.1)
        clear g5 g6 g7 k5 k6 k7 Hcnt
        have kk0 := cell_alloc (o := (.cells #[.int .i64 n1.k, .int .i64 n1.f, .int .i64 n1.t, .string n1.s, .slice a' n1.c.len cap'] 24)) k0
        have kk1 := cell_alloc (o := (.cells #[.int .i64 n1.k, .int .i64 n1.f, .int .i64 n1.t, .string n1.s, .slice a' n1.c.len cap'] 24)) k1
        have kk2 := cell_alloc (o := (.cells #[.int .i64 n1.k, .int .i64 n1.f, .int .i64 n1.t, .string n1.s, .slice a' n1.c.len cap'] 24)) k2
        have kk3 := cell_alloc (o := (.cells #[.int .i64 n1.k, .int .i64 n1.f, .int .i64 n1.t, .string n1.s, .slice a' n1.c.len cap'] 24)) k3
        have kk4 := cell_alloc (o := (.cells #[.int .i64 n1.k, .int .i64 n1.f, .int .i64 n1.t, .string n1.s, .slice a' n1.c.len cap'] 24)) k4
        clear k0 k1 k2 k3 k4
        obtain ⟨t, Ht⟩ : ∃ t, Hid (sameN n1 n2 = t) := ⟨_, Lib.hid rfl⟩
        cases t with
        | true =>
          go_wp2_with (go_at_call 17; refine (HH.out.1 n1 n2 _ _ _ HC.out (HV1.out.below (((Below.refl _ wr).alloc (Nat.le_refl _) _).alloc (by simp) _)) (HV2.out.below (((Below.refl _ wr).alloc (Nat.le_refl _) _).alloc (by simp) _))).mono ?_; rintro e w' ⟨he, hb⟩; rw [Ht.out] at he; subst he; have HB2 := Lib.hid hb; clear hb)
          go_roundg (L1 - (i + 1))
          case measure => omega
          case rel => exact ⟨i + 1, by omega, by go_num, rfl, Lib.hid ⟨by rw [← Hr.out.1, Hdr.out, Ht.out]; simp, Hr.out.2.trans (Below.mono ((((Below.refl _ wr).alloc (Nat.le_refl _) _).alloc (by simp) _).trans (Below.mono HB2.out (by simp; omega))) Hr.out.2.size)⟩⟩
        | false =>
          go_wp2_with (go_at_call 17; refine (HH.out.1 n1 n2 _ _ _ HC.out (HV1.out.below (((Below.refl _ wr).alloc (Nat.le_refl _) _).alloc (by simp) _)) (HV2.out.below (((Below.refl _ wr).alloc (Nat.le_refl _) _).alloc (by simp) _))).mono ?_; rintro e w' ⟨he, hb⟩; rw [Ht.out] at he; subst he; have HB2 := Lib.hid hb; clear hb)
          go_ret
          exact ⟨eret_bool (by rw [← Hr.out.1, Hdr.out, Ht.out]; simp), Hr.out.2.trans (Below.mono ((((Below.refl _ wr).alloc (Nat.le_refl _) _).alloc (by simp) _).trans (Below.mono HB2.out (by simp; omega))) Hr.out.2.size)⟩
      · have Hv : Hid (true = sameF F G) := Lib.hid (by
          have := Hr.out.1
          rw [Fo.drop_len F i (by rw [HL1.out]; omega), Fo.drop_len G i (by rw [HL2.out]; omega)] at this
          exact this)
        have hge : L1 ≤ i := by omega
        clear hlt
        go_wp2_with fail
        go_ret
        exact ⟨eret_bool Hv.out, Hr.out.2⟩
  · go_enter Try.func36, Try.ntmps36
    have hq : (L1 != L2) = true := by simpa using hne
    have Hv : Hid (false = sameF F G) := Lib.hid (sameF_len F G (by rw [HL1.out, HL2.out]; exact hne)).symm
    go_wp2_with fail
    go_ret
    exact ⟨eret_bool Hv.out, Below.refl _ _⟩

set_option maxRecDepth 100000 in
set_option maxHeartbeats 1600000 in
theorem same_any : ∀ m, SameC 17 m := by
  intro m
  induction m with
  | zero => intro n1 n2 v1 v2 w h; omega
  | succ m ih =>
    intro n1 n2 v1 v2 w hm hn1 hn2
    obtain ⟨k1, f1, t1, s1, c1⟩ := n1
    obtain ⟨k2, f2, t2, s2, c2⟩ := n2
    obtain ⟨a1, cap1, e1, hl1, hc1, hK1⟩ := hn1
    obtain ⟨a2, cap2, e2, hl2, hc2, hK2⟩ := hn2
    simp only at e1 e2 hl1 hl2 hK1 hK2 hm
    subst e1
    subst e2
    have hbb := ((Below.refl _ w).alloc (Nat.le_refl _) (.cells #[.int .i64 k1, .int .i64 f1, .int .i64 t1, .string s1, .slice a1 c1.len cap1] 24)).alloc (by simp) (.cells #[.int .i64 k2, .int .i64 f2, .int .i64 t2, .string s2, .slice a2 c2.len cap2] 24)
    have H := Lib.hid (eqf_any m ih c1 c2 a1 a2 cap1 cap2 _ (by omega) hl1 hc1 hl2 hc2 (hK1.below hbb rfl) (hK2.below hbb rfl))
    have HB := Lib.hid hbb
    clear hbb hK1 hK2 hl1 hl2 hc1 hc2
    obtain ⟨L1, HL1⟩ : ∃ L, Hid (c1.len = L) := ⟨_, Lib.hid rfl⟩
    obtain ⟨L2, HL2⟩ : ∃ L, Hid (c2.len = L) := ⟨_, Lib.hid rfl⟩
    rw [HL1.out, HL2.out] at H HB
    rw [HL1.out, HL2.out]
    go_enter Try.func17, Try.ntmps17
    cases d1 : (k1 == k2) with
    | false =>
      go_wp2_with fail
      go_ret
      exact ⟨eret_bool (by unfold sameN; rw [d1]; rfl), HB.out⟩
    | true =>
      cases d2 : (s1.toList == s2.toList) with
      | false =>
        go_wp2_with fail
        go_ret
        exact ⟨eret_bool (by unfold sameN; rw [d1, d2]; rfl), HB.out⟩
      | true =>
        obtain ⟨t, Ht⟩ : ∃ t, Hid (sameF c1 c2 = t) := ⟨_, Lib.hid rfl⟩
        rw [Ht.out] at H
        go_wp2_with (go_at_call 36; refine H.out.mono ?_; rintro e w' ⟨rfl, hb⟩; have HB2 := Lib.hid hb; clear hb)
        go_ret
        exact ⟨eret_bool (by unfold sameN; rw [d1, d2]; simp only; rw [Ht.out]; rfl), HB.out.trans (Below.mono HB2.out HB.out.size)⟩
end Go.Proofs.Ytmkjajapbkdpiaa
