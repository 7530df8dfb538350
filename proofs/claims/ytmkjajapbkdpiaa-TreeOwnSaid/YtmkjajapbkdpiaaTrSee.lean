/- tree.All, called with a function of its own: the walk. No condition. -/
import Derived.Test.YtmkjajapbkdpiaaTrAll
import Derived.Test.YtmkjajapbkdpiaaTrFlatWalk
namespace Go.Proofs.Ytmkjajapbkdpiaa
open Go.RowKit Go.Shelf
attribute [local go_sem] Oper.semAt_some

/-- Three blocks are the caller's. -/
def triS (b1 b2 b3 : Nat) : World → Nat → Prop := fun _ k => k = b1 ∨ k = b2 ∨ k = b3
def triV (b1 b2 b3 : Nat) : World → Prop := fun W => b1 < W.heap.size ∧ b2 < W.heap.size ∧ b3 < W.heap.size
theorem triOk {b1 b2 b3 B : Nat} (h1 : B ≤ b1) (h2 : B ≤ b2) (h3 : B ≤ b3) : SOk (triS b1 b2 b3) (triV b1 b2 b3) B where
  low := fun W k e => by rcases e with e | e | e <;> omega
  fresh := fun W W' k hv hg hk e => by
    obtain ⟨v1, v2, v3⟩ := hv
    rcases e with e | e | e <;> omega
  grow := fun W W' k _ _ _ e => e
  valid := fun W W' hv hg => by
    obtain ⟨v1, v2, v3⟩ := hv
    have := hg.size
    exact ⟨by omega, by omega, by omega⟩

/-- The function that TreeAll hands to what All tells. -/
def seeV (b1 b2 b3 b4 b5 b6 : Nat) : Value := .func (.func 12) #[] #[.pointer (some ⟨b1, 0, none⟩), .pointer (some ⟨b2, 0, none⟩), .pointer (some ⟨b3, 0, none⟩), .pointer (some ⟨b4, 0, none⟩), .pointer (some ⟨b5, 0, none⟩), .pointer (some ⟨b6, 0, none⟩)]

set_option maxRecDepth 100000 in
set_option maxHeartbeats 2000000 in
theorem walk_see (b1 b2 b3 b4 b5 b6 B yb wb : Nat) (LT : List Item) {S : World → Nat → Prop} {V : World → Prop} (hS : SOk S V B) (J Jx : List Item → World → Prop)
    (hJ : ∀ pre W W', J pre W → W.grownBy W' none → J pre W')
    (hY : ∀ pre x W, J pre W → V W → pre ++ [x] <+: LT → Calls Try.prog 12 #[.int .i64 x.1, x.2.2, .pointer (some ⟨b1, 0, none⟩), .pointer (some ⟨b2, 0, none⟩), .pointer (some ⟨b3, 0, none⟩), .pointer (some ⟨b4, 0, none⟩), .pointer (some ⟨b5, 0, none⟩), .pointer (some ⟨b6, 0, none⟩)] W fun e W' => (e = .returned (.bool true) ∧ J (pre ++ [x]) W' ∧ Keep S V W W') ∨ (e = .returned (.bool false) ∧ Jx (pre ++ [x]) W')) :
    ∀ (m n : Nat) (d : Int) (nd : Nd) (v : Value) (pre : List Item) (W : World) (L : List Item), nd.c.cnt < m → LstN W B d nd v L → J pre W → V W → Held S W yb 0 (seeV b1 b2 b3 b4 b5 b6) → Held S W wb 0 (walkV yb wb) →
      pre ++ L <+: LT → 0 ≤ d → d + nd.c.cnt ≤ 1000000000 →
      CallsIn Fence.wide n Try.prog 35 #[.int .i64 d, v, .pointer (some ⟨yb, 0, none⟩), .pointer (some ⟨wb, 0, none⟩)] W fun e W' =>
        (e = .returned (.bool true) ∧ J (pre ++ L) W' ∧ Keep S V W W') ∨ (e = .returned (.bool false) ∧ ∃ q, q <+: L ∧ Jx (pre ++ q) W') := by
  intro m
  induction m with
  | zero => intro n d nd v pre W L h; omega
  | succ m ih =>
    intro n d nd v pre W L hm hL hJ0 hV0 hyb hwb hN hd0 hd1
    obtain ⟨a, cap, Lk, rfl, hl1, hl2, rfl, hLk⟩ := hL
    have hdd : ∀ k : Nat, (Fence.wide.depth.isSome = true → 1 ≤ k) := fun k h => by cases h
    have hf12 : Fence.wide.fn 12 := trivial
    have hf35 : Fence.wide.fn 35 := trivial
    obtain ⟨k, f, t, s, c⟩ := nd
    simp only at hl1 hl2 hLk hm hd1
    obtain ⟨len, Hlen⟩ : ∃ len, Hid (c.len = len) := ⟨_, Lib.hid rfl⟩
    rw [Hlen.out] at hl1 hN ⊢
    have hls : len ≤ 9223372036854775807 := by unfold maxLen at hl2; omega
    obtain ⟨o, Ho⟩ : ∃ o, Hid (o = Obj.cells #[.int .i64 k, .int .i64 f, .int .i64 t, .string s, .slice a len cap] 24) := ⟨_, Lib.hid rfl⟩
    have hg1 := World.grownBy_alloc W o none
    have hk1 : Keep S V W (W.alloc o) := Keep.grow hS hg1
    have hV1 := (hk1.2 hV0).1
    have hyb1 := hyb.keep hV0 hk1
    have hwb1 := hwb.keep hV0 hk1
    have hbox : Held S (W.alloc o) W.heap.size 4 (.slice a len cap) := Held.new hS hV0 hg1 (Nat.le_refl _) (by rw [Ho.out]; exact World.cell?_alloc_new W #[.int .i64 k, .int .i64 f, .int .i64 t, .string s, .slice a len cap] _ 4)
    have hL1 := hLk.cells (Keep.low hS hV0 hk1)
    obtain ⟨x, Hx⟩ : ∃ x : Item, Hid (x = (d, ⟨k, f, t, s, c⟩, valOf k f t s a len cap)) := ⟨_, Lib.hid rfl⟩
    have hR := hY pre x (W.alloc o) (hJ _ _ _ hJ0 hg1) hV1 (by rw [Hx.out]; exact List.IsPrefix.trans ⟨Lk, by simp⟩ hN)
    have hyc := hyb1.1
    unfold seeV at hyc
    have hx1 : x.1 = d := by rw [Hx.out]
    have hx2 : x.2.2 = valOf k f t s a len cap := by rw [Hx.out]
    rw [hx1, hx2] at hR
    clear hx1 hx2
    unfold valOf at hR
    rw [Ho.out] at hR hyc
    have HH := Lib.hid (And.intro hk1 (And.intro hV1 (And.intro hyb1 (And.intro hwb1 (And.intro hbox (And.intro hL1 (And.intro hN (And.intro hm hd1))))))))
    clear hk1 hV1 hyb1 hwb1 hbox hL1 hg1 hyb hwb hJ0 hV0 hLk
    have HR := Lib.hid hR
    clear hR
    refine callsIn_of_wp Try.func35 rfl trivial ?_ rfl
    simp only [valOf, Try.ntmps35, List.size_toArray, List.length_cons, List.length_nil, Nat.reduceAdd, Nat.reduceSub, Array.replicate_succ, Array.replicate_zero, List.push_toArray, List.append_toArray, List.nil_append, List.cons_append]
    gi_wp2_with ((try refine ⟨hdd _, ?_⟩); gi_at_call 12; refine (callsIn_wide.2 HR.out).mono ?_; clear HR; rintro e W2 (⟨rfl, hJ2, hk2⟩ | ⟨rfl, hJx2⟩) <;> refine hold ?_)
    · refine Hold.mk ?_
      rw [← Ho.out] at hk2
      obtain ⟨hk1, hV1, hyb1, hwb1, hbox, hL1, hN, hm, hd1⟩ := HH.out
      have hV2 := (hk2.2 hV1).1
      have hbox2 := hbox.keep hV1 hk2
      obtain ⟨bs, hbs⟩ : ∃ bs, bs = W.heap.size := ⟨_, rfl⟩
      rw [← hbs] at hbox2 ⊢
      have H0 := Lib.hid (show ∃ Ld Lr, Lk = Ld ++ Lr ∧ LstF W2 B (d + 1) a 0 (c.drop 0) Lr ∧ J (pre ++ [x] ++ Ld) W2 ∧ Keep S V W W2 ∧ V W2 ∧ Held S W2 yb 0 (seeV b1 b2 b3 b4 b5 b6) ∧ Held S W2 wb 0 (walkV yb wb) ∧ Held S W2 bs 4 (.slice a len cap) from
        ⟨[], Lk, rfl, by rw [show c.drop 0 = c by cases c <;> rfl]; exact hL1.cells (Keep.low hS hV1 hk2), by rw [List.append_nil]; exact hJ2, hk1.trans hk2, hV2, hyb1.keep hV1 hk2, hwb1.keep hV1 hk2, hbox2⟩)
      have c4 := hbox2.1
      clear hk1 hV1 hyb1 hwb1 hbox hL1 hJ2 hk2 hV2 hbox2 hyc hbs
      gi_wp2
      gi_loopw [17] (fun v wr => ∃ i : Nat, i ≤ len ∧ v = .int .i64 i ∧ Hid (∃ Ld Lr, Lk = Ld ++ Lr ∧ LstF wr B (d + 1) a i (c.drop i) Lr ∧ J (pre ++ [x] ++ Ld) wr ∧ Keep S V W wr ∧ V wr ∧ Held S wr yb 0 (seeV b1 b2 b3 b4 b5 b6) ∧ Held S wr wb 0 (walkV yb wb) ∧ Held S wr bs 4 (.slice a len cap)))
        (fun v _ => len - (intOf v).toNat)
      case atStart => exact ⟨0, Nat.zero_le _, rfl, H0⟩
      case round =>
        clear H0 c4
        obtain ⟨i, hi, rfl, Hr⟩ := hrel
        obtain ⟨Ld, Lr, hLe, hLr, hJr, hkr, hVr, hyr, hwr, hbr⟩ := Hr.out
        by_cases hlt : i < len
        · rw [Fo.drop_get c i (by rw [Hlen.out]; exact hlt)] at hLr
          have hcn := Fo.get_cnt c i (by rw [Hlen.out]; exact hlt)
          obtain ⟨nd, Hnd⟩ : ∃ nd, Hid (c.get i = nd) := ⟨_, Lib.hid rfl⟩
          rw [Hnd.out] at hLr hcn
          obtain ⟨ad, a', cap', L1, L2, rfl, hb, g0, g1, g2, g3, g4, g6, g7, rfl, hLa, hLb⟩ := hLr
          obtain ⟨o2, Ho2⟩ : ∃ o2, Hid (o2 = Obj.cells #[.int .i64 nd.k, .int .i64 nd.f, .int .i64 nd.t, .string nd.s, .slice a' nd.c.len cap'] 24) := ⟨_, Lib.hid rfl⟩
          have hg2 := World.grownBy_alloc wr o2 none
          have hk2 : Keep S V wr (wr.alloc o2) := Keep.grow hS hg2
          have hV2 := (hk2.2 hVr).1
          have hih := ih (n - 1) (d + 1) nd (valOf nd.k nd.f nd.t nd.s a' nd.c.len cap') (pre ++ [x] ++ Ld) (wr.alloc o2) ((d + 1, nd, valOf nd.k nd.f nd.t nd.s a' nd.c.len cap') :: L1) (by omega)
            ⟨a', cap', L1, rfl, g6, g7, rfl, hLa.cells (Keep.low hS hVr hk2)⟩ (hJ _ _ _ hJr hg2) hV2 (hyr.keep hVr hk2) (hwr.keep hVr hk2) (List.IsPrefix.trans ⟨L2, by rw [hLe, Hx.out]; simp [valOf]⟩ hN) (by omega) (by omega)
          have hwc := (hwr.keep hVr hk2).1
          rw [Ho2.out] at hih hwc
          simp only [valOf] at hih
          unfold walkV at hwc
          have HI := Lib.hid hih
          have HL2 := Lib.hid (And.intro hk2 (And.intro hV2 (And.intro hVr (And.intro hkr (And.intro hyr (And.intro hwr (And.intro hbr (And.intro hLb hLe))))))))
          clear hih hLa hLb hJr hg2 hk2 hV2 hVr hkr hyr hwr hLe
          gi_wp2_with ((try refine ⟨hdd _, ?_⟩); gi_at_call 35; refine HI.out.mono ?_; rintro e W3 (⟨rfl, hJ3, hk3⟩ | ⟨rfl, q, hq, hJx3⟩))
          · rw [← Ho2.out] at hk3
            obtain ⟨hk2, hV2, hVr, hkr, hyr, hwr, hbr, hLb, hLe⟩ := HL2.out
            have hk4 := hk2.trans hk3
            go_roundw
            case rel =>
              refine ⟨i + 1, by omega, by go_num, Lib.hid ⟨Ld ++ ((d + 1, nd, valOf nd.k nd.f nd.t nd.s a' nd.c.len cap') :: L1), L2, ?_, hLb.cells (Keep.low hS hVr hk4), ?_, hkr.trans hk4, (hk4.2 hVr).1, hyr.keep hVr hk4, hwr.keep hVr hk4, hbr.keep hVr hk4⟩⟩
              · rw [hLe]; simp
              · rw [← List.append_assoc]; exact hJ3
            case measure => simp [intOf]; omega
          · obtain ⟨_, _, _, _, _, _, _, _, hLe⟩ := HL2.out
            gi_wp2
            go_ret
            refine .inr ⟨rfl, x :: (Ld ++ q), ?_, by simpa using hJx3⟩
            obtain ⟨z, hz⟩ := hq
            refine ⟨z ++ L2, ?_⟩
            rw [hLe, Hx.out]
            simp only [valOf, List.cons_append, List.append_assoc]
            rw [← List.append_assoc q z L2, hz]
            simp
        · rw [Fo.drop_len c i (by rw [Hlen.out]; omega)] at hLr
          have hLr : Lr = [] := hLr
          subst hLr
          have HF := Lib.hid (And.intro hLe (And.intro hJr hkr))
          have hge : len ≤ i := by omega
          clear hJr hLe hlt
          gi_wp2
          go_ret
          obtain ⟨h1, h2, h3⟩ := HF.out
          refine .inl ⟨rfl, ?_, h3⟩
          have e1 : pre ++ ((d, ⟨k, f, t, s, c⟩, valOf k f t s a len cap) :: Lk) = pre ++ [x] ++ Ld := by rw [h1, Hx.out]; simp
          have h2 := h2
          rw [← e1] at h2
          exact h2
    · refine Hold.mk ?_
      gi_wp2
      go_ret
      exact .inr ⟨rfl, [x], ⟨Lk, by rw [Hx.out]; rfl⟩, hJx2⟩
end Go.Proofs.Ytmkjajapbkdpiaa
