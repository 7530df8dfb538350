/- recastref2.times, large, end, Mul. No condition. -/
import Derived.Test.YtcnakbhogmnddaaDoorRfTrim
namespace Go.Proofs.YtcnakbhogmnddaaDoor
open Go.RowKit

theorem MulI.below {w wr wq : World} {g N i x V j c : Nat} {y2 : List Nat} (h : MulI w wr g y2 N i x V j c) (hb : Below wr.heap.size wr wq) : MulI w wq g y2 N i x V j c := by
  obtain ⟨l, r1, r2, r3, r4, r5, r6⟩ := h
  exact ⟨l, r1.below hb, r2, r3, r4, r5, r6.trans (Below.mono hb r6.size)⟩
set_option maxRecDepth 100000 in
set_option maxHeartbeats 3200000 in
theorem rtimes_any (a1 a2 : Option Addr) (m1 m2 cap1 cap2 : Nat) (y1 y2 : List Nat) (w : World) (h1 : WordsAt w a1 m1 y1) (h2 : WordsAt w a2 m2 y2) (hm1 : m1 ≤ 1000000) (hm2 : m2 ≤ 1000000) :
    Calls Tryd.prog 84 #[.slice a1 m1 cap1, .slice a2 m2 cap2] w fun e w' => ∃ g l, e = .returned (.slice (some ⟨g, 0, none⟩) (m1 + m2) (m1 + m2)) ∧ w.heap.size ≤ g ∧ OwnW w' g l ∧ l.length = m1 + m2 ∧ Words l ∧ ofW l = ofW y1 * ofW y2 ∧ Below w.heap.size w w' := by
  have H1 := Lib.hid h1
  have H2 := Lib.hid h2
  have Hm1 := Lib.hid h1.1
  have Hm2 := Lib.hid h2.1
  clear h1 h2
  go_enter Tryd.func84, Tryd.ntmps84
  go_wp2_with (refine wpList_makeW _ rfl _ _ rfl _ _ (m1 + m2) rfl rfl (by go_num) (by go_num) (by omega) ?_; intro w7 ho hb; have HO := Lib.hid (And.intro ho hb); clear ho hb)
  obtain ⟨g, Hg⟩ : ∃ g, Hid (g = w.heap.size) := ⟨_, Lib.hid rfl⟩
  rw [← Hg.out]
  go_loopg [6] m1 (fun gg v6 wr => ∃ i : Nat, i ≤ m1 ∧ v6 = .int .i64 i ∧ gg = m1 - i ∧ Hid (MulR w wr g y1 y2 (m1 + m2) i))
  case atStart => exact ⟨0, Nat.zero_le _, rfl, rfl, Lib.hid ⟨_, by rw [Hg.out]; exact HO.out.1, by simp, words_zero _, by simp [ofW, zero_ofW], fun k _ => by simp [List.getD, List.getElem?_replicate]; split <;> simp, HO.out.2⟩⟩
  case round =>
    obtain ⟨i, hi, rfl, hgg, Hr⟩ := hrel
    by_cases hli : i < m1
    · obtain ⟨u, Hu⟩ : ∃ u, Hid (y1.getD i 0 = u) := ⟨_, Lib.hid rfl⟩
      have hu9 : u < 4294967296 := by rw [← Hu.out]; exact H1.out.2.1.get i
      have HI0 := Lib.hid (show MulI w wr g y2 (m1 + m2) i u (ofW (y1.take i) * ofW y2) 0 0 from Hr.out.start)
      clear Hr
      go_wp2_with fail
      rename World => wo
      go_loopg [7, 8] m2 (fun gg v7 v8 wr => ∃ (j c : Nat), j ≤ m2 ∧ v8 = .int .i64 j ∧ v7 = .int .u64 c ∧ c < 4294967296 ∧ gg = m2 - j ∧ Hid (MulI w wr g y2 (m1 + m2) i u (ofW (y1.take i) * ofW y2) j c))
      case atStart => exact ⟨0, 0, Nat.zero_le _, rfl, rfl, by decide, rfl, HI0⟩
      case round =>
        obtain ⟨j, c, hj, rfl, rfl, hc9, hgg2, Hr⟩ := hrel
        by_cases hlj : j < m2
        · go_upto_region 9 with fail
          obtain ⟨wq, Hwq⟩ : ∃ wq, Hid (wq = wr.drew) := ⟨_, Lib.hid rfl⟩
          have Hr3 := Lib.hid (show MulI w wq g y2 (m1 + m2) i u (ofW (y1.take i) * ofW y2) j c from by rw [Hwq.out]; exact Hr.out.below (Below.refl _ wr).drew)
          obtain ⟨l, r1, r2, r3, r4, r5, r6⟩ := Hr3.out
          obtain ⟨x1, e1, hx1⟩ := (H1.out.below r6).2.2 i hli
          rw [Hu.out] at hx1
          subst e1
          obtain ⟨x2, e2, hx2⟩ := (H2.out.below r6).2.2 j hlj
          obtain ⟨u2, Hu2⟩ : ∃ u, Hid (y2.getD j 0 = u) := ⟨_, Lib.hid rfl⟩
          have hu29 : u2 < 4294967296 := by rw [← Hu2.out]; exact H2.out.2.1.get j
          rw [Hu2.out] at hx2
          subst e2
          have hcell := r1.cell (i + j) (by omega)
          have hfz := r1.frozen (i + j)
          obtain ⟨o, Ho⟩ : ∃ u, Hid (l.getD (i + j) 0 = u) := ⟨_, Lib.hid rfl⟩
          have ho9 : o < 4294967296 := by rw [← Ho.out]; exact r3.get (i + j)
          rw [Ho.out] at hcell
          obtain ⟨k, Hk⟩ : ∃ k, Hid (i + j = k) := ⟨_, Lib.hid rfl⟩
          have hk9 : k < m1 + m2 := by have := Hk.out; omega
          have hk9i : (k : Int) < (m1 : Int) + (m2 : Int) := by omega
          have eij : IntKind.i64.wrap ((i : Int) + (j : Int)) = (k : Int) := by
            have := Hk.out
            simp [IntKind.wrap, IntKind.bits, IntKind.signed]
            omega
          rw [Hk.out] at hcell hfz
          obtain ⟨f1, f2, f3, f4⟩ := mul_fits hu9 hu29 hc9 ho9
          obtain ⟨P, HP⟩ : ∃ q, Hid (u * u2 = q) := ⟨_, Lib.hid rfl⟩
          rw [HP.out] at f1 f2 f3 f4
          obtain ⟨Q, HQ⟩ : ∃ q, Hid (c + P = q) := ⟨_, Lib.hid rfl⟩
          obtain ⟨U, HU⟩ : ∃ q, Hid (Q + o = q) := ⟨_, Lib.hid rfl⟩
          have hU : c + (P + o) = U := by have := HQ.out; have := HU.out; omega
          rw [hU] at f2 f3
          have e1 : IntKind.u64.wrap ((u : Int) * (u2 : Int)) = (P : Int) := by
            rw [← Int.natCast_mul, HP.out, wrap_u64_id _ (by omega) (by omega)]
          have e2 : IntKind.u64.wrap ((c : Int) + (P : Int)) = (Q : Int) := by
            rw [← Int.natCast_add, HQ.out, wrap_u64_id _ (by omega) (by have := HU.out; omega)]
          have e3 : IntKind.u64.wrap ((Q : Int) + (o : Int)) = (U : Int) := by
            rw [← Int.natCast_add, HU.out, wrap_u64_id _ (by omega) (by omega)]
          have HF := Lib.hid (show MulI w (wq.setCell ⟨g, k, none⟩ (.int .u32 ((U : Int) % 4294967296))) g y2 (m1 + m2) i u (ofW (y1.take i) * ofW y2) (j + 1) (U / 4294967296) from by
            rw [show ((U : Int) % 4294967296) = ((U % 4294967296 : Nat) : Int) by omega, ← Hk.out]
            refine Hr3.out.step (by rw [Hm2.out]; exact hlj) (by rw [Hm2.out]; omega) (by rw [Hg.out]; exact Nat.le_refl _) Hu2.out (o := o) ?_ (by rw [HP.out]; exact hU)
            intro l' h' h2'
            have hc' := h'.cell (i + j) (by omega)
            rw [Hk.out, hcell, ← Hk.out] at hc'
            have hc' : (o : Int) = ((l'.getD (i + j) 0 : Nat) : Int) := by simpa using hc'
            omega)
          have HS9 : (fun w' => w'.cell? (x1.add i) = some (.int .u32 (u : Nat)) ∧ w'.cell? (x2.add j) = some (.int .u32 (u2 : Nat)) ∧ w'.cell? ⟨g, k, none⟩ = some (.int .u32 (o : Nat))) wr.drew := by rw [← Hwq.out]; exact ⟨hx1, hx2, hcell⟩
          clear r1 r2 r3 r4 r5 r6 Hr Hr3 f1 f4 hU hx1 hx2
          refine wp_region_pi (fun w' => w'.cell? (x1.add i) = some (.int .u32 (u : Nat)) ∧ w'.cell? (x2.add j) = some (.int .u32 (u2 : Nat)) ∧ w'.cell? ⟨g, k, none⟩ = some (.int .u32 (o : Nat))) [(0, 1), (1, 1), (2, 1), (3, 1), (4, 0), (5, 1), (6, 1), (7, 1), (8, 1), (9, 0), (10, 1), (11, 1), (12, 1), (13, 1), (14, 1), (15, 1), (16, 1), (17, 1), (18, 0), (19, 1), (20, 1), (21, 1)] [] (by kernel_rfl) (by kernel_rfl) (fun _ _ _ _ _ h => h) (HS9) ?_
          refine pd_pu (some 27) rfl rfl (by rfl) (fun ws => by go_simp; try with_reducible rfl) ?_; go_frame   -- 0 Op.move (Operand.tmp 7)
          refine pd_pu (some 28) rfl rfl (by rfl) (fun ws => by go_simp; try with_reducible rfl) ?_; go_frame   -- 1 Op.move (Operand.tmp 0)
          refine pd_pu (some 29) rfl rfl (by rfl) (fun ws => by go_simp; try with_reducible rfl) ?_; go_frame   -- 2 Op.move (Operand.tmp 6)
          refine pd_pu (some 30) rfl rfl (by rfl) (fun ws => by go_simp; try with_reducible rfl) ?_; go_frame   -- 3 Op.indexAddr 23 (Operand.tmp 28) (Operand.tmp 29)
          refine pd_ld (some 31) rfl rfl (by rfl) (fun ws HS => by go_split_ands; go_simp; try with_reducible rfl) ?_; go_frame   -- 4 Op.load 82 (Operand.tmp 30)
          refine pd_pu (some 32) rfl rfl (by rfl) (fun ws => by go_simp; try with_reducible rfl) ?_; go_frame   -- 5 Op.convert 82 89 (Operand.tmp 31)
          refine pd_pu (some 33) rfl rfl (by rfl) (fun ws => by go_simp; try with_reducible rfl) ?_; go_frame   -- 6 Op.move (Operand.tmp 1)
          refine pd_pu (some 34) rfl rfl (by rfl) (fun ws => by go_simp; try with_reducible rfl) ?_; go_frame   -- 7 Op.move (Operand.tmp 8)
          refine pd_pu (some 35) rfl rfl (by rfl) (fun ws => by go_simp; try with_reducible rfl) ?_; go_frame   -- 8 Op.indexAddr 23 (Operand.tmp 33) (Operand.tmp 34)
          refine pd_ld (some 36) rfl rfl (by rfl) (fun ws HS => by go_split_ands; go_simp; try with_reducible rfl) ?_; go_frame   -- 9 Op.load 82 (Operand.tmp 35)
          refine pd_pu (some 37) rfl rfl (by rfl) (fun ws => by go_simp; try with_reducible rfl) ?_; go_frame   -- 10 Op.convert 82 89 (Operand.tmp 36)
          refine pd_pu (some 38) rfl rfl (by rfl) (fun ws => by go_simp; try with_reducible rfl) ?_; go_frame   -- 11 Op.binOp BinOp.mul 89 (Operand.tmp 32) (Operand.tmp 37) 89
          refine pd_pu (some 39) rfl rfl (by rfl) (fun ws => by go_simp; try with_reducible rfl) ?_; go_frame   -- 12 Op.binOp BinOp.add 89 (Operand.tmp 27) (Operand.tmp 38) 89
          refine pd_pu (some 40) rfl rfl (by rfl) (fun ws => by go_simp; try with_reducible rfl) ?_; go_frame   -- 13 Op.move (Operand.tmp 5)
          refine pd_pu (some 41) rfl rfl (by rfl) (fun ws => by go_simp; try with_reducible rfl) ?_; go_frame   -- 14 Op.move (Operand.tmp 6)
          refine pd_pu (some 42) rfl rfl (by rfl) (fun ws => by go_simp; try with_reducible rfl) ?_; go_frame   -- 15 Op.move (Operand.tmp 8)
          refine pd_pu (some 43) rfl rfl (by rfl) (fun ws => by go_simp; try with_reducible rfl) ?_; go_frame   -- 16 Op.binOp BinOp.add 3 (Operand.tmp 41) (Operand.tmp 42) 3
          refine pd_pu (some 44) rfl rfl (by rfl) (fun ws => by go_simp; try with_reducible rfl) ?_; go_frame   -- 17 Op.indexAddr 23 (Operand.tmp 40) (Operand.tmp 43)
          refine pd_ld (some 45) rfl rfl (by rfl) (fun ws HS => by go_split_ands; go_simp; try with_reducible rfl) ?_; go_frame   -- 18 Op.load 82 (Operand.tmp 44)
          refine pd_pu (some 46) rfl rfl (by rfl) (fun ws => by go_simp; try with_reducible rfl) ?_; go_frame   -- 19 Op.convert 82 89 (Operand.tmp 45)
          refine pd_pu (some 47) rfl rfl (by rfl) (fun ws => by go_simp; try with_reducible rfl) ?_; go_frame   -- 20 Op.binOp BinOp.add 89 (Operand.tmp 39) (Operand.tmp 46) 89
          refine pd_pu (some 7) rfl rfl (by rfl) (fun ws => by go_simp; try with_reducible rfl) ?_; go_frame   -- 21 Op.assign (Operand.tmp 47)
          refine pi_tail (r := []) rfl ?_; simp only [opsAt]
          rw [← Hwq.out]
          go_wp2_with fail
          go_roundg (m2 - (j + 1))
          case measure => omega
          case rel => exact ⟨j + 1, U / 4294967296, by omega, by go_num, congrArg (Value.int .u64) (by omega), f3, rfl, HF⟩
        · have hje : j = m2 := by omega
          have hge : m2 ≤ j := by omega
          have Hr2 := Lib.hid (show MulI w wr g y2 (m1 + m2) i u (ofW (y1.take i) * ofW y2) y2.length c from by have h := Hr.out; rw [show j = y2.length by rw [Hm2.out]; exact hje] at h; exact h)
          obtain ⟨l, r1, r2, r3, r4, r5, r6⟩ := Hr2.out
          have hcell := r1.cell (i + m2) (by omega)
          have hfz := r1.frozen (i + m2)
          have HF := Lib.hid (show MulR w (wr.setCell ⟨g, i + m2, none⟩ (.int .u32 (c : Int))) g y1 y2 (m1 + m2) (i + 1) from by
            have := Hr2.out.done (y1 := y1) (by rw [Hm2.out]; omega) (by rw [Hg.out]; exact Nat.le_refl _) rfl Hu.out hc9
            rw [Hm2.out] at this
            exact this)
          have hij : i + m2 < m1 + m2 := by omega
          have hcm : (c : Int) % 4294967296 = (c : Int) := by omega
          clear r1 r2 r3 r4 r5 r6 Hr Hr2 hje hlj
          go_wp2_with fail
          go_roundg (m1 - (i + 1))
          case measure => omega
          case rel => exact ⟨i + 1, by omega, by go_num, rfl, HF⟩
    · have hge : m1 ≤ i := by omega
      have hie : i = m1 := by omega
      have Hr2 := Lib.hid (show MulR w wr g y1 y2 (m1 + m2) m1 from hie ▸ Hr.out)
      clear Hr hie hli
      go_wp2_with fail
      go_ret
      obtain ⟨l, r1, r2, r3, r4, r5, r6⟩ := Hr2.out
      refine ⟨g, l, by go_num, by rw [Hg.out]; exact Nat.le_refl _, r1, r2, r3, ?_, r6⟩
      rw [r4, List.take_of_length_le (by rw [Hm1.out]; exact Nat.le_refl _)]

theorem big_len (n : Nat) : 16 < (canW n).length ↔ 2 ^ 512 ≤ n := by
  constructor
  · intro h
    refine Nat.not_lt.1 fun hlt => ?_
    rw [← pow16] at hlt
    have := canW_le hlt
    omega
  · intro h
    refine Nat.not_le.1 fun hle => ?_
    have h1 := ofW_lt (canW_words n).1
    rw [(canW_words n).2] at h1
    have h2 := pow_mono 4294967296 _ 16 (by decide) hle
    rw [pow16] at h2
    omega
set_option maxRecDepth 100000 in
theorem rlarge_any (v : Value) (neg : Bool) (z : List Nat) (w : World) (h : IntV w v neg z) :
    Calls Tryd.prog 82 #[v] w fun e w' => e = .returned (.bool (decide (2 ^ 512 ≤ ofW z))) ∧ Below w.heap.size w w' := by
  obtain ⟨a, n, cap, rfl, h1, h2, h3⟩ := h
  obtain ⟨w1, Hw1⟩ : ∃ w1, Hid (w1 = w.alloc (.cells #[.bool neg, .slice a n cap] 25)) := ⟨_, Lib.hid rfl⟩
  have hB : Below w.heap.size w w1 := by
    rw [Hw1.out]
    exact (Below.refl _ w).alloc (Nat.le_refl _) _
  have HL := Lib.hid (rtrim_any a n cap z w1 (h1.below hB) h3 h2)
  have HB := Lib.hid hB
  have HW := Lib.hid h1.2.1
  obtain ⟨m, Hm⟩ : ∃ m, Hid ((trimZ z).length = m) := ⟨_, Lib.hid rfl⟩
  obtain ⟨r, Hr⟩ : ∃ r, Hid (decide (2 ^ 512 ≤ ofW z) = r ∧ decide ((16 : Int) < (m : Int)) = r) := by
    refine ⟨_, Lib.hid ⟨rfl, decide_eq_decide.2 ?_⟩⟩
    rw [← big_len, ← trim_can HW.out, Hm.out]
    omega
  rw [Hr.out.1]
  clear h1 hB
  go_enter Tryd.func82, Tryd.ntmps82
  go_wp2_with (go_at_call 86; refine hold ?_)
  rw [← Hw1.out]
  refine Hold.mk ?_
  refine HL.out.mono ?_
  rintro e w2 ⟨v, rfl, hr, hb⟩
  obtain ⟨a2, c2, rfl, hc2, _⟩ := hr.shape
  rw [Hm.out] at hc2 ⊢
  have HE := Lib.hid (HB.out.trans (Below.mono hb HB.out.size))
  clear hr hb
  go_wp2_with fail
  go_ret
  exact ⟨eret_bool Hr.out.2, HE.out⟩

set_option maxHeartbeats 1600000 in
theorem rend_any (v : Value) (i : Int) (w : World) (h : IntC w v i) :
    Calls Tryd.prog 97 #[v] w fun e w' => AnsR w' e i ∧ Below w.heap.size w w' := by
  obtain ⟨a, n, cap, rfl, hw, hc, hn⟩ := id h
  obtain ⟨b, Hb⟩ : ∃ b, Hid (decide (i < 0) = b) := ⟨_, Lib.hid rfl⟩
  have h0 := h
  unfold IntC at h0
  rw [Hb.out] at h0 ⊢
  obtain ⟨w2, Hw2⟩ : ∃ w2, Hid (w2 = (w.alloc (.cells #[.bool b, .slice a n cap] 25)).alloc (.cells #[.bool false, .slice none 0 0] 25)) := ⟨_, Lib.hid rfl⟩
  obtain ⟨bn, Hbn⟩ : ∃ b, Hid (b = w.heap.size) := ⟨_, Lib.hid rfl⟩
  obtain ⟨bm, Hbm⟩ : ∃ b, Hid (b = w.heap.size + 1) := ⟨_, Lib.hid rfl⟩
  have hB : Below w.heap.size w w2 := by
    rw [Hw2.out]
    exact ((Below.refl _ w).alloc (Nat.le_refl _) _).alloc (by simp) _
  have q2 : w2.heap[bm]? = some (.cells #[.bool false, .slice none 0 0] 25 (0, 0)) := by
    have := heap_alloc_new (w.alloc (.cells #[.bool b, .slice a n cap] 25)) (.cells #[.bool false, .slice none 0 0] 25)
    rw [World.size_alloc] at this
    rw [Hw2.out, Hbm.out]
    exact this
  have HC := Lib.hid (box2 w b false (.slice a n cap) (.slice none 0 0))
  rw [← Hw2.out, ← Hbm.out, ← Hbn.out] at HC
  have K1 := Lib.hid (rlarge_any (.agg #[.bool b, .slice a n cap]) b (canW i.natAbs) w2 (h0.below hB))
  rw [(canW_words _).2] at K1
  obtain ⟨l, Hl⟩ : ∃ l, Hid (decide (2 ^ 512 ≤ i.natAbs) = l) := ⟨_, Lib.hid rfl⟩
  rw [Hl.out] at K1
  have HB := Lib.hid (And.intro hB (And.intro q2 h))
  clear h h0 hw hB q2
  obtain ⟨s0, s1, s2, s3⟩ := HC.out w2 (Below.refl _ _)
  go_enter Tryd.func97, Tryd.ntmps97
  go_wp2_with (go_at_call 82; refine hold ?_)
  rw [← Hw2.out]
  try rw [← Hbm.out]
  try rw [← Hbn.out]
  refine Hold.mk ?_
  refine K1.out.mono ?_
  rintro e w3 ⟨rfl, hb⟩
  obtain ⟨t0, t1, t2, t3⟩ := HC.out w3 hb
  obtain ⟨hB, q2, h⟩ := HB.out
  have q3 := (hb.block bm (Array.getElem?_eq_some_iff.1 q2).1).trans q2
  have fz : ∀ j, w3.frozen? ⟨bm, j, none⟩ = false := fun j => by simp only [World.frozen?, q3]; simp
  have f0 := fz 0
  have f1 := fz 1
  have HQ := Lib.hid (And.intro q3 (And.intro (hB.trans (Below.mono hb hB.size)) (h.below (hB.trans (Below.mono hb hB.size)))))
  clear s0 s1 s2 s3 hb hB q2 q3 h fz
  have fin : ∀ (x : Bool) (u : Value), Below w.heap.size w ((w3.setCell ⟨bm, 0, none⟩ (.bool x)).setCell ⟨bm, 1, none⟩ u) ∧ ((w3.setCell ⟨bm, 0, none⟩ (.bool x)).setCell ⟨bm, 1, none⟩ u).heap[bm]? = some (.cells #[.bool x, u] 25 (0, 0)) := fun x u =>
    ⟨(HQ.out.2.1.setCell (by have := Hbm.out; simp only; omega) _).setCell (by have := Hbm.out; simp only; omega) _, (setCell_same2 (setCell_same2 HQ.out.1 _) _).trans rfl⟩
  have FIN := Lib.hid fin
  clear fin
  cases l with
  | true =>
    go_wp2_with fail
    obtain ⟨h1, h2⟩ := FIN.out false (.slice none 0 0)
    refine bodyPost_ret (results_cell_pair rfl _ _ bm 25 (.bool false) (.slice none 0 0) (0, 0) rfl h2) rfl ?_
    have hl := of_decide_eq_true Hl.out
    unfold AnsR
    rw [if_pos hl, if_pos hl]
    exact ⟨⟨_, rfl, intC_zero _⟩, h1⟩
  | false =>
    go_wp2_with fail
    obtain ⟨h1, h2⟩ := FIN.out b (.slice a n cap)
    refine bodyPost_ret (results_cell_pair rfl _ _ bm 25 (.bool b) (.slice a n cap) (0, 0) rfl h2) rfl ?_
    have hl := of_decide_eq_false Hl.out
    unfold AnsR
    rw [if_neg hl, if_neg hl]
    refine ⟨⟨_, rfl, ?_⟩, h1⟩
    obtain ⟨a', n', cap', e, hw, hc', hn'⟩ := HQ.out.2.2
    obtain ⟨rfl, rfl, rfl⟩ : a = a' ∧ n = n' ∧ cap = cap' := by
      simp at e
      exact ⟨by simp [e], by simp [e], by simp [e]⟩
    refine ⟨a, n, cap, by rw [Hb.out], hw.box HQ.out.1 _ _, hc', hn'⟩

theorem rend_k (v : Value) (i : Int) (w : World) (h : IntC w v i) :
    Calls Tryd.prog 97 #[v] w fun e w' => (∃ v k, e = .returned (.tuple #[v, .int .i64 k]) ∧ Hid (k = if big i then 2 else 0) ∧ IntC w' v (if big i then 0 else i)) ∧ Below w.heap.size w w' := by
  refine (rend_any v i w h).mono fun e w' h => ?_
  obtain ⟨⟨v, e1, h1⟩, hb⟩ := h
  rw [if_big] at e1 h1
  exact ⟨⟨v, _, e1, Lib.hid rfl, h1⟩, hb⟩
set_option maxRecDepth 100000 in
set_option maxHeartbeats 3200000 in
theorem rmul_any (v1 v2 : Value) (g1 g2 : Bool) (z1 z2 : List Nat) (w : World) (h1 : IntV w v1 g1 z1) (h2 : IntV w v2 g2 z2) :
    Calls Tryd.prog 49 #[v1, v2] w fun e w' => AnsB w' e (big (valI g1 z1) || big (valI g2 z2) || big (valI g1 z1 * valI g2 z2)) (valI g1 z1 * valI g2 z2) ∧ Below w.heap.size w w' := by
  obtain ⟨a1, n1, cap1, rfl, hw1, hc1, hn1⟩ := id h1
  obtain ⟨a2, n2, cap2, rfl, hw2, hc2, hn2⟩ := id h2
  obtain ⟨w2, Hw2⟩ : ∃ w2, Hid (w2 = ((w.alloc (.cells #[.bool g1, .slice a1 n1 cap1] 25)).alloc (.cells #[.bool g2, .slice a2 n2 cap2] 25)).alloc (.cells #[.bool false, .slice none 0 0] 25)) := ⟨_, Lib.hid rfl⟩
  obtain ⟨bn, Hbn⟩ : ∃ b, Hid (b = w.heap.size) := ⟨_, Lib.hid rfl⟩
  obtain ⟨bm, Hbm⟩ : ∃ b, Hid (b = w.heap.size + 1) := ⟨_, Lib.hid rfl⟩
  obtain ⟨bo, Hbo⟩ : ∃ b, Hid (b = w.heap.size + 2) := ⟨_, Lib.hid rfl⟩
  have HC := Lib.hid (box3 w g1 g2 (.slice a1 n1 cap1) (.slice a2 n2 cap2))
  unfold three at HC
  rw [← Hw2.out, ← Hbm.out, ← Hbo.out] at HC
  have HB := Lib.hid HC.out.1
  rw [← Hbn.out] at HC
  have hB := HB.out
  have L1 := Lib.hid (fun wx (hx : Below w2.heap.size w2 wx) => rlarge_any (.agg #[.bool g1, .slice a1 n1 cap1]) g1 z1 wx ((h1.below hB).below hx))
  have L2 := Lib.hid (fun wx (hx : Below w2.heap.size w2 wx) => rlarge_any (.agg #[.bool g2, .slice a2 n2 cap2]) g2 z2 wx ((h2.below hB).below hx))
  have HWs := Lib.hid (And.intro hw1.2.1 hw2.2.1)
  have K1 := Lib.hid (fun wx (hx : Below w2.heap.size w2 wx) => rtrim_any a1 n1 cap1 z1 wx ((hw1.below hB).below hx) (by omega) hc1)
  have K2 := Lib.hid (fun wx (hx : Below w2.heap.size w2 wx) => rtrim_any a2 n2 cap2 z2 wx ((hw2.below hB).below hx) (by omega) hc2)
  have T1 := Lib.hid (fun wx (hx : Below w2.heap.size w2 wx) => ((hw1.below hB).below hx).trim)
  have T2 := Lib.hid (fun wx (hx : Below w2.heap.size w2 wx) => ((hw2.below hB).below hx).trim)
  have HL := Lib.hid (show big (valI g1 z1) = decide (2 ^ 512 ≤ ofW z1) ∧ big (valI g2 z2) = decide (2 ^ 512 ≤ ofW z2) from by unfold big; rw [valI_abs, valI_abs]; exact ⟨rfl, rfl⟩)
  obtain ⟨x, Hx⟩ : ∃ x, Hid (valI g1 z1 = x) := ⟨_, Lib.hid rfl⟩
  obtain ⟨y, Hy⟩ : ∃ y, Hid (valI g2 z2 = y) := ⟨_, Lib.hid rfl⟩
  rw [Hx.out] at HL ⊢
  rw [Hy.out] at HL ⊢
  simp only [← HL.out.1] at L1
  simp only [← HL.out.2] at L2
  obtain ⟨lx, Hlx⟩ : ∃ b, Hid (big x = b) := ⟨_, Lib.hid rfl⟩
  obtain ⟨ly, Hly⟩ : ∃ b, Hid (big y = b) := ⟨_, Lib.hid rfl⟩
  rw [Hlx.out] at HL ⊢
  rw [Hly.out] at HL ⊢
  simp only [Hlx.out] at L1
  simp only [Hly.out] at L2
  clear h1 h2 hw1 hw2 hB
  have FIN := Lib.hid (show ∀ (wx : World) (b : Bool) (a : Option Addr) (n c : Nat) (i : Int), Below w2.heap.size w2 wx → IntC wx (.agg #[.bool b, .slice a n c]) i →
      (IntC ((wx.setCell ⟨bo, 0, none⟩ (.bool b)).setCell ⟨bo, 1, none⟩ (.slice a n c)) (.agg #[.bool b, .slice a n c]) i ∧ ((wx.setCell ⟨bo, 0, none⟩ (.bool b)).setCell ⟨bo, 1, none⟩ (.slice a n c)).heap[bo]? = some (.cells #[.bool b, .slice a n c] 25 (0, 0))) ∧
      Below w.heap.size w ((wx.setCell ⟨bo, 0, none⟩ (.bool b)).setCell ⟨bo, 1, none⟩ (.slice a n c)) from fun wx b a n c i hx hi =>
    ⟨hi.store ((HC.out.2 wx hx).2), ((HB.out.trans (Below.mono hx HB.out.size)).setCell (by have := Hbo.out; simp only; omega) _).setCell (by have := Hbo.out; simp only; omega) _⟩)
  have Hbo2 := Lib.hid (show bo = bm + 1 from by have := Hbo.out; have := Hbm.out; omega)
  have hD := Lib.hid (Below.refl w2.heap.size w2)
  obtain ⟨⟨s0, s1, s2, s3⟩, sq⟩ := HC.out.2 w2 hD.out
  obtain ⟨⟨r0, r1⟩, f0, f1⟩ := box_cells sq
  clear sq
  go_enter Tryd.func49, Tryd.ntmps49
  go_wp2_with (go_at_call 82; refine hold ?_)
  rw [← Hw2.out]
  try rw [← Hbm.out]
  try rw [← Hbn.out]
  rw [← Hbo2.out]
  refine Hold.mk ?_
  refine (L1.out w2 hD.out).mono ?_
  rintro e w3 ⟨rfl, hb⟩
  have hE := Lib.hid hb
  clear s0 s1 s2 s3 r0 r1 f0 f1 hb
  obtain ⟨⟨s0, s1, s2, s3⟩, sq⟩ := HC.out.2 w3 hE.out
  obtain ⟨⟨r0, r1⟩, f0, f1⟩ := box_cells sq
  clear sq
  cases lx with
  | true =>
    go_wp2_with fail
    obtain ⟨⟨h1, h2⟩, h3⟩ := FIN.out w3 false none 0 0 0 hE.out (intC_zero _)
    refine bodyPost_ret (results_cell_pair rfl _ _ bo 25 (.bool false) (.slice none 0 0) (0, 0) rfl h2) rfl ?_
    exact ⟨⟨_, rfl, by simpa using h1⟩, h3⟩
  | false =>
    go_wp2_with (go_at_call 82; refine hold ?_)
    refine Hold.mk ?_
    refine (L2.out w3 hE.out).mono ?_
    rintro e w4 ⟨rfl, hb⟩
    have hF := Lib.hid (hE.out.trans (Below.mono hb hE.out.size))
    clear s0 s1 s2 s3 r0 r1 f0 f1 hb
    obtain ⟨⟨s0, s1, s2, s3⟩, sq⟩ := HC.out.2 w4 hF.out
    obtain ⟨⟨r0, r1⟩, f0, f1⟩ := box_cells sq
    clear sq
    cases ly with
    | true =>
      go_wp2_with fail
      obtain ⟨⟨h1, h2⟩, h3⟩ := FIN.out w4 false none 0 0 0 hF.out (intC_zero _)
      refine bodyPost_ret (results_cell_pair rfl _ _ bo 25 (.bool false) (.slice none 0 0) (0, 0) rfl h2) rfl ?_
      exact ⟨⟨_, rfl, by simpa using h1⟩, h3⟩
    | false =>
      have HS2 := Lib.hid (show ofW z1 < 2 ^ 512 ∧ ofW z2 < 2 ^ 512 from by
        have h1 := of_decide_eq_false HL.out.1.symm
        have h2 := of_decide_eq_false HL.out.2.symm
        omega)
      have hm : (trimZ z1).length ≤ 16 ∧ (trimZ z2).length ≤ 16 := by
        have e := pow16
        rw [trim_can HWs.out.1, trim_can HWs.out.2]
        exact ⟨canW_le (by rw [e]; exact HS2.out.1), canW_le (by rw [e]; exact HS2.out.2)⟩
      obtain ⟨y1, Hy1⟩ : ∃ y, Hid (trimZ z1 = y ∧ ofW y = ofW z1) := ⟨_, Lib.hid ⟨rfl, ofW_trim _⟩⟩
      obtain ⟨y2, Hy2⟩ : ∃ y, Hid (trimZ z2 = y ∧ ofW y = ofW z2) := ⟨_, Lib.hid ⟨rfl, ofW_trim _⟩⟩
      simp only [Hy1.out.1] at hm K1 T1
      simp only [Hy2.out.1] at hm K2 T2
      obtain ⟨m1, Hm1⟩ : ∃ m, Hid (y1.length = m) := ⟨_, Lib.hid rfl⟩
      obtain ⟨m2, Hm2⟩ : ∃ m, Hid (y2.length = m) := ⟨_, Lib.hid rfl⟩
      simp only [Hm1.out] at hm K1 T1
      simp only [Hm2.out] at hm K2 T2
      obtain ⟨hm1, hm2⟩ := hm
      have hG := Lib.hid (show Below w2.heap.size w2 w4.drew from hF.out.trans (Below.mono (Below.refl _ w4).drew hF.out.size))
      have HY1 := Lib.hid (show Words y1 from by rw [← Hy1.out.1]; exact HWs.out.1.trim)
      have HY2 := Lib.hid (show Words y2 from by rw [← Hy2.out.1]; exact HWs.out.2.trim)
      go_upto_region 3 with fail
      clear s0 s1 s2 s3 r0 r1 f0 f1
      have HS := (HC.out.2 w4.drew hG.out).1
      refine wp_region_pi (fun w' => w'.cell? ⟨bn, 0, none⟩ = some (.bool g1) ∧ w'.cell? ⟨bn, 1, none⟩ = some (.slice a1 n1 cap1) ∧ w'.cell? ⟨bm, 0, none⟩ = some (.bool g2) ∧ w'.cell? ⟨bm, 1, none⟩ = some (.slice a2 n2 cap2)) [(0, 1), (1, 0), (2, 1), (3, 0), (4, 1), (5, 1), (6, 0), (8, 1), (9, 0), (7, 2), (10, 2), (11, 2), (12, 3), (13, 3), (14, 1), (15, 3), (16, 3), (17, 3)] [(12, [4, 1]), (12, [4, 3]), (12, [11, 7, 6]), (12, [11, 10, 9]), (13, [12, 4, 1]), (13, [12, 4, 3]), (13, [12, 11, 7, 6]), (13, [12, 11, 10, 9]), (15, [13, 12, 4, 1]), (15, [13, 12, 4, 3]), (15, [13, 12, 11, 7, 6]), (15, [13, 12, 11, 10, 9]), (16, [1]), (16, [3]), (16, [6]), (16, [9]), (17, [1]), (17, [3]), (17, [6]), (17, [9])] (by kernel_rfl) (by kernel_rfl) (fun _ _ _ _ _ h => h) (HS) ?_
      refine pd_pu (some 13) rfl rfl (by rfl) (fun ws => by go_simp; try with_reducible rfl) ?_; go_frame   -- 0 Op.fieldAddr 25 (Operand.tmp 2) 0
      refine pd_ld (some 14) rfl rfl (by rfl) (fun ws HS => by go_split_ands; go_simp; try with_reducible rfl) ?_; go_frame   -- 1 Op.load 4 (Operand.tmp 13)
      refine pd_pu (some 15) rfl rfl (by rfl) (fun ws => by go_simp; try with_reducible rfl) ?_; go_frame   -- 2 Op.fieldAddr 25 (Operand.tmp 3) 0
      refine pd_ld (some 16) rfl rfl (by rfl) (fun ws HS => by go_split_ands; go_simp; try with_reducible rfl) ?_; go_frame   -- 3 Op.load 4 (Operand.tmp 15)
      refine pd_pu (some 17) rfl rfl (by rfl) (fun ws => by go_simp; try with_reducible rfl) ?_; go_frame   -- 4 Op.binOp BinOp.neq 4 (Operand.tmp 14) (Operand.tmp 16) 4
      refine pd_pu (some 18) rfl rfl (by rfl) (fun ws => by go_simp; try with_reducible rfl) ?_; go_frame   -- 5 Op.fieldAddr 25 (Operand.tmp 2) 1
      refine pd_ld (some 19) rfl rfl (by rfl) (fun ws HS => by go_split_ands; go_simp; try with_reducible rfl) ?_; go_frame   -- 6 Op.load 23 (Operand.tmp 18)
      refine pd_pu (some 21) rfl rfl (by rfl) (fun ws => by go_simp; try with_reducible rfl) ?_; go_frame   -- 8 Op.fieldAddr 25 (Operand.tmp 3) 1
      refine pd_ld (some 22) rfl rfl (by rfl) (fun ws HS => by go_split_ands; go_simp; try with_reducible rfl) ?_; go_frame   -- 9 Op.load 23 (Operand.tmp 21)
      refine pi_ke rfl (fun J hJ => ?_)   -- pi_ke 7 Op.call { callee := Callee.value (Operand.func 86), args := #[Operand.tmp 19], argTypes := #[23] }
      go_wp2_with (go_at_call 86; refine (K1.out w4.drew hG.out).mono ?_; rintro e w5 ⟨v5, rfl, hr, hb⟩; have hE5 := Lib.hid (And.intro (hG.out.trans (Below.mono hb hG.out.size)) hr); clear hr hb)
      refine hJ _ _ (HC.out.2 w5 hE5.out.1).1 ?_
      obtain ⟨a5, c5, rfl, hc5⟩ : ∃ a c, v5 = .slice a m1 c ∧ m1 ≤ c := by
        obtain ⟨a, c, e, h, _⟩ := hE5.out.2.shape
        have := Hm1.out
        exact ⟨a, c, by rw [e, this], by omega⟩
      refine pi_ke rfl (fun J hJ => ?_)   -- pi_ke 10 Op.call { callee := Callee.value (Operand.func 86), args := #[Operand.tmp 22], argTypes := #[23] }
      go_wp2_with (go_at_call 86; refine (K2.out w5 hE5.out.1).mono ?_; rintro e w6 ⟨v6, rfl, hr, hb⟩; have hE6 := Lib.hid (And.intro (hE5.out.1.trans (Below.mono hb hE5.out.1.size)) (And.intro hr hb)); clear hr hb)
      refine hJ _ _ (HC.out.2 w6 hE6.out.1).1 ?_
      obtain ⟨a6, c6, rfl, hc6⟩ : ∃ a c, v6 = .slice a m2 c ∧ m2 ≤ c := by
        obtain ⟨a, c, e, h, _⟩ := hE6.out.2.1.shape
        have := Hm2.out
        exact ⟨a, c, by rw [e, this], by omega⟩
      refine pi_ke rfl (fun J hJ => ?_)   -- pi_ke 11 Op.call { callee := Callee.value (Operand.func 84), args := #[Operand.tmp 20, Operand.tmp 23], argTypes := #[23, 23] }
      have T5 := Lib.hid (rtimes_any a5 a6 m1 m2 c5 c6 y1 y2 w6 (by
          have := (hE5.out.2.below hE6.out.2.2 (Nat.le_refl _)).wordsAt HY1.out
          exact this) (hE6.out.2.1.wordsAt HY2.out) (by omega) (by omega))
      go_wp2_with (go_at_call 84; refine T5.out.mono ?_; rintro e w7 ⟨g, l, rfl, q0, q1, q2, q3, q4, hb⟩; have hE7 := Lib.hid (And.intro (hE6.out.1.trans (Below.mono hb hE6.out.1.size)) (And.intro q1 (And.intro q2 (And.intro q3 q4)))); clear q0 q1 q2 q3 q4 hb)
      refine hJ _ _ (HC.out.2 w7 hE7.out.1).1 ?_
      refine pi_dr rfl (fun J hJ => ?_)   -- pi_dr 12 Op.call { callee := Callee.value (Operand.func 83), args := #[Operand.tmp 17, Operand.tmp 24], argTypes := #[4, 23] }
      have K7 := Lib.hid (rform_any (!(g1 == g2)) (some ⟨g, 0, none⟩) (m1 + m2) (m1 + m2) l w7 (by have := hE7.out.2.1.words hE7.out.2.2.2.1; rw [hE7.out.2.2.1] at this; exact this) (by omega) (Nat.le_refl _))
      have HVE := Lib.hid (show valI (!(g1 == g2)) l = x * y from by
        rw [← Hx.out, ← Hy.out]
        refine valI_mul g1 g2 z1 z2 l ?_
        rw [hE7.out.2.2.2.2, Hy1.out.2, Hy2.out.2])
      rw [HVE.out] at K7
      go_wp2_with (go_at_call 83; refine K7.out.mono ?_; rintro e w8 ⟨v8, rfl, hv, hb⟩; have hJ8 := Lib.hid (And.intro (hE7.out.1.trans (Below.mono hb hE7.out.1.size)) hv); clear hv hb)
      refine hJ _ _ ?_
      refine pi_dr rfl (fun J hJ => ?_)   -- pi_dr 13 Op.call { callee := Callee.value (Operand.func 97), args := #[Operand.tmp 25], argTypes := #[25] }
      have K8 := Lib.hid (rend_k v8 (x * y) w8 hJ8.out.2)
      go_wp2_with (go_at_call 97; refine K8.out.mono ?_; rintro e w9 ⟨⟨v9, k9, rfl, Hk9, hv⟩, hb⟩; have hJ9 := Lib.hid (And.intro (hJ8.out.1.trans (Below.mono hb hJ8.out.1.size)) hv); clear hv hb)
      refine hJ _ _ ?_
      refine pd_pu (some 27) rfl rfl (by rfl) (fun ws => by go_simp; try with_reducible rfl) ?_; go_frame   -- 14 Op.extract (Operand.tmp 26) 0
      refine pi_tail (by rfl) ?_; simp only [opsAt, List.getElem?_toArray, List.getElem?_cons_zero, List.getElem?_cons_succ]   -- [(15, 'Op.extract (Operand.tmp 26) 1'), (16, 'Op.store 25 (Operand.tmp 4) (Operand.tmp 27)'), (17, 'Op.assign (Operand.tmp 28)')]
      obtain ⟨⟨s0, s1, s2, s3⟩, sq⟩ := HC.out.2 w9 hJ9.out.1
      obtain ⟨⟨r0, r1⟩, f0, f1⟩ := box_cells sq
      obtain ⟨b9, a9, n9, c9, rfl⟩ := hJ9.out.2.agg
      have HX := Lib.hid (FIN.out w9 b9 a9 n9 c9 _ hJ9.out.1 hJ9.out.2)
      clear sq
      go_wp2_with fail
      obtain ⟨⟨h1, h2⟩, h3⟩ := HX.out
      refine bodyPost_ret (results_cell_pair rfl _ _ bo 25 (.bool b9) (.slice a9 n9 c9) (0, 0) rfl h2) rfl ?_
      have hk : k9 = if big (x * y) then 2 else 0 := Hk9.out
      refine ⟨⟨_, ?_, by simpa using h1⟩, h3⟩
      simp only [Bool.false_or]
      rw [← hk]
      rfl
end Go.Proofs.YtcnakbhogmnddaaDoor
