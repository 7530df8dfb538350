/- recastref4.Kids. No condition. -/
import Derived.Test.YtmkjajapbkdpiaaTrKidsW
import Derived.Test.YtmkjajapbkdpiaaRegP
namespace Go.Proofs.Ytmkjajapbkdpiaa
open Go.RowKit

def hasTo (z : List Int) (x : Int) : Nat → Bool
  | 0 => false
  | k + 1 => hasTo z x k || (z.getD k 0 == x)
theorem hasTo_iff (z : List Int) (x : Int) : ∀ k, hasTo z x k = true ↔ ∃ j, j < k ∧ z.getD j 0 = x := by
  intro k
  induction k with
  | zero => simp [hasTo]
  | succ k ih =>
    simp only [hasTo, Bool.or_eq_true, ih, beq_iff_eq]
    constructor
    · rintro (⟨j, hj, e⟩ | e)
      · exact ⟨j, by omega, e⟩
      · exact ⟨k, by omega, e⟩
    · rintro ⟨j, hj, e⟩
      by_cases hk : j = k
      · exact .inr (hk ▸ e)
      · exact .inl ⟨j, by omega, e⟩
theorem hasTo_all (z : List Int) (x : Int) (n : Nat) (hn : z.length = n) : hasTo z x n = z.contains x := by
  rw [Bool.eq_iff_iff, hasTo_iff, List.contains_iff_mem]
  subst hn
  constructor
  · rintro ⟨j, hj, e⟩
    rw [← e]
    simp only [List.getD, List.getElem?_eq_getElem hj, Option.getD_some]
    exact List.getElem_mem _
  · intro hm
    obtain ⟨j, hj, e⟩ := List.getElem_of_mem hm
    exact ⟨j, hj, by simp [List.getD, hj, e]⟩

theorem nd_of_get {w : World} {B : Nat} {a : Option Addr} {F : Fo} (h : KidsP (· < B) w a 0 F) : ∀ i, i < F.len → ∀ (ad : Addr) a' cap', a = some ad → w.cell? ⟨(ad.add (i * 5)).block, (ad.add (i * 5)).off + 4, none⟩ = some (.slice a' (F.get i).c.len cap') → NdV (· < B) w (F.get i) (.agg #[.int .i64 (F.get i).k, .int .i64 (F.get i).f, .int .i64 (F.get i).t, .string (F.get i).s, .slice a' (F.get i).c.len cap']) := by
  have : ∀ (F : Fo) (i : Nat), KidsP (· < B) w a i F → ∀ j, j < F.len → ∀ (ad : Addr) a' cap', a = some ad → w.cell? ⟨(ad.add ((i + j) * 5)).block, (ad.add ((i + j) * 5)).off + 4, none⟩ = some (.slice a' (F.get j).c.len cap') → NdV (· < B) w (F.get j) (.agg #[.int .i64 (F.get j).k, .int .i64 (F.get j).f, .int .i64 (F.get j).t, .string (F.get j).s, .slice a' (F.get j).c.len cap']) := by
    intro F
    induction F with
    | nil => intro i _ j hj; simp [Fo.len] at hj
    | cons k f t s c r _ ihr =>
      rintro i ⟨⟨ad, a', cap, h0, hp, h1, h2, h3, h4, h5, h6, h7, h8⟩, hr⟩ j hj bd b' cb' e hc
      cases j with
      | zero =>
        rw [h0] at e
        cases e
        simp only [Fo.get, Nat.add_zero] at hc ⊢
        rw [h5] at hc
        cases hc
        exact ⟨_, _, rfl, h6, h7, h8⟩
      | succ j =>
        have := ihr (i + 1) hr j (by simp [Fo.len] at hj; omega) bd b' cb' e (by rw [show i + 1 + j = i + (j + 1) by omega]; exact hc)
        exact this
  intro i hi ad a' cap' e hc
  exact this F 0 h i hi ad a' cap' e (by rw [Nat.zero_add]; exact hc)

/-- The list at round i; the world is that behind the argument's box. -/
def RkR (w wr : World) (z : List Int) (c : Fo) (i : Nat) (a1 : Option Addr) (nn k1 : Nat) : Prop :=
  ∃ L : List Nv, L.length = nn ∧ RowL wr w.heap.size (.slice a1 nn k1) L ∧ L.map (·.1) = kidsOf z c i ∧ Below w.heap.size w wr

theorem RkR.below {w wr : World} {z : List Int} {c : Fo} {i nn k1 : Nat} {a1 : Option Addr} (h : RkR w wr z c i a1 nn k1) : Below w.heap.size w wr := by
  obtain ⟨L, _, _, _, h⟩ := h
  exact h

set_option maxRecDepth 100000 in
set_option maxHeartbeats 1600000 in
theorem rkids_any (nd : Nd) (v : Value) (a : Option Addr) (n cap : Nat) (z : List Int) (w : World) (hn : NodeV w nd v) (hz : IntsAt w a n z) (hn9 : n ≤ 1000000) (hc9 : nd.c.cnt ≤ 1000000) :
    Calls Try.prog 21 #[v, .slice a n cap] w fun e w' => ∃ a1 nn k1, e = .returned (.slice a1 nn k1) ∧ nn = (kidsOf z nd.c nd.c.len).length ∧ KidsAt w' a1 0 (foOf (kidsOf z nd.c nd.c.len)) ∧ Below w.heap.size w w' := by
  obtain ⟨ni, hni, hnz, hns, hnb⟩ := info_parts infoNd5
  obtain ⟨k, f, t, s, c⟩ := nd
  obtain ⟨ak, ck, rfl, hl1, hl2, hK⟩ := hn
  simp only at hl1 hl2 hK hc9 ⊢
  obtain ⟨len, Hlen⟩ : ∃ len, Hid (c.len = len) := ⟨_, Lib.hid rfl⟩
  have hlc : len ≤ 1000000 := by
    have := Fo.len_cnt c
    have := Hlen.out
    omega
  rw [Hlen.out] at hl1 ⊢
  obtain ⟨w1, Hw1⟩ : ∃ w1, Hid (w1 = w.alloc (.cells #[.int .i64 k, .int .i64 f, .int .i64 t, .string s, .slice ak len ck] 24)) := ⟨_, Lib.hid rfl⟩
  obtain ⟨bn, Hbn⟩ : ∃ b, Hid (b = w.heap.size) := ⟨_, Lib.hid rfl⟩
  have hB : Below w.heap.size w w1 := by
    rw [Hw1.out]
    exact (Below.refl _ w).alloc (Nat.le_refl _) _
  have q1 : w1.heap[bn]? = some (.cells #[.int .i64 k, .int .i64 f, .int .i64 t, .string s, .slice ak len ck] 24 (0, 0)) := by
    rw [Hw1.out, Hbn.out]
    exact heap_alloc_new w _
  have hsz1 : w1.heap.size = w.heap.size + 1 := by rw [Hw1.out]; simp
  have q4 : Hid (∀ wx : World, Below w1.heap.size w1 wx → wx.cell? ⟨bn, 4, none⟩ = some (.slice ak len ck)) := Lib.hid fun wx hx => by
    have := (hx.block bn (Array.getElem?_eq_some_iff.1 q1).1).trans q1
    simp only [World.cell?, this]; rfl
  have HK := Lib.hid (And.intro ((hK.below hB rfl).p) (And.intro (hz.below hB) hc9))
  have HB := Lib.hid (And.intro hB hsz1)
  clear hK hz hB q1 hc9 hsz1
  have c4 := q4.out w1 (Below.refl _ _)
  go_enter Try.func21, Try.ntmps21
  go_upto_region 3 with fail
  rw [← Hw1.out]
  try rw [← Hbn.out]
  clear c4
  go_loopg [5, 6] len (fun gg v5 v6 wr => ∃ (i nn : Nat) (a1 : Option Addr) (k1 : Nat), i ≤ len ∧ v6 = .int .i64 i ∧ v5 = .slice a1 nn k1 ∧ gg = len - i ∧ nn ≤ i ∧ Hid (RkR w1 wr z c i a1 nn k1))
  case atStart => exact ⟨0, 0, none, 0, Nat.zero_le _, rfl, rfl, rfl, by omega, Lib.hid ⟨[], rfl, RowL.nil _ _, rfl, Below.refl _ _⟩⟩
  case round =>
    rename World => wo
    obtain ⟨i, nn, a1, k1, hi, rfl, rfl, hgg, hnn, Hr⟩ := hrel
    have c4 := q4.out wo Hr.out.below
    by_cases hlt : i < len
    · obtain ⟨L, h1, h2, h3, h4⟩ := Hr.out
      have hKp : KidsP (· < w1.heap.size) wo ak 0 c := HK.out.1.cells (fun p v _ hc => cell_below h4 rfl hc)
      obtain ⟨ad, a', cap', rfl, g0, g1, g2, g3, g4, g5, g6, g7⟩ := hKp.at.get i (by rw [Hlen.out]; exact hlt)
      rw [Nat.zero_add] at g0 g1 g2 g3 g4
      have hnv := nd_of_get hKp i (by rw [Hlen.out]; exact hlt) ad a' cap' rfl g4
      obtain ⟨nd, Hnd⟩ : ∃ nd, Hid (c.get i = nd) := ⟨_, Lib.hid rfl⟩
      rw [Hnd.out] at g0 g1 g2 g3 g4 g5 g7 hnv
      have hk := kidsOf_succ z c i
      rw [Hnd.out] at hk
      have HL := Lib.hid (And.intro h1 (And.intro h2 (And.intro h3 (And.intro h4 hk))))
      have HG := Lib.hid (show ∀ wx : World, Below wo.heap.size wo wx → wx.cell? (ad.add (i * 5)) = some (.int .i64 nd.k) ∧ wx.cell? ⟨(ad.add (i * 5)).block, (ad.add (i * 5)).off + 1, none⟩ = some (.int .i64 nd.f) ∧ wx.cell? ⟨(ad.add (i * 5)).block, (ad.add (i * 5)).off + 2, none⟩ = some (.int .i64 nd.t) ∧ wx.cell? ⟨(ad.add (i * 5)).block, (ad.add (i * 5)).off + 3, none⟩ = some (.string nd.s) ∧ wx.cell? ⟨(ad.add (i * 5)).block, (ad.add (i * 5)).off + 4, none⟩ = some (.slice a' nd.c.len cap') from
        fun wx hx => ⟨cell_below hx rfl g0, cell_below hx rfl g1, cell_below hx rfl g2, cell_below hx rfl g3, cell_below hx rfl g4⟩)
      have HNV := Lib.hid hnv
      clear h1 h2 h3 h4 hk hKp g0 g1 g2 g3 g4 g5 g6 g7 hnv Hr
      go_upto_region 7 with fail
      clear c4
      go_loopg [7, 8] n (fun gg v7 v8 wi => ∃ (k : Nat) (b : Bool), k ≤ n ∧ v8 = .int .i64 k ∧ v7 = .bool b ∧ gg = n - k ∧ Hid (b = hasTo z nd.k k ∧ Below wo.heap.size wo wi))
      case atStart => exact ⟨0, false, Nat.zero_le _, rfl, rfl, rfl, Lib.hid ⟨rfl, Below.refl _ _⟩⟩
      case round =>
        obtain ⟨k, b, hk, rfl, rfl, hgk, Hk⟩ := hrel
        have c4 := q4.out wr (HL.out.2.2.2.1.trans (Below.mono Hk.out.2 HL.out.2.2.2.1.size))
        obtain ⟨g0, g1, g2, g3, g4⟩ := HG.out wr Hk.out.2
        by_cases hlt2 : k < n
        · cases b with
          | true =>
            have HS : (fun w' => w'.cell? ⟨bn, 4, none⟩ = some (.slice (some ad) len ck)) wr.drew := c4
            go_upto_region 9 with fail
            refine wp_region_pi (fun w' => w'.cell? ⟨bn, 4, none⟩ = some (.slice (some ad) len ck)) [(0, 1), (1, 1), (2, 1), (3, 1), (4, 1), (5, 0), (6, 1), (7, 0), (8, 1), (9, 1), (10, 1), (11, 0), (12, 1), (13, 1), (14, 1)] [] (by kernel_rfl) (by kernel_rfl) (fun _ _ _ _ _ h => h) (HS) ?_
            refine pd_pu (some 22) rfl rfl (by rfl) (fun ws => by go_simp; try with_reducible rfl) ?_; go_frame   -- 0 Op.move (Operand.tmp 7)
            refine pd_pu (some 23) rfl rfl (by rfl) (fun ws => by go_simp; try with_reducible rfl) ?_; go_frame   -- 1 Op.move (Operand.tmp 22)
            refine pd_pu_skip (some 24) rfl rfl (by rfl) ?_; go_frame   -- 2 Op.move (Operand.tmp 1)
            refine pd_pu_skip (some 25) rfl rfl (by rfl) ?_; go_frame   -- 3 Op.move (Operand.tmp 8)
            refine pd_pu_skip (some 26) rfl rfl (by rfl) ?_; go_frame   -- 4 Op.indexAddr 27 (Operand.tmp 24) (Operand.tmp 25)
            refine pd_ld_skip (some 27) rfl rfl (by rfl) ?_; go_frame   -- 5 Op.load 3 (Operand.tmp 26)
            refine pd_pu_skip (some 28) rfl rfl (by rfl) ?_; go_frame   -- 6 Op.fieldAddr 24 (Operand.tmp 2) 4
            refine pd_ld_skip (some 29) rfl rfl (by rfl) ?_; go_frame   -- 7 Op.load 22 (Operand.tmp 28)
            refine pd_pu_skip (some 30) rfl rfl (by rfl) ?_; go_frame   -- 8 Op.move (Operand.tmp 6)
            refine pd_pu_skip (some 31) rfl rfl (by rfl) ?_; go_frame   -- 9 Op.indexAddr 22 (Operand.tmp 29) (Operand.tmp 30)
            refine pd_pu_skip (some 32) rfl rfl (by rfl) ?_; go_frame   -- 10 Op.fieldAddr 24 (Operand.tmp 31) 0
            refine pd_ld_skip (some 33) rfl rfl (by rfl) ?_; go_frame   -- 11 Op.load 3 (Operand.tmp 32)
            refine pd_pu_skip (some 34) rfl rfl (by rfl) ?_; go_frame   -- 12 Op.binOp BinOp.eql 3 (Operand.tmp 27) (Operand.tmp 33) 3
            refine pd_pu (some 35) rfl rfl (by rfl) (fun ws => by go_simp; try with_reducible rfl) ?_; go_frame   -- 13 Op.pick (Operand.tmp 23) (Operand.const (Value.bool true)) (Operand.tmp 34)
            refine pd_pu (some 7) rfl rfl (by rfl) (fun ws => by go_simp; try with_reducible rfl) ?_; go_frame   -- 14 Op.assign (Operand.tmp 35)
            refine pi_tail (r := []) rfl ?_; simp only [opsAt]
            go_wp2_with fail
            go_roundg (n - (k + 1))
            case measure => omega
            case rel => exact ⟨k + 1, true, by omega, by go_num, rfl, rfl, Lib.hid ⟨by simp only [hasTo]; rw [← Hk.out.1]; rfl, Hk.out.2.trans (Below.mono (Below.refl _ wr).drew Hk.out.2.size)⟩⟩
          | false =>
            obtain ⟨x, rfl, hc⟩ := (HK.out.2.1.below (HL.out.2.2.2.1.trans (Below.mono Hk.out.2 HL.out.2.2.2.1.size))).2 k hlt2
            obtain ⟨y, Hy⟩ : ∃ y, Hid (z.getD k 0 = y) := ⟨_, Lib.hid rfl⟩
            rw [Hy.out] at hc
            have HS : (fun w' => w'.cell? ⟨bn, 4, none⟩ = some (.slice (some ad) len ck) ∧ w'.cell? (ad.add (i * 5)) = some (.int .i64 nd.k) ∧ w'.cell? (x.add k) = some (.int .i64 y)) wr.drew := ⟨c4, g0, hc⟩
            clear c4 g0 g1 g2 g3 g4 hc
            go_upto_region 9 with fail
            refine wp_region_pi (fun w' => w'.cell? ⟨bn, 4, none⟩ = some (.slice (some ad) len ck) ∧ w'.cell? (ad.add (i * 5)) = some (.int .i64 nd.k) ∧ w'.cell? (x.add k) = some (.int .i64 y)) [(0, 1), (1, 1), (2, 1), (3, 1), (4, 1), (5, 0), (6, 1), (7, 0), (8, 1), (9, 1), (10, 1), (11, 0), (12, 1), (13, 1), (14, 1)] [] (by kernel_rfl) (by kernel_rfl) (fun _ _ _ _ _ h => h) (HS) ?_
            refine pd_pu (some 22) rfl rfl (by rfl) (fun ws => by go_simp; try with_reducible rfl) ?_; go_frame   -- 0 Op.move (Operand.tmp 7)
            refine pd_pu (some 23) rfl rfl (by rfl) (fun ws => by go_simp; try with_reducible rfl) ?_; go_frame   -- 1 Op.move (Operand.tmp 22)
            refine pd_pu (some 24) rfl rfl (by rfl) (fun ws => by go_simp; try with_reducible rfl) ?_; go_frame   -- 2 Op.move (Operand.tmp 1)
            refine pd_pu (some 25) rfl rfl (by rfl) (fun ws => by go_simp; try with_reducible rfl) ?_; go_frame   -- 3 Op.move (Operand.tmp 8)
            refine pd_pu (some 26) rfl rfl (by rfl) (fun ws => by go_simp; try with_reducible rfl) ?_; go_frame   -- 4 Op.indexAddr 27 (Operand.tmp 24) (Operand.tmp 25)
            refine pd_ld (some 27) rfl rfl (by rfl) (fun ws HS => by go_split_ands; go_simp; try with_reducible rfl) ?_; go_frame   -- 5 Op.load 3 (Operand.tmp 26)
            refine pd_pu (some 28) rfl rfl (by rfl) (fun ws => by go_simp; try with_reducible rfl) ?_; go_frame   -- 6 Op.fieldAddr 24 (Operand.tmp 2) 4
            refine pd_ld (some 29) rfl rfl (by rfl) (fun ws HS => by go_split_ands; go_simp; try with_reducible rfl) ?_; go_frame   -- 7 Op.load 22 (Operand.tmp 28)
            refine pd_pu (some 30) rfl rfl (by rfl) (fun ws => by go_simp; try with_reducible rfl) ?_; go_frame   -- 8 Op.move (Operand.tmp 6)
            refine pd_pu (some 31) rfl rfl (by rfl) (fun ws => by go_simp; try with_reducible rfl) ?_; go_frame   -- 9 Op.indexAddr 22 (Operand.tmp 29) (Operand.tmp 30)
            refine pd_pu (some 32) rfl rfl (by rfl) (fun ws => by go_simp; try with_reducible rfl) ?_; go_frame   -- 10 Op.fieldAddr 24 (Operand.tmp 31) 0
            refine pd_ld (some 33) rfl rfl (by rfl) (fun ws HS => by go_split_ands; go_simp; try with_reducible rfl) ?_; go_frame   -- 11 Op.load 3 (Operand.tmp 32)
            refine pd_pu (some 34) rfl rfl (by rfl) (fun ws => by go_simp; try with_reducible rfl) ?_; go_frame   -- 12 Op.binOp BinOp.eql 3 (Operand.tmp 27) (Operand.tmp 33) 3
            refine pd_pu (some 35) rfl rfl (by rfl) (fun ws => by go_simp; try with_reducible rfl) ?_; go_frame   -- 13 Op.pick (Operand.tmp 23) (Operand.const (Value.bool true)) (Operand.tmp 34)
            refine pd_pu (some 7) rfl rfl (by rfl) (fun ws => by go_simp; try with_reducible rfl) ?_; go_frame   -- 14 Op.assign (Operand.tmp 35)
            refine pi_tail (r := []) rfl ?_; simp only [opsAt]
            go_wp2_with fail
            go_roundg (n - (k + 1))
            case measure => omega
            case rel => exact ⟨k + 1, y == nd.k, by omega, by go_num, rfl, rfl, Lib.hid ⟨by simp only [hasTo]; rw [← Hk.out.1, Hy.out]; rfl, Hk.out.2.trans (Below.mono (Below.refl _ wr).drew Hk.out.2.size)⟩⟩
        · have hge2 : n ≤ k := by omega
          have hkn : k = n := by omega
          obtain ⟨tc, Htc⟩ : ∃ t, Hid (z.contains nd.k = t) := ⟨_, Lib.hid rfl⟩
          have hb : b = tc := by
            have := Hk.out.1
            rw [hkn, hasTo_all z nd.k n HK.out.2.1.1, Htc.out] at this
            exact this
          subst hb
          clear hkn hlt2
          have HR := Lib.hid (HL.out.2.1.below Hk.out.2)
          have hsw : w1.heap.size ≤ wr.heap.size := Nat.le_trans HL.out.2.2.2.1.size Hk.out.2.size
          have hn9 : nn ≤ 1000000 := by omega
          cases b with
          | false =>
            go_wp2_with fail
            go_roundg (len - (i + 1))
            case measure => omega
            case rel =>
              obtain ⟨h1, h2, h3, h4, hk⟩ := HL.out
              exact ⟨i + 1, nn, a1, k1, by omega, by go_num, rfl, rfl, by omega, Lib.hid ⟨L, h1, HR.out, by rw [hk, Htc.out]; exact h3, h4.trans (Below.mono Hk.out.2 h4.size)⟩⟩
          | true =>
            go_wp2_with (refine wpList_app _ rfl _ _ _ rfl w1.heap.size 24 ni _ 5 64 Try.underlying22 hni hnz hns hnb rfl (.slice a1 nn k1) nn (cellsL L) rfl (by have := HR.out.row.alloc (.cells #[.int .i64 nd.k, .int .i64 nd.f, .int .i64 nd.t, .string nd.s, .slice a' nd.c.len cap'] 24); rw [HL.out.1] at this; exact this) ⟨wr.heap.size, 0, none⟩ 1 1 [.int .i64 nd.k, .int .i64 nd.f, .int .i64 nd.t, .string nd.s, .slice a' nd.c.len cap'] rfl rfl (World.news_of_block (cs := #[.int .i64 nd.k, .int .i64 nd.f, .int .i64 nd.t, .string nd.s, .slice a' nd.c.len cap']) (t := 24) (fr := (0, 0)) (heap_alloc_new wr _)) (fun u hu => by simp at hu; rcases hu with h | h | h | h | h <;> (subst h; rfl)) (by omega) (by unfold maxLen; omega) (by omega) (by simp; omega) ?_; intro g gc w3 hown hat; have HZ := Lib.hid (And.intro hown hat); clear hown hat)
            go_roundg (len - (i + 1))
            case measure => omega
            case rel =>
              obtain ⟨h1, h2, h3, h4, hk⟩ := HL.out
              obtain ⟨hown, hat⟩ := HZ.out
              have hal2 := (Below.refl _ wr).alloc (Nat.le_refl _) (.cells #[.int .i64 nd.k, .int .i64 nd.f, .int .i64 nd.t, .string nd.s, .slice a' nd.c.len cap'] 24)
              have hb3 : Below wo.heap.size wo (wr.alloc (.cells #[.int .i64 nd.k, .int .i64 nd.f, .int .i64 nd.t, .string nd.s, .slice a' nd.c.len cap'] 24)) := Hk.out.2.trans (Below.mono hal2 Hk.out.2.size)
              have h2' := h2.below hb3
              have hnv := HNV.out.cells (w' := wr.alloc (.cells #[.int .i64 nd.k, .int .i64 nd.f, .int .i64 nd.t, .string nd.s, .slice a' nd.c.len cap'] 24)) (fun p v _ hc => cell_below hb3 rfl hc)
              subst h1
              have hbel := app_below (h4.trans (Below.mono hb3 h4.size)) (fun k e => (h2.row.lt k e).1) (Nat.le_refl _) hat
              exact ⟨i + 1, L.length + 1, some ⟨g, 0, none⟩, gc, by omega, by go_num, rfl, rfl, by omega, Lib.hid ⟨L ++ [(nd, .agg #[.int .i64 nd.k, .int .i64 nd.f, .int .i64 nd.t, .string nd.s, .slice a' nd.c.len cap'])], by simp,
                h2'.next (n := nd) (nv := .agg #[.int .i64 nd.k, .int .i64 nd.f, .int .i64 nd.t, .string nd.s, .slice a' nd.c.len cap']) hnv hown hat, by rw [hk, Htc.out]; simp [h3], hbel⟩⟩
    · have hge : len ≤ i := by omega
      have hil : i = len := by omega
      have HF := Lib.hid (show RkR w1 wo z c len a1 nn k1 from hil ▸ Hr.out)
      clear hlt hil
      go_wp2_with fail
      go_ret
      obtain ⟨L, h1, h2, h3, h4⟩ := HF.out
      subst h1
      have := (row_kids (Q := fun _ => True) (fun _ _ => trivial) (fun _ _ => trivial) h2.row h2.low).at
      rw [h3] at this
      exact ⟨a1, L.length, k1, rfl, by rw [← h3]; simp, this, HB.out.1.trans (Below.mono h4 HB.out.1.size)⟩
end Go.Proofs.Ytmkjajapbkdpiaa
