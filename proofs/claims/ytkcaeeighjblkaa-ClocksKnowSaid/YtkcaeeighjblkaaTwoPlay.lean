/- The law ClocksPlay: the walk. No condition. -/
import Derived.Test.YtkcaeeighjblkaaTwoBase
namespace Go.Proofs.Ytkcaeeighjblkaa
open Go.RowKit

theorem TwoAt.below {w wr w' : World} {bx bo po N : Nat} {x : TwoSt} (h : TwoAt w bx bo po N x wr) (hb : Below wr.heap.size wr w') : TwoAt w bx bo po N x w' := by
  obtain ⟨h1, h2, h3, h4, h5, h6, h7⟩ := h
  exact ⟨h1.of_below hb, h2, h3, h4, h5, h6.trans (Below.mono hb h6.size), h7⟩

set_option maxRecDepth 100000 in
set_option maxHeartbeats 3200000 in
theorem clocksPlay_any (a : Option Addr) (len cap : Nat) (f : Nat → Int × Int × Int) (w : World) (hs : IsSteps w a len cap f) :
    Calls Try.prog 7 #[.slice a len cap] w fun e w' => e = .returned (.bool true) ∧ Below w.heap.size w w' := by
  have hlm : len ≤ maxLen := by rcases hs with ⟨_, h, _⟩ | ⟨x, _, h1, h2, _⟩ <;> omega
  by_cases hlen : (200 : Int) < len
  · clear hs
    go_enter Try.func7, Try.ntmps7
    go_wp2_with (go_at_call 13; refine (awake_any _).mono ?_; rintro e w' ⟨rfl, hb⟩)
    go_ret
    exact ⟨rfl, hb⟩
  have HS := Lib.hid hs
  clear hs
  go_enter Try.func7, Try.ntmps7
  go_wp2_with first
    | (go_at_call 14; refine (new_any w).mono ?_; rintro e w1 ⟨st1, rfl, hO1, hb1, hp1⟩)
    | (go_at_call 20; refine (rnew_any _).mono ?_; rintro e w2 ⟨st2, rfl, hO2, hb2, hp2⟩; refine hold ?_)
  have H0 := two_start hO1 hb1 hp1 hO2 hb2 hp2
  obtain ⟨bx, hbx⟩ : ∃ bx, bx = w2.heap.size := ⟨_, rfl⟩
  obtain ⟨bo, hbo⟩ : ∃ bo, bo = st1.bo := ⟨_, rfl⟩
  obtain ⟨po, hpo⟩ : ∃ po, po = st2.po := ⟨_, rfl⟩
  rw [← hbx, ← hbo, ← hpo] at H0
  rw [← hbo, ← hpo]
  have HH0 := Lib.hid (show ∃ x, TwoAt w bx bo po (3 * 0) x _ from ⟨_, H0⟩)
  have hb0 := H0.1.b0
  have hb0 : (w2.alloc (.cells #[.pointer (some ⟨bo, 0, none⟩), .pointer (some ⟨po, 0, none⟩), .slice none 0 0, .slice none 0 0] 42)).cell? ⟨bx, 0, none⟩ = some (.pointer (some ⟨bo, 0, none⟩)) := by
    have e := H0.2.2.2.1
    rw [e] at hb0
    exact hb0
  rw [hbx] at hb0
  clear hO1 hb1 hp1 hO2 hb2 hp2 H0 hbo hpo
  refine Hold.mk ?_
  go_wp2_with fail
  try rw [← hbx]
  clear hbx hb0
  go_loopg [4] len (fun g v4 wr => ∃ i : Nat, i ≤ len ∧ v4 = .int .i64 i ∧ g = len - i ∧ Hid (∃ x, TwoAt w bx bo po (3 * i) x wr))
  case atStart => exact ⟨0, Nat.zero_le _, rfl, rfl, HH0⟩
  case round =>
    clear HH0
    obtain ⟨i, hi, rfl, hg, hrel⟩ := hrel
    by_cases hlt : i < len
    · obtain ⟨x, hx⟩ := hrel.out
      rcases HS.out with ⟨_, h, _⟩ | ⟨ad, had, hl1, hl2, hcs⟩
      · omega
      subst had
      obtain ⟨hc0, hc1, hc2, hw0, hw1, hw2⟩ := hcs i hlt
      obtain ⟨⟨kd, sa, sb⟩, Hf⟩ : ∃ t, Hid (f i = t) := ⟨_, Lib.hid rfl⟩
      rw [Hf.out] at hc0 hc1 hc2 hw0 hw1 hw2
      have hbel := hx.2.2.2.2.2.1
      have hr0 := cell_below hbel rfl hc0
      have hr1 := cell_below hbel rfl hc1
      have hr2 := cell_below hbel rfl hc2
      rw [add_fld _ _ _ (by decide)] at hr1 hr2
      have HX := Lib.hid hx
      have HW := Lib.hid hw2
      clear hcs hc0 hc1 hc2 hrel hw0 hw1 hw2 hx hbel
      go_wp2_with (go_at_call 21; refine (does_any bx bo po x (3 * i) kd sa sb _ HX.out.1 HX.out.2.1 HX.out.2.2.1 HX.out.2.2.2.1 HX.out.2.2.2.2.1 (by omega) HW.out).mono ?_; rintro e w' ⟨rfl, x', hs', hr', _⟩; have HN := Lib.hid (HX.out.next hs' hr'); clear hs' hr')
      go_roundg (len - (i + 1))
      case measure => omega
      case rel => exact ⟨i + 1, by omega, by go_num, rfl, Lib.hid ⟨x', HN.out⟩⟩
    · obtain ⟨x, hx⟩ := hrel.out
      obtain ⟨N, HN⟩ : ∃ N, Hid (3 * i = N) := ⟨_, Lib.hid rfl⟩
      have hNb : N ≤ 700 := by have := HN.out; omega
      rw [HN.out] at hx
      have HX := Lib.hid hx
      obtain ⟨n, Hn⟩ : ∃ n, Hid (x.Cs.length = n) := ⟨_, Lib.hid rfl⟩
      have Hm := Lib.hid (show x.D.length = n from by rw [hx.2.1.cl]; exact Hn.out)
      have hnN : n ≤ N := by have := hx.2.1.cn; rw [Hn.out] at this; exact this
      obtain ⟨ac, cc, ecv⟩ := row_form hx.1.cs.row
      rw [Hn.out] at ecv
      have Hcv := Lib.hid ecv
      have hb2 := hx.1.b2
      rw [hx.2.2.1, ecv] at hb2
      have hge : decide (i < len) = false := by simp; omega
      clear hx hrel ecv hi hg hlt
      go_wp2_with fail
      go_loopg [5] n (fun g v5 wr => ∃ i : Nat, i ≤ n ∧ i ≤ 20 ∧ v5 = .int .i64 i ∧ g = n - i ∧ Hid (TwoAt w bx bo po N x wr))
      case atStart => exact ⟨0, Nat.zero_le _, by omega, rfl, rfl, HX⟩
      case round =>
        clear HX hb2
        obtain ⟨i, hi, hi20, rfl, hg, HX⟩ := hrel
        have hb2 := HX.out.1.b2
        rw [HX.out.2.2.1, Hcv.out] at hb2
        by_cases hlt : i < n
        · by_cases hlt20 : i < 20
          · have hd1 : decide ((i : Int) < (n : Int)) = true := by simp; omega
            have hd2 : decide ((i : Int) < 20) = true := by simp; omega
            obtain ⟨gc, cc', ec, _, _⟩ := (show wr.ownsRow 0 33 1 x.cv n (x.Cs.map ptrOf) by have := HX.out.1.cs.row; rwa [Hn.out] at this).form (by omega)
            rw [Hcv.out] at ec
            cases ec
            obtain ⟨gd, cd, ed, _, _⟩ := (show wr.ownsRow 0 46 1 x.dv n x.dr by have := HX.out.1.ds.kn; rwa [Hm.out] at this).form (by omega)
            have Hdv := Lib.hid ed
            clear ed
            go_wp2_with fail
            go_loopg [6] n (fun g v6 wr => ∃ k : Nat, k ≤ n ∧ k ≤ 20 ∧ v6 = .int .i64 k ∧ g = n - k ∧ Hid (TwoAt w bx bo po N x wr))
            case atStart => exact ⟨0, Nat.zero_le _, by omega, rfl, rfl, HX⟩
            case round =>
              clear HX hb2
              obtain ⟨k, hk, hk20, rfl, hgk, HX⟩ := hrel
              have hb2 := HX.out.1.b2
              rw [HX.out.2.2.1, Hcv.out] at hb2
              by_cases hkn : k < n
              · by_cases hk20' : k < 20
                · have hb0 := HX.out.1.b0
                  rw [HX.out.2.2.1, HX.out.2.2.2.1] at hb0
                  have hb3 := HX.out.1.b3
                  rw [HX.out.2.2.1, Hdv.out] at hb3
                  have hci := HX.out.1.clk Hcv.out (i := i) (by rw [Hn.out]; exact hlt)
                  have hck := HX.out.1.clk Hcv.out (i := k) (by rw [Hn.out]; exact hkn)
                  obtain ⟨a1, c1, hdi, hri⟩ := HX.out.1.drow Hdv.out (i := i) (by rw [Hm.out]; exact hlt)
                  obtain ⟨a2, c2, hdk, hrk⟩ := HX.out.1.drow Hdv.out (i := k) (by rw [Hm.out]; exact hkn)
                  have Hcd1 := Lib.hid (HX.out.2.1.cd i)
                  have Hcd2 := Lib.hid (HX.out.2.1.cd k)
                  have Hl1 := Lib.hid (HX.out.1.dl i)
                  have Hl2 := Lib.hid (HX.out.1.dl k)
                  obtain ⟨e1, He1⟩ : ∃ e, Hid (x.Cs.getD i (none, []) = e) := ⟨_, Lib.hid rfl⟩
                  obtain ⟨e2, He2⟩ : ∃ e, Hid (x.Cs.getD k (none, []) = e) := ⟨_, Lib.hid rfl⟩
                  obtain ⟨d1, Hd1⟩ : ∃ d, Hid (x.D.getD i [] = d) := ⟨_, Lib.hid rfl⟩
                  obtain ⟨d2, Hd2⟩ : ∃ d, Hid (x.D.getD k [] = d) := ⟨_, Lib.hid rfl⟩
                  rw [He1.out] at hci Hcd1
                  rw [He2.out] at hck Hcd2
                  rw [Hd1.out] at hdi hri Hcd1 Hl1
                  rw [Hd2.out] at hdk hrk Hcd2 Hl2
                  obtain ⟨l1, HL1⟩ : ∃ l, Hid (d1.length = l) := ⟨_, Lib.hid rfl⟩
                  obtain ⟨l2, HL2⟩ : ∃ l, Hid (d2.length = l) := ⟨_, Lib.hid rfl⟩
                  have Hri := Lib.hid hri
                  have Hrk := Lib.hid hrk
                  rw [HL1.out] at hdi
                  rw [HL2.out] at hdk
                  obtain ⟨q1, Hq1⟩ : ∃ q, Hid (ptrOf e1 = .pointer q) := ⟨_, Lib.hid rfl⟩
                  obtain ⟨q2, Hq2⟩ : ∃ q, Hid (ptrOf e2 = .pointer q) := ⟨_, Lib.hid rfl⟩
                  rw [Hq1.out] at hci
                  rw [Hq2.out] at hck
                  obtain ⟨t, Ht⟩ : ∃ t, Hid (aheadB e1.2 e2.2 = t) := ⟨_, Lib.hid rfl⟩
                  have Ht2 := Lib.hid (show aheadB d1 d2 = t from by
                    rw [← Ht.out]
                    exact (aheadB_eq (fun j => (hck.2.2.2.2 j).1) Hcd1.out Hcd2.out).symm)
                  have Hc1 := Lib.hid (show ∀ p, Calls Try.prog 22 #[p, .pointer q1, .pointer q2] wr.drew fun e w' => e = .returned (.bool t) ∧ wr.drew = w' from fun p => by
                    rw [← Hq1.out, ← Hq2.out, ← Ht.out]
                    exact wahead p e1 e2 N wr.drew (by omega) hci.2 hck.2)
                  have Hc2 := Lib.hid (show Calls Try.prog 23 #[.slice a1 l1 c1, .slice a2 l2 c2] wr.drew fun e w' => e = .returned (.bool t) ∧ Below wr.drew.heap.size wr.drew w' from by
                    rw [← HL1.out, ← HL2.out, ← Ht2.out]
                    exact rahead_any _ _ d1 d2 wr.drew (row_drew Hri.out) (row_drew Hrk.out) (by have := Hl1.out; omega) (by have := Hl2.out; omega))
                  have HS2 : (fun w' => w'.cell? ⟨bx, 0, none⟩ = some (.pointer (some ⟨bo, 0, none⟩)) ∧ w'.cell? ⟨bx, 2, none⟩ = some (.slice (some ⟨gc, 0, none⟩) n cc) ∧ w'.cell? ⟨gc, i, none⟩ = some (.pointer q1) ∧ w'.cell? ⟨gc, k, none⟩ = some (.pointer q2) ∧ w'.cell? ⟨bx, 3, none⟩ = some (.slice (some ⟨gd, 0, none⟩) n cd) ∧ w'.cell? ⟨gd, i, none⟩ = some (.slice a1 l1 c1) ∧ w'.cell? ⟨gd, k, none⟩ = some (.slice a2 l2 c2)) wr.drew := ⟨hb0, hb2, hci.1, hck.1, hb3, hdi, hdk⟩
                  clear hb0 hci hck hdi hri hdk hrk hb3
                  go_upto_region 17 with fail
                  refine wp_region_pi (fun w' => w'.cell? ⟨bx, 0, none⟩ = some (.pointer (some ⟨bo, 0, none⟩)) ∧ w'.cell? ⟨bx, 2, none⟩ = some (.slice (some ⟨gc, 0, none⟩) n cc) ∧ w'.cell? ⟨gc, i, none⟩ = some (.pointer q1) ∧ w'.cell? ⟨gc, k, none⟩ = some (.pointer q2) ∧ w'.cell? ⟨bx, 3, none⟩ = some (.slice (some ⟨gd, 0, none⟩) n cd) ∧ w'.cell? ⟨gd, i, none⟩ = some (.slice a1 l1 c1) ∧ w'.cell? ⟨gd, k, none⟩ = some (.slice a2 l2 c2)) [(0, 1), (1, 1), (2, 1), (3, 0), (4, 1), (5, 1), (6, 1), (7, 0), (8, 1), (9, 1), (10, 0), (11, 1), (12, 1), (13, 1), (14, 0), (15, 1), (16, 1), (17, 0), (19, 1), (20, 1), (21, 1), (22, 0), (23, 1), (24, 1), (25, 0), (26, 1), (27, 1), (28, 1), (29, 0), (30, 1), (31, 1), (32, 0), (18, 2), (33, 3), (34, 3)] [(33, [18, 3]), (33, [18, 10, 9, 7]), (33, [18, 10]), (33, [18, 17, 16, 14]), (33, [18, 17]), (33, [25, 24, 22]), (33, [25]), (33, [32, 31, 29]), (33, [32]), (34, [18, 3]), (34, [18, 10, 9, 7]), (34, [18, 10]), (34, [18, 17, 16, 14]), (34, [18, 17]), (34, [33, 25, 24, 22]), (34, [33, 25]), (34, [33, 32, 31, 29]), (34, [33, 32])] (by kernel_rfl) (by kernel_rfl) (fun _ _ _ _ _ h => h) (HS2) ?_
                  refine pd_pu (some 59) rfl rfl (by rfl) (fun ws => by go_simp; try with_reducible rfl) ?_; go_frame   -- 0 Op.move (Operand.tmp 3)
                  refine pd_pu (some 60) rfl rfl (by rfl) (fun ws => by go_simp; try with_reducible rfl) ?_; go_frame   -- 1 Op.nilCheck (Operand.tmp 59)
                  refine pd_pu (some 61) rfl rfl (by rfl) (fun ws => by go_simp; try with_reducible rfl) ?_; go_frame   -- 2 Op.fieldAddr 42 (Operand.tmp 60) 0
                  refine pd_ld (some 62) rfl rfl (by rfl) (fun ws HS => by go_split_ands; go_simp; try with_reducible rfl) ?_; go_frame   -- 3 Op.load 25 (Operand.tmp 61)
                  refine pd_pu (some 63) rfl rfl (by rfl) (fun ws => by go_simp; try with_reducible rfl) ?_; go_frame   -- 4 Op.move (Operand.tmp 3)
                  refine pd_pu (some 64) rfl rfl (by rfl) (fun ws => by go_simp; try with_reducible rfl) ?_; go_frame   -- 5 Op.nilCheck (Operand.tmp 63)
                  refine pd_pu (some 65) rfl rfl (by rfl) (fun ws => by go_simp; try with_reducible rfl) ?_; go_frame   -- 6 Op.fieldAddr 42 (Operand.tmp 64) 2
                  refine pd_ld (some 66) rfl rfl (by rfl) (fun ws HS => by go_split_ands; go_simp; try with_reducible rfl) ?_; go_frame   -- 7 Op.load 39 (Operand.tmp 65)
                  refine pd_pu (some 67) rfl rfl (by rfl) (fun ws => by go_simp; try with_reducible rfl) ?_; go_frame   -- 8 Op.move (Operand.tmp 5)
                  refine pd_pu (some 68) rfl rfl (by rfl) (fun ws => by go_simp; try with_reducible rfl) ?_; go_frame   -- 9 Op.indexAddr 39 (Operand.tmp 66) (Operand.tmp 67)
                  refine pd_ld (some 69) rfl rfl (by rfl) (fun ws HS => by go_split_ands; go_simp; try with_reducible rfl) ?_; go_frame   -- 10 Op.load 33 (Operand.tmp 68)
                  refine pd_pu (some 70) rfl rfl (by rfl) (fun ws => by go_simp; try with_reducible rfl) ?_; go_frame   -- 11 Op.move (Operand.tmp 3)
                  refine pd_pu (some 71) rfl rfl (by rfl) (fun ws => by go_simp; try with_reducible rfl) ?_; go_frame   -- 12 Op.nilCheck (Operand.tmp 70)
                  refine pd_pu (some 72) rfl rfl (by rfl) (fun ws => by go_simp; try with_reducible rfl) ?_; go_frame   -- 13 Op.fieldAddr 42 (Operand.tmp 71) 2
                  refine pd_ld (some 73) rfl rfl (by rfl) (fun ws HS => by go_split_ands; go_simp; try with_reducible rfl) ?_; go_frame   -- 14 Op.load 39 (Operand.tmp 72)
                  refine pd_pu (some 74) rfl rfl (by rfl) (fun ws => by go_simp; try with_reducible rfl) ?_; go_frame   -- 15 Op.move (Operand.tmp 6)
                  refine pd_pu (some 75) rfl rfl (by rfl) (fun ws => by go_simp; try with_reducible rfl) ?_; go_frame   -- 16 Op.indexAddr 39 (Operand.tmp 73) (Operand.tmp 74)
                  refine pd_ld (some 76) rfl rfl (by rfl) (fun ws HS => by go_split_ands; go_simp; try with_reducible rfl) ?_; go_frame   -- 17 Op.load 33 (Operand.tmp 75)
                  refine pd_pu (some 78) rfl rfl (by rfl) (fun ws => by go_simp; try with_reducible rfl) ?_; go_frame   -- 19 Op.move (Operand.tmp 3)
                  refine pd_pu (some 79) rfl rfl (by rfl) (fun ws => by go_simp; try with_reducible rfl) ?_; go_frame   -- 20 Op.nilCheck (Operand.tmp 78)
                  refine pd_pu (some 80) rfl rfl (by rfl) (fun ws => by go_simp; try with_reducible rfl) ?_; go_frame   -- 21 Op.fieldAddr 42 (Operand.tmp 79) 3
                  refine pd_ld (some 81) rfl rfl (by rfl) (fun ws HS => by go_split_ands; go_simp; try with_reducible rfl) ?_; go_frame   -- 22 Op.load 40 (Operand.tmp 80)
                  refine pd_pu (some 82) rfl rfl (by rfl) (fun ws => by go_simp; try with_reducible rfl) ?_; go_frame   -- 23 Op.move (Operand.tmp 5)
                  refine pd_pu (some 83) rfl rfl (by rfl) (fun ws => by go_simp; try with_reducible rfl) ?_; go_frame   -- 24 Op.indexAddr 40 (Operand.tmp 81) (Operand.tmp 82)
                  refine pd_ld (some 84) rfl rfl (by rfl) (fun ws HS => by go_split_ands; go_simp; try with_reducible rfl) ?_; go_frame   -- 25 Op.load 46 (Operand.tmp 83)
                  refine pd_pu (some 85) rfl rfl (by rfl) (fun ws => by go_simp; try with_reducible rfl) ?_; go_frame   -- 26 Op.move (Operand.tmp 3)
                  refine pd_pu (some 86) rfl rfl (by rfl) (fun ws => by go_simp; try with_reducible rfl) ?_; go_frame   -- 27 Op.nilCheck (Operand.tmp 85)
                  refine pd_pu (some 87) rfl rfl (by rfl) (fun ws => by go_simp; try with_reducible rfl) ?_; go_frame   -- 28 Op.fieldAddr 42 (Operand.tmp 86) 3
                  refine pd_ld (some 88) rfl rfl (by rfl) (fun ws HS => by go_split_ands; go_simp; try with_reducible rfl) ?_; go_frame   -- 29 Op.load 40 (Operand.tmp 87)
                  refine pd_pu (some 89) rfl rfl (by rfl) (fun ws => by go_simp; try with_reducible rfl) ?_; go_frame   -- 30 Op.move (Operand.tmp 6)
                  refine pd_pu (some 90) rfl rfl (by rfl) (fun ws => by go_simp; try with_reducible rfl) ?_; go_frame   -- 31 Op.indexAddr 40 (Operand.tmp 88) (Operand.tmp 89)
                  refine pd_ld (some 91) rfl rfl (by rfl) (fun ws HS => by go_split_ands; go_simp; try with_reducible rfl) ?_; go_frame   -- 32 Op.load 46 (Operand.tmp 90)
                  refine pi_ke rfl (fun J hJ => ?_)   -- 18 Op.call { callee := Callee.value (Operand.func 22), args := #[Operand.tmp 62, Operand.tmp 69, Operand.tmp 76], argTypes := #[25, 33, 33] }
                  go_wp2_with (go_at_call 22; refine (Hc1.out _).mono ?_; rintro e w3 ⟨rfl, rfl⟩)
                  refine hJ _ _ HS2 ?_
                  refine pi_tail (by rfl) ?_; simp only [opsAt, List.getElem?_toArray, List.getElem?_cons_zero, List.getElem?_cons_succ]   -- [(33, 'Op.call { callee := Callee.value (Operand.func 23), args := #[Operand.tmp 84, Operand.tmp 91], argTypes := #[46, 46] }'), (34, 'Op.binOp BinOp.neq 4 (Operand.tmp 77) (Operand.tmp 92) 4')]
                  go_wp2_with (go_at_call 23; refine Hc2.out.mono ?_; rintro e w3 ⟨rfl, hb3⟩; have HB3 := Lib.hid hb3; clear hb3)
                  go_roundg (n - (k + 1))
                  case measure => omega
                  case rel => exact ⟨k + 1, by omega, by omega, by go_num, rfl, Lib.hid (HX.out.below ((Below.refl _ wr).drew.trans HB3.out))⟩
                · have hge : (20 : Int) ≤ k := by omega
                  have hd3 : decide ((k : Int) < (n : Int)) = true := by simp; omega
                  go_wp2_with fail
                  go_roundg (n - (i + 1))
                  case measure => omega
                  case rel => exact ⟨i + 1, by omega, by omega, by go_num, rfl, HX⟩
              · have hge : (n : Int) ≤ k := by omega
                go_wp2_with fail
                go_roundg (n - (i + 1))
                case measure => omega
                case rel => exact ⟨i + 1, by omega, by omega, by go_num, rfl, HX⟩
          · have hge : (20 : Int) ≤ i := by omega
            have hd3 : decide ((i : Int) < (n : Int)) = true := by simp; omega
            go_wp2_with (go_at_call 13; refine (awake_any _).mono ?_; rintro e w' ⟨rfl, hb⟩)
            go_ret
            exact ⟨rfl, HX.out.2.2.2.2.2.1.trans (Below.mono hb HX.out.2.2.2.2.2.1.size)⟩
        · have hge : (n : Int) ≤ i := by omega
          go_wp2_with (go_at_call 13; refine (awake_any _).mono ?_; rintro e w' ⟨rfl, hb⟩)
          go_ret
          exact ⟨rfl, HX.out.2.2.2.2.2.1.trans (Below.mono hb HX.out.2.2.2.2.2.1.size)⟩
end Go.Proofs.Ytkcaeeighjblkaa
