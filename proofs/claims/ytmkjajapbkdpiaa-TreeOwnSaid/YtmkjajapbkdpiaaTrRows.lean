/- recastlaw4.rows at two rows of the same trees. No condition. -/
import Derived.Test.YtmkjajapbkdpiaaTrOwn
namespace Go.Proofs.Ytmkjajapbkdpiaa
open Go.RowKit

set_option maxRecDepth 100000 in
set_option maxHeartbeats 1600000 in
theorem rows_same (F : Fo) (a1 a2 : Option Addr) (L cap1 cap2 : Nat) (w : World) (hL : F.len = L) (hL9 : L ≤ 1000000000) (h1 : KidsAt w a1 0 F) (h2 : KidsAt w a2 0 F) :
    Calls Try.prog 19 #[.slice a1 L cap1, .slice a2 L cap2] w fun e w' => e = .returned (.bool true) ∧ Below w.heap.size w w' := by
  have HL1 := Lib.hid hL
  have HK := Lib.hid (And.intro h1 h2)
  have hLs : L ≤ 9223372036854775807 := by omega
  have hq : ((L : Int) != (L : Int)) = false := by simp
  clear hL h1 h2
  go_enter Try.func19, Try.ntmps19
  go_wp2_with fail
  go_loopg [5] L (fun g v5 wr => ∃ i : Nat, i ≤ L ∧ v5 = .int .i64 i ∧ g = L - i ∧ Hid (Below w.heap.size w wr))
  case atStart => exact ⟨0, Nat.zero_le _, rfl, rfl, Lib.hid (Below.refl _ _)⟩
  case round =>
    obtain ⟨i, hi, rfl, hg, Hr⟩ := hrel
    by_cases hlt : i < L
    · obtain ⟨ad, a', cap', rfl, g0, g1, g2, g3, g4, g5, g6, g7⟩ := (HK.out.1.below Hr.out rfl).get i (by rw [HL1.out]; exact hlt)
      obtain ⟨bd, b', cbp', rfl, k0, k1, k2, k3, k4, k5, k6, k7⟩ := (HK.out.2.below Hr.out rfl).get i (by rw [HL1.out]; exact hlt)
      rw [Nat.zero_add] at g0 g1 g2 g3 g4 k0 k1 k2 k3 k4
      obtain ⟨n1, Hn1⟩ : ∃ nd, Hid (F.get i = nd) := ⟨_, Lib.hid rfl⟩
      rw [Hn1.out] at g0 g1 g2 g3 g4 g5 g7 k0 k1 k2 k3 k4 k5 k7
      have HV1 := Lib.hid (show NodeV wr n1 (.agg #[.int .i64 n1.k, .int .i64 n1.f, .int .i64 n1.t, .string n1.s, .slice a' n1.c.len cap']) from ⟨a', cap', rfl, g5, g6, g7⟩)
      have HV2 := Lib.hid (show NodeV wr n1 (.agg #[.int .i64 n1.k, .int .i64 n1.f, .int .i64 n1.t, .string n1.s, .slice b' n1.c.len cbp']) from ⟨b', cbp', rfl, k5, k6, k7⟩)
      have HS : (fun w' => w'.cell? (ad.add (i * 5)) = some (.int .i64 n1.k) ∧ w'.cell? ⟨(ad.add (i * 5)).block, (ad.add (i * 5)).off + 1, none⟩ = some (.int .i64 n1.f) ∧ w'.cell? ⟨(ad.add (i * 5)).block, (ad.add (i * 5)).off + 2, none⟩ = some (.int .i64 n1.t) ∧ w'.cell? ⟨(ad.add (i * 5)).block, (ad.add (i * 5)).off + 3, none⟩ = some (.string n1.s) ∧ w'.cell? ⟨(ad.add (i * 5)).block, (ad.add (i * 5)).off + 4, none⟩ = some (.slice a' n1.c.len cap') ∧ w'.cell? (bd.add (i * 5)) = some (.int .i64 n1.k) ∧ w'.cell? ⟨(bd.add (i * 5)).block, (bd.add (i * 5)).off + 1, none⟩ = some (.int .i64 n1.f) ∧ w'.cell? ⟨(bd.add (i * 5)).block, (bd.add (i * 5)).off + 2, none⟩ = some (.int .i64 n1.t) ∧ w'.cell? ⟨(bd.add (i * 5)).block, (bd.add (i * 5)).off + 3, none⟩ = some (.string n1.s) ∧ w'.cell? ⟨(bd.add (i * 5)).block, (bd.add (i * 5)).off + 4, none⟩ = some (.slice b' n1.c.len cbp')) wr.drew := ⟨g0, g1, g2, g3, g4, k0, k1, k2, k3, k4⟩
      clear g0 g1 g2 g3 g4 k0 k1 k2 k3 k4 g5 g6 g7 k5 k6 k7
      have Hih := Lib.hid (show Calls Try.prog 13 #[.agg #[.int .i64 n1.k, .int .i64 n1.f, .int .i64 n1.t, .string n1.s, .slice a' n1.c.len cap'], .agg #[.int .i64 n1.k, .int .i64 n1.f, .int .i64 n1.t, .string n1.s, .slice b' n1.c.len cbp']] wr.drew fun e w' => e = .returned (.bool true) ∧ Below wr.drew.heap.size wr.drew w' from by
        have := nodes_any (n1.c.cnt + 1) n1 n1 _ _ wr.drew (Nat.lt_succ_self _) (HV1.out.below (Below.refl _ _).drew) (HV2.out.below (Below.refl _ _).drew)
        rw [nodeN_refl] at this
        exact this)
      go_upto_region 6 with fail
      refine wp_region_pi (fun w' => w'.cell? (ad.add (i * 5)) = some (.int .i64 n1.k) ∧ w'.cell? ⟨(ad.add (i * 5)).block, (ad.add (i * 5)).off + 1, none⟩ = some (.int .i64 n1.f) ∧ w'.cell? ⟨(ad.add (i * 5)).block, (ad.add (i * 5)).off + 2, none⟩ = some (.int .i64 n1.t) ∧ w'.cell? ⟨(ad.add (i * 5)).block, (ad.add (i * 5)).off + 3, none⟩ = some (.string n1.s) ∧ w'.cell? ⟨(ad.add (i * 5)).block, (ad.add (i * 5)).off + 4, none⟩ = some (.slice a' n1.c.len cap') ∧ w'.cell? (bd.add (i * 5)) = some (.int .i64 n1.k) ∧ w'.cell? ⟨(bd.add (i * 5)).block, (bd.add (i * 5)).off + 1, none⟩ = some (.int .i64 n1.f) ∧ w'.cell? ⟨(bd.add (i * 5)).block, (bd.add (i * 5)).off + 2, none⟩ = some (.int .i64 n1.t) ∧ w'.cell? ⟨(bd.add (i * 5)).block, (bd.add (i * 5)).off + 3, none⟩ = some (.string n1.s) ∧ w'.cell? ⟨(bd.add (i * 5)).block, (bd.add (i * 5)).off + 4, none⟩ = some (.slice b' n1.c.len cbp')) [(0, 1), (1, 1), (2, 1), (3, 0), (4, 1), (5, 1), (6, 1), (7, 0), (8, 3), (9, 3)] [(8, [3]), (8, [7]), (9, [8, 3]), (9, [8, 7])] (by kernel_rfl) (by kernel_rfl) (fun _ _ _ _ _ h => h) (HS) ?_
      refine pd_pu (some 17) rfl rfl (by rfl) (fun ws => by go_simp; try with_reducible rfl) ?_; go_frame   -- 0 Op.move (Operand.tmp 0)
      refine pd_pu (some 18) rfl rfl (by rfl) (fun ws => by go_simp; try with_reducible rfl) ?_; go_frame   -- 1 Op.move (Operand.tmp 5)
      refine pd_pu (some 19) rfl rfl (by rfl) (fun ws => by go_simp; try with_reducible rfl) ?_; go_frame   -- 2 Op.indexAddr 22 (Operand.tmp 17) (Operand.tmp 18)
      refine pd_ld (some 20) rfl rfl (by rfl) (fun ws HS => by go_split_ands; go_simp; try with_reducible rfl) ?_; go_frame   -- 3 Op.load 24 (Operand.tmp 19)
      refine pd_pu (some 21) rfl rfl (by rfl) (fun ws => by go_simp; try with_reducible rfl) ?_; go_frame   -- 4 Op.move (Operand.tmp 1)
      refine pd_pu (some 22) rfl rfl (by rfl) (fun ws => by go_simp; try with_reducible rfl) ?_; go_frame   -- 5 Op.move (Operand.tmp 5)
      refine pd_pu (some 23) rfl rfl (by rfl) (fun ws => by go_simp; try with_reducible rfl) ?_; go_frame   -- 6 Op.indexAddr 22 (Operand.tmp 21) (Operand.tmp 22)
      refine pd_ld (some 24) rfl rfl (by rfl) (fun ws HS => by go_split_ands; go_simp; try with_reducible rfl) ?_; go_frame   -- 7 Op.load 24 (Operand.tmp 23)
      refine pi_tail (by rfl) ?_; simp only [opsAt, List.getElem?_toArray, List.getElem?_cons_zero, List.getElem?_cons_succ]   -- [(8, 'Op.call { callee := Callee.value (Operand.func 13), args := #[Operand.tmp 20, Operand.tmp 24], argTypes := #[24, 24] }'), (9, 'Op.unOp UnOp.not 4 (Operand.tmp 25)')]
      go_wp2_with (go_at_call 13; refine Hih.out.mono ?_; rintro e w' ⟨rfl, hb⟩; have HB2 := Lib.hid hb; clear hb)
      go_roundg (L - (i + 1))
      case measure => omega
      case rel => exact ⟨i + 1, by omega, by go_num, rfl, Lib.hid (Hr.out.trans (Below.mono ((Below.refl _ wr).drew.trans HB2.out) Hr.out.size))⟩
    · have hge : L ≤ i := by omega
      clear hlt
      go_wp2_with fail
      go_ret
      exact ⟨rfl, Hr.out⟩
end Go.Proofs.Ytmkjajapbkdpiaa
