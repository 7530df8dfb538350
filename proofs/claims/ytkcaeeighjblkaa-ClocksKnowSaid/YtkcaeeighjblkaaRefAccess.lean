/- The document's accesses: the walk. No condition. -/
import Derived.Test.YtkcaeeighjblkaaRefBump
import Derived.Deep.QuietTactic
import Derived.BigQuiet
namespace Go.Proofs.Ytkcaeeighjblkaa
open Go.RowKit

theorem Try.infoAc : (Try.prog.info? 70).map (fun i => (i.zero, i.size, i.bytes)) = some (some (.agg #[.int .i64 0, .int .i64 0, .bool false, .int .i64 0]), 4, 32) := by kernel_rfl

def refBad (r : List Int) (who : Nat) (cell : Int) (write : Bool) (a : Nat × Int × Bool × Int) : Bool :=
  decide (a.2.2.2 = cell) && !decide ((a.1 : Int) = (who : Int)) && (a.2.2.1 || write) && decide (r.getD a.1 0 < a.2.1)
def refOk (r : List Int) (A : Acs) (who : Nat) (cell : Int) (write : Bool) : Bool := A.all fun a => !refBad r who cell write a

def RAccPost (st : RSt) (K : List (List Int)) (A : Acs) (N who : Nat) (cell : Int) (write : Bool) (w : World) (e : Ending) (w' : World) : Prop :=
  ∃ st', e = .returned (.bool (refOk (K.getD who []) A who cell write)) ∧ RAt st K.length w st' (K.set who (bump (K.getD who []) who)) (A ++ [(who, (bump (K.getD who []) who).getD who 0, write, cell)]) (N + 2) w'

theorem refOk_snoc (r : List Int) (A : Acs) (i who : Nat) (cell : Int) (write : Bool) (hi : i < A.length) : refOk r (A.take (i + 1)) who cell write = (refOk r (A.take i) who cell write && !refBad r who cell write (A.getD i (0, 0, false, 0))) := by
  unfold refOk
  rw [List.take_add_one, List.all_append]
  simp [List.getD, hi]

theorem refOk_pad (r : List Int) (m : Nat) (A : Acs) (who : Nat) (cell : Int) (write : Bool) : refOk (r ++ List.replicate m 0) A who cell write = refOk r A who cell write := by
  unfold refOk refBad
  simp only [getD_append_rep]

set_option maxRecDepth 100000 in
set_option maxHeartbeats 3200000 in
theorem raccess_any (po : Nat) (st : RSt) (K : List (List Int)) (A : Acs) (N who : Nat) (cell : Int) (write : Bool) (w : World) (hpo : st.po = po) (h : ROrd w st K A N) (hw : who < K.length) (hN : N + 2 ≤ 100000) :
    Calls Try.prog 46 #[.pointer (some ⟨po, 0, none⟩), .int .i64 who, .int .i64 cell, .bool write] w (RAccPost st K A N who cell write w) := by
  have hk := h.klen
  have h0 := h.c0
  rw [hpo] at h0
  obtain ⟨i0, hi, hz0, hz1, hz2⟩ := info_parts Try.info3
  obtain ⟨j0, hj, hy0, hy1, hy2⟩ := info_parts Try.infoAc
  have hd : (decide ((0 : Int) ≤ who) && decide ((who : Int) < (K.length : Int))) = true := by simp; omega
  have Hst := Lib.hid (RPadRel.start (lim := who) h hw)
  have HP := Lib.hid hpo
  have Hal := Lib.hid h.alen
  clear h hpo
  go_enter Try.func46, Try.ntmps46
  go_wp2_with (go_at_call 45; refine (ris_any _ _ _ _ _ _ h0 (by omega)).mono ?_; rintro e w' ⟨rfl, rfl⟩)
  go_loopg [] (who + 1) (fun g wr => RPadRel st K A N who who w g wr)
  case atStart => exact Hst.out
  case round =>
    clear h0 Hst
    obtain ⟨st', K1, m, c, a, r, hX, hck, hrow, hrl, hrp⟩ := hrel.open hw
    have HX := Lib.hid hX
    have h0 := hX.at_.c0
    rw [HP.out] at h0
    clear hX hrel
    by_cases hlt : r.length ≤ who
    · have HS : (fun w' => w'.cell? ⟨po, 0, none⟩ = some (.slice (some ⟨st'.pk, 0, none⟩) K.length st'.cap) ∧ w'.cell? ⟨st'.pk, who, none⟩ = some (.slice a r.length c)) wr.drew := ⟨h0, hck⟩
      go_wp2
      refine wp_region_pi (fun w' => w'.cell? ⟨po, 0, none⟩ = some (.slice (some ⟨st'.pk, 0, none⟩) K.length st'.cap) ∧ w'.cell? ⟨st'.pk, who, none⟩ = some (.slice a r.length c)) [(0, 1), (1, 1), (2, 1), (3, 0), (4, 1), (5, 1), (6, 1), (7, 1), (8, 0), (9, 1), (10, 1), (11, 0), (12, 2), (13, 2), (14, 1), (15, 3)] [(15, [3]), (15, [8]), (15, [11])] (by kernel_rfl) (by kernel_rfl) (fun _ _ _ _ _ h => h) (HS) ?_
      refine pi_pu rfl (by rfl) (fun ws => by go_simp; try with_reducible rfl) ?_; go_frame   -- 0 Op.move (Operand.tmp 0)
      refine pi_pu rfl (by rfl) (fun ws => by go_simp; try with_reducible rfl) ?_; go_frame   -- 1 Op.nilCheck (Operand.tmp 26)
      refine pi_pu rfl (by rfl) (fun ws => by go_simp; try with_reducible rfl) ?_; go_frame   -- 2 Op.fieldAddr 60 (Operand.tmp 27) 0
      refine pi_ld rfl (by rfl) (fun ws HS => by go_split_ands; go_simp; try with_reducible rfl) ?_; go_frame   -- 3 Op.load 40 (Operand.tmp 28)
      refine pi_pu rfl (by rfl) (fun ws => by go_simp; try with_reducible rfl) ?_; go_frame   -- 4 Op.move (Operand.tmp 1)
      refine pi_pu rfl (by rfl) (fun ws => by go_simp; try with_reducible rfl) ?_; go_frame   -- 5 Op.move (Operand.tmp 0)
      refine pi_pu rfl (by rfl) (fun ws => by go_simp; try with_reducible rfl) ?_; go_frame   -- 6 Op.nilCheck (Operand.tmp 31)
      refine pi_pu rfl (by rfl) (fun ws => by go_simp; try with_reducible rfl) ?_; go_frame   -- 7 Op.fieldAddr 60 (Operand.tmp 32) 0
      refine pi_ld rfl (by rfl) (fun ws HS => by go_split_ands; go_simp; try with_reducible rfl) ?_; go_frame   -- 8 Op.load 40 (Operand.tmp 33)
      refine pi_pu rfl (by rfl) (fun ws => by go_simp; try with_reducible rfl) ?_; go_frame   -- 9 Op.move (Operand.tmp 1)
      refine pi_pu rfl (by rfl) (fun ws => by go_simp; try with_reducible rfl) ?_; go_frame   -- 10 Op.indexAddr 40 (Operand.tmp 34) (Operand.tmp 35)
      refine pi_ld rfl (by rfl) (fun ws HS => by go_split_ands; go_simp; try with_reducible rfl) ?_; go_frame   -- 11 Op.load 46 (Operand.tmp 36)
      refine pi_ke rfl (fun J hJ => ?_)   -- 12 Op.buildSlice 46 1 #[(0, Operand.const (Value.int IntKind.i64 0))]
      go_wp2
      refine hJ _ _ ⟨cell_alloc HS.1, cell_alloc HS.2⟩ ?_
      refine pi_ke rfl (fun J hJ => ?_)   -- 13 Op.call { callee := Callee.builtin Builtin.append, args := #[Operand.tmp 37, Operand.tmp 38], argTypes := #[46, 46] }
      go_wp2_with (refine wpList_app _ rfl _ _ _ rfl 0 3 i0 _ 1 8 Try.underlying46 hi hz0 hz1 hz2 rfl (.slice a r.length c) r.length (ints r) rfl (row_drew (hrow.alloc _)) ⟨wr.heap.size, 0, none⟩ 1 1 [.int .i64 0] rfl rfl (World.news_of_block (cs := #[.int .i64 0]) (t := 3) (fr := (0, 0)) (heap_alloc_new wr _)) ?c1 (by omega) (by unfold maxLen; omega) (by omega) (by omega) ?_)
      case c1 => intro u hu; simp at hu; subst hu; rfl
      intro gg cap w2 hown2 hat
      have hnx := rpad_next hw (by omega) HX.out hlt hown2 hat
      rw [HP.out] at hnx
      obtain ⟨⟨hc2, hk2, hf2⟩, hg0, hnext⟩ := hnx
      have Hn := Lib.hid hnext
      clear hown2 hat hnext
      go_wp2
      refine hJ _ _ ⟨hc2, hk2⟩ ?_
      refine pi_pu rfl (by rfl) (fun ws => by go_simp; try with_reducible rfl) ?_; go_frame   -- 14 Op.indexAddr 40 (Operand.tmp 29) (Operand.tmp 30)
      refine pi_tail (by rfl) ?_; simp only [opsAt, List.getElem?_toArray, List.getElem?_cons_zero, List.getElem?_cons_succ]   -- [(15, 'Op.store 46 (Operand.tmp 40) (Operand.tmp 39)')]
      go_wp2
      go_roundg (gk - 1)
      case measure => omega
      case rel => exact Hn.out
    · have hlt' : who < r.length := by omega
      obtain ⟨ga, cg, ea, _, hgl⟩ := hrow.form hrp
      cases ea
      have HR0 := Lib.hid HX.out.at_
      go_wp2_with fail
      go_loopg [9, 10] A.length (fun g v9 v10 wz => ∃ (i : Nat) (ok : Bool), i ≤ A.length ∧ v10 = .int .i64 i ∧ v9 = .bool ok ∧ g = A.length - i ∧ Hid (refOk r (A.take i) who cell write = ok) ∧ Hid (RAt st K.length w st' K1 A N wz))
      case atStart => exact ⟨0, true, Nat.zero_le _, rfl, rfl, rfl, Lib.hid rfl, HR0⟩
      case round =>
        clear HR0 h0 hck hrow
        obtain ⟨i, ok, hi', rfl, rfl, hg, Hok, HR⟩ := hrel
        have h1 := HR.out.c1
        rw [HP.out] at h1
        have hac := HR.out.ord.ac
        obtain ⟨av, Hav⟩ : ∃ av, Hid (st'.av = av) := ⟨_, Lib.hid rfl⟩
        rw [Hav.out] at h1 hac
        obtain ⟨al, ac, e⟩ := row_form hac
        subst e
        have hA := Hal.out
        by_cases hlt2 : i < A.length
        · obtain ⟨gb, cb, e, _, hgb⟩ := hac.form (by omega)
          cases e
          obtain ⟨⟨aw, an, ab, ae⟩, Ha⟩ : ∃ x, Hid (A.getD i (0, 0, false, 0) = x) := ⟨_, Lib.hid rfl⟩
          have hcs : ∀ j u, j < 4 → (acOf (aw, an, ab, ae))[j]? = some u → wr.cell? ⟨gb, i * 4 + j, none⟩ = some u := fun j u hj hu => by
            have e := accs_at A i j hlt2 hj
            rw [Ha.out, hu] at e
            have := hac.cells (g := gb) rfl _ _ e
            simpa [Addr.add_lit] using this
          have hb0 := hcs 0 _ (by decide) rfl
          have hb1 := hcs 1 _ (by decide) rfl
          have hb2 := hcs 2 _ (by decide) rfl
          have hb3 := hcs 3 _ (by decide) rfl
          rw [Nat.add_zero] at hb0
          clear hcs hac
          have hk0 := HR.out.c0
          rw [HP.out] at hk0
          have hlen := HR.out.len
          have hkc := HR.out.ord.ck (i := who) (by omega)
          have hkr := HR.out.ord.rs.row who (by omega)
          rw [HX.out.form] at hkc hkr
          rw [HX.out.row] at hkr
          have HO := Lib.hid (refOk_snoc r A i who cell write hlt2)
          rw [Hok.out, Ha.out] at HO
          obtain ⟨n, Hn⟩ : ∃ n, Hid (r.getD aw 0 = n) := ⟨_, Lib.hid rfl⟩
          have HC : Hid (∀ q, Calls Try.prog 39 #[.slice (some ⟨ga, 0, none⟩) r.length c, .int .i64 aw] ((wr.alloc (.cells #[.int .i64 aw, .int .i64 an, .bool ab, .int .i64 ae] 70)).drewN q) fun e w' => e = .returned (.int .i64 n) ∧ w' = (wr.alloc (.cells #[.int .i64 aw, .int .i64 an, .bool ab, .int .i64 ae] 70)).drewN q) := Lib.hid fun q => by
            have hr2 : ((wr.alloc (.cells #[.int .i64 aw, .int .i64 an, .bool ab, .int .i64 ae] 70)).drewN q).ownsRow 0 3 1 (.slice (some ⟨ga, 0, none⟩) r.length c) r.length (ints r) := hkr.alloc (.cells #[.int .i64 aw, .int .i64 an, .bool ab, .int .i64 ae] 70)
            have := rcount_any _ _ _ (aw : Int) _ hr2 (by omega) (by omega)
            rw [Int.toNat_natCast, Hn.out] at this
            exact this.mono fun e w' ⟨h1, h2⟩ => ⟨h1, h2.symm⟩
          have HR' : Hid (∀ q, RAt st K.length w st' K1 A N ((wr.alloc (.cells #[.int .i64 aw, .int .i64 an, .bool ab, .int .i64 ae] 70)).drewN q)) := Lib.hid fun q => (HR.out.alloc (.cells #[.int .i64 aw, .int .i64 an, .bool ab, .int .i64 ae] 70)).below ⟨rfl, rfl, rfl, Nat.le_refl _, fun _ _ => rfl⟩
          have hbad : Hid (refBad r who cell write (aw, an, ab, ae) = (decide (ae = cell) && !decide ((aw : Int) = (who : Int)) && (ab || write) && decide (n < an))) := Lib.hid (by unfold refBad; simp only [Hn.out])
          clear hkr hlen
          go_upto_region 10 with fail
          have g0 : (wr.alloc (.cells #[.int .i64 aw, .int .i64 an, .bool ab, .int .i64 ae] 70)).cell? ⟨po, 0, none⟩ = some (.slice (some ⟨st'.pk, 0, none⟩) K.length st'.cap) := cell_alloc hk0
          have g1 : (wr.alloc (.cells #[.int .i64 aw, .int .i64 an, .bool ab, .int .i64 ae] 70)).cell? ⟨st'.pk, who, none⟩ = some (.slice (some ⟨ga, 0, none⟩) r.length c) := cell_alloc hkc
          have g2 : (wr.alloc (.cells #[.int .i64 aw, .int .i64 an, .bool ab, .int .i64 ae] 70)).cell? ⟨wr.heap.size, 0, none⟩ = some (.int .i64 aw) := World.cell?_alloc_new wr _ _ 0
          have g3 : (wr.alloc (.cells #[.int .i64 aw, .int .i64 an, .bool ab, .int .i64 ae] 70)).cell? ⟨wr.heap.size, 1, none⟩ = some (.int .i64 an) := World.cell?_alloc_new wr _ _ 1
          have g4 : (wr.alloc (.cells #[.int .i64 aw, .int .i64 an, .bool ab, .int .i64 ae] 70)).cell? ⟨wr.heap.size, 2, none⟩ = some (.bool ab) := World.cell?_alloc_new wr _ _ 2
          have g5 : (wr.alloc (.cells #[.int .i64 aw, .int .i64 an, .bool ab, .int .i64 ae] 70)).cell? ⟨wr.heap.size, 3, none⟩ = some (.int .i64 ae) := World.cell?_alloc_new wr _ _ 3
          obtain ⟨wB, hwB⟩ : ∃ wB, wB = wr.alloc (.cells #[.int .i64 aw, .int .i64 an, .bool ab, .int .i64 ae] 70) := ⟨_, rfl⟩
          obtain ⟨bn, hbn⟩ : ∃ bn, bn = wr.heap.size := ⟨_, rfl⟩
          rw [← hwB] at g0 g1 g2 g3 g4 g5 HC HR' ⊢
          rw [← hbn] at g2 g3 g4 g5 ⊢
          clear hb0 hb1 hb2 hb3 hk0 hkc h1 hwB hbn hgb
          have HS : (fun w' => w'.cell? ⟨po, 0, none⟩ = some (.slice (some ⟨st'.pk, 0, none⟩) K.length st'.cap) ∧ w'.cell? ⟨st'.pk, who, none⟩ = some (.slice (some ⟨ga, 0, none⟩) r.length c) ∧ w'.cell? ⟨bn, 0, none⟩ = some (.int .i64 aw) ∧ w'.cell? ⟨bn, 1, none⟩ = some (.int .i64 an) ∧ w'.cell? ⟨bn, 2, none⟩ = some (.bool ab) ∧ w'.cell? ⟨bn, 3, none⟩ = some (.int .i64 ae)) wB.drew := ⟨g0, g1, g2, g3, g4, g5⟩
          clear g0 g1 g2 g3 g4 g5
          cases d1 : (ae == cell)
          case false =>
            refine wp_region_pi (fun w' => w'.cell? ⟨po, 0, none⟩ = some (.slice (some ⟨st'.pk, 0, none⟩) K.length st'.cap) ∧ w'.cell? ⟨st'.pk, who, none⟩ = some (.slice (some ⟨ga, 0, none⟩) r.length c) ∧ w'.cell? ⟨bn, 0, none⟩ = some (.int .i64 aw) ∧ w'.cell? ⟨bn, 1, none⟩ = some (.int .i64 an) ∧ w'.cell? ⟨bn, 2, none⟩ = some (.bool ab) ∧ w'.cell? ⟨bn, 3, none⟩ = some (.int .i64 ae)) [(0, 1), (1, 0), (2, 1), (3, 1), (4, 1), (5, 1), (6, 0), (7, 1), (8, 1), (9, 1), (10, 1), (11, 1), (12, 0), (13, 1), (14, 1), (15, 1), (16, 1), (17, 1), (18, 1), (19, 1), (20, 1), (21, 0), (22, 1), (23, 1), (24, 0), (25, 1), (26, 0), (28, 1), (29, 0), (27, 2), (30, 1), (31, 1)] [] (by kernel_rfl) (by kernel_rfl) (fun _ _ _ _ _ h => h) (HS) ?_
            refine pd_pu (some 57) rfl rfl (by rfl) (fun ws => by go_simp; try with_reducible rfl) ?_; go_frame   -- 0 Op.fieldAddr 70 (Operand.tmp 11) 3
            refine pd_ld (some 58) rfl rfl (by rfl) (fun ws HS => by go_split_ands; go_simp; try with_reducible rfl) ?_; go_frame   -- 1 Op.load 3 (Operand.tmp 57)
            refine pd_pu (some 59) rfl rfl (by rfl) (fun ws => by go_simp; try with_reducible rfl) ?_; go_frame   -- 2 Op.move (Operand.tmp 2)
            refine pd_pu (some 60) rfl rfl (by rfl) (fun ws => by go_simp; try with_reducible rfl) ?_; go_frame   -- 3 Op.binOp BinOp.eql 3 (Operand.tmp 58) (Operand.tmp 59) 3
            try simp only [d1]
            refine pd_pu (some 61) rfl rfl (by rfl) (fun ws => by go_simp; try with_reducible rfl) ?_; go_frame   -- 4 Op.move (Operand.tmp 60)
            refine pd_pu_skip (some 62) rfl rfl (by rfl) ?_; go_frame   -- 5 Op.fieldAddr 70 (Operand.tmp 11) 0
            refine pd_ld_skip (some 63) rfl rfl (by rfl) ?_; go_frame   -- 6 Op.load 3 (Operand.tmp 62)
            refine pd_pu_skip (some 64) rfl rfl (by rfl) ?_; go_frame   -- 7 Op.move (Operand.tmp 1)
            refine pd_pu_skip (some 65) rfl rfl (by rfl) ?_; go_frame   -- 8 Op.binOp BinOp.neq 3 (Operand.tmp 63) (Operand.tmp 64) 3
            refine pd_pu (some 66) rfl rfl (by rfl) (fun ws => by go_simp; try with_reducible rfl) ?_; go_frame   -- 9 Op.pick (Operand.tmp 61) (Operand.tmp 65) (Operand.const (Value.bool false))
            refine pd_pu (some 67) rfl rfl (by rfl) (fun ws => by go_simp; try with_reducible rfl) ?_; go_frame   -- 10 Op.move (Operand.tmp 66)
            refine pd_pu_skip (some 68) rfl rfl (by rfl) ?_; go_frame   -- 11 Op.fieldAddr 70 (Operand.tmp 11) 2
            refine pd_ld_skip (some 69) rfl rfl (by rfl) ?_; go_frame   -- 12 Op.load 4 (Operand.tmp 68)
            refine pd_pu_skip (some 70) rfl rfl (by rfl) ?_; go_frame   -- 13 Op.move (Operand.tmp 69)
            refine pd_pu_skip (some 71) rfl rfl (by rfl) ?_; go_frame   -- 14 Op.move (Operand.tmp 3)
            refine pd_pu_skip (some 72) rfl rfl (by rfl) ?_; go_frame   -- 15 Op.pick (Operand.tmp 70) (Operand.const (Value.bool true)) (Operand.tmp 71)
            refine pd_pu (some 73) rfl rfl (by rfl) (fun ws => by go_simp; try with_reducible rfl) ?_; go_frame   -- 16 Op.pick (Operand.tmp 67) (Operand.tmp 72) (Operand.const (Value.bool false))
            refine pd_pu (some 74) rfl rfl (by rfl) (fun ws => by go_simp; try with_reducible rfl) ?_; go_frame   -- 17 Op.move (Operand.tmp 73)
            refine pd_pu_skip (some 75) rfl rfl (by rfl) ?_; go_frame   -- 18 Op.move (Operand.tmp 0)
            refine pd_pu_skip (some 76) rfl rfl (by rfl) ?_; go_frame   -- 19 Op.nilCheck (Operand.tmp 75)
            refine pd_pu_skip (some 77) rfl rfl (by rfl) ?_; go_frame   -- 20 Op.fieldAddr 60 (Operand.tmp 76) 0
            refine pd_ld_skip (some 78) rfl rfl (by rfl) ?_; go_frame   -- 21 Op.load 40 (Operand.tmp 77)
            refine pd_pu_skip (some 79) rfl rfl (by rfl) ?_; go_frame   -- 22 Op.move (Operand.tmp 1)
            refine pd_pu_skip (some 80) rfl rfl (by rfl) ?_; go_frame   -- 23 Op.indexAddr 40 (Operand.tmp 78) (Operand.tmp 79)
            refine pd_ld_skip (some 81) rfl rfl (by rfl) ?_; go_frame   -- 24 Op.load 46 (Operand.tmp 80)
            refine pd_pu_skip (some 82) rfl rfl (by rfl) ?_; go_frame   -- 25 Op.fieldAddr 70 (Operand.tmp 11) 0
            refine pd_ld_skip (some 83) rfl rfl (by rfl) ?_; go_frame   -- 26 Op.load 3 (Operand.tmp 82)
            refine pd_pu_skip (some 85) rfl rfl (by rfl) ?_; go_frame   -- 28 Op.fieldAddr 70 (Operand.tmp 11) 1
            refine pd_ld_skip (some 86) rfl rfl (by rfl) ?_; go_frame   -- 29 Op.load 3 (Operand.tmp 85)
            refine pi_ke rfl (fun J hJ => ?_)   -- 27 Op.call { callee := Callee.value (Operand.func 39), args := #[Operand.tmp 81, Operand.tmp 83], argTypes := #[46, 3] }
            go_wp2
            refine hJ _ _ HS ?_
            refine pd_pu_skip (some 87) rfl rfl (by rfl) ?_; go_frame   -- 30 Op.binOp BinOp.lss 3 (Operand.tmp 84) (Operand.tmp 86) 3
            refine pd_pu (some 88) rfl rfl (by rfl) (fun ws => by go_simp; try with_reducible rfl) ?_; go_frame   -- 31 Op.pick (Operand.tmp 74) (Operand.tmp 87) (Operand.const (Value.bool false))
            refine pi_tail (r := []) rfl ?_; simp only [opsAt]
            go_wp2
            go_roundg (gk - 1)
            case measure => omega
            case rel => exact ⟨i + 1, _, by omega, by simp, rfl, by omega, Lib.hid (HO.trans (by rw [hbad.out]; simp at d1; simp [d1])), HR'.out 1⟩
          case true =>
            cases d2 : ((aw : Int) != (who : Int))
            case false =>
              refine wp_region_pi (fun w' => w'.cell? ⟨po, 0, none⟩ = some (.slice (some ⟨st'.pk, 0, none⟩) K.length st'.cap) ∧ w'.cell? ⟨st'.pk, who, none⟩ = some (.slice (some ⟨ga, 0, none⟩) r.length c) ∧ w'.cell? ⟨bn, 0, none⟩ = some (.int .i64 aw) ∧ w'.cell? ⟨bn, 1, none⟩ = some (.int .i64 an) ∧ w'.cell? ⟨bn, 2, none⟩ = some (.bool ab) ∧ w'.cell? ⟨bn, 3, none⟩ = some (.int .i64 ae)) [(0, 1), (1, 0), (2, 1), (3, 1), (4, 1), (5, 1), (6, 0), (7, 1), (8, 1), (9, 1), (10, 1), (11, 1), (12, 0), (13, 1), (14, 1), (15, 1), (16, 1), (17, 1), (18, 1), (19, 1), (20, 1), (21, 0), (22, 1), (23, 1), (24, 0), (25, 1), (26, 0), (28, 1), (29, 0), (27, 2), (30, 1), (31, 1)] [] (by kernel_rfl) (by kernel_rfl) (fun _ _ _ _ _ h => h) (HS) ?_
              refine pd_pu (some 57) rfl rfl (by rfl) (fun ws => by go_simp; try with_reducible rfl) ?_; go_frame   -- 0 Op.fieldAddr 70 (Operand.tmp 11) 3
              refine pd_ld (some 58) rfl rfl (by rfl) (fun ws HS => by go_split_ands; go_simp; try with_reducible rfl) ?_; go_frame   -- 1 Op.load 3 (Operand.tmp 57)
              refine pd_pu (some 59) rfl rfl (by rfl) (fun ws => by go_simp; try with_reducible rfl) ?_; go_frame   -- 2 Op.move (Operand.tmp 2)
              refine pd_pu (some 60) rfl rfl (by rfl) (fun ws => by go_simp; try with_reducible rfl) ?_; go_frame   -- 3 Op.binOp BinOp.eql 3 (Operand.tmp 58) (Operand.tmp 59) 3
              try simp only [d1]
              refine pd_pu (some 61) rfl rfl (by rfl) (fun ws => by go_simp; try with_reducible rfl) ?_; go_frame   -- 4 Op.move (Operand.tmp 60)
              refine pd_pu (some 62) rfl rfl (by rfl) (fun ws => by go_simp; try with_reducible rfl) ?_; go_frame   -- 5 Op.fieldAddr 70 (Operand.tmp 11) 0
              refine pd_ld (some 63) rfl rfl (by rfl) (fun ws HS => by go_split_ands; go_simp; try with_reducible rfl) ?_; go_frame   -- 6 Op.load 3 (Operand.tmp 62)
              refine pd_pu (some 64) rfl rfl (by rfl) (fun ws => by go_simp; try with_reducible rfl) ?_; go_frame   -- 7 Op.move (Operand.tmp 1)
              refine pd_pu (some 65) rfl rfl (by rfl) (fun ws => by go_simp; try with_reducible rfl) ?_; go_frame   -- 8 Op.binOp BinOp.neq 3 (Operand.tmp 63) (Operand.tmp 64) 3
              try simp only [d2]
              refine pd_pu (some 66) rfl rfl (by rfl) (fun ws => by go_simp; try with_reducible rfl) ?_; go_frame   -- 9 Op.pick (Operand.tmp 61) (Operand.tmp 65) (Operand.const (Value.bool false))
              refine pd_pu (some 67) rfl rfl (by rfl) (fun ws => by go_simp; try with_reducible rfl) ?_; go_frame   -- 10 Op.move (Operand.tmp 66)
              refine pd_pu_skip (some 68) rfl rfl (by rfl) ?_; go_frame   -- 11 Op.fieldAddr 70 (Operand.tmp 11) 2
              refine pd_ld_skip (some 69) rfl rfl (by rfl) ?_; go_frame   -- 12 Op.load 4 (Operand.tmp 68)
              refine pd_pu_skip (some 70) rfl rfl (by rfl) ?_; go_frame   -- 13 Op.move (Operand.tmp 69)
              refine pd_pu_skip (some 71) rfl rfl (by rfl) ?_; go_frame   -- 14 Op.move (Operand.tmp 3)
              refine pd_pu_skip (some 72) rfl rfl (by rfl) ?_; go_frame   -- 15 Op.pick (Operand.tmp 70) (Operand.const (Value.bool true)) (Operand.tmp 71)
              refine pd_pu (some 73) rfl rfl (by rfl) (fun ws => by go_simp; try with_reducible rfl) ?_; go_frame   -- 16 Op.pick (Operand.tmp 67) (Operand.tmp 72) (Operand.const (Value.bool false))
              refine pd_pu (some 74) rfl rfl (by rfl) (fun ws => by go_simp; try with_reducible rfl) ?_; go_frame   -- 17 Op.move (Operand.tmp 73)
              refine pd_pu_skip (some 75) rfl rfl (by rfl) ?_; go_frame   -- 18 Op.move (Operand.tmp 0)
              refine pd_pu_skip (some 76) rfl rfl (by rfl) ?_; go_frame   -- 19 Op.nilCheck (Operand.tmp 75)
              refine pd_pu_skip (some 77) rfl rfl (by rfl) ?_; go_frame   -- 20 Op.fieldAddr 60 (Operand.tmp 76) 0
              refine pd_ld_skip (some 78) rfl rfl (by rfl) ?_; go_frame   -- 21 Op.load 40 (Operand.tmp 77)
              refine pd_pu_skip (some 79) rfl rfl (by rfl) ?_; go_frame   -- 22 Op.move (Operand.tmp 1)
              refine pd_pu_skip (some 80) rfl rfl (by rfl) ?_; go_frame   -- 23 Op.indexAddr 40 (Operand.tmp 78) (Operand.tmp 79)
              refine pd_ld_skip (some 81) rfl rfl (by rfl) ?_; go_frame   -- 24 Op.load 46 (Operand.tmp 80)
              refine pd_pu_skip (some 82) rfl rfl (by rfl) ?_; go_frame   -- 25 Op.fieldAddr 70 (Operand.tmp 11) 0
              refine pd_ld_skip (some 83) rfl rfl (by rfl) ?_; go_frame   -- 26 Op.load 3 (Operand.tmp 82)
              refine pd_pu_skip (some 85) rfl rfl (by rfl) ?_; go_frame   -- 28 Op.fieldAddr 70 (Operand.tmp 11) 1
              refine pd_ld_skip (some 86) rfl rfl (by rfl) ?_; go_frame   -- 29 Op.load 3 (Operand.tmp 85)
              refine pi_ke rfl (fun J hJ => ?_)   -- 27 Op.call { callee := Callee.value (Operand.func 39), args := #[Operand.tmp 81, Operand.tmp 83], argTypes := #[46, 3] }
              go_wp2
              refine hJ _ _ HS ?_
              refine pd_pu_skip (some 87) rfl rfl (by rfl) ?_; go_frame   -- 30 Op.binOp BinOp.lss 3 (Operand.tmp 84) (Operand.tmp 86) 3
              refine pd_pu (some 88) rfl rfl (by rfl) (fun ws => by go_simp; try with_reducible rfl) ?_; go_frame   -- 31 Op.pick (Operand.tmp 74) (Operand.tmp 87) (Operand.const (Value.bool false))
              refine pi_tail (r := []) rfl ?_; simp only [opsAt]
              go_wp2
              go_roundg (gk - 1)
              case measure => omega
              case rel => exact ⟨i + 1, _, by omega, by simp, rfl, by omega, Lib.hid (HO.trans (by rw [hbad.out]; simp at d2; simp [d2])), HR'.out 1⟩
            case true =>
              have e1 : ae = cell := by simpa using d1
              have e2 : (aw : Int) ≠ (who : Int) := by simpa using d2
              cases ab with
              | false =>
                cases write with
                | false =>
                  refine wp_region_pi (fun w' => w'.cell? ⟨po, 0, none⟩ = some (.slice (some ⟨st'.pk, 0, none⟩) K.length st'.cap) ∧ w'.cell? ⟨st'.pk, who, none⟩ = some (.slice (some ⟨ga, 0, none⟩) r.length c) ∧ w'.cell? ⟨bn, 0, none⟩ = some (.int .i64 aw) ∧ w'.cell? ⟨bn, 1, none⟩ = some (.int .i64 an) ∧ w'.cell? ⟨bn, 2, none⟩ = some (.bool false) ∧ w'.cell? ⟨bn, 3, none⟩ = some (.int .i64 ae)) [(0, 1), (1, 0), (2, 1), (3, 1), (4, 1), (5, 1), (6, 0), (7, 1), (8, 1), (9, 1), (10, 1), (11, 1), (12, 0), (13, 1), (14, 1), (15, 1), (16, 1), (17, 1), (18, 1), (19, 1), (20, 1), (21, 0), (22, 1), (23, 1), (24, 0), (25, 1), (26, 0), (28, 1), (29, 0), (27, 2), (30, 1), (31, 1)] [] (by kernel_rfl) (by kernel_rfl) (fun _ _ _ _ _ h => h) (HS) ?_
                  refine pd_pu (some 57) rfl rfl (by rfl) (fun ws => by go_simp; try with_reducible rfl) ?_; go_frame   -- 0 Op.fieldAddr 70 (Operand.tmp 11) 3
                  refine pd_ld (some 58) rfl rfl (by rfl) (fun ws HS => by go_split_ands; go_simp; try with_reducible rfl) ?_; go_frame   -- 1 Op.load 3 (Operand.tmp 57)
                  refine pd_pu (some 59) rfl rfl (by rfl) (fun ws => by go_simp; try with_reducible rfl) ?_; go_frame   -- 2 Op.move (Operand.tmp 2)
                  refine pd_pu (some 60) rfl rfl (by rfl) (fun ws => by go_simp; try with_reducible rfl) ?_; go_frame   -- 3 Op.binOp BinOp.eql 3 (Operand.tmp 58) (Operand.tmp 59) 3
                  try simp only [d1]
                  refine pd_pu (some 61) rfl rfl (by rfl) (fun ws => by go_simp; try with_reducible rfl) ?_; go_frame   -- 4 Op.move (Operand.tmp 60)
                  refine pd_pu (some 62) rfl rfl (by rfl) (fun ws => by go_simp; try with_reducible rfl) ?_; go_frame   -- 5 Op.fieldAddr 70 (Operand.tmp 11) 0
                  refine pd_ld (some 63) rfl rfl (by rfl) (fun ws HS => by go_split_ands; go_simp; try with_reducible rfl) ?_; go_frame   -- 6 Op.load 3 (Operand.tmp 62)
                  refine pd_pu (some 64) rfl rfl (by rfl) (fun ws => by go_simp; try with_reducible rfl) ?_; go_frame   -- 7 Op.move (Operand.tmp 1)
                  refine pd_pu (some 65) rfl rfl (by rfl) (fun ws => by go_simp; try with_reducible rfl) ?_; go_frame   -- 8 Op.binOp BinOp.neq 3 (Operand.tmp 63) (Operand.tmp 64) 3
                  try simp only [d2]
                  refine pd_pu (some 66) rfl rfl (by rfl) (fun ws => by go_simp; try with_reducible rfl) ?_; go_frame   -- 9 Op.pick (Operand.tmp 61) (Operand.tmp 65) (Operand.const (Value.bool false))
                  refine pd_pu (some 67) rfl rfl (by rfl) (fun ws => by go_simp; try with_reducible rfl) ?_; go_frame   -- 10 Op.move (Operand.tmp 66)
                  refine pd_pu (some 68) rfl rfl (by rfl) (fun ws => by go_simp; try with_reducible rfl) ?_; go_frame   -- 11 Op.fieldAddr 70 (Operand.tmp 11) 2
                  refine pd_ld (some 69) rfl rfl (by rfl) (fun ws HS => by go_split_ands; go_simp; try with_reducible rfl) ?_; go_frame   -- 12 Op.load 4 (Operand.tmp 68)
                  refine pd_pu (some 70) rfl rfl (by rfl) (fun ws => by go_simp; try with_reducible rfl) ?_; go_frame   -- 13 Op.move (Operand.tmp 69)
                  refine pd_pu (some 71) rfl rfl (by rfl) (fun ws => by go_simp; try with_reducible rfl) ?_; go_frame   -- 14 Op.move (Operand.tmp 3)
                  refine pd_pu (some 72) rfl rfl (by rfl) (fun ws => by go_simp; try with_reducible rfl) ?_; go_frame   -- 15 Op.pick (Operand.tmp 70) (Operand.const (Value.bool true)) (Operand.tmp 71)
                  refine pd_pu (some 73) rfl rfl (by rfl) (fun ws => by go_simp; try with_reducible rfl) ?_; go_frame   -- 16 Op.pick (Operand.tmp 67) (Operand.tmp 72) (Operand.const (Value.bool false))
                  refine pd_pu (some 74) rfl rfl (by rfl) (fun ws => by go_simp; try with_reducible rfl) ?_; go_frame   -- 17 Op.move (Operand.tmp 73)
                  refine pd_pu_skip (some 75) rfl rfl (by rfl) ?_; go_frame   -- 18 Op.move (Operand.tmp 0)
                  refine pd_pu_skip (some 76) rfl rfl (by rfl) ?_; go_frame   -- 19 Op.nilCheck (Operand.tmp 75)
                  refine pd_pu_skip (some 77) rfl rfl (by rfl) ?_; go_frame   -- 20 Op.fieldAddr 60 (Operand.tmp 76) 0
                  refine pd_ld_skip (some 78) rfl rfl (by rfl) ?_; go_frame   -- 21 Op.load 40 (Operand.tmp 77)
                  refine pd_pu_skip (some 79) rfl rfl (by rfl) ?_; go_frame   -- 22 Op.move (Operand.tmp 1)
                  refine pd_pu_skip (some 80) rfl rfl (by rfl) ?_; go_frame   -- 23 Op.indexAddr 40 (Operand.tmp 78) (Operand.tmp 79)
                  refine pd_ld_skip (some 81) rfl rfl (by rfl) ?_; go_frame   -- 24 Op.load 46 (Operand.tmp 80)
                  refine pd_pu_skip (some 82) rfl rfl (by rfl) ?_; go_frame   -- 25 Op.fieldAddr 70 (Operand.tmp 11) 0
                  refine pd_ld_skip (some 83) rfl rfl (by rfl) ?_; go_frame   -- 26 Op.load 3 (Operand.tmp 82)
                  refine pd_pu_skip (some 85) rfl rfl (by rfl) ?_; go_frame   -- 28 Op.fieldAddr 70 (Operand.tmp 11) 1
                  refine pd_ld_skip (some 86) rfl rfl (by rfl) ?_; go_frame   -- 29 Op.load 3 (Operand.tmp 85)
                  refine pi_ke rfl (fun J hJ => ?_)   -- 27 Op.call { callee := Callee.value (Operand.func 39), args := #[Operand.tmp 81, Operand.tmp 83], argTypes := #[46, 3] }
                  go_wp2
                  refine hJ _ _ HS ?_
                  refine pd_pu_skip (some 87) rfl rfl (by rfl) ?_; go_frame   -- 30 Op.binOp BinOp.lss 3 (Operand.tmp 84) (Operand.tmp 86) 3
                  refine pd_pu (some 88) rfl rfl (by rfl) (fun ws => by go_simp; try with_reducible rfl) ?_; go_frame   -- 31 Op.pick (Operand.tmp 74) (Operand.tmp 87) (Operand.const (Value.bool false))
                  refine pi_tail (r := []) rfl ?_; simp only [opsAt]
                  go_wp2
                  go_roundg (gk - 1)
                  case measure => omega
                  case rel => exact ⟨i + 1, _, by omega, by simp, rfl, by omega, Lib.hid (HO.trans (by rw [hbad.out]; simp)), HR'.out 1⟩
                | true =>
                  cases d3 : decide (n < an)
                  case false =>
                    refine wp_region_pi (fun w' => w'.cell? ⟨po, 0, none⟩ = some (.slice (some ⟨st'.pk, 0, none⟩) K.length st'.cap) ∧ w'.cell? ⟨st'.pk, who, none⟩ = some (.slice (some ⟨ga, 0, none⟩) r.length c) ∧ w'.cell? ⟨bn, 0, none⟩ = some (.int .i64 aw) ∧ w'.cell? ⟨bn, 1, none⟩ = some (.int .i64 an) ∧ w'.cell? ⟨bn, 2, none⟩ = some (.bool false) ∧ w'.cell? ⟨bn, 3, none⟩ = some (.int .i64 ae)) [(0, 1), (1, 0), (2, 1), (3, 1), (4, 1), (5, 1), (6, 0), (7, 1), (8, 1), (9, 1), (10, 1), (11, 1), (12, 0), (13, 1), (14, 1), (15, 1), (16, 1), (17, 1), (18, 1), (19, 1), (20, 1), (21, 0), (22, 1), (23, 1), (24, 0), (25, 1), (26, 0), (28, 1), (29, 0), (27, 2), (30, 1), (31, 1)] [] (by kernel_rfl) (by kernel_rfl) (fun _ _ _ _ _ h => h) (HS) ?_
                    refine pd_pu (some 57) rfl rfl (by rfl) (fun ws => by go_simp; try with_reducible rfl) ?_; go_frame   -- 0 Op.fieldAddr 70 (Operand.tmp 11) 3
                    refine pd_ld (some 58) rfl rfl (by rfl) (fun ws HS => by go_split_ands; go_simp; try with_reducible rfl) ?_; go_frame   -- 1 Op.load 3 (Operand.tmp 57)
                    refine pd_pu (some 59) rfl rfl (by rfl) (fun ws => by go_simp; try with_reducible rfl) ?_; go_frame   -- 2 Op.move (Operand.tmp 2)
                    refine pd_pu (some 60) rfl rfl (by rfl) (fun ws => by go_simp; try with_reducible rfl) ?_; go_frame   -- 3 Op.binOp BinOp.eql 3 (Operand.tmp 58) (Operand.tmp 59) 3
                    try simp only [d1]
                    refine pd_pu (some 61) rfl rfl (by rfl) (fun ws => by go_simp; try with_reducible rfl) ?_; go_frame   -- 4 Op.move (Operand.tmp 60)
                    refine pd_pu (some 62) rfl rfl (by rfl) (fun ws => by go_simp; try with_reducible rfl) ?_; go_frame   -- 5 Op.fieldAddr 70 (Operand.tmp 11) 0
                    refine pd_ld (some 63) rfl rfl (by rfl) (fun ws HS => by go_split_ands; go_simp; try with_reducible rfl) ?_; go_frame   -- 6 Op.load 3 (Operand.tmp 62)
                    refine pd_pu (some 64) rfl rfl (by rfl) (fun ws => by go_simp; try with_reducible rfl) ?_; go_frame   -- 7 Op.move (Operand.tmp 1)
                    refine pd_pu (some 65) rfl rfl (by rfl) (fun ws => by go_simp; try with_reducible rfl) ?_; go_frame   -- 8 Op.binOp BinOp.neq 3 (Operand.tmp 63) (Operand.tmp 64) 3
                    try simp only [d2]
                    refine pd_pu (some 66) rfl rfl (by rfl) (fun ws => by go_simp; try with_reducible rfl) ?_; go_frame   -- 9 Op.pick (Operand.tmp 61) (Operand.tmp 65) (Operand.const (Value.bool false))
                    refine pd_pu (some 67) rfl rfl (by rfl) (fun ws => by go_simp; try with_reducible rfl) ?_; go_frame   -- 10 Op.move (Operand.tmp 66)
                    refine pd_pu (some 68) rfl rfl (by rfl) (fun ws => by go_simp; try with_reducible rfl) ?_; go_frame   -- 11 Op.fieldAddr 70 (Operand.tmp 11) 2
                    refine pd_ld (some 69) rfl rfl (by rfl) (fun ws HS => by go_split_ands; go_simp; try with_reducible rfl) ?_; go_frame   -- 12 Op.load 4 (Operand.tmp 68)
                    refine pd_pu (some 70) rfl rfl (by rfl) (fun ws => by go_simp; try with_reducible rfl) ?_; go_frame   -- 13 Op.move (Operand.tmp 69)
                    refine pd_pu (some 71) rfl rfl (by rfl) (fun ws => by go_simp; try with_reducible rfl) ?_; go_frame   -- 14 Op.move (Operand.tmp 3)
                    refine pd_pu (some 72) rfl rfl (by rfl) (fun ws => by go_simp; try with_reducible rfl) ?_; go_frame   -- 15 Op.pick (Operand.tmp 70) (Operand.const (Value.bool true)) (Operand.tmp 71)
                    refine pd_pu (some 73) rfl rfl (by rfl) (fun ws => by go_simp; try with_reducible rfl) ?_; go_frame   -- 16 Op.pick (Operand.tmp 67) (Operand.tmp 72) (Operand.const (Value.bool false))
                    refine pd_pu (some 74) rfl rfl (by rfl) (fun ws => by go_simp; try with_reducible rfl) ?_; go_frame   -- 17 Op.move (Operand.tmp 73)
                    refine pd_pu (some 75) rfl rfl (by rfl) (fun ws => by go_simp; try with_reducible rfl) ?_; go_frame   -- 18 Op.move (Operand.tmp 0)
                    refine pd_pu (some 76) rfl rfl (by rfl) (fun ws => by go_simp; try with_reducible rfl) ?_; go_frame   -- 19 Op.nilCheck (Operand.tmp 75)
                    refine pd_pu (some 77) rfl rfl (by rfl) (fun ws => by go_simp; try with_reducible rfl) ?_; go_frame   -- 20 Op.fieldAddr 60 (Operand.tmp 76) 0
                    refine pd_ld (some 78) rfl rfl (by rfl) (fun ws HS => by go_split_ands; go_simp; try with_reducible rfl) ?_; go_frame   -- 21 Op.load 40 (Operand.tmp 77)
                    refine pd_pu (some 79) rfl rfl (by rfl) (fun ws => by go_simp; try with_reducible rfl) ?_; go_frame   -- 22 Op.move (Operand.tmp 1)
                    refine pd_pu (some 80) rfl rfl (by rfl) (fun ws => by go_simp; try with_reducible rfl) ?_; go_frame   -- 23 Op.indexAddr 40 (Operand.tmp 78) (Operand.tmp 79)
                    refine pd_ld (some 81) rfl rfl (by rfl) (fun ws HS => by go_split_ands; go_simp; try with_reducible rfl) ?_; go_frame   -- 24 Op.load 46 (Operand.tmp 80)
                    refine pd_pu (some 82) rfl rfl (by rfl) (fun ws => by go_simp; try with_reducible rfl) ?_; go_frame   -- 25 Op.fieldAddr 70 (Operand.tmp 11) 0
                    refine pd_ld (some 83) rfl rfl (by rfl) (fun ws HS => by go_split_ands; go_simp; try with_reducible rfl) ?_; go_frame   -- 26 Op.load 3 (Operand.tmp 82)
                    refine pd_pu (some 85) rfl rfl (by rfl) (fun ws => by go_simp; try with_reducible rfl) ?_; go_frame   -- 28 Op.fieldAddr 70 (Operand.tmp 11) 1
                    refine pd_ld (some 86) rfl rfl (by rfl) (fun ws HS => by go_split_ands; go_simp; try with_reducible rfl) ?_; go_frame   -- 29 Op.load 3 (Operand.tmp 85)
                    refine pi_ke rfl (fun J hJ => ?_)   -- 27 Op.call { callee := Callee.value (Operand.func 39), args := #[Operand.tmp 81, Operand.tmp 83], argTypes := #[46, 3] }
                    go_wp2_with (go_at_call 39; refine (HC.out 1).mono ?_; rintro e w' ⟨rfl, rfl⟩)
                    refine hJ _ _ HS ?_
                    refine pd_pu (some 87) rfl rfl (by rfl) (fun ws => by go_simp; try with_reducible rfl) ?_; go_frame   -- 30 Op.binOp BinOp.lss 3 (Operand.tmp 84) (Operand.tmp 86) 3
                    try simp only [d3]
                    refine pd_pu (some 88) rfl rfl (by rfl) (fun ws => by go_simp; try with_reducible rfl) ?_; go_frame   -- 31 Op.pick (Operand.tmp 74) (Operand.tmp 87) (Operand.const (Value.bool false))
                    refine pi_tail (r := []) rfl ?_; simp only [opsAt]
                    go_wp2
                    go_roundg (gk - 1)
                    case measure => omega
                    case rel => exact ⟨i + 1, _, by omega, by simp, rfl, by omega, Lib.hid (HO.trans (by rw [hbad.out]; simp [d3])), HR'.out _⟩
                  case true =>
                    refine wp_region_pi (fun w' => w'.cell? ⟨po, 0, none⟩ = some (.slice (some ⟨st'.pk, 0, none⟩) K.length st'.cap) ∧ w'.cell? ⟨st'.pk, who, none⟩ = some (.slice (some ⟨ga, 0, none⟩) r.length c) ∧ w'.cell? ⟨bn, 0, none⟩ = some (.int .i64 aw) ∧ w'.cell? ⟨bn, 1, none⟩ = some (.int .i64 an) ∧ w'.cell? ⟨bn, 2, none⟩ = some (.bool false) ∧ w'.cell? ⟨bn, 3, none⟩ = some (.int .i64 ae)) [(0, 1), (1, 0), (2, 1), (3, 1), (4, 1), (5, 1), (6, 0), (7, 1), (8, 1), (9, 1), (10, 1), (11, 1), (12, 0), (13, 1), (14, 1), (15, 1), (16, 1), (17, 1), (18, 1), (19, 1), (20, 1), (21, 0), (22, 1), (23, 1), (24, 0), (25, 1), (26, 0), (28, 1), (29, 0), (27, 2), (30, 1), (31, 1)] [] (by kernel_rfl) (by kernel_rfl) (fun _ _ _ _ _ h => h) (HS) ?_
                    refine pd_pu (some 57) rfl rfl (by rfl) (fun ws => by go_simp; try with_reducible rfl) ?_; go_frame   -- 0 Op.fieldAddr 70 (Operand.tmp 11) 3
                    refine pd_ld (some 58) rfl rfl (by rfl) (fun ws HS => by go_split_ands; go_simp; try with_reducible rfl) ?_; go_frame   -- 1 Op.load 3 (Operand.tmp 57)
                    refine pd_pu (some 59) rfl rfl (by rfl) (fun ws => by go_simp; try with_reducible rfl) ?_; go_frame   -- 2 Op.move (Operand.tmp 2)
                    refine pd_pu (some 60) rfl rfl (by rfl) (fun ws => by go_simp; try with_reducible rfl) ?_; go_frame   -- 3 Op.binOp BinOp.eql 3 (Operand.tmp 58) (Operand.tmp 59) 3
                    try simp only [d1]
                    refine pd_pu (some 61) rfl rfl (by rfl) (fun ws => by go_simp; try with_reducible rfl) ?_; go_frame   -- 4 Op.move (Operand.tmp 60)
                    refine pd_pu (some 62) rfl rfl (by rfl) (fun ws => by go_simp; try with_reducible rfl) ?_; go_frame   -- 5 Op.fieldAddr 70 (Operand.tmp 11) 0
                    refine pd_ld (some 63) rfl rfl (by rfl) (fun ws HS => by go_split_ands; go_simp; try with_reducible rfl) ?_; go_frame   -- 6 Op.load 3 (Operand.tmp 62)
                    refine pd_pu (some 64) rfl rfl (by rfl) (fun ws => by go_simp; try with_reducible rfl) ?_; go_frame   -- 7 Op.move (Operand.tmp 1)
                    refine pd_pu (some 65) rfl rfl (by rfl) (fun ws => by go_simp; try with_reducible rfl) ?_; go_frame   -- 8 Op.binOp BinOp.neq 3 (Operand.tmp 63) (Operand.tmp 64) 3
                    try simp only [d2]
                    refine pd_pu (some 66) rfl rfl (by rfl) (fun ws => by go_simp; try with_reducible rfl) ?_; go_frame   -- 9 Op.pick (Operand.tmp 61) (Operand.tmp 65) (Operand.const (Value.bool false))
                    refine pd_pu (some 67) rfl rfl (by rfl) (fun ws => by go_simp; try with_reducible rfl) ?_; go_frame   -- 10 Op.move (Operand.tmp 66)
                    refine pd_pu (some 68) rfl rfl (by rfl) (fun ws => by go_simp; try with_reducible rfl) ?_; go_frame   -- 11 Op.fieldAddr 70 (Operand.tmp 11) 2
                    refine pd_ld (some 69) rfl rfl (by rfl) (fun ws HS => by go_split_ands; go_simp; try with_reducible rfl) ?_; go_frame   -- 12 Op.load 4 (Operand.tmp 68)
                    refine pd_pu (some 70) rfl rfl (by rfl) (fun ws => by go_simp; try with_reducible rfl) ?_; go_frame   -- 13 Op.move (Operand.tmp 69)
                    refine pd_pu (some 71) rfl rfl (by rfl) (fun ws => by go_simp; try with_reducible rfl) ?_; go_frame   -- 14 Op.move (Operand.tmp 3)
                    refine pd_pu (some 72) rfl rfl (by rfl) (fun ws => by go_simp; try with_reducible rfl) ?_; go_frame   -- 15 Op.pick (Operand.tmp 70) (Operand.const (Value.bool true)) (Operand.tmp 71)
                    refine pd_pu (some 73) rfl rfl (by rfl) (fun ws => by go_simp; try with_reducible rfl) ?_; go_frame   -- 16 Op.pick (Operand.tmp 67) (Operand.tmp 72) (Operand.const (Value.bool false))
                    refine pd_pu (some 74) rfl rfl (by rfl) (fun ws => by go_simp; try with_reducible rfl) ?_; go_frame   -- 17 Op.move (Operand.tmp 73)
                    refine pd_pu (some 75) rfl rfl (by rfl) (fun ws => by go_simp; try with_reducible rfl) ?_; go_frame   -- 18 Op.move (Operand.tmp 0)
                    refine pd_pu (some 76) rfl rfl (by rfl) (fun ws => by go_simp; try with_reducible rfl) ?_; go_frame   -- 19 Op.nilCheck (Operand.tmp 75)
                    refine pd_pu (some 77) rfl rfl (by rfl) (fun ws => by go_simp; try with_reducible rfl) ?_; go_frame   -- 20 Op.fieldAddr 60 (Operand.tmp 76) 0
                    refine pd_ld (some 78) rfl rfl (by rfl) (fun ws HS => by go_split_ands; go_simp; try with_reducible rfl) ?_; go_frame   -- 21 Op.load 40 (Operand.tmp 77)
                    refine pd_pu (some 79) rfl rfl (by rfl) (fun ws => by go_simp; try with_reducible rfl) ?_; go_frame   -- 22 Op.move (Operand.tmp 1)
                    refine pd_pu (some 80) rfl rfl (by rfl) (fun ws => by go_simp; try with_reducible rfl) ?_; go_frame   -- 23 Op.indexAddr 40 (Operand.tmp 78) (Operand.tmp 79)
                    refine pd_ld (some 81) rfl rfl (by rfl) (fun ws HS => by go_split_ands; go_simp; try with_reducible rfl) ?_; go_frame   -- 24 Op.load 46 (Operand.tmp 80)
                    refine pd_pu (some 82) rfl rfl (by rfl) (fun ws => by go_simp; try with_reducible rfl) ?_; go_frame   -- 25 Op.fieldAddr 70 (Operand.tmp 11) 0
                    refine pd_ld (some 83) rfl rfl (by rfl) (fun ws HS => by go_split_ands; go_simp; try with_reducible rfl) ?_; go_frame   -- 26 Op.load 3 (Operand.tmp 82)
                    refine pd_pu (some 85) rfl rfl (by rfl) (fun ws => by go_simp; try with_reducible rfl) ?_; go_frame   -- 28 Op.fieldAddr 70 (Operand.tmp 11) 1
                    refine pd_ld (some 86) rfl rfl (by rfl) (fun ws HS => by go_split_ands; go_simp; try with_reducible rfl) ?_; go_frame   -- 29 Op.load 3 (Operand.tmp 85)
                    refine pi_ke rfl (fun J hJ => ?_)   -- 27 Op.call { callee := Callee.value (Operand.func 39), args := #[Operand.tmp 81, Operand.tmp 83], argTypes := #[46, 3] }
                    go_wp2_with (go_at_call 39; refine (HC.out 1).mono ?_; rintro e w' ⟨rfl, rfl⟩)
                    refine hJ _ _ HS ?_
                    refine pd_pu (some 87) rfl rfl (by rfl) (fun ws => by go_simp; try with_reducible rfl) ?_; go_frame   -- 30 Op.binOp BinOp.lss 3 (Operand.tmp 84) (Operand.tmp 86) 3
                    try simp only [d3]
                    refine pd_pu (some 88) rfl rfl (by rfl) (fun ws => by go_simp; try with_reducible rfl) ?_; go_frame   -- 31 Op.pick (Operand.tmp 74) (Operand.tmp 87) (Operand.const (Value.bool false))
                    refine pi_tail (r := []) rfl ?_; simp only [opsAt]
                    go_wp2
                    go_roundg (gk - 1)
                    case measure => omega
                    case rel => exact ⟨i + 1, _, by omega, by simp, rfl, by omega, Lib.hid (HO.trans (by rw [hbad.out]; simp [e1, e2, d3])), HR'.out _⟩
              | true =>
                cases d3 : decide (n < an)
                case false =>
                  refine wp_region_pi (fun w' => w'.cell? ⟨po, 0, none⟩ = some (.slice (some ⟨st'.pk, 0, none⟩) K.length st'.cap) ∧ w'.cell? ⟨st'.pk, who, none⟩ = some (.slice (some ⟨ga, 0, none⟩) r.length c) ∧ w'.cell? ⟨bn, 0, none⟩ = some (.int .i64 aw) ∧ w'.cell? ⟨bn, 1, none⟩ = some (.int .i64 an) ∧ w'.cell? ⟨bn, 2, none⟩ = some (.bool true) ∧ w'.cell? ⟨bn, 3, none⟩ = some (.int .i64 ae)) [(0, 1), (1, 0), (2, 1), (3, 1), (4, 1), (5, 1), (6, 0), (7, 1), (8, 1), (9, 1), (10, 1), (11, 1), (12, 0), (13, 1), (14, 1), (15, 1), (16, 1), (17, 1), (18, 1), (19, 1), (20, 1), (21, 0), (22, 1), (23, 1), (24, 0), (25, 1), (26, 0), (28, 1), (29, 0), (27, 2), (30, 1), (31, 1)] [] (by kernel_rfl) (by kernel_rfl) (fun _ _ _ _ _ h => h) (HS) ?_
                  refine pd_pu (some 57) rfl rfl (by rfl) (fun ws => by go_simp; try with_reducible rfl) ?_; go_frame   -- 0 Op.fieldAddr 70 (Operand.tmp 11) 3
                  refine pd_ld (some 58) rfl rfl (by rfl) (fun ws HS => by go_split_ands; go_simp; try with_reducible rfl) ?_; go_frame   -- 1 Op.load 3 (Operand.tmp 57)
                  refine pd_pu (some 59) rfl rfl (by rfl) (fun ws => by go_simp; try with_reducible rfl) ?_; go_frame   -- 2 Op.move (Operand.tmp 2)
                  refine pd_pu (some 60) rfl rfl (by rfl) (fun ws => by go_simp; try with_reducible rfl) ?_; go_frame   -- 3 Op.binOp BinOp.eql 3 (Operand.tmp 58) (Operand.tmp 59) 3
                  try simp only [d1]
                  refine pd_pu (some 61) rfl rfl (by rfl) (fun ws => by go_simp; try with_reducible rfl) ?_; go_frame   -- 4 Op.move (Operand.tmp 60)
                  refine pd_pu (some 62) rfl rfl (by rfl) (fun ws => by go_simp; try with_reducible rfl) ?_; go_frame   -- 5 Op.fieldAddr 70 (Operand.tmp 11) 0
                  refine pd_ld (some 63) rfl rfl (by rfl) (fun ws HS => by go_split_ands; go_simp; try with_reducible rfl) ?_; go_frame   -- 6 Op.load 3 (Operand.tmp 62)
                  refine pd_pu (some 64) rfl rfl (by rfl) (fun ws => by go_simp; try with_reducible rfl) ?_; go_frame   -- 7 Op.move (Operand.tmp 1)
                  refine pd_pu (some 65) rfl rfl (by rfl) (fun ws => by go_simp; try with_reducible rfl) ?_; go_frame   -- 8 Op.binOp BinOp.neq 3 (Operand.tmp 63) (Operand.tmp 64) 3
                  try simp only [d2]
                  refine pd_pu (some 66) rfl rfl (by rfl) (fun ws => by go_simp; try with_reducible rfl) ?_; go_frame   -- 9 Op.pick (Operand.tmp 61) (Operand.tmp 65) (Operand.const (Value.bool false))
                  refine pd_pu (some 67) rfl rfl (by rfl) (fun ws => by go_simp; try with_reducible rfl) ?_; go_frame   -- 10 Op.move (Operand.tmp 66)
                  refine pd_pu (some 68) rfl rfl (by rfl) (fun ws => by go_simp; try with_reducible rfl) ?_; go_frame   -- 11 Op.fieldAddr 70 (Operand.tmp 11) 2
                  refine pd_ld (some 69) rfl rfl (by rfl) (fun ws HS => by go_split_ands; go_simp; try with_reducible rfl) ?_; go_frame   -- 12 Op.load 4 (Operand.tmp 68)
                  refine pd_pu (some 70) rfl rfl (by rfl) (fun ws => by go_simp; try with_reducible rfl) ?_; go_frame   -- 13 Op.move (Operand.tmp 69)
                  refine pd_pu_skip (some 71) rfl rfl (by rfl) ?_; go_frame   -- 14 Op.move (Operand.tmp 3)
                  refine pd_pu (some 72) rfl rfl (by rfl) (fun ws => by go_simp; try with_reducible rfl) ?_; go_frame   -- 15 Op.pick (Operand.tmp 70) (Operand.const (Value.bool true)) (Operand.tmp 71)
                  refine pd_pu (some 73) rfl rfl (by rfl) (fun ws => by go_simp; try with_reducible rfl) ?_; go_frame   -- 16 Op.pick (Operand.tmp 67) (Operand.tmp 72) (Operand.const (Value.bool false))
                  refine pd_pu (some 74) rfl rfl (by rfl) (fun ws => by go_simp; try with_reducible rfl) ?_; go_frame   -- 17 Op.move (Operand.tmp 73)
                  refine pd_pu (some 75) rfl rfl (by rfl) (fun ws => by go_simp; try with_reducible rfl) ?_; go_frame   -- 18 Op.move (Operand.tmp 0)
                  refine pd_pu (some 76) rfl rfl (by rfl) (fun ws => by go_simp; try with_reducible rfl) ?_; go_frame   -- 19 Op.nilCheck (Operand.tmp 75)
                  refine pd_pu (some 77) rfl rfl (by rfl) (fun ws => by go_simp; try with_reducible rfl) ?_; go_frame   -- 20 Op.fieldAddr 60 (Operand.tmp 76) 0
                  refine pd_ld (some 78) rfl rfl (by rfl) (fun ws HS => by go_split_ands; go_simp; try with_reducible rfl) ?_; go_frame   -- 21 Op.load 40 (Operand.tmp 77)
                  refine pd_pu (some 79) rfl rfl (by rfl) (fun ws => by go_simp; try with_reducible rfl) ?_; go_frame   -- 22 Op.move (Operand.tmp 1)
                  refine pd_pu (some 80) rfl rfl (by rfl) (fun ws => by go_simp; try with_reducible rfl) ?_; go_frame   -- 23 Op.indexAddr 40 (Operand.tmp 78) (Operand.tmp 79)
                  refine pd_ld (some 81) rfl rfl (by rfl) (fun ws HS => by go_split_ands; go_simp; try with_reducible rfl) ?_; go_frame   -- 24 Op.load 46 (Operand.tmp 80)
                  refine pd_pu (some 82) rfl rfl (by rfl) (fun ws => by go_simp; try with_reducible rfl) ?_; go_frame   -- 25 Op.fieldAddr 70 (Operand.tmp 11) 0
                  refine pd_ld (some 83) rfl rfl (by rfl) (fun ws HS => by go_split_ands; go_simp; try with_reducible rfl) ?_; go_frame   -- 26 Op.load 3 (Operand.tmp 82)
                  refine pd_pu (some 85) rfl rfl (by rfl) (fun ws => by go_simp; try with_reducible rfl) ?_; go_frame   -- 28 Op.fieldAddr 70 (Operand.tmp 11) 1
                  refine pd_ld (some 86) rfl rfl (by rfl) (fun ws HS => by go_split_ands; go_simp; try with_reducible rfl) ?_; go_frame   -- 29 Op.load 3 (Operand.tmp 85)
                  refine pi_ke rfl (fun J hJ => ?_)   -- 27 Op.call { callee := Callee.value (Operand.func 39), args := #[Operand.tmp 81, Operand.tmp 83], argTypes := #[46, 3] }
                  go_wp2_with (go_at_call 39; refine (HC.out 1).mono ?_; rintro e w' ⟨rfl, rfl⟩)
                  refine hJ _ _ HS ?_
                  refine pd_pu (some 87) rfl rfl (by rfl) (fun ws => by go_simp; try with_reducible rfl) ?_; go_frame   -- 30 Op.binOp BinOp.lss 3 (Operand.tmp 84) (Operand.tmp 86) 3
                  try simp only [d3]
                  refine pd_pu (some 88) rfl rfl (by rfl) (fun ws => by go_simp; try with_reducible rfl) ?_; go_frame   -- 31 Op.pick (Operand.tmp 74) (Operand.tmp 87) (Operand.const (Value.bool false))
                  refine pi_tail (r := []) rfl ?_; simp only [opsAt]
                  go_wp2
                  go_roundg (gk - 1)
                  case measure => omega
                  case rel => exact ⟨i + 1, _, by omega, by simp, rfl, by omega, Lib.hid (HO.trans (by rw [hbad.out]; simp [d3])), HR'.out _⟩
                case true =>
                  refine wp_region_pi (fun w' => w'.cell? ⟨po, 0, none⟩ = some (.slice (some ⟨st'.pk, 0, none⟩) K.length st'.cap) ∧ w'.cell? ⟨st'.pk, who, none⟩ = some (.slice (some ⟨ga, 0, none⟩) r.length c) ∧ w'.cell? ⟨bn, 0, none⟩ = some (.int .i64 aw) ∧ w'.cell? ⟨bn, 1, none⟩ = some (.int .i64 an) ∧ w'.cell? ⟨bn, 2, none⟩ = some (.bool true) ∧ w'.cell? ⟨bn, 3, none⟩ = some (.int .i64 ae)) [(0, 1), (1, 0), (2, 1), (3, 1), (4, 1), (5, 1), (6, 0), (7, 1), (8, 1), (9, 1), (10, 1), (11, 1), (12, 0), (13, 1), (14, 1), (15, 1), (16, 1), (17, 1), (18, 1), (19, 1), (20, 1), (21, 0), (22, 1), (23, 1), (24, 0), (25, 1), (26, 0), (28, 1), (29, 0), (27, 2), (30, 1), (31, 1)] [] (by kernel_rfl) (by kernel_rfl) (fun _ _ _ _ _ h => h) (HS) ?_
                  refine pd_pu (some 57) rfl rfl (by rfl) (fun ws => by go_simp; try with_reducible rfl) ?_; go_frame   -- 0 Op.fieldAddr 70 (Operand.tmp 11) 3
                  refine pd_ld (some 58) rfl rfl (by rfl) (fun ws HS => by go_split_ands; go_simp; try with_reducible rfl) ?_; go_frame   -- 1 Op.load 3 (Operand.tmp 57)
                  refine pd_pu (some 59) rfl rfl (by rfl) (fun ws => by go_simp; try with_reducible rfl) ?_; go_frame   -- 2 Op.move (Operand.tmp 2)
                  refine pd_pu (some 60) rfl rfl (by rfl) (fun ws => by go_simp; try with_reducible rfl) ?_; go_frame   -- 3 Op.binOp BinOp.eql 3 (Operand.tmp 58) (Operand.tmp 59) 3
                  try simp only [d1]
                  refine pd_pu (some 61) rfl rfl (by rfl) (fun ws => by go_simp; try with_reducible rfl) ?_; go_frame   -- 4 Op.move (Operand.tmp 60)
                  refine pd_pu (some 62) rfl rfl (by rfl) (fun ws => by go_simp; try with_reducible rfl) ?_; go_frame   -- 5 Op.fieldAddr 70 (Operand.tmp 11) 0
                  refine pd_ld (some 63) rfl rfl (by rfl) (fun ws HS => by go_split_ands; go_simp; try with_reducible rfl) ?_; go_frame   -- 6 Op.load 3 (Operand.tmp 62)
                  refine pd_pu (some 64) rfl rfl (by rfl) (fun ws => by go_simp; try with_reducible rfl) ?_; go_frame   -- 7 Op.move (Operand.tmp 1)
                  refine pd_pu (some 65) rfl rfl (by rfl) (fun ws => by go_simp; try with_reducible rfl) ?_; go_frame   -- 8 Op.binOp BinOp.neq 3 (Operand.tmp 63) (Operand.tmp 64) 3
                  try simp only [d2]
                  refine pd_pu (some 66) rfl rfl (by rfl) (fun ws => by go_simp; try with_reducible rfl) ?_; go_frame   -- 9 Op.pick (Operand.tmp 61) (Operand.tmp 65) (Operand.const (Value.bool false))
                  refine pd_pu (some 67) rfl rfl (by rfl) (fun ws => by go_simp; try with_reducible rfl) ?_; go_frame   -- 10 Op.move (Operand.tmp 66)
                  refine pd_pu (some 68) rfl rfl (by rfl) (fun ws => by go_simp; try with_reducible rfl) ?_; go_frame   -- 11 Op.fieldAddr 70 (Operand.tmp 11) 2
                  refine pd_ld (some 69) rfl rfl (by rfl) (fun ws HS => by go_split_ands; go_simp; try with_reducible rfl) ?_; go_frame   -- 12 Op.load 4 (Operand.tmp 68)
                  refine pd_pu (some 70) rfl rfl (by rfl) (fun ws => by go_simp; try with_reducible rfl) ?_; go_frame   -- 13 Op.move (Operand.tmp 69)
                  refine pd_pu_skip (some 71) rfl rfl (by rfl) ?_; go_frame   -- 14 Op.move (Operand.tmp 3)
                  refine pd_pu (some 72) rfl rfl (by rfl) (fun ws => by go_simp; try with_reducible rfl) ?_; go_frame   -- 15 Op.pick (Operand.tmp 70) (Operand.const (Value.bool true)) (Operand.tmp 71)
                  refine pd_pu (some 73) rfl rfl (by rfl) (fun ws => by go_simp; try with_reducible rfl) ?_; go_frame   -- 16 Op.pick (Operand.tmp 67) (Operand.tmp 72) (Operand.const (Value.bool false))
                  refine pd_pu (some 74) rfl rfl (by rfl) (fun ws => by go_simp; try with_reducible rfl) ?_; go_frame   -- 17 Op.move (Operand.tmp 73)
                  refine pd_pu (some 75) rfl rfl (by rfl) (fun ws => by go_simp; try with_reducible rfl) ?_; go_frame   -- 18 Op.move (Operand.tmp 0)
                  refine pd_pu (some 76) rfl rfl (by rfl) (fun ws => by go_simp; try with_reducible rfl) ?_; go_frame   -- 19 Op.nilCheck (Operand.tmp 75)
                  refine pd_pu (some 77) rfl rfl (by rfl) (fun ws => by go_simp; try with_reducible rfl) ?_; go_frame   -- 20 Op.fieldAddr 60 (Operand.tmp 76) 0
                  refine pd_ld (some 78) rfl rfl (by rfl) (fun ws HS => by go_split_ands; go_simp; try with_reducible rfl) ?_; go_frame   -- 21 Op.load 40 (Operand.tmp 77)
                  refine pd_pu (some 79) rfl rfl (by rfl) (fun ws => by go_simp; try with_reducible rfl) ?_; go_frame   -- 22 Op.move (Operand.tmp 1)
                  refine pd_pu (some 80) rfl rfl (by rfl) (fun ws => by go_simp; try with_reducible rfl) ?_; go_frame   -- 23 Op.indexAddr 40 (Operand.tmp 78) (Operand.tmp 79)
                  refine pd_ld (some 81) rfl rfl (by rfl) (fun ws HS => by go_split_ands; go_simp; try with_reducible rfl) ?_; go_frame   -- 24 Op.load 46 (Operand.tmp 80)
                  refine pd_pu (some 82) rfl rfl (by rfl) (fun ws => by go_simp; try with_reducible rfl) ?_; go_frame   -- 25 Op.fieldAddr 70 (Operand.tmp 11) 0
                  refine pd_ld (some 83) rfl rfl (by rfl) (fun ws HS => by go_split_ands; go_simp; try with_reducible rfl) ?_; go_frame   -- 26 Op.load 3 (Operand.tmp 82)
                  refine pd_pu (some 85) rfl rfl (by rfl) (fun ws => by go_simp; try with_reducible rfl) ?_; go_frame   -- 28 Op.fieldAddr 70 (Operand.tmp 11) 1
                  refine pd_ld (some 86) rfl rfl (by rfl) (fun ws HS => by go_split_ands; go_simp; try with_reducible rfl) ?_; go_frame   -- 29 Op.load 3 (Operand.tmp 85)
                  refine pi_ke rfl (fun J hJ => ?_)   -- 27 Op.call { callee := Callee.value (Operand.func 39), args := #[Operand.tmp 81, Operand.tmp 83], argTypes := #[46, 3] }
                  go_wp2_with (go_at_call 39; refine (HC.out 1).mono ?_; rintro e w' ⟨rfl, rfl⟩)
                  refine hJ _ _ HS ?_
                  refine pd_pu (some 87) rfl rfl (by rfl) (fun ws => by go_simp; try with_reducible rfl) ?_; go_frame   -- 30 Op.binOp BinOp.lss 3 (Operand.tmp 84) (Operand.tmp 86) 3
                  try simp only [d3]
                  refine pd_pu (some 88) rfl rfl (by rfl) (fun ws => by go_simp; try with_reducible rfl) ?_; go_frame   -- 31 Op.pick (Operand.tmp 74) (Operand.tmp 87) (Operand.const (Value.bool false))
                  refine pi_tail (r := []) rfl ?_; simp only [opsAt]
                  go_wp2
                  go_roundg (gk - 1)
                  case measure => omega
                  case rel => exact ⟨i + 1, _, by omega, by simp, rfl, by omega, Lib.hid (HO.trans (by rw [hbad.out]; simp [e1, e2, d3])), HR'.out _⟩
        · -- the loop is over
          have Hfin : Hid (refOk r A who cell write = ok) := Lib.hid (by
            have := Hok.out
            rwa [List.take_of_length_le (by omega)] at this)
          clear hac hi' Hok hg
          obtain ⟨x, hx0, hx1, hx2, hbx, hbl, hcx, hfx, hnext⟩ := rbump_next hw (by omega) HX.out HR.out hlt'
          have Hbx := Lib.hid hbx
          have Hbl := Lib.hid hbl
          have Hx := Lib.hid (show 0 ≤ x + 1 ∧ x + 1 ≤ ((N + 1 : Nat) : Int) by omega)
          clear hbx hbl hx2
          have hk0 := HR.out.c0
          rw [HP.out] at hk0
          have hkc := HR.out.ord.ck (i := who) (by have := HR.out.len; omega)
          rw [HX.out.form] at hkc
          have Hn := Lib.hid hnext
          clear hnext
          go_upto_region 13 with fail
          obtain ⟨wA, hwA⟩ : ∃ wA, wA = wr.setCell ⟨ga, who, none⟩ (.int .i64 (x + 1)) := ⟨_, rfl⟩
          rw [← hwA] at Hn ⊢
          clear hcx hfx hk0 hkc hwA h1
          have hl2 := Hn.out.len
          have k0 := Hn.out.c0
          have k1 := Hn.out.c1
          rw [HP.out] at k0 k1
          rw [Hav.out] at k1
          have k2 := Hn.out.ord.ck (i := who) (by omega)
          rw [HX.out.form] at k2
          have k3 := Hn.out.ord.rs.row who (by omega)
          have ek : (K.set who (bump (K.getD who []) who)).getD who [] = bump (K.getD who []) who := getD_set_eq hw
          rw [ek, HX.out.form, ← Hbl.out] at k3
          have hbw : who < (bump (K.getD who []) who).length := by rw [bump_len]; omega
          have k3 := ints_cell k3 who hbw
          rw [Hbx.out] at k3
          clear ek hl2 hbw
          have HS : (fun w' => w'.cell? ⟨po, 0, none⟩ = some (.slice (some ⟨st'.pk, 0, none⟩) K.length st'.cap) ∧ w'.cell? ⟨po, 1, none⟩ = some (.slice al A.length ac) ∧ w'.cell? ⟨st'.pk, who, none⟩ = some (.slice (some ⟨ga, 0, none⟩) r.length c) ∧ w'.cell? ⟨ga, who, none⟩ = some (.int .i64 (x + 1))) wA.drew := ⟨k0, k1, k2, k3⟩
          clear k0 k1 k2 k3
          refine wp_region_pi (fun w' => w'.cell? ⟨po, 0, none⟩ = some (.slice (some ⟨st'.pk, 0, none⟩) K.length st'.cap) ∧ w'.cell? ⟨po, 1, none⟩ = some (.slice al A.length ac) ∧ w'.cell? ⟨st'.pk, who, none⟩ = some (.slice (some ⟨ga, 0, none⟩) r.length c) ∧ w'.cell? ⟨ga, who, none⟩ = some (.int .i64 (x + 1))) [(0, 1), (1, 1), (2, 1), (3, 1), (4, 0), (5, 1), (6, 1), (7, 1), (8, 1), (9, 0), (10, 1), (11, 1), (12, 0), (13, 1), (14, 1), (15, 0), (16, 1), (17, 1), (18, 1), (19, 2), (20, 3), (21, 3), (22, 3), (23, 3)] [(20, [4]), (20, [19, 18, 15, 14, 12, 11, 9]), (20, [19, 18, 15, 14, 12]), (20, [19, 18, 15]), (21, [4]), (21, [9]), (21, [12]), (21, [15]), (22, [4]), (22, [9]), (22, [12]), (22, [15]), (23, [4]), (23, [9]), (23, [12]), (23, [15])] (by kernel_rfl) (by kernel_rfl) (fun _ _ _ _ _ h => h) (HS) ?_
          refine pd_pu (some 101) rfl rfl (by rfl) (fun ws => by go_simp; try with_reducible rfl) ?_; go_frame   -- 0 Op.move (Operand.tmp 0)
          refine pd_pu (some 102) rfl rfl (by rfl) (fun ws => by go_simp; try with_reducible rfl) ?_; go_frame   -- 1 Op.move (Operand.tmp 0)
          refine pd_pu (some 103) rfl rfl (by rfl) (fun ws => by go_simp; try with_reducible rfl) ?_; go_frame   -- 2 Op.nilCheck (Operand.tmp 102)
          refine pd_pu (some 104) rfl rfl (by rfl) (fun ws => by go_simp; try with_reducible rfl) ?_; go_frame   -- 3 Op.fieldAddr 60 (Operand.tmp 103) 1
          refine pd_ld (some 105) rfl rfl (by rfl) (fun ws HS => by go_split_ands; go_simp; try with_reducible rfl) ?_; go_frame   -- 4 Op.load 58 (Operand.tmp 104)
          refine pd_pu (some 106) rfl rfl (by rfl) (fun ws => by go_simp; try with_reducible rfl) ?_; go_frame   -- 5 Op.move (Operand.tmp 1)
          refine pd_pu (some 107) rfl rfl (by rfl) (fun ws => by go_simp; try with_reducible rfl) ?_; go_frame   -- 6 Op.move (Operand.tmp 0)
          refine pd_pu (some 108) rfl rfl (by rfl) (fun ws => by go_simp; try with_reducible rfl) ?_; go_frame   -- 7 Op.nilCheck (Operand.tmp 107)
          refine pd_pu (some 109) rfl rfl (by rfl) (fun ws => by go_simp; try with_reducible rfl) ?_; go_frame   -- 8 Op.fieldAddr 60 (Operand.tmp 108) 0
          refine pd_ld (some 110) rfl rfl (by rfl) (fun ws HS => by go_split_ands; go_simp; try with_reducible rfl) ?_; go_frame   -- 9 Op.load 40 (Operand.tmp 109)
          refine pd_pu (some 111) rfl rfl (by rfl) (fun ws => by go_simp; try with_reducible rfl) ?_; go_frame   -- 10 Op.move (Operand.tmp 1)
          refine pd_pu (some 112) rfl rfl (by rfl) (fun ws => by go_simp; try with_reducible rfl) ?_; go_frame   -- 11 Op.indexAddr 40 (Operand.tmp 110) (Operand.tmp 111)
          refine pd_ld (some 113) rfl rfl (by rfl) (fun ws HS => by go_split_ands; go_simp; try with_reducible rfl) ?_; go_frame   -- 12 Op.load 46 (Operand.tmp 112)
          refine pd_pu (some 114) rfl rfl (by rfl) (fun ws => by go_simp; try with_reducible rfl) ?_; go_frame   -- 13 Op.move (Operand.tmp 1)
          refine pd_pu (some 115) rfl rfl (by rfl) (fun ws => by go_simp; try with_reducible rfl) ?_; go_frame   -- 14 Op.indexAddr 46 (Operand.tmp 113) (Operand.tmp 114)
          refine pd_ld (some 116) rfl rfl (by rfl) (fun ws HS => by go_split_ands; go_simp; try with_reducible rfl) ?_; go_frame   -- 15 Op.load 3 (Operand.tmp 115)
          refine pd_pu (some 117) rfl rfl (by rfl) (fun ws => by go_simp; try with_reducible rfl) ?_; go_frame   -- 16 Op.move (Operand.tmp 3)
          refine pd_pu (some 118) rfl rfl (by rfl) (fun ws => by go_simp; try with_reducible rfl) ?_; go_frame   -- 17 Op.move (Operand.tmp 2)
          refine pd_pu (some 119) rfl rfl (by rfl) (fun ws => by go_simp; try with_reducible rfl) ?_; go_frame   -- 18 Op.build 70 #[(0, Operand.tmp 106), (1, Operand.tmp 116), (2, Operand.tmp 117), (3, Operand.tmp 118)]
          refine pi_ke rfl (fun J hJ => ?_)   -- 19 Op.buildSlice 58 1 #[(0, Operand.tmp 119)]
          go_wp2
          refine hJ _ _ ⟨cell_alloc HS.1, cell_alloc HS.2.1, cell_alloc HS.2.2.1, cell_alloc HS.2.2.2⟩ ?_
          refine pi_tail (by rfl) ?_; simp only [opsAt, List.getElem?_toArray, List.getElem?_cons_zero, List.getElem?_cons_succ]   -- [(20, 'Op.call { callee := Callee.builtin Builtin.append, args := #[Operand.tmp 105, Operand.tmp 120], argTypes := #[58, 58] }'), (21, 'Op.nilCheck (Operand.tmp 101)'), (22, 'Op.fieldAddr 60 (Operand.tmp 122) 1'), (23, 'Op.store 58 (Operand.tmp 123) (Operand.tmp 121)')]
          have hrow4 := (Hn.out.drew.alloc (.cells #[.int .i64 who, .int .i64 (x + 1), .bool write, .int .i64 cell] 70)).ord.ac
          rw [Hav.out] at hrow4
          refine wpList_app _ rfl _ _ _ rfl 0 70 j0 _ 4 32 Try.underlying58 hj hy0 hy1 hy2 rfl (.slice al A.length ac) A.length (accs A) rfl hrow4 ⟨wA.heap.size, 0, none⟩ 1 1 [.int .i64 who, .int .i64 (x + 1), .bool write, .int .i64 cell] rfl rfl (World.news_of_block (cs := #[.int .i64 who, .int .i64 (x + 1), .bool write, .int .i64 cell]) (t := 70) (fr := (0, 0)) (heap_alloc_new _ _)) ?c1 (by omega) (by unfold maxLen; omega) (by omega) (by omega) ?_
          case c1 => intro u hu; simp at hu; rcases hu with h | h | h | h <;> (subst h; rfl)
          intro gg cap w2 hown2 hat
          rw [← Hav.out] at hat
          obtain ⟨⟨q1, q2⟩, st2, q3⟩ := racc_push (a := (who, x + 1, write, cell)) Hn.out.drew (by omega) hown2 hat Hx.out
          rw [HP.out] at q1 q2 q3
          rw [Hav.out] at q1
          have HQ := Lib.hid q3
          clear q3
          go_wp2
          go_ret
          refine ⟨st2, eret_bool ?_, ?_⟩
          · rw [← Hfin.out, ← HX.out.Hr, refOk_pad]
          · rw [Hbx.out]; exact HQ.out
end Go.Proofs.Ytkcaeeighjblkaa
