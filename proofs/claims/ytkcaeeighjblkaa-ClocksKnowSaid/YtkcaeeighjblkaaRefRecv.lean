/- The document's Receive: the walk; Read and Write; what is told to nobody. No condition. -/
import Derived.Test.YtkcaeeighjblkaaRefJoin
namespace Go.Proofs.Ytkcaeeighjblkaa
open Go.RowKit

def RRecvPost (st : RSt) (K : List (List Int)) (A : Acs) (N who : Nat) (c : List Int) (w : World) (e : Ending) (w' : World) : Prop :=
  e = .returned (.tuple #[]) ∧ RJoinRel st K A N who c w c.length w'

theorem rrecv_bad (po : Nat) (st : RSt) (K : List (List Int)) (A : Acs) (N : Nat) (who : Int) (c : Value) (w : World) (hpo : st.po = po) (h : ROrd w st K A N) (hb : who < 0 ∨ (K.length : Int) ≤ who) :
    Calls Try.prog 37 #[.pointer (some ⟨po, 0, none⟩), .int .i64 who, c] w fun e w' => e = .returned (.tuple #[]) ∧ w = w' := by
  have hk := h.klen
  have hs := h.small
  have h0 := h.c0
  rw [hpo] at h0
  have hd : (decide (0 ≤ who) && decide (who < (K.length : Int))) = false := by grind
  clear h hb hpo
  go_enter Try.func37, Try.ntmps37
  go_wp2_with (go_at_call 45; refine (ris_any _ _ _ _ _ _ h0 (by omega)).mono ?_; rintro e w' ⟨rfl, rfl⟩)
  refine bodyPost_ret (results_none rfl _ _ _) rfl ?_
  exact ⟨rfl, rfl⟩

set_option maxRecDepth 100000 in
set_option maxHeartbeats 3200000 in
theorem rrecv_any (po : Nat) (st : RSt) (K : List (List Int)) (A : Acs) (N who : Nat) (c : List Int) (cv : Value) (w : World) (hpo : st.po = po) (h : ROrd w st K A N) (hw : who < K.length)
    (hc : w.ownsRow 0 3 1 cv c.length (ints c)) (hcf : ∀ k, cv.ownBlock = some k → ¬ st.fp K.length k) (hl : c.length ≤ N + 2) (hv : ∀ j, 0 ≤ c.getD j 0 ∧ c.getD j 0 ≤ N) :
    Calls Try.prog 37 #[.pointer (some ⟨po, 0, none⟩), .int .i64 who, cv] w (RRecvPost st K A N who c w) := by
  have hk := h.klen
  have hs := h.small
  have h0 := h.c0
  rw [hpo] at h0
  obtain ⟨i0, hi, hz0, hz1, hz2⟩ := info_parts Try.info3
  have hd : (decide ((0 : Int) ≤ who) && decide ((who : Int) < (K.length : Int))) = true := by simp; omega
  have Hst := Lib.hid (RJoinRel.start (c := c) h hw)
  have HP := Lib.hid hpo
  have HH := Lib.hid h
  have HV := Lib.hid hv
  have HC : Hid (∀ {st' K' A' N' wz}, RAt st K.length w st' K' A' N' wz → wz.ownsRow 0 3 1 cv c.length (ints c)) := Lib.hid fun hR => row_same hc (fun k e => hR.fr.block k (hc.lt k e).2 (hcf k e))
  obtain ⟨ac, cc, e⟩ := row_form hc
  subst e
  clear h hpo hv hc hcf
  go_enter Try.func37, Try.ntmps37
  go_wp2_with (go_at_call 45; refine (ris_any _ _ _ _ _ _ h0 (by omega)).mono ?_; rintro e w' ⟨rfl, rfl⟩)
  go_loopg [6] c.length (fun g v6 wr => ∃ i : Nat, i ≤ c.length ∧ v6 = .int .i64 i ∧ g = c.length - i ∧ Hid (RJoinRel st K A N who c w i wr))
  case atStart => exact ⟨0, Nat.zero_le _, rfl, rfl, Hst⟩
  case round =>
    clear h0 Hst
    obtain ⟨i, hi', rfl, hg, Hrel⟩ := hrel
    by_cases hlt : i < c.length
    · obtain ⟨stI, hI⟩ := Hrel.out
      obtain ⟨KI, HKI⟩ : ∃ KI, Hid (K.set who (maxL (K.getD who []) (c.take i)) = KI) := ⟨_, Lib.hid rfl⟩
      rw [HKI.out] at hI
      have hlK := hI.len
      have hKIw : who < KI.length := by omega
      have hKI2 := hI.ord.klen
      have Hst2 := Lib.hid (RPadRel.start (lim := i) hI.ord hKIw)
      have HI := Lib.hid hI
      have HlK := Lib.hid hlK
      have hdc : decide ((i : Int) < (c.length : Int)) = true := by simp; omega
      clear hI hlK
      go_wp2_with fail
      go_loopg [] (i + 1) (fun g wz => RPadRel stI KI A N who i wr g wz)
      case atStart => exact Hst2.out
      case round =>
        clear Hst2
        obtain ⟨st', K1, m, cr, a, r, hX, hck, hrow, hrl, hrp⟩ := hrel.open hKIw
        have HX := Lib.hid hX
        have h0 := hX.at_.c0
        rw [HI.out.po, HP.out] at h0
        have hcz := HC.out (st' := st') (K' := K1) (A' := A) (N' := N) (wz := wr) (HI.out.trans (by have := hX.at_; rwa [HlK.out] at this))
        clear hX hrel
        by_cases hlt3 : r.length ≤ i
        · have HS : (fun w' => w'.cell? ⟨po, 0, none⟩ = some (.slice (some ⟨st'.pk, 0, none⟩) KI.length st'.cap) ∧ w'.cell? ⟨st'.pk, who, none⟩ = some (.slice a r.length cr)) wr.drew := ⟨h0, hck⟩
          go_wp2
          refine wp_region_pi (fun w' => w'.cell? ⟨po, 0, none⟩ = some (.slice (some ⟨st'.pk, 0, none⟩) KI.length st'.cap) ∧ w'.cell? ⟨st'.pk, who, none⟩ = some (.slice a r.length cr)) [(0, 1), (1, 1), (2, 1), (3, 0), (4, 1), (5, 1), (6, 1), (7, 1), (8, 0), (9, 1), (10, 1), (11, 0), (12, 2), (13, 2), (14, 1), (15, 3)] [(15, [3]), (15, [8]), (15, [11])] (by kernel_rfl) (by kernel_rfl) (fun _ _ _ _ _ h => h) (HS) ?_
          refine pd_pu (some 27) rfl rfl (by rfl) (fun ws => by go_simp; try with_reducible rfl) ?_; go_frame   -- 0 Op.move (Operand.tmp 0)
          refine pd_pu (some 28) rfl rfl (by rfl) (fun ws => by go_simp; try with_reducible rfl) ?_; go_frame   -- 1 Op.nilCheck (Operand.tmp 27)
          refine pd_pu (some 29) rfl rfl (by rfl) (fun ws => by go_simp; try with_reducible rfl) ?_; go_frame   -- 2 Op.fieldAddr 60 (Operand.tmp 28) 0
          refine pd_ld (some 30) rfl rfl (by rfl) (fun ws HS => by go_split_ands; go_simp; try with_reducible rfl) ?_; go_frame   -- 3 Op.load 40 (Operand.tmp 29)
          refine pd_pu (some 31) rfl rfl (by rfl) (fun ws => by go_simp; try with_reducible rfl) ?_; go_frame   -- 4 Op.move (Operand.tmp 1)
          refine pd_pu (some 32) rfl rfl (by rfl) (fun ws => by go_simp; try with_reducible rfl) ?_; go_frame   -- 5 Op.move (Operand.tmp 0)
          refine pd_pu (some 33) rfl rfl (by rfl) (fun ws => by go_simp; try with_reducible rfl) ?_; go_frame   -- 6 Op.nilCheck (Operand.tmp 32)
          refine pd_pu (some 34) rfl rfl (by rfl) (fun ws => by go_simp; try with_reducible rfl) ?_; go_frame   -- 7 Op.fieldAddr 60 (Operand.tmp 33) 0
          refine pd_ld (some 35) rfl rfl (by rfl) (fun ws HS => by go_split_ands; go_simp; try with_reducible rfl) ?_; go_frame   -- 8 Op.load 40 (Operand.tmp 34)
          refine pd_pu (some 36) rfl rfl (by rfl) (fun ws => by go_simp; try with_reducible rfl) ?_; go_frame   -- 9 Op.move (Operand.tmp 1)
          refine pd_pu (some 37) rfl rfl (by rfl) (fun ws => by go_simp; try with_reducible rfl) ?_; go_frame   -- 10 Op.indexAddr 40 (Operand.tmp 35) (Operand.tmp 36)
          refine pd_ld (some 38) rfl rfl (by rfl) (fun ws HS => by go_split_ands; go_simp; try with_reducible rfl) ?_; go_frame   -- 11 Op.load 46 (Operand.tmp 37)
          refine pi_ke rfl (fun J hJ => ?_)   -- 12 Op.buildSlice 46 1 #[(0, Operand.const (Value.int IntKind.i64 0))]
          go_wp2
          refine hJ _ _ ⟨cell_alloc HS.1, cell_alloc HS.2⟩ ?_
          refine pi_ke rfl (fun J hJ => ?_)   -- 13 Op.call { callee := Callee.builtin Builtin.append, args := #[Operand.tmp 38, Operand.tmp 39], argTypes := #[46, 46] }
          go_wp2_with (refine wpList_app _ rfl _ _ _ rfl 0 3 i0 _ 1 8 Try.underlying46 hi hz0 hz1 hz2 rfl (.slice a r.length cr) r.length (ints r) rfl (row_drew (hrow.alloc _)) ⟨wr.heap.size, 0, none⟩ 1 1 [.int .i64 0] rfl rfl (World.news_of_block (cs := #[.int .i64 0]) (t := 3) (fr := (0, 0)) (heap_alloc_new wr _)) ?c1 (by omega) (by unfold maxLen; omega) (by omega) (by omega) ?_)
          case c1 => intro u hu; simp at hu; subst hu; rfl
          intro gg cap w2 hown2 hat
          have hnx := rpad_next hKIw (by omega) HX.out hlt3 hown2 hat
          rw [HI.out.po, HP.out] at hnx
          obtain ⟨⟨hc2, hk2, hf2⟩, hg0, hnext⟩ := hnx
          have Hn := Lib.hid hnext
          clear hown2 hat hnext
          go_wp2
          refine hJ _ _ ⟨hc2, hk2⟩ ?_
          refine pd_pu (some 41) rfl rfl (by rfl) (fun ws => by go_simp; try with_reducible rfl) ?_; go_frame   -- 14 Op.indexAddr 40 (Operand.tmp 30) (Operand.tmp 31)
          refine pi_tail (by rfl) ?_; simp only [opsAt, List.getElem?_toArray, List.getElem?_cons_zero, List.getElem?_cons_succ]   -- [(15, 'Op.store 46 (Operand.tmp 41) (Operand.tmp 40)')]
          go_wp2
          go_roundg (gk - 1)
          case measure => omega
          case rel => exact Hn.out
        · have hlt4 : i < r.length := by omega
          obtain ⟨ga, cg, ea, _, hgl⟩ := hrow.form hrp
          cases ea
          obtain ⟨gc, cgc, ec, _, hgcl⟩ := hcz.form (by omega)
          cases ec
          have hci := ints_cell hcz i hlt
          obtain ⟨v, Hv⟩ : ∃ v, Hid (c.getD i 0 = v) := ⟨_, Lib.hid rfl⟩
          rw [Hv.out] at hci
          have hvb := HV.out i
          rw [Hv.out] at hvb
          obtain ⟨x, hcx, hfx, hnx⟩ := rjoin_next hw HH.out HKI.out HI.out HX.out hlt4 hlt Hv.out hvb
          have Hn := Lib.hid hnx
          clear hnx hcz hrow
          have HS : (fun w' => w'.cell? ⟨po, 0, none⟩ = some (.slice (some ⟨st'.pk, 0, none⟩) KI.length st'.cap) ∧ w'.cell? ⟨st'.pk, who, none⟩ = some (.slice (some ⟨ga, 0, none⟩) r.length cr) ∧ w'.cell? ⟨gc, i, none⟩ = some (.int .i64 v) ∧ w'.cell? ⟨ga, i, none⟩ = some (.int .i64 x)) wr.drew := ⟨h0, hck, hci, hcx⟩
          go_upto_region 6 with fail
          cases hvx : decide (x < v)
          case false =>
            have hle : v ≤ x := by simpa using hvx
            refine wp_region_pi (fun w' => w'.cell? ⟨po, 0, none⟩ = some (.slice (some ⟨st'.pk, 0, none⟩) KI.length st'.cap) ∧ w'.cell? ⟨st'.pk, who, none⟩ = some (.slice (some ⟨ga, 0, none⟩) r.length cr) ∧ w'.cell? ⟨gc, i, none⟩ = some (.int .i64 v) ∧ w'.cell? ⟨ga, i, none⟩ = some (.int .i64 x)) [(0, 1), (1, 1), (2, 1), (3, 0), (4, 1), (5, 1), (6, 1), (7, 0), (8, 1), (9, 1), (10, 0), (11, 1), (12, 1), (13, 0), (14, 1)] [] (by kernel_rfl) (by kernel_rfl) (fun _ _ _ _ _ h => h) (HS) ?_
            refine pd_pu (some 42) rfl rfl (by rfl) (fun ws => by go_simp; try with_reducible rfl) ?_; go_frame   -- 0 Op.move (Operand.tmp 2)
            refine pd_pu (some 43) rfl rfl (by rfl) (fun ws => by go_simp; try with_reducible rfl) ?_; go_frame   -- 1 Op.move (Operand.tmp 6)
            refine pd_pu (some 44) rfl rfl (by rfl) (fun ws => by go_simp; try with_reducible rfl) ?_; go_frame   -- 2 Op.indexAddr 46 (Operand.tmp 42) (Operand.tmp 43)
            refine pd_ld (some 45) rfl rfl (by rfl) (fun ws HS => by go_split_ands; go_simp; try with_reducible rfl) ?_; go_frame   -- 3 Op.load 3 (Operand.tmp 44)
            refine pd_pu (some 46) rfl rfl (by rfl) (fun ws => by go_simp; try with_reducible rfl) ?_; go_frame   -- 4 Op.move (Operand.tmp 0)
            refine pd_pu (some 47) rfl rfl (by rfl) (fun ws => by go_simp; try with_reducible rfl) ?_; go_frame   -- 5 Op.nilCheck (Operand.tmp 46)
            refine pd_pu (some 48) rfl rfl (by rfl) (fun ws => by go_simp; try with_reducible rfl) ?_; go_frame   -- 6 Op.fieldAddr 60 (Operand.tmp 47) 0
            refine pd_ld (some 49) rfl rfl (by rfl) (fun ws HS => by go_split_ands; go_simp; try with_reducible rfl) ?_; go_frame   -- 7 Op.load 40 (Operand.tmp 48)
            refine pd_pu (some 50) rfl rfl (by rfl) (fun ws => by go_simp; try with_reducible rfl) ?_; go_frame   -- 8 Op.move (Operand.tmp 1)
            refine pd_pu (some 51) rfl rfl (by rfl) (fun ws => by go_simp; try with_reducible rfl) ?_; go_frame   -- 9 Op.indexAddr 40 (Operand.tmp 49) (Operand.tmp 50)
            refine pd_ld (some 52) rfl rfl (by rfl) (fun ws HS => by go_split_ands; go_simp; try with_reducible rfl) ?_; go_frame   -- 10 Op.load 46 (Operand.tmp 51)
            refine pd_pu (some 53) rfl rfl (by rfl) (fun ws => by go_simp; try with_reducible rfl) ?_; go_frame   -- 11 Op.move (Operand.tmp 6)
            refine pd_pu (some 54) rfl rfl (by rfl) (fun ws => by go_simp; try with_reducible rfl) ?_; go_frame   -- 12 Op.indexAddr 46 (Operand.tmp 52) (Operand.tmp 53)
            refine pd_ld (some 55) rfl rfl (by rfl) (fun ws HS => by go_split_ands; go_simp; try with_reducible rfl) ?_; go_frame   -- 13 Op.load 3 (Operand.tmp 54)
            refine pd_pu (some 56) rfl rfl (by rfl) (fun ws => by go_simp; try with_reducible rfl) ?_; go_frame   -- 14 Op.binOp BinOp.gtr 3 (Operand.tmp 45) (Operand.tmp 55) 3
            refine pi_tail (r := []) rfl ?_; simp only [opsAt]
            go_wp2
            go_roundg (c.length - i - 1)
            case measure => omega
            case rel => exact ⟨i + 1, by omega, by simp, by omega, Lib.hid ((Hn.out _ (Below.refl _ _).drew).1 hle)⟩
          case true =>
            have hgt : x < v := by simpa using hvx
            refine wp_region_pi (fun w' => w'.cell? ⟨po, 0, none⟩ = some (.slice (some ⟨st'.pk, 0, none⟩) KI.length st'.cap) ∧ w'.cell? ⟨st'.pk, who, none⟩ = some (.slice (some ⟨ga, 0, none⟩) r.length cr) ∧ w'.cell? ⟨gc, i, none⟩ = some (.int .i64 v) ∧ w'.cell? ⟨ga, i, none⟩ = some (.int .i64 x)) [(0, 1), (1, 1), (2, 1), (3, 0), (4, 1), (5, 1), (6, 1), (7, 0), (8, 1), (9, 1), (10, 0), (11, 1), (12, 1), (13, 0), (14, 1)] [] (by kernel_rfl) (by kernel_rfl) (fun _ _ _ _ _ h => h) (HS) ?_
            refine pd_pu (some 42) rfl rfl (by rfl) (fun ws => by go_simp; try with_reducible rfl) ?_; go_frame   -- 0 Op.move (Operand.tmp 2)
            refine pd_pu (some 43) rfl rfl (by rfl) (fun ws => by go_simp; try with_reducible rfl) ?_; go_frame   -- 1 Op.move (Operand.tmp 6)
            refine pd_pu (some 44) rfl rfl (by rfl) (fun ws => by go_simp; try with_reducible rfl) ?_; go_frame   -- 2 Op.indexAddr 46 (Operand.tmp 42) (Operand.tmp 43)
            refine pd_ld (some 45) rfl rfl (by rfl) (fun ws HS => by go_split_ands; go_simp; try with_reducible rfl) ?_; go_frame   -- 3 Op.load 3 (Operand.tmp 44)
            refine pd_pu (some 46) rfl rfl (by rfl) (fun ws => by go_simp; try with_reducible rfl) ?_; go_frame   -- 4 Op.move (Operand.tmp 0)
            refine pd_pu (some 47) rfl rfl (by rfl) (fun ws => by go_simp; try with_reducible rfl) ?_; go_frame   -- 5 Op.nilCheck (Operand.tmp 46)
            refine pd_pu (some 48) rfl rfl (by rfl) (fun ws => by go_simp; try with_reducible rfl) ?_; go_frame   -- 6 Op.fieldAddr 60 (Operand.tmp 47) 0
            refine pd_ld (some 49) rfl rfl (by rfl) (fun ws HS => by go_split_ands; go_simp; try with_reducible rfl) ?_; go_frame   -- 7 Op.load 40 (Operand.tmp 48)
            refine pd_pu (some 50) rfl rfl (by rfl) (fun ws => by go_simp; try with_reducible rfl) ?_; go_frame   -- 8 Op.move (Operand.tmp 1)
            refine pd_pu (some 51) rfl rfl (by rfl) (fun ws => by go_simp; try with_reducible rfl) ?_; go_frame   -- 9 Op.indexAddr 40 (Operand.tmp 49) (Operand.tmp 50)
            refine pd_ld (some 52) rfl rfl (by rfl) (fun ws HS => by go_split_ands; go_simp; try with_reducible rfl) ?_; go_frame   -- 10 Op.load 46 (Operand.tmp 51)
            refine pd_pu (some 53) rfl rfl (by rfl) (fun ws => by go_simp; try with_reducible rfl) ?_; go_frame   -- 11 Op.move (Operand.tmp 6)
            refine pd_pu (some 54) rfl rfl (by rfl) (fun ws => by go_simp; try with_reducible rfl) ?_; go_frame   -- 12 Op.indexAddr 46 (Operand.tmp 52) (Operand.tmp 53)
            refine pd_ld (some 55) rfl rfl (by rfl) (fun ws HS => by go_split_ands; go_simp; try with_reducible rfl) ?_; go_frame   -- 13 Op.load 3 (Operand.tmp 54)
            refine pd_pu (some 56) rfl rfl (by rfl) (fun ws => by go_simp; try with_reducible rfl) ?_; go_frame   -- 14 Op.binOp BinOp.gtr 3 (Operand.tmp 45) (Operand.tmp 55) 3
            refine pi_tail (r := []) rfl ?_; simp only [opsAt]
            go_upto_region 7 with fail
            refine wp_region_pi (fun w' => w'.cell? ⟨po, 0, none⟩ = some (.slice (some ⟨st'.pk, 0, none⟩) KI.length st'.cap) ∧ w'.cell? ⟨st'.pk, who, none⟩ = some (.slice (some ⟨ga, 0, none⟩) r.length cr) ∧ w'.cell? ⟨gc, i, none⟩ = some (.int .i64 v) ∧ w'.cell? ⟨ga, i, none⟩ = some (.int .i64 x)) [(0, 1), (1, 1), (2, 1), (3, 0), (4, 1), (5, 1), (6, 0), (7, 1), (8, 1), (9, 1), (10, 1), (11, 0), (12, 1), (13, 3)] [(13, [3]), (13, [6]), (13, [11])] (by kernel_rfl) (by kernel_rfl) (fun _ _ _ _ _ h => h) (HS) ?_
            refine pd_pu (some 57) rfl rfl (by rfl) (fun ws => by go_simp; try with_reducible rfl) ?_; go_frame   -- 0 Op.move (Operand.tmp 0)
            refine pd_pu (some 58) rfl rfl (by rfl) (fun ws => by go_simp; try with_reducible rfl) ?_; go_frame   -- 1 Op.nilCheck (Operand.tmp 57)
            refine pd_pu (some 59) rfl rfl (by rfl) (fun ws => by go_simp; try with_reducible rfl) ?_; go_frame   -- 2 Op.fieldAddr 60 (Operand.tmp 58) 0
            refine pd_ld (some 60) rfl rfl (by rfl) (fun ws HS => by go_split_ands; go_simp; try with_reducible rfl) ?_; go_frame   -- 3 Op.load 40 (Operand.tmp 59)
            refine pd_pu (some 61) rfl rfl (by rfl) (fun ws => by go_simp; try with_reducible rfl) ?_; go_frame   -- 4 Op.move (Operand.tmp 1)
            refine pd_pu (some 62) rfl rfl (by rfl) (fun ws => by go_simp; try with_reducible rfl) ?_; go_frame   -- 5 Op.indexAddr 40 (Operand.tmp 60) (Operand.tmp 61)
            refine pd_ld (some 63) rfl rfl (by rfl) (fun ws HS => by go_split_ands; go_simp; try with_reducible rfl) ?_; go_frame   -- 6 Op.load 46 (Operand.tmp 62)
            refine pd_pu (some 64) rfl rfl (by rfl) (fun ws => by go_simp; try with_reducible rfl) ?_; go_frame   -- 7 Op.move (Operand.tmp 6)
            refine pd_pu (some 65) rfl rfl (by rfl) (fun ws => by go_simp; try with_reducible rfl) ?_; go_frame   -- 8 Op.move (Operand.tmp 2)
            refine pd_pu (some 66) rfl rfl (by rfl) (fun ws => by go_simp; try with_reducible rfl) ?_; go_frame   -- 9 Op.move (Operand.tmp 6)
            refine pd_pu (some 67) rfl rfl (by rfl) (fun ws => by go_simp; try with_reducible rfl) ?_; go_frame   -- 10 Op.indexAddr 46 (Operand.tmp 65) (Operand.tmp 66)
            refine pd_ld (some 68) rfl rfl (by rfl) (fun ws HS => by go_split_ands; go_simp; try with_reducible rfl) ?_; go_frame   -- 11 Op.load 3 (Operand.tmp 67)
            refine pd_pu (some 69) rfl rfl (by rfl) (fun ws => by go_simp; try with_reducible rfl) ?_; go_frame   -- 12 Op.indexAddr 46 (Operand.tmp 63) (Operand.tmp 64)
            refine pi_tail (by rfl) ?_; simp only [opsAt, List.getElem?_toArray, List.getElem?_cons_zero, List.getElem?_cons_succ]   -- [(13, 'Op.store 3 (Operand.tmp 69) (Operand.tmp 68)')]
            go_wp2
            go_roundg (c.length - i - 1)
            case measure => omega
            case rel => exact ⟨i + 1, by omega, by simp, by omega, Lib.hid ((Hn.out _ (Below.refl _ _).drew.drew).2 hgt)⟩
    · have Hre := Lib.hid (show RJoinRel st K A N who c w c.length wr from by
        have := Hrel.out
        rwa [show i = c.length by omega] at this)
      clear Hrel
      go_wp2
      go_end0
      exact ⟨rfl, Hre.out⟩

theorem raccess_bad (po : Nat) (st : RSt) (K : List (List Int)) (A : Acs) (N : Nat) (who cell : Int) (write : Bool) (w : World) (hpo : st.po = po) (h : ROrd w st K A N) (hb : who < 0 ∨ (K.length : Int) ≤ who) :
    Calls Try.prog 46 #[.pointer (some ⟨po, 0, none⟩), .int .i64 who, .int .i64 cell, .bool write] w fun e w' => e = .returned (.bool true) ∧ w = w' := by
  have hk := h.klen
  have hs := h.small
  have h0 := h.c0
  rw [hpo] at h0
  have hd : (decide (0 ≤ who) && decide (who < (K.length : Int))) = false := by grind
  clear h hb hpo
  go_enter Try.func46, Try.ntmps46
  go_wp2_with (go_at_call 45; refine (ris_any _ _ _ _ _ _ h0 (by omega)).mono ?_; rintro e w' ⟨rfl, rfl⟩)
  go_ret
  exact ⟨rfl, rfl⟩

theorem rread_of (p : Value) (who cell : Int) (w : World) (R : Ending → World → Prop) (h : Calls Try.prog 46 #[p, .int .i64 who, .int .i64 cell, .bool false] w fun e w' => ∃ ok, e = .returned (.bool ok) ∧ R (.returned (.bool ok)) w') :
    Calls Try.prog 33 #[p, .int .i64 who, .int .i64 cell] w R := by
  have H := Lib.hid h
  clear h
  go_enter Try.func33, Try.ntmps33
  go_wp2_with fail
  refine H.out.mono ?_
  rintro e w' ⟨ok, rfl, hR⟩
  have HR := Lib.hid hR
  clear hR H
  go_wp2_with fail
  exact HR.out
theorem rwrite_of (p : Value) (who cell : Int) (w : World) (R : Ending → World → Prop) (h : Calls Try.prog 46 #[p, .int .i64 who, .int .i64 cell, .bool true] w fun e w' => ∃ ok, e = .returned (.bool ok) ∧ R (.returned (.bool ok)) w') :
    Calls Try.prog 34 #[p, .int .i64 who, .int .i64 cell] w R := by
  have H := Lib.hid h
  clear h
  go_enter Try.func34, Try.ntmps34
  go_wp2_with fail
  refine H.out.mono ?_
  rintro e w' ⟨ok, rfl, hR⟩
  have HR := Lib.hid hR
  clear hR H
  go_wp2_with fail
  exact HR.out

/-- Both, at once. -/
theorem rread_any (po : Nat) (st : RSt) (K : List (List Int)) (A : Acs) (N who : Nat) (cell : Int) (w : World) (hpo : st.po = po) (h : ROrd w st K A N) (hw : who < K.length) (hN : N + 2 ≤ 100000) :
    Calls Try.prog 33 #[.pointer (some ⟨po, 0, none⟩), .int .i64 who, .int .i64 cell] w (RAccPost st K A N who cell false w) :=
  rread_of _ _ _ _ _ ((raccess_any po st K A N who cell false w hpo h hw hN).mono fun _ w' hp => by obtain ⟨st', rfl, r⟩ := hp; exact ⟨_, rfl, st', rfl, r⟩)
theorem rwrite_any (po : Nat) (st : RSt) (K : List (List Int)) (A : Acs) (N who : Nat) (cell : Int) (w : World) (hpo : st.po = po) (h : ROrd w st K A N) (hw : who < K.length) (hN : N + 2 ≤ 100000) :
    Calls Try.prog 34 #[.pointer (some ⟨po, 0, none⟩), .int .i64 who, .int .i64 cell] w (RAccPost st K A N who cell true w) :=
  rwrite_of _ _ _ _ _ ((raccess_any po st K A N who cell true w hpo h hw hN).mono fun _ w' hp => by obtain ⟨st', rfl, r⟩ := hp; exact ⟨_, rfl, st', rfl, r⟩)
theorem rread_bad (po : Nat) (st : RSt) (K : List (List Int)) (A : Acs) (N : Nat) (who cell : Int) (w : World) (hpo : st.po = po) (h : ROrd w st K A N) (hb : who < 0 ∨ (K.length : Int) ≤ who) :
    Calls Try.prog 33 #[.pointer (some ⟨po, 0, none⟩), .int .i64 who, .int .i64 cell] w fun e w' => e = .returned (.bool true) ∧ w = w' :=
  rread_of _ _ _ _ _ ((raccess_bad po st K A N who cell false w hpo h hb).mono fun _ _ hp => by obtain ⟨rfl, h2⟩ := hp; exact ⟨true, rfl, rfl, h2⟩)
theorem rwrite_bad (po : Nat) (st : RSt) (K : List (List Int)) (A : Acs) (N : Nat) (who cell : Int) (w : World) (hpo : st.po = po) (h : ROrd w st K A N) (hb : who < 0 ∨ (K.length : Int) ≤ who) :
    Calls Try.prog 34 #[.pointer (some ⟨po, 0, none⟩), .int .i64 who, .int .i64 cell] w fun e w' => e = .returned (.bool true) ∧ w = w' :=
  rwrite_of _ _ _ _ _ ((raccess_bad po st K A N who cell true w hpo h hb).mono fun _ _ hp => by obtain ⟨rfl, h2⟩ := hp; exact ⟨true, rfl, rfl, h2⟩)
end Go.Proofs.Ytkcaeeighjblkaa
