/- scan's add, bad: a token is laid behind those that came; the scanner gives up. Condition: no more than a million tokens. -/
import Derived.Test.YtdgjegkoncodaaaDoorScSt
import Derived.Test.YtdgjegkoncodaaaDoorRegQ
namespace Go.Proofs.YtdgjegkoncodaaaDoor
open Go.RowKit

theorem Tryd.infoTok : (Tryd.prog.info? 35).map (fun i => (i.zero, i.size, i.bytes)) = some (some (.agg #[.int .i64 0, .int .i64 0, .int .i64 0, .string ⟨#[]⟩]), 4, 40) := by kernel_rfl
theorem Tryd.infoSpan : (Tryd.prog.info? 40).map (fun i => (i.zero, i.size, i.bytes)) = some (some (.agg #[.int .i64 0, .int .i64 0]), 2, 16) := by kernel_rfl
set_option maxRecDepth 100000 in
theorem add_any {w0 W : World} {p a : Nat} {src : ByteArray} {l : List Tok} {c : List (Nat × Nat)} (h : ScE w0 W p src a l c) (hn : l.length ≤ 1000000) (k : Int) (f : Nat) (x : List UInt8) (s : ByteArray) (hs : s = strB x) :
    Calls Tryd.prog 53 #[.pointer (some ⟨p, 0, none⟩), .int .i64 k, .int .i64 (f : Int), .string s] W fun e W' => e = .returned (.tuple #[]) ∧ ScE w0 W' p src a (l ++ [⟨k, f, a, x⟩]) c := by
  subst hs
  obtain ⟨tv, rv, h⟩ := h
  obtain ⟨j0, hj, hy0, hy1, hy2⟩ := info_parts Tryd.infoTok
  have HT := Lib.hid h
  have HW := Lib.hid (Nat.lt_of_le_of_lt (Nat.zero_le p) h.lt)
  obtain ⟨_, c1, c2, _⟩ := h.cells
  clear h
  obtain ⟨t0, Ht0⟩ : ∃ t : ByteArray, Hid (t = strB x) := ⟨_, Lib.hid rfl⟩
  rw [← Ht0.out]
  go_enter Tryd.func53, Tryd.ntmps53
  have HS : (fun w' : World => w'.cell? ⟨p, 1, none⟩ = some (.int .i64 (a : Int)) ∧ w'.cell? ⟨p, 2, none⟩ = some tv) W.drew := ⟨c1, c2⟩
  clear c1 c2
  refine wp_region_pi (fun w' : World => w'.cell? ⟨p, 1, none⟩ = some (.int .i64 (a : Int)) ∧ w'.cell? ⟨p, 2, none⟩ = some tv) [(0, 1), (1, 1), (2, 1), (3, 1), (4, 0), (5, 1), (6, 1), (7, 1), (8, 1), (9, 1), (10, 0), (11, 1), (12, 1), (13, 2), (14, 3), (15, 3), (16, 3), (17, 3)] [(14, [4]), (14, [13, 12, 10]), (15, [4]), (15, [10]), (16, [4]), (16, [10]), (17, [4]), (17, [10])] (by kernel_rfl) (by kernel_rfl) (fun _ _ _ _ _ h => h) (HS) ?_
  refine pq_pu (some 8) rfl rfl (by rfl) (fun ws => by go_simp; try with_reducible rfl) ?_; go_frame   -- 0 Op.move (Operand.tmp 0)
  refine pq_pu (some 9) rfl rfl (by rfl) (fun ws => by go_simp; try with_reducible rfl) ?_; go_frame   -- 1 Op.move (Operand.tmp 0)
  refine pq_pu (some 10) rfl rfl (by rfl) (fun ws => by go_simp; try with_reducible rfl) ?_; go_frame   -- 2 Op.nilCheck (Operand.tmp 9)
  refine pq_pu (some 11) rfl rfl (by rfl) (fun ws => by go_simp; try with_reducible rfl) ?_; go_frame   -- 3 Op.fieldAddr 48 (Operand.tmp 10) 2
  refine pq_ld (some 12) rfl rfl (by rfl) (fun ws HS => by go_split_ands; go_simp; try with_reducible rfl) ?_; go_frame   -- 4 Op.load 23 (Operand.tmp 11)
  refine pq_pu (some 13) rfl rfl (by rfl) (fun ws => by go_simp; try with_reducible rfl) ?_; go_frame   -- 5 Op.move (Operand.tmp 1)
  refine pq_pu (some 14) rfl rfl (by rfl) (fun ws => by go_simp; try with_reducible rfl) ?_; go_frame   -- 6 Op.move (Operand.tmp 2)
  refine pq_pu (some 15) rfl rfl (by rfl) (fun ws => by go_simp; try with_reducible rfl) ?_; go_frame   -- 7 Op.move (Operand.tmp 0)
  refine pq_pu (some 16) rfl rfl (by rfl) (fun ws => by go_simp; try with_reducible rfl) ?_; go_frame   -- 8 Op.nilCheck (Operand.tmp 15)
  refine pq_pu (some 17) rfl rfl (by rfl) (fun ws => by go_simp; try with_reducible rfl) ?_; go_frame   -- 9 Op.fieldAddr 48 (Operand.tmp 16) 1
  refine pq_ld (some 18) rfl rfl (by rfl) (fun ws HS => by go_split_ands; go_simp; try with_reducible rfl) ?_; go_frame   -- 10 Op.load 3 (Operand.tmp 17)
  refine pq_pu (some 19) rfl rfl (by rfl) (fun ws => by go_simp; try with_reducible rfl) ?_; go_frame   -- 11 Op.move (Operand.tmp 3)
  refine pq_pu (some 20) rfl rfl (by rfl) (fun ws => by go_simp; try with_reducible rfl) ?_; go_frame   -- 12 Op.build 35 #[(0, Operand.tmp 13), (1, Operand.tmp 14), (2, Operand.tmp 18), (3, Operand.tmp 19)]
  refine pk_ke rfl (fun J hJ => ?_)   -- pi_ke 13 Op.buildSlice 23 1 #[(0, Operand.tmp 20)]
  go_wp2
  refine hJ _ _ ⟨cell_alloc HS.1, cell_alloc HS.2⟩ ?_
  refine pi_tail (by rfl) ?_; simp only [opsAt, List.getElem?_toArray, List.getElem?_cons_zero, List.getElem?_cons_succ]   -- [(14, 'Op.call { callee := Callee.builtin Builtin.append, args := #[Operand.tmp 12, Operand.tmp 21], argTypes := #[23, 23] }'), (15, 'Op.nilCheck (Operand.tmp 8)'), (16, 'Op.fieldAddr 48 (Operand.tmp 23) 2'), (17, 'Op.store 23 (Operand.tmp 24) (Operand.tmp 22)')]
  have HG := Lib.hid (HT.out.go ((Below.refl _ W).drew.alloc (Nat.le_refl _) (.cells #[.int .i64 k, .int .i64 (f : Int), .int .i64 (a : Int), .string t0] 35)))
  have hrow := HG.out.toks
  have hp1 := HT.out.lt
  refine wpList_app _ rfl _ _ _ rfl (p + 1) 35 j0 _ 4 40 Tryd.underlying23 hj hy0 hy1 hy2 rfl tv l.length (tokCells l) rfl hrow ⟨W.heap.size, 0, none⟩ 1 1 [.int .i64 k, .int .i64 (f : Int), .int .i64 (a : Int), .string t0] rfl rfl (World.news_of_block (cs := #[.int .i64 k, .int .i64 (f : Int), .int .i64 (a : Int), .string t0]) (t := 35) (fr := (0, 0)) (heap_alloc_new _ _)) ?c1 (by omega) (by unfold maxLen; omega) (by omega) (by simp; omega) ?_
  case c1 => intro u hu; simp at hu; rcases hu with h | h | h | h <;> (subst h; rfl)
  intro gg cap w2 hown2 hat
  have HA := Lib.hid (HG.out.app hat)
  have HP := Lib.hid (Sc.pushT (t := ⟨k, f, a, x⟩) HG.out hat (by rw [Ht0.out] at hown2; exact hown2))
  have c2 : w2.cell? ⟨p, 2, none⟩ = some tv := by have h := HA.out.2.1; simp only [World.cell?, h]; rfl
  have f2 : w2.frozen? ⟨p, 2, none⟩ = false := by have h := HA.out.2.1; simp only [World.frozen?, h]; simp
  clear hat hown2 hrow hp1
  go_wp2
  go_end0
  exact ⟨rfl, _, _, HP.out⟩
end Go.Proofs.YtdgjegkoncodaaaDoor
