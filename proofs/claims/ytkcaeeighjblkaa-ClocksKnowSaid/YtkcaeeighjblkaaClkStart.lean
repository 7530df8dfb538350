/- (*clocks.Order).Start: its contract. -/
import Derived.Test.YtkcaeeighjblkaaClkNew
namespace Go.Proofs.Ytkcaeeighjblkaa
open Go.RowKit

theorem start_bad (st : OSt) (K : List (List Int)) (P : Acc) (N : Nat) (b : Int) (w : World) (h : Ord w st K P N) (hb : b < 0 ∨ (K.length : Int) ≤ b) :
    Calls Try.prog 17 #[.pointer (some ⟨st.bo, 0, none⟩), .int .i64 b] w fun e w' => e = .returned (.int .i64 (-1)) ∧ w = w' := by
  have hk := h.klen
  have hs := h.small
  have h0 := h.c0
  have hd : (decide (0 ≤ b) && decide (b < (K.length : Int))) = false := by grind
  clear h hb
  go_enter Try.func17, Try.ntmps17
  go_wp2_with (go_at_call 29; refine (is_any _ _ _ _ _ _ h0 (by omega)).mono ?_; rintro e w' ⟨rfl, rfl⟩)
  go_ret
  exact ⟨rfl, rfl⟩

theorem start_nil (b : Int) (w : World) :
    Calls Try.prog 17 #[.pointer none, .int .i64 b] w fun e w' => e = .returned (.int .i64 (-1)) ∧ w = w' := by
  go_enter Try.func17, Try.ntmps17
  go_wp2_with (go_at_call 29; refine (is_nil _ _).mono ?_; rintro e w' ⟨rfl, rfl⟩)
  go_ret
  exact ⟨rfl, rfl⟩

def StartPost (st : OSt) (K : List (List Int)) (P : Acc) (N b : Nat) (w : World) (e : Ending) (w' : World) : Prop :=
  ∃ st' : OSt, e = .returned (.int .i64 K.length) ∧ st'.bo = st.bo ∧ Ord w' st' (K ++ [K.getD b []]) P (N + 1) ∧ Fr st.fp w w' ∧ ∀ k, st'.fp k → st.fp k ∨ w.heap.size ≤ k

theorem cell_below {w w' : World} {B : Nat} (h : Below B w w') (hB : B = w.heap.size) {a : Addr} {v : Value} (hc : w.cell? a = some v) : w'.cell? a = some v := by
  subst hB; exact (h.cell (World.block_lt_of_cell? _ _ hc)).trans hc

theorem keep3 {w w1 : World} {a b : Addr} {v u : Value} (hbel : Below w.heap.size w w1) (h0 : w.cell? a = some v) (h1 : w.cell? b = some u) (hf : w.frozen? a = false) : w1.cell? a = some v ∧ w1.cell? b = some u ∧ w1.frozen? a = false :=
  ⟨cell_below hbel rfl h0, cell_below hbel rfl h1, (hbel.frozen (World.block_lt_of_cell? _ _ h0)).trans hf⟩

theorem getD_snoc_lt {α : Type} {l : List α} {x d : α} {i : Nat} (h : i < l.length) : (l ++ [x]).getD i d = l.getD i d := by
  simp [List.getD, List.getElem?_append_left h]
theorem getD_snoc_eq {α : Type} {l : List α} {x d : α} {i : Nat} (h : i = l.length) : (l ++ [x]).getD i d = x := by
  subst h; simp [List.getD]

/-- Behind Start's store. -/
theorem start_ord {w w1 w2 : World} {st : OSt} {K : List (List Int)} {P : Acc} {N b gg cap c1 : Nat} {a1 : Option Addr} {r : List Int} {o : Obj} (h : Ord w st K P N) (hN : N < 100000) (Hr : K.getD b [] = r)
    (hrow : w1.ownsRow w.heap.size 3 1 (.slice a1 r.length c1) r.length (ints r)) (hbel : Below w.heap.size w w1)
    (hown2 : w2.ownsRow 0 46 1 (.slice (some ⟨gg, 0, none⟩) (K.length + 1) cap) (K.length + 1) (st.rows ++ [.slice a1 r.length c1])) (hat : AppAt (w1.alloc o) (.slice (some ⟨st.bk, 0, none⟩) K.length st.cap) gg w2) :
    Ord (w2.setCell ⟨st.bo, 0, none⟩ (.slice (some ⟨gg, 0, none⟩) (K.length + 1) cap)) ⟨st.bo, gg, cap, st.rows ++ [.slice a1 r.length c1], st.bm, st.inner⟩ (K ++ [r]) P (N + 1) ∧
      Fr st.fp w (w2.setCell ⟨st.bo, 0, none⟩ (.slice (some ⟨gg, 0, none⟩) (K.length + 1) cap)) ∧
      ∀ k, (⟨st.bo, gg, cap, st.rows ++ [.slice a1 r.length c1], st.bm, st.inner⟩ : OSt).fp k → st.fp k ∨ w.heap.size ≤ k := by
  have hX := (h.of_below hbel).alloc o
  have hXs : (w1.alloc o).heap.size = w1.heap.size + 1 := by simp
  have hs1 := hbel.size
  have hlb := h.lt st.bo (.inl rfl)
  have hlk := h.lt st.bk (.inr (.inl rfl))
  have hrl := h.rowsLen
  have hgrow : (w1.alloc o).grownBy w2 (some st.bk) := hat.grown
  have hgg : gg = st.bk ∨ gg = w1.heap.size + 1 := by
    rcases hat.at with e | e
    · left; simpa [Value.ownBlock] using e.symm
    · right; rw [e, hXs]
  have hgo : gg ≠ st.bo := by
    rcases hgg with e | e
    · rw [e]; exact fun e => h.bo_ne_bk e.symm
    · omega
  have hsame : ∀ k, k < w1.heap.size → k ≠ st.bo → k ≠ st.bk → (w2.setCell ⟨st.bo, 0, none⟩ (.slice (some ⟨gg, 0, none⟩) (K.length + 1) cap)).heap[k]? = (w1.alloc o).heap[k]? := by
    intro k hk h1 h2
    rw [Below.heap_setCell _ _ _ _ h1]
    exact hgrow.block k (by omega) (by simpa using h2)
  have hfp : ∀ k, st.fp k → k ≠ st.bo → k ≠ st.bk → (w2.setCell ⟨st.bo, 0, none⟩ (.slice (some ⟨gg, 0, none⟩) (K.length + 1) cap)).heap[k]? = (w1.alloc o).heap[k]? :=
    fun k hk => hsame k (by have := h.lt k hk; omega)
  have hb2 : w2.heap[st.bo]? = some (.cells #[.slice (some ⟨st.bk, 0, none⟩) K.length st.cap, .map (some st.bm)] 51 (0, 0)) :=
    (hgrow.block st.bo (by omega) (by simpa using h.bo_ne_bk)).trans hX.ob
  have hnb : ∀ k, (Value.slice a1 r.length c1).ownBlock = some k → w.heap.size ≤ k ∧ k < w1.heap.size := fun k e => hrow.lt k e
  refine ⟨⟨by omega, by have := h.klen; simp; omega, by simp, ?_, ?_, ?_, ?_, ?_, ?_, ?_, ?_, ?_, ?_⟩, ?_, ?_⟩
  · intro i
    by_cases hi : i < K.length
    · rw [getD_snoc_lt hi]; have := h.rlen i; omega
    · by_cases hi' : i = K.length
      · rw [getD_snoc_eq hi', ← Hr]; have := h.rlen b; omega
      · simp [List.getD, show K.length + 1 ≤ i by omega]
  · intro i j
    by_cases hi : i < K.length
    · rw [getD_snoc_lt hi]; have := h.rval i j; omega
    · by_cases hi' : i = K.length
      · rw [getD_snoc_eq hi', ← Hr]; have := h.rval b j; omega
      · have e : (K ++ [r]).getD i [] = [] := by simp [List.getD, show K.length + 1 ≤ i by omega]
        rw [e]; simp; omega
  · simp only [World.setCell, Array.getElem?_modify, hb2]
    simp
  · have := row_same hown2 (w' := w2.setCell ⟨st.bo, 0, none⟩ (.slice (some ⟨gg, 0, none⟩) (K.length + 1) cap)) (fun k e => by
      cases e; exact Below.heap_setCell _ _ _ _ hgo)
    simpa using this
  · intro i hi
    by_cases hi' : i < K.length
    · show World.ownsRow _ _ _ _ ((st.rows ++ [_]).getD i undef) _ _
      rw [getD_snoc_lt hi', getD_snoc_lt (by omega)]
      exact row_same (hX.row i hi') (fun k e => hfp k (.inr (.inr (.inl ⟨i, by omega, e⟩))) (h.row_ne_bo hi' e) (h.row_ne_bk hi' e))
    · have hi2 : i = K.length := by simp at hi; omega
      show World.ownsRow _ _ _ _ ((st.rows ++ [_]).getD i undef) _ _
      rw [getD_snoc_eq hi2, getD_snoc_eq (by omega)]
      refine row_same (row_zero hrow) (fun k e => ?_)
      have hk := hnb k e
      exact (hsame k hk.2 (by omega) (by omega)).trans (Below.heap_alloc w1 o k hk.2)
  · intro i j k hi hj e1 e2
    simp at hi hj
    have hold : ∀ i, i < K.length → (st.rows.getD i undef).ownBlock = some k → k < w.heap.size := fun i hi e => h.lt k (.inr (.inr (.inl ⟨i, by omega, e⟩)))
    by_cases hi' : i < K.length
    · rw [getD_snoc_lt (by omega)] at e1
      by_cases hj' : j < K.length
      · rw [getD_snoc_lt (by omega)] at e2
        exact h.apart i j k hi' hj' e1 e2
      · rw [getD_snoc_eq (by omega)] at e2
        have := hold i hi' e1
        have := (hnb k e2).1
        omega
    · rw [getD_snoc_eq (by omega)] at e1
      by_cases hj' : j < K.length
      · rw [getD_snoc_lt (by omega)] at e2
        have := hold j hj' e2
        have := (hnb k e1).1
        omega
      · omega
  · exact (hX.outer.same (hfp st.bm (.inr (.inr (.inr (.inl rfl)))) (h.bm_ne h.ob) (by obtain ⟨c, e⟩ := h.bk_at; exact h.bm_ne e))).mono (Nat.le_succ N)
  · intro c d hc hd
    refine ⟨((hX.inn c d hc hd).1.same (hfp d (.inr (.inr (.inr (.inr ⟨c, hc, hd⟩)))) (h.inner_ne hc hd h.ob) (by obtain ⟨c', e⟩ := h.bk_at; exact h.inner_ne hc hd e))).mono (Nat.le_succ N), (h.inn c d hc hd).2⟩
  · exact h.innN
  · exact h.innA
  · have f1 : Fr st.fp w (w1.alloc o) := (Fr.of_below hbel).alloc o
    have f2 : Fr st.fp w w2 := f1.grown hgrow (fun k e => by cases e; exact .inl (.inr (.inl rfl)))
    exact f2.setCell (.inl (.inl rfl)) _
  · intro k hk
    rcases hk with rfl | hkg | ⟨i, hi, e⟩ | rfl | ⟨c, hc, e⟩
    · exact .inl (.inl rfl)
    · have hkg : k = gg := hkg
      rcases hgg with e | e
      · left; exact .inr (.inl (hkg.trans e))
      · right; omega
    · simp at hi
      by_cases hi' : i < K.length
      · left
        rw [show (⟨st.bo, gg, cap, st.rows ++ [.slice a1 r.length c1], st.bm, st.inner⟩ : OSt).rows = st.rows ++ [.slice a1 r.length c1] from rfl, getD_snoc_lt (by omega)] at e
        exact .inr (.inr (.inl ⟨i, by omega, e⟩))
      · right
        rw [show (⟨st.bo, gg, cap, st.rows ++ [.slice a1 r.length c1], st.bm, st.inner⟩ : OSt).rows = st.rows ++ [.slice a1 r.length c1] from rfl, getD_snoc_eq (by omega)] at e
        exact (hnb k e).1
    · exact .inl (.inr (.inr (.inr (.inl rfl))))
    · exact .inl (.inr (.inr (.inr (.inr ⟨c, hc, e⟩))))

set_option maxHeartbeats 800000 in
theorem start_any (st : OSt) (K : List (List Int)) (P : Acc) (N b : Nat) (w : World) (h : Ord w st K P N) (hb : b < K.length) (hN : N < 100000) :
    Calls Try.prog 17 #[.pointer (some ⟨st.bo, 0, none⟩), .int .i64 b] w (StartPost st K P N b w) := by
  have hk := h.klen
  have hs := h.small
  have h0 := h.c0
  have hf := h.f0 0
  have hd : (decide ((0 : Int) ≤ b) && decide ((b : Int) < (K.length : Int))) = true := by simp; omega
  have hck := h.ck hb
  have hlo := h.lt st.bo (.inl rfl)
  have hrl := h.rlen b
  have hrow0 := h.drew.row b hb
  have hdr := h.drew
  obtain ⟨rv, Hrv⟩ : ∃ rv, Hid (st.rows.getD b undef = rv) := ⟨_, rfl⟩
  obtain ⟨r, Hr⟩ : ∃ r, Hid (K.getD b [] = r) := ⟨_, rfl⟩
  rw [Hrv.out] at hck hrow0
  rw [Hr.out] at hrl hrow0
  obtain ⟨i0, hi, hz0, hz1, hz2⟩ := info_parts Try.info46
  go_enter Try.func17, Try.ntmps17
  go_wp2_with (go_at_call 29; refine (is_any _ _ _ _ _ _ h0 (by omega)).mono ?_; rintro e w' ⟨rfl, rfl⟩)
  have HS : (fun w' => w'.cell? ⟨st.bo, 0, none⟩ = some (.slice (some ⟨st.bk, 0, none⟩) K.length st.cap) ∧ w'.cell? ⟨st.bk, b, none⟩ = some rv) w.drew := ⟨h0, hck⟩
  refine wp_region_pi (fun w' => w'.cell? ⟨st.bo, 0, none⟩ = some (.slice (some ⟨st.bk, 0, none⟩) K.length st.cap) ∧ w'.cell? ⟨st.bk, b, none⟩ = some rv) [(0, 1), (1, 1), (2, 1), (3, 1), (4, 0), (5, 1), (6, 1), (7, 1), (8, 0), (9, 1), (10, 1), (11, 0), (12, 2), (13, 2), (14, 3), (15, 3), (16, 3), (17, 3)] [(14, [4]), (14, [12, 11, 10, 8]), (14, [12, 11]), (15, [4]), (15, [8]), (15, [11]), (16, [4]), (16, [8]), (16, [11]), (17, [4]), (17, [8]), (17, [11])] (by kernel_rfl) (by kernel_rfl) (fun _ _ _ _ _ h => h) (HS) ?_
  refine pi_pu rfl (by rfl) (fun ws => by go_simp; try with_reducible rfl) ?_; go_frame   -- 0 Op.move (Operand.tmp 0)
  refine pi_pu rfl (by rfl) (fun ws => by go_simp; try with_reducible rfl) ?_; go_frame   -- 1 Op.move (Operand.tmp 0)
  refine pi_pu rfl (by rfl) (fun ws => by go_simp; try with_reducible rfl) ?_; go_frame   -- 2 Op.nilCheck (Operand.tmp 10)
  refine pi_pu rfl (by rfl) (fun ws => by go_simp; try with_reducible rfl) ?_; go_frame   -- 3 Op.fieldAddr 51 (Operand.tmp 11) 0
  refine pi_ld rfl (by rfl) (fun ws HS => by go_split_ands; go_simp; try with_reducible rfl) ?_; go_frame   -- 4 Op.load 40 (Operand.tmp 12)
  refine pi_pu rfl (by rfl) (fun ws => by go_simp; try with_reducible rfl) ?_; go_frame   -- 5 Op.move (Operand.tmp 0)
  refine pi_pu rfl (by rfl) (fun ws => by go_simp; try with_reducible rfl) ?_; go_frame   -- 6 Op.nilCheck (Operand.tmp 14)
  refine pi_pu rfl (by rfl) (fun ws => by go_simp; try with_reducible rfl) ?_; go_frame   -- 7 Op.fieldAddr 51 (Operand.tmp 15) 0
  refine pi_ld rfl (by rfl) (fun ws HS => by go_split_ands; go_simp; try with_reducible rfl) ?_; go_frame   -- 8 Op.load 40 (Operand.tmp 16)
  refine pi_pu rfl (by rfl) (fun ws => by go_simp; try with_reducible rfl) ?_; go_frame   -- 9 Op.move (Operand.tmp 1)
  refine pi_pu rfl (by rfl) (fun ws => by go_simp; try with_reducible rfl) ?_; go_frame   -- 10 Op.indexAddr 40 (Operand.tmp 17) (Operand.tmp 18)
  refine pi_ld rfl (by rfl) (fun ws HS => by go_split_ands; go_simp; try with_reducible rfl) ?_; go_frame   -- 11 Op.load 46 (Operand.tmp 19)
  refine pi_ke rfl (fun J hJ => ?_)   -- 12 Op.call { callee := Callee.value (Operand.func 30), args := #[Operand.tmp 20], argTypes := #[46] }
  go_wp2_with (go_at_call 30; refine (clone_any _ _ _ _ hrow0 (by omega)).mono ?_; rintro e w1 ⟨a1, c1, rfl, hrow, hbel⟩)
  refine hJ _ _ ⟨cell_below hbel rfl h0, cell_below hbel rfl hck⟩ ?_
  refine pi_ke rfl (fun J hJ => ?_)   -- 13 Op.buildSlice 40 1 #[(0, Operand.tmp 21)]
  go_wp2
  refine hJ _ _ ⟨cell_below (hbel.alloc hbel.size _) rfl h0, cell_below (hbel.alloc hbel.size _) rfl hck⟩ ?_
  refine pi_tail (by rfl) ?_; simp only [opsAt, List.getElem?_toArray, List.getElem?_cons_zero, List.getElem?_cons_succ]   -- [(14, 'Op.call { callee := Callee.builtin Builtin.append, args := #[Operand.tmp 13, Operand.tmp 22], argTypes := #[40, 40] }'), (15, 'Op.nilCheck (Operand.tmp 9)'), (16, 'Op.fieldAddr 51 (Operand.tmp 24) 0'), (17, 'Op.store 40 (Operand.tmp 25) (Operand.tmp 23)')]
  go_wp2_with (refine wpList_app _ rfl _ _ _ rfl 0 46 i0 _ 1 24 Try.underlying40 hi hz0 hz1 hz2 rfl _ K.length st.rows rfl ((hdr.of_below hbel).alloc _).kn ⟨w1.heap.size, 0, none⟩ 1 1 [.slice a1 r.length c1] rfl rfl (World.news_of_block (cs := #[.slice a1 r.length c1]) (t := 46) (fr := (0, 0)) (heap_alloc_new w1 _)) ?c1 (by omega) (by unfold maxLen; omega) (by omega) (by omega) ?_)
  case c1 => intro u hu; simp at hu; subst hu; rfl
  intro gg cap w2 hown2 hat
  have Hfin := Lib.hid (start_ord hdr hN Hr.out hrow hbel hown2 hat)
  have hne : some st.bo ≠ some st.bk := by simpa using h.bo_ne_bk
  have hX := (hdr.of_below hbel).alloc (.cells #[.slice a1 r.length c1] 46)
  have hc2 : w2.cell? ⟨st.bo, 0, none⟩ = some (.slice (some ⟨st.bk, 0, none⟩) K.length st.cap) := hat.grown.cell hX.c0 hne
  have hf2 : w2.frozen? ⟨st.bo, 0, none⟩ = false := (hat.grown.frozen_far _ (hX.lt _ (.inl rfl)) hne).trans (hX.f0 0)
  clear hX hne hat hown2 hbel hrow hi hz0 hz1 hz2 hrow0 hdr h
  go_wp2
  go_ret
  obtain ⟨f1, f2, f3⟩ := Hfin.out
  refine ⟨⟨st.bo, gg, cap, st.rows ++ [.slice a1 r.length c1], st.bm, st.inner⟩, eret_int (by simp), rfl, ?_, ⟨f2.os, f2.tape, f2.output, f2.size, f2.block⟩, f3⟩
  rw [Hr.out]
  exact f1
end Go.Proofs.Ytkcaeeighjblkaa
