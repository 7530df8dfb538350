/- (*clocks.Order).Send, Receive, Ahead: their contracts. -/
import Derived.Test.YtkcaeeighjblkaaClkJoin
namespace Go.Proofs.Ytkcaeeighjblkaa
open Go.RowKit

/-- A clock that holds a row, in blocks from B on. -/
def ClockAt (w : World) (B bc : Nat) (r : List Int) : Prop :=
  ∃ a cap, B ≤ bc ∧ w.heap[bc]? = some (.cells #[.slice a r.length cap] 57 (0, 0)) ∧ w.ownsRow B 3 1 (.slice a r.length cap) r.length (ints r)
/-- A clock's blocks, which are none of an order's. -/
def ClockOff (w : World) (B bc : Nat) (r : List Int) (F : Nat → Prop) : Prop :=
  ∃ a cap, B ≤ bc ∧ w.heap[bc]? = some (.cells #[.slice a r.length cap] 57 (0, 0)) ∧ w.ownsRow B 3 1 (.slice a r.length cap) r.length (ints r) ∧ ¬ F bc ∧ ∀ k, (Value.slice a r.length cap).ownBlock = some k → ¬ F k

theorem ClockOff.at {w : World} {B bc : Nat} {r : List Int} {F : Nat → Prop} (h : ClockOff w B bc r F) : ClockAt w B bc r := by
  obtain ⟨a, cap, h1, h2, h3, _⟩ := h; exact ⟨a, cap, h1, h2, h3⟩
theorem ClockOff.frame {w w' : World} {B bc : Nat} {r : List Int} {F G : Nat → Prop} (h : ClockOff w B bc r F) (hf : Fr F w w') (hG : ∀ k, G k → F k ∨ w.heap.size ≤ k) : ClockOff w' B bc r G := by
  obtain ⟨a, cap, h1, h2, h3, h4, h5⟩ := h
  have hlt : bc < w.heap.size := (Array.getElem?_eq_some_iff.1 h2).1
  refine ⟨a, cap, h1, (hf.block _ hlt h4).trans h2, row_same h3 (fun k e => hf.block k (h3.lt k e).2 (h5 k e)), ?_, ?_⟩
  · intro hg; rcases hG _ hg with e | e
    · exact h4 e
    · omega
  · intro k e hg
    have := (h3.lt k e).2
    rcases hG _ hg with e' | e'
    · exact h5 k e e'
    · omega

def SendPost (K : List (List Int)) (who : Nat) (w : World) (e : Ending) (w' : World) : Prop :=
  ∃ bc, e = .returned (.pointer (some ⟨bc, 0, none⟩)) ∧ ClockAt w' w.heap.size bc (K.getD who []) ∧ Below w.heap.size w w'

theorem send_any (bo : Nat) (st : OSt) (K : List (List Int)) (P : Acc) (N who : Nat) (w : World) (hbo : st.bo = bo) (h : Ord w st K P N) (hw : who < K.length) :
    Calls Try.prog 19 #[.pointer (some ⟨bo, 0, none⟩), .int .i64 who] w (SendPost K who w) := by
  have hk := h.klen
  have hs := h.small
  have h0 := h.c0
  rw [hbo] at h0
  have hck := h.ck hw
  have hrow := h.row who hw
  have hrl := h.rlen who
  have hd : (decide ((0 : Int) ≤ who) && decide ((who : Int) < (K.length : Int))) = true := by simp; omega
  obtain ⟨rv, Hrv⟩ : ∃ rv, Hid (st.rows.getD who undef = rv) := ⟨_, Lib.hid rfl⟩
  obtain ⟨r, Hr⟩ : ∃ r, Hid (K.getD who [] = r) := ⟨_, Lib.hid rfl⟩
  rw [Hrv.out] at hck hrow
  rw [Hr.out] at hrow hrl
  clear h hbo
  go_enter Try.func19, Try.ntmps19
  go_wp2_with (go_at_call 29; refine (is_any _ _ _ _ _ _ h0 (by omega)).mono ?_; rintro e w' ⟨rfl, rfl⟩)
  refine (clone_any _ _ _ _ hrow (by omega)).mono ?_
  rintro e w1 ⟨a1, c1, rfl, hrow1, hbel⟩
  have HN := Lib.hid (And.intro hrow1 hbel)
  clear hrow1 hbel
  go_wp2
  go_ret
  refine ⟨w1.heap.size, by simp, ?_, HN.out.2.alloc HN.out.2.size _⟩
  rw [Hr.out]
  exact ⟨a1, c1, HN.out.2.size, heap_alloc_new w1 _, HN.out.1.alloc _⟩

theorem send_nil (who : Int) (w : World) :
    Calls Try.prog 19 #[.pointer none, .int .i64 who] w fun e w' => e = .returned (.pointer none) ∧ w = w' := by
  go_enter Try.func19, Try.ntmps19
  go_wp2_with (go_at_call 29; refine (is_nil _ _).mono ?_; rintro e w' ⟨rfl, rfl⟩)
  go_ret
  exact ⟨rfl, rfl⟩
theorem send_bad (bo : Nat) (st : OSt) (K : List (List Int)) (P : Acc) (N : Nat) (who : Int) (w : World) (hbo : st.bo = bo) (h : Ord w st K P N) (hb : who < 0 ∨ (K.length : Int) ≤ who) :
    Calls Try.prog 19 #[.pointer (some ⟨bo, 0, none⟩), .int .i64 who] w fun e w' => e = .returned (.pointer none) ∧ w = w' := by
  have hk := h.klen
  have hs := h.small
  have h0 := h.c0
  rw [hbo] at h0
  have hd : (decide (0 ≤ who) && decide (who < (K.length : Int))) = false := by grind
  clear h hb hbo
  go_enter Try.func19, Try.ntmps19
  go_wp2_with (go_at_call 29; refine (is_any _ _ _ _ _ _ h0 (by omega)).mono ?_; rintro e w' ⟨rfl, rfl⟩)
  go_ret
  exact ⟨rfl, rfl⟩

theorem receive_nil (who : Int) (c : Value) (w : World) :
    Calls Try.prog 18 #[.pointer none, .int .i64 who, c] w fun e w' => e = .returned (.tuple #[]) ∧ w = w' := by
  go_enter Try.func18, Try.ntmps18
  go_wp2_with (go_at_call 29; refine (is_nil _ _).mono ?_; rintro e w' ⟨rfl, rfl⟩)
  go_end0
  exact ⟨rfl, rfl⟩
theorem receive_bad (bo : Nat) (st : OSt) (K : List (List Int)) (P : Acc) (N : Nat) (who : Int) (c : Value) (w : World) (hbo : st.bo = bo) (h : Ord w st K P N) (hb : who < 0 ∨ (K.length : Int) ≤ who) :
    Calls Try.prog 18 #[.pointer (some ⟨bo, 0, none⟩), .int .i64 who, c] w fun e w' => e = .returned (.tuple #[]) ∧ w = w' := by
  have hk := h.klen
  have hs := h.small
  have h0 := h.c0
  rw [hbo] at h0
  have hd : (decide (0 ≤ who) && decide (who < (K.length : Int))) = false := by grind
  clear h hb hbo
  go_enter Try.func18, Try.ntmps18
  go_wp2_with (go_at_call 29; refine (is_any _ _ _ _ _ _ h0 (by omega)).mono ?_; rintro e w' ⟨rfl, rfl⟩)
  go_end0
  exact ⟨rfl, rfl⟩
theorem receive_none (bo : Nat) (st : OSt) (K : List (List Int)) (P : Acc) (N : Nat) (who : Int) (w : World) (hbo : st.bo = bo) (h : Ord w st K P N) :
    Calls Try.prog 18 #[.pointer (some ⟨bo, 0, none⟩), .int .i64 who, .pointer none] w fun e w' => e = .returned (.tuple #[]) ∧ w = w' := by
  by_cases hb : who < 0 ∨ (K.length : Int) ≤ who
  · exact receive_bad bo st K P N who _ w hbo h hb
  · have hk := h.klen
    have hs := h.small
    have h0 := h.c0
    rw [hbo] at h0
    have hd : (decide (0 ≤ who) && decide (who < (K.length : Int))) = true := by grind
    clear h hb hbo
    go_enter Try.func18, Try.ntmps18
    go_wp2_with (go_at_call 29; refine (is_any _ _ _ _ _ _ h0 (by omega)).mono ?_; rintro e w' ⟨rfl, rfl⟩)
    go_end0
    exact ⟨rfl, rfl⟩

def RecvPost (st : OSt) (K : List (List Int)) (P : Acc) (N who : Nat) (rc : List Int) (w : World) (e : Ending) (w' : World) : Prop :=
  ∃ st' : OSt, e = .returned (.tuple #[]) ∧ st'.bo = st.bo ∧ Ord w' st' (K.set who (maxL (K.getD who []) rc)) P N ∧ Fr st.fp w w' ∧ ∀ k, st'.fp k → st.fp k ∨ w.heap.size ≤ k

/-- Behind Receive's store. -/
theorem recv_ord {w w1 : World} {st : OSt} {K : List (List Int)} {P : Acc} {N who cap : Nat} {a : Option Addr} {r rc : List Int} {o : Obj} (h : Ord w st K P N) (hw : who < K.length) (Hr : K.getD who [] = r)
    (hl : rc.length ≤ N + 1) (hv : ∀ j, 0 ≤ rc.getD j 0 ∧ rc.getD j 0 ≤ N) (hrow : w1.ownsRow (w.alloc o).heap.size 3 1 (.slice a (maxL r rc).length cap) (maxL r rc).length (ints (maxL r rc))) (hbel : Below (w.alloc o).heap.size (w.alloc o) w1) :
    Ord (w1.setCell ⟨st.bk, who, none⟩ (.slice a (maxL r rc).length cap)) (st.setRow who (.slice a (maxL r rc).length cap)) (K.set who (maxL r rc)) P N ∧
      Fr st.fp w (w1.setCell ⟨st.bk, who, none⟩ (.slice a (maxL r rc).length cap)) ∧ ∀ k, (st.setRow who (.slice a (maxL r rc).length cap)).fp k → st.fp k ∨ w.heap.size ≤ k := by
  have hX := h.alloc o
  have hg : (w.alloc o).grownBy w1 (st.rows.getD who undef).ownBlock := ⟨hbel.os, hbel.tape, hbel.output, hbel.size, fun k hk _ => hbel.block k hk⟩
  have hb : ∀ k, (Value.slice a (maxL r rc).length cap).ownBlock = some k → (st.rows.getD who undef).ownBlock = some k ∨ (w.alloc o).heap.size ≤ k := fun k e => .inr (hrow.lt k e).1
  have hrl := h.rlen who
  have hrv := h.rval who
  rw [Hr] at hrl hrv
  obtain ⟨s1, s2, s3⟩ := hX.store hw (Nat.le_refl N) h.small hg (row_zero hrow) hb (by rw [maxL_len]; omega) (fun j => by
    rw [maxL_getD]; have := hrv j; have := hv j; omega)
  refine ⟨s1, ?_, fun k hk => ?_⟩
  · exact ((Fr.refl st.fp w).alloc o).trans s2 (fun _ h => h) (fun _ h => .inl h)
  · rcases s3 k hk with e | e
    · exact .inl e
    · simp at e; right; omega

set_option maxHeartbeats 800000 in
theorem receive_any (bo bc B : Nat) (st : OSt) (K : List (List Int)) (P : Acc) (N who : Nat) (rc : List Int) (w : World) (hbo : st.bo = bo) (h : Ord w st K P N) (hw : who < K.length)
    (hcl : ClockAt w B bc rc) (hl : rc.length ≤ N + 1) (hv : ∀ j, 0 ≤ rc.getD j 0 ∧ rc.getD j 0 ≤ N) :
    Calls Try.prog 18 #[.pointer (some ⟨bo, 0, none⟩), .int .i64 who, .pointer (some ⟨bc, 0, none⟩)] w (RecvPost st K P N who rc w) := by
  have hk := h.klen
  have hs := h.small
  have h0 := h.c0
  rw [hbo] at h0
  have hck := h.ck hw
  have hfk := h.fk who
  have hrow := h.row who hw
  have hrl := h.rlen who
  have hrv := h.rval who
  have hd : (decide ((0 : Int) ≤ who) && decide ((who : Int) < (K.length : Int))) = true := by simp; omega
  have hbk := h.lt st.bk (.inr (.inl rfl))
  obtain ⟨rv, Hrv⟩ : ∃ rv, Hid (st.rows.getD who undef = rv) := ⟨_, Lib.hid rfl⟩
  obtain ⟨r, Hr⟩ : ∃ r, Hid (K.getD who [] = r) := ⟨_, Lib.hid rfl⟩
  rw [Hrv.out] at hck hrow
  rw [Hr.out] at hrow hrl hrv
  obtain ⟨a, cap, rfl⟩ := row_form hrow
  obtain ⟨ac, cc, _, hbc, hrc⟩ := hcl
  have hcc : w.cell? ⟨bc, 0, none⟩ = some (.slice ac rc.length cc) := by simp [World.cell?, hbc]
  have HO := Lib.hid h
  have HV := Lib.hid hv
  have HRV := Lib.hid hrv
  clear h hbc hbo hv hrv
  go_enter Try.func18, Try.ntmps18
  go_wp2_with (go_at_call 29; refine (is_any _ _ _ _ _ _ h0 (by omega)).mono ?_; rintro e w' ⟨rfl, rfl⟩)
  have HS : (fun w' => w'.cell? ⟨bo, 0, none⟩ = some (.slice (some ⟨st.bk, 0, none⟩) K.length st.cap) ∧ w'.cell? ⟨st.bk, who, none⟩ = some (.slice a r.length cap) ∧ w'.cell? ⟨bc, 0, none⟩ = some (.slice ac rc.length cc)) w.drew := ⟨h0, hck, hcc⟩
  refine wp_region_pi (fun w' => w'.cell? ⟨bo, 0, none⟩ = some (.slice (some ⟨st.bk, 0, none⟩) K.length st.cap) ∧ w'.cell? ⟨st.bk, who, none⟩ = some (.slice a r.length cap) ∧ w'.cell? ⟨bc, 0, none⟩ = some (.slice ac rc.length cc)) [(0, 1), (1, 1), (2, 1), (3, 0), (4, 1), (5, 1), (6, 1), (7, 1), (8, 0), (9, 1), (10, 1), (11, 0), (12, 1), (13, 1), (14, 1), (15, 0), (16, 2), (17, 2), (18, 1), (19, 3)] [(19, [3]), (19, [8]), (19, [11]), (19, [15])] (by kernel_rfl) (by kernel_rfl) (fun _ _ _ _ _ h => h) (HS) ?_
  refine pi_pu rfl (by rfl) (fun ws => by go_simp; try with_reducible rfl) ?_; go_frame   -- 0 Op.move (Operand.tmp 0)
  refine pi_pu rfl (by rfl) (fun ws => by go_simp; try with_reducible rfl) ?_; go_frame   -- 1 Op.nilCheck (Operand.tmp 13)
  refine pi_pu rfl (by rfl) (fun ws => by go_simp; try with_reducible rfl) ?_; go_frame   -- 2 Op.fieldAddr 51 (Operand.tmp 14) 0
  refine pi_ld rfl (by rfl) (fun ws HS => by go_split_ands; go_simp; try with_reducible rfl) ?_; go_frame   -- 3 Op.load 40 (Operand.tmp 15)
  refine pi_pu rfl (by rfl) (fun ws => by go_simp; try with_reducible rfl) ?_; go_frame   -- 4 Op.move (Operand.tmp 1)
  refine pi_pu rfl (by rfl) (fun ws => by go_simp; try with_reducible rfl) ?_; go_frame   -- 5 Op.move (Operand.tmp 0)
  refine pi_pu rfl (by rfl) (fun ws => by go_simp; try with_reducible rfl) ?_; go_frame   -- 6 Op.nilCheck (Operand.tmp 18)
  refine pi_pu rfl (by rfl) (fun ws => by go_simp; try with_reducible rfl) ?_; go_frame   -- 7 Op.fieldAddr 51 (Operand.tmp 19) 0
  refine pi_ld rfl (by rfl) (fun ws HS => by go_split_ands; go_simp; try with_reducible rfl) ?_; go_frame   -- 8 Op.load 40 (Operand.tmp 20)
  refine pi_pu rfl (by rfl) (fun ws => by go_simp; try with_reducible rfl) ?_; go_frame   -- 9 Op.move (Operand.tmp 1)
  refine pi_pu rfl (by rfl) (fun ws => by go_simp; try with_reducible rfl) ?_; go_frame   -- 10 Op.indexAddr 40 (Operand.tmp 21) (Operand.tmp 22)
  refine pi_ld rfl (by rfl) (fun ws HS => by go_split_ands; go_simp; try with_reducible rfl) ?_; go_frame   -- 11 Op.load 46 (Operand.tmp 23)
  refine pi_pu rfl (by rfl) (fun ws => by go_simp; try with_reducible rfl) ?_; go_frame   -- 12 Op.move (Operand.tmp 2)
  refine pi_pu rfl (by rfl) (fun ws => by go_simp; try with_reducible rfl) ?_; go_frame   -- 13 Op.nilCheck (Operand.tmp 25)
  refine pi_pu rfl (by rfl) (fun ws => by go_simp; try with_reducible rfl) ?_; go_frame   -- 14 Op.fieldAddr 57 (Operand.tmp 26) 0
  refine pi_ld rfl (by rfl) (fun ws HS => by go_split_ands; go_simp; try with_reducible rfl) ?_; go_frame   -- 15 Op.load 46 (Operand.tmp 27)
  refine pi_ke rfl (fun J hJ => ?_)   -- 16 Op.buildSlice 40 2 #[(0, Operand.tmp 24), (1, Operand.tmp 28)]
  go_wp2
  refine hJ _ _ ⟨cell_alloc HS.1, cell_alloc HS.2.1, cell_alloc HS.2.2⟩ ?_
  refine pi_ke rfl (fun J hJ => ?_)   -- 17 Op.call { callee := Callee.value (Operand.func 31), args := #[Operand.tmp 29], argTypes := #[40] }
  have hj1 : (w.alloc (.cells #[.slice a r.length cap, .slice ac rc.length cc] 46)).drew.cell? ⟨w.heap.size, 0, none⟩ = some (.slice a r.length cap) := World.cell?_alloc_new w _ _ 0
  have hj2 : (w.alloc (.cells #[.slice a r.length cap, .slice ac rc.length cc] 46)).drew.cell? ⟨w.heap.size, 1, none⟩ = some (.slice ac rc.length cc) := World.cell?_alloc_new w _ _ 1
  have hj3 : (w.alloc (.cells #[.slice a r.length cap, .slice ac rc.length cc] 46)).drew.ownsRow 0 3 1 (.slice a r.length cap) r.length (ints r) := hrow.alloc _
  have hj4 : (w.alloc (.cells #[.slice a r.length cap, .slice ac rc.length cc] 46)).drew.ownsRow 0 3 1 (.slice ac rc.length cc) rc.length (ints rc) := (row_zero hrc).alloc _
  go_wp2_with (go_at_call 31; refine (join_any _ _ _ _ r rc _ hj3 hj4 hj1 hj2 (by omega) (by omega) (fun j => (HRV.out j).1) (fun j => (HV.out j).1)).mono ?_; rintro e w1 ⟨a1, c1, rfl, hrow1, hbel1⟩; refine hold ?_)
  have hf := recv_ord HO.out hw Hr.out hl HV.out hrow1 ⟨hbel1.os, hbel1.tape, hbel1.output, hbel1.size, hbel1.block⟩
  have HF := Lib.hid hf
  have hb0 : w1.cell? ⟨bo, 0, none⟩ = some (.slice (some ⟨st.bk, 0, none⟩) K.length st.cap) := cell_below hbel1 rfl (cell_alloc HS.1)
  have hb1 : w1.cell? ⟨st.bk, who, none⟩ = some (.slice a r.length cap) := cell_below hbel1 rfl (cell_alloc HS.2.1)
  have hb2 : w1.cell? ⟨bc, 0, none⟩ = some (.slice ac rc.length cc) := cell_below hbel1 rfl (cell_alloc HS.2.2)
  have hb3 : w1.frozen? ⟨st.bk, who, none⟩ = false := by
    have e1 : (w.alloc (.cells #[.slice a r.length cap, .slice ac rc.length cc] 46)).drew.frozen? ⟨st.bk, who, none⟩ = false := (World.frozen?_of_block (w := w) (Below.heap_alloc w _ _ hbk)).trans hfk
    exact (hbel1.frozen (p := ⟨st.bk, who, none⟩) (by simp; omega)).trans e1
  clear hf hrow1 hbel1 hj1 hj2 hj3 hj4
  refine Hold.mk ?_
  go_wp2
  refine hJ _ _ ⟨hb0, hb1, hb2⟩ ?_
  refine pi_pu rfl (by rfl) (fun ws => by go_simp; try with_reducible rfl) ?_; go_frame   -- 18 Op.indexAddr 40 (Operand.tmp 16) (Operand.tmp 17)
  refine pi_tail (by rfl) ?_; simp only [opsAt, List.getElem?_toArray, List.getElem?_cons_zero, List.getElem?_cons_succ]   -- [(19, 'Op.store 46 (Operand.tmp 31) (Operand.tmp 30)')]
  go_wp2
  go_end0
  obtain ⟨s1, s2, s3⟩ := HF.out
  exact ⟨st.setRow who (.slice a1 (maxL r rc).length c1), rfl, rfl, by rw [Hr.out]; exact s1, s2, s3⟩

/-- Does the one know all that the other knows? -/
def aheadB (a b : List Int) : Bool := (List.range a.length).all fun i => decide (a.getD i 0 ≤ b.getD i 0)
theorem aheadB_iff (a b : List Int) : aheadB a b = true ↔ ∀ i, i < a.length → a.getD i 0 ≤ b.getD i 0 := by
  simp [aheadB]

theorem ahead_none (p : Value) (q : Value) (w : World) :
    Calls Try.prog 22 #[p, .pointer none, q] w fun e w' => e = .returned (.bool true) ∧ w = w' := by
  go_enter Try.func22, Try.ntmps22
  go_wp2
  go_ret
  exact ⟨rfl, rfl⟩

set_option maxHeartbeats 800000 in
theorem ahead_any (p : Value) (B B' ba bb : Nat) (ra rb : List Int) (w : World) (ha : ClockAt w B ba ra) (hb : ClockAt w B' bb rb) (hla : ra.length ≤ 200000) (hlb : rb.length ≤ 200000) (hvb : ∀ j, 0 ≤ rb.getD j 0) :
    Calls Try.prog 22 #[p, .pointer (some ⟨ba, 0, none⟩), .pointer (some ⟨bb, 0, none⟩)] w fun e w' => e = .returned (.bool (aheadB ra rb)) ∧ w = w' := by
  obtain ⟨aa, ca, _, hba, hra⟩ := ha
  obtain ⟨ab, cb, _, hbb, hrb⟩ := hb
  have hca : w.cell? ⟨ba, 0, none⟩ = some (.slice aa ra.length ca) := by simp [World.cell?, hba]
  have hcb : w.cell? ⟨bb, 0, none⟩ = some (.slice ab rb.length cb) := by simp [World.cell?, hbb]
  have Hvb := Lib.hid hvb
  clear hba hbb hvb
  go_enter Try.func22, Try.ntmps22
  go_wp2_with fail
  go_loop [16] (fun v16 => ∃ i : Nat, i ≤ ra.length ∧ v16 = .int .i64 i ∧ ∀ j, j < i → ra.getD j 0 ≤ rb.getD j 0) (fun v => ra.length - (intOf v).toNat)
  case atStart => exact ⟨0, Nat.zero_le _, rfl, fun j hj => by omega⟩
  case round =>
    obtain ⟨i, hi, rfl, hall⟩ := hrel
    have Hall := Lib.hid hall
    clear hall
    by_cases hlt : i < ra.length
    · obtain ⟨ga, cga, ea, _, _⟩ := hra.form (by omega)
      cases ea
      have hn := ints_cell hra i hlt
      obtain ⟨n, Hn⟩ : ∃ n, Hid (ra.getD i 0 = n) := ⟨_, Lib.hid rfl⟩
      obtain ⟨m, Hm⟩ : ∃ m, Hid (rb.getD i 0 = m) := ⟨_, Lib.hid rfl⟩
      rw [Hn.out] at hn
      have hm0 : 0 ≤ m := by rw [← Hm.out]; exact Hvb.out i
      have hcount := count_any _ _ _ (i : Int) w (row_zero hrb) (by omega) (by omega)
      rw [Int.toNat_natCast, Hm.out] at hcount
      have HC := Lib.hid hcount
      clear hcount
      by_cases hnm : n ≤ m
      · have HN : Hid (∀ j, j < i + 1 → ra.getD j 0 ≤ rb.getD j 0) := fun j hj => by
          by_cases e : j = i
          · subst e; rw [Hn.out, Hm.out]; exact hnm
          · exact Hall.out j (by omega)
        by_cases hn0 : 0 < n
        all_goals
          go_wp2_with (go_at_call 38; refine HC.out.mono ?_; rintro e w' ⟨rfl, rfl⟩)
          go_round
          case rel => exact ⟨i + 1, by omega, by go_num, HN.out⟩
          case measure => simp [intOf]; omega
      · have hn0 : 0 < n := by omega
        go_wp2_with (go_at_call 38; refine HC.out.mono ?_; rintro e w' ⟨rfl, rfl⟩)
        go_ret
        refine ⟨eret_bool ?_, rfl⟩
        symm
        rw [Bool.eq_false_iff]
        intro h
        have := (aheadB_iff ra rb).1 h i hlt
        rw [Hn.out, Hm.out] at this
        omega
    · go_wp2_with fail
      go_ret
      exact ⟨eret_bool ((aheadB_iff ra rb).2 (fun j hj => Hall.out j (by omega))).symm, rfl⟩

set_option maxHeartbeats 800000 in
theorem ahead_nil (p : Value) (B ba : Nat) (ra : List Int) (w : World) (ha : ClockAt w B ba ra) (hla : ra.length ≤ 200000) :
    Calls Try.prog 22 #[p, .pointer (some ⟨ba, 0, none⟩), .pointer none] w fun e w' => e = .returned (.bool (aheadB ra [])) ∧ w = w' := by
  obtain ⟨aa, ca, _, hba, hra⟩ := ha
  have hca : w.cell? ⟨ba, 0, none⟩ = some (.slice aa ra.length ca) := by simp [World.cell?, hba]
  clear hba
  go_enter Try.func22, Try.ntmps22
  go_wp2_with fail
  go_loop [16] (fun v16 => ∃ i : Nat, i ≤ ra.length ∧ v16 = .int .i64 i ∧ ∀ j, j < i → ra.getD j 0 ≤ 0) (fun v => ra.length - (intOf v).toNat)
  case atStart => exact ⟨0, Nat.zero_le _, rfl, fun j hj => by omega⟩
  case round =>
    obtain ⟨i, hi, rfl, hall⟩ := hrel
    have Hall := Lib.hid hall
    clear hall
    by_cases hlt : i < ra.length
    · obtain ⟨ga, cga, ea, _, _⟩ := hra.form (by omega)
      cases ea
      have hn := ints_cell hra i hlt
      obtain ⟨n, Hn⟩ : ∃ n, Hid (ra.getD i 0 = n) := ⟨_, Lib.hid rfl⟩
      rw [Hn.out] at hn
      by_cases hn0 : 0 < n
      · go_wp2_with fail
        go_ret
        refine ⟨eret_bool ?_, rfl⟩
        symm
        rw [Bool.eq_false_iff]
        intro h
        have := (aheadB_iff ra []).1 h i hlt
        rw [Hn.out, List.getD_nil] at this
        omega
      · have HN : Hid (∀ j, j < i + 1 → ra.getD j 0 ≤ 0) := fun j hj => by
          by_cases e : j = i
          · subst e; rw [Hn.out]; omega
          · exact Hall.out j (by omega)
        go_wp2_with fail
        go_round
        case rel => exact ⟨i + 1, by omega, by go_num, HN.out⟩
        case measure => simp [intOf]; omega
    · go_wp2_with fail
      go_ret
      exact ⟨eret_bool ((aheadB_iff ra []).2 (fun j hj => by rw [List.getD_nil]; exact Hall.out j (by omega))).symm, rfl⟩

end Go.Proofs.Ytkcaeeighjblkaa
