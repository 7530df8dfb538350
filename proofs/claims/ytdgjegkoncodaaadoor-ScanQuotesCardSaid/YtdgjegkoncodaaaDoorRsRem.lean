/- The reference's remark. Conditions: a remark begins there; the text fits. -/
import Derived.Test.YtdgjegkoncodaaaDoorRsSign
import Derived.Test.YtdgjegkoncodaaaDoorScRem
namespace Go.Proofs.YtdgjegkoncodaaaDoor
open Go.RowKit

/-- A remark from behind its head on: text l, n bytes behind, was a line's end among them. -/
def blkGo (l : List UInt8) (n : Nat) (b : Bool) : Item := match closeAt l with | none => .bad 0 | some k => .rem (n + k + 2) (b || (l.take k).contains 10)
theorem close_take : ∀ (l : List UInt8) (k : Nat), closeAt l = some k → l.take (k + 2) = l.take k ++ [42, 47]
  | [], k, h => by simp [closeAt] at h
  | c :: t, k, h => by
    unfold closeAt at h
    by_cases hc : (c == 42 && t.head? == some 47) = true
    · rw [if_pos hc] at h
      cases h
      cases t with
      | nil => simp at hc
      | cons d t' =>
        simp at hc
        rw [hc.1, hc.2]
        rfl
    · rw [if_neg hc] at h
      cases hk : closeAt t with
      | none => rw [hk] at h; simp at h
      | some i =>
        rw [hk] at h
        have e : i + 1 = k := by simpa using h
        subst e
        show c :: t.take (i + 2) = c :: (t.take i ++ [42, 47])
        rw [close_take t i hk]
theorem blk_start (t : List UInt8) : remItem (47 :: 42 :: t) = blkGo t 2 false := by
  unfold remItem blkGo
  rw [if_pos (by rfl)]
  show (match closeAt t with | none => Item.bad 0 | some k => .rem (k + 4) ((47 :: 42 :: t.take (k + 2)).contains 10)) = _
  cases hk : closeAt t with
  | none => rfl
  | some k =>
    show Item.rem (k + 4) ((47 :: 42 :: t.take (k + 2)).contains 10) = .rem (2 + k + 2) (false || (t.take k).contains 10)
    rw [close_take t k hk, show 2 + k + 2 = k + 4 by omega]
    congr 1
    simp
theorem hp_close (c : UInt8) (t : List UInt8) : Lib.hasPrefix (c :: t) [42, 47] = (c == 42 && t.head? == some 47) := by
  rw [hp_take (n := 2) rfl]
  cases t with
  | nil => simp
  | cons d t' => simp
theorem blk_step {c : UInt8} {t : List UInt8} (h : Lib.hasPrefix (c :: t) [42, 47] = false) (n : Nat) (b : Bool) : blkGo (c :: t) n b = blkGo t (n + 1) (b || c == 10) := by
  rw [hp_close] at h
  unfold blkGo
  rw [closeAt, if_neg (by rw [h]; exact Bool.false_ne_true)]
  cases hk : closeAt t with
  | none => rfl
  | some k =>
    show Item.rem (n + (k + 1) + 2) (b || (c :: t.take k).contains 10) = .rem (n + 1 + k + 2) ((b || c == 10) || (t.take k).contains 10)
    rw [List.contains_cons, Bool.or_assoc, show (10 == c) = (c == 10) from by rw [Bool.eq_iff_iff, beq_iff_eq, beq_iff_eq]; exact eq_comm, show n + (k + 1) + 2 = n + 1 + k + 2 by omega]
theorem blk_end {l : List UInt8} (h : Lib.hasPrefix l [42, 47] = true) (n : Nat) (b : Bool) : blkGo l n b = .rem (n + 2) b := by
  cases l with
  | nil => cases h
  | cons c t =>
    rw [hp_close] at h
    unfold blkGo
    rw [closeAt, if_pos h]
    show Item.rem (n + 0 + 2) (b || false) = _
    rw [Bool.or_false, Nat.add_zero]
theorem ritem_rem {w0 W : World} {p a n : Nat} {src : ByteArray} {l : List Tok} {c : List (Nat × Nat)} {e : Ending} {it : Item} {b : Bool} (hi : it = .rem n b) (he : e = .returned (.tuple #[])) (h : RsE w0 W p src (a + n) (if b then lineT l a else l) (c ++ [(a, a + n)]) 0 0) : RItemP w0 W p src a l c e it := by
  subst hi
  exact ⟨he, h⟩
theorem hasP_nil {s : List UInt8} (h : s ≠ []) : Lib.hasPrefix [] s = false := by
  cases s with
  | nil => exact absurd rfl h
  | cons c t => rfl
set_option maxRecDepth 100000 in
set_option maxHeartbeats 3200000 in
theorem rremline_any {w0 W : World} {p a : Nat} {src : ByteArray} {l : List Tok} {c : List (Nat × Nat)} (h : RsE w0 W p src a l c 0 0) (_hn : l.length ≤ 1000000) (hcn : c.length ≤ 1000000) (ha : a < src.size) (hs : src.size ≤ 65536) (hp : Lib.hasPrefix (src.data.toList.drop a) [47, 47] = true) (hi : remItem (src.data.toList.drop a) = .rem (lineLen (src.data.toList.drop a)) false) :
    Calls Tryd.prog 39 #[.pointer (some ⟨p, 0, none⟩)] W fun e W' => RItemP w0 W' p src a l c e (remItem (src.data.toList.drop a)) := by
  have H0 := Lib.hid h
  have HI := Lib.hid hi
  rw [hi]
  have HA := Lib.hid (at_any (t := ⟨#[47, 47]⟩) (b := true) h (Nat.le_of_lt ha) (by omega) (by decide) hp)
  obtain ⟨c3i, hc3i, hc3z, hc3s, hc3b⟩ := info_parts Tryd.infoSpan
  obtain ⟨n, Hn⟩ : ∃ n, Hid (lineLen (src.data.toList.drop a) = n) := ⟨_, Lib.hid rfl⟩
  rw [Hn.out]
  obtain ⟨c0, c1, _⟩ := h.cells
  clear h hi hp
  go_enter Tryd.func39, Tryd.ntmps39
  go_wp2_with (go_at_call 38; refine HA.out.mono ?_; rintro e w ⟨rfl, k, rfl⟩)
  clear c0 c1
  go_loopg [] (src.size - a) (fun g wr => ∃ q, a ≤ q ∧ q ≤ src.size ∧ g = src.size - q ∧ Hid (n = (q - a) + lineLen (src.data.toList.drop q)) ∧ Hid (RsE w0 wr p src q l c 0 0))
  case atStart => exact ⟨a, Nat.le_refl _, Nat.le_of_lt ha, rfl, Lib.hid (by rw [Hn.out]; omega), Lib.hid (H0.out.drewN _)⟩
  case round =>
    obtain ⟨q, haq, hq, rfl, HE, HS⟩ := hrel
    obtain ⟨c0, c1, f1⟩ := HS.out.cells
    by_cases hlt : q < src.size
    · have hlI : (q : Int) < (src.size : Int) := by omega
      obtain ⟨z, hz⟩ : ∃ z, src[q].toNat = z := ⟨_, rfl⟩
      have HZ := Lib.hid hz
      cases hz10 : ((z : Int) == 10) with
      | false =>
        have hne : ((z : Int) != 10) = true := by simp only [bne, hz10, Bool.not_false]
        obtain ⟨q1, Hq1⟩ : ∃ q1, Hid (q + 1 = q1) := ⟨_, Lib.hid rfl⟩
        have hw : IntKind.i64.wrap ((q : Int) + 1) = (q1 : Int) := by rw [IntKind.wrap_i64, ← Hq1.out]; omega
        have HE2 := Lib.hid (show n = (q1 - a) + lineLen (src.data.toList.drop q1) from by
          rw [HE.out, drop_at hlt, lineLen_cons, if_neg (by rw [show (src[q] == 10) = false from beq_z (n := 10) HZ.out hz10 (by decide)]; exact Bool.false_ne_true), Hq1.out]; have := Hq1.out; omega)
        go_wp2_with fail
        go_quiet (fail)
        go_wp2_with fail
        go_roundg (src.size - q1)
        case measure => have := Hq1.out; omega
        case rel => exact ⟨q1, by have := Hq1.out; omega, by have := Hq1.out; omega, rfl, HE2, Lib.hid ((HS.out.drewN _).setAt q1)⟩
      | true =>
        have hne : ((z : Int) != 10) = false := by simp only [bne, hz10, Bool.not_true]
        have HQ := Lib.hid (show a + n = q from by rw [HE.out, drop_at hlt, lineLen_cons, if_pos (show (src[q] == 10) = true from beq_z (n := 10) HZ.out hz10 (by decide))]; omega)
        go_wp2_with fail
        go_quiet (fail)
        go_upto_region 4 with fail
        obtain ⟨W1, HW1⟩ : ∃ W1, Hid (wr.drewN nq = W1) := ⟨_, Lib.hid rfl⟩
        have H1 := Lib.hid (HS.out.drewN nq)
        rw [HW1.out] at H1 ⊢
        clear c0 c1 f1
        obtain ⟨tv, rv, h1⟩ := H1.out
        have H2 := Lib.hid h1
        obtain ⟨_, c1, _, c3, _⟩ := h1.cells
        clear h1
        have HS : (fun w' : World => w'.cell? ⟨p, 1, none⟩ = some (.int .i64 (q : Int)) ∧ w'.cell? ⟨p, 3, none⟩ = some rv) W1.drew := ⟨c1, c3⟩
        clear c1 c3
        refine wp_region_pi (fun w' : World => w'.cell? ⟨p, 1, none⟩ = some (.int .i64 (q : Int)) ∧ w'.cell? ⟨p, 3, none⟩ = some rv) [(0, 1), (1, 1), (2, 1), (3, 1), (4, 0), (5, 1), (6, 1), (7, 1), (8, 1), (9, 0), (10, 1), (11, 2), (12, 3), (13, 3), (14, 3), (15, 3)] [(12, [4]), (12, [11, 10, 9]), (13, [4]), (13, [9]), (14, [4]), (14, [9]), (15, [4]), (15, [9])] (by kernel_rfl) (by kernel_rfl) (fun _ _ _ _ _ h => h) (HS) ?_
        refine pq_pu (some 39) rfl rfl (by rfl) (fun ws => by go_simp; try with_reducible rfl) ?_; go_frame   -- 0 Op.move (Operand.tmp 0)
        refine pq_pu (some 40) rfl rfl (by rfl) (fun ws => by go_simp; try with_reducible rfl) ?_; go_frame   -- 1 Op.move (Operand.tmp 0)
        refine pq_pu (some 41) rfl rfl (by rfl) (fun ws => by go_simp; try with_reducible rfl) ?_; go_frame   -- 2 Op.nilCheck (Operand.tmp 40)
        refine pq_pu (some 42) rfl rfl (by rfl) (fun ws => by go_simp; try with_reducible rfl) ?_; go_frame   -- 3 Op.fieldAddr 52 (Operand.tmp 41) 3
        refine pq_ld (some 43) rfl rfl (by rfl) (fun ws HS => by go_split_ands; go_simp; try with_reducible rfl) ?_; go_frame   -- 4 Op.load 37 (Operand.tmp 42)
        refine pq_pu (some 44) rfl rfl (by rfl) (fun ws => by go_simp; try with_reducible rfl) ?_; go_frame   -- 5 Op.move (Operand.tmp 2)
        refine pq_pu (some 45) rfl rfl (by rfl) (fun ws => by go_simp; try with_reducible rfl) ?_; go_frame   -- 6 Op.move (Operand.tmp 0)
        refine pq_pu (some 46) rfl rfl (by rfl) (fun ws => by go_simp; try with_reducible rfl) ?_; go_frame   -- 7 Op.nilCheck (Operand.tmp 45)
        refine pq_pu (some 47) rfl rfl (by rfl) (fun ws => by go_simp; try with_reducible rfl) ?_; go_frame   -- 8 Op.fieldAddr 52 (Operand.tmp 46) 1
        refine pq_ld (some 48) rfl rfl (by rfl) (fun ws HS => by go_split_ands; go_simp; try with_reducible rfl) ?_; go_frame   -- 9 Op.load 3 (Operand.tmp 47)
        refine pq_pu (some 49) rfl rfl (by rfl) (fun ws => by go_simp; try with_reducible rfl) ?_; go_frame   -- 10 Op.build 40 #[(0, Operand.tmp 44), (1, Operand.tmp 48)]
        refine pk_ke rfl (fun J hJ => ?_)   -- pi_ke 11 Op.buildSlice 37 1 #[(0, Operand.tmp 49)]
        go_wp2
        refine hJ _ _ ⟨cell_alloc HS.1, cell_alloc HS.2⟩ ?_
        refine pi_tail (by rfl) ?_; simp only [opsAt, List.getElem?_toArray, List.getElem?_cons_zero, List.getElem?_cons_succ]   -- [(12, 'Op.call { callee := Callee.builtin Builtin.append, args := #[Operand.tmp 43, Operand.tmp 50], argTypes := #[37, 37] }'), (13, 'Op.nilCheck (Operand.tmp 39)'), (14, 'Op.fieldAddr 52 (Operand.tmp 52) 3'), (15, 'Op.store 37 (Operand.tmp 53) (Operand.tmp 51)')]
        have HG := Lib.hid (H2.out.go ((Below.refl _ W1).drew.alloc (Nat.le_refl _) (.cells #[.int .i64 (a : Int), .int .i64 (q : Int)] 40)))
        have hrow := HG.out.rems
        have hp1 := H2.out.lt
        refine wpList_app _ rfl _ _ _ rfl (p + 1) 40 c3i _ 2 16 Tryd.underlying37 hc3i hc3z hc3s hc3b rfl rv c.length (spanCells c) rfl hrow ⟨W1.heap.size, 0, none⟩ 1 1 [.int .i64 (a : Int), .int .i64 (q : Int)] rfl rfl (World.news_of_block (cs := #[.int .i64 (a : Int), .int .i64 (q : Int)]) (t := 40) (fr := (0, 0)) (heap_alloc_new _ _)) ?c1 (by omega) (by unfold maxLen; omega) (by omega) (by simp; omega) ?_
        case c1 => intro u hu; simp at hu; rcases hu with h | h <;> (subst h; rfl)
        intro gg cap w2 hown2 hat
        have HA := Lib.hid (HG.out.appR hat)
        have HP := Lib.hid (Rs.pushR (t := (a, q)) HG.out hat hown2)
        have c2 : w2.cell? ⟨p, 3, none⟩ = some rv := by have h := HA.out.2.1; simp only [World.cell?, h]; rfl
        have f2 : w2.frozen? ⟨p, 3, none⟩ = false := by have h := HA.out.2.1; simp only [World.frozen?, h]; simp
        clear hat hown2 hrow hp1 HS
        go_wp2_with fail
        refine bodyPost_ret (results_none rfl _ _ _) rfl ?_
        refine ritem_rem (b := false) rfl rfl ?_
        rw [HQ.out]
        exact ⟨_, _, HP.out⟩
    · have hlf : decide ((q : Int) < (src.size : Int)) = false := decide_eq_false (by omega)
      have HQ := Lib.hid (show a + n = q from by rw [HE.out, drop_end (by omega)]; show a + (q - a + 0) = q; omega)
      go_wp2_with fail
      go_quiet (fail)
      go_upto_region 4 with fail
      obtain ⟨W1, HW1⟩ : ∃ W1, Hid (wr.drewN nq = W1) := ⟨_, Lib.hid rfl⟩
      have H1 := Lib.hid (HS.out.drewN nq)
      rw [HW1.out] at H1 ⊢
      clear c0 c1 f1
      obtain ⟨tv, rv, h1⟩ := H1.out
      have H2 := Lib.hid h1
      obtain ⟨_, c1, _, c3, _⟩ := h1.cells
      clear h1
      have HS : (fun w' : World => w'.cell? ⟨p, 1, none⟩ = some (.int .i64 (q : Int)) ∧ w'.cell? ⟨p, 3, none⟩ = some rv) W1.drew := ⟨c1, c3⟩
      clear c1 c3
      refine wp_region_pi (fun w' : World => w'.cell? ⟨p, 1, none⟩ = some (.int .i64 (q : Int)) ∧ w'.cell? ⟨p, 3, none⟩ = some rv) [(0, 1), (1, 1), (2, 1), (3, 1), (4, 0), (5, 1), (6, 1), (7, 1), (8, 1), (9, 0), (10, 1), (11, 2), (12, 3), (13, 3), (14, 3), (15, 3)] [(12, [4]), (12, [11, 10, 9]), (13, [4]), (13, [9]), (14, [4]), (14, [9]), (15, [4]), (15, [9])] (by kernel_rfl) (by kernel_rfl) (fun _ _ _ _ _ h => h) (HS) ?_
      refine pq_pu (some 39) rfl rfl (by rfl) (fun ws => by go_simp; try with_reducible rfl) ?_; go_frame   -- 0 Op.move (Operand.tmp 0)
      refine pq_pu (some 40) rfl rfl (by rfl) (fun ws => by go_simp; try with_reducible rfl) ?_; go_frame   -- 1 Op.move (Operand.tmp 0)
      refine pq_pu (some 41) rfl rfl (by rfl) (fun ws => by go_simp; try with_reducible rfl) ?_; go_frame   -- 2 Op.nilCheck (Operand.tmp 40)
      refine pq_pu (some 42) rfl rfl (by rfl) (fun ws => by go_simp; try with_reducible rfl) ?_; go_frame   -- 3 Op.fieldAddr 52 (Operand.tmp 41) 3
      refine pq_ld (some 43) rfl rfl (by rfl) (fun ws HS => by go_split_ands; go_simp; try with_reducible rfl) ?_; go_frame   -- 4 Op.load 37 (Operand.tmp 42)
      refine pq_pu (some 44) rfl rfl (by rfl) (fun ws => by go_simp; try with_reducible rfl) ?_; go_frame   -- 5 Op.move (Operand.tmp 2)
      refine pq_pu (some 45) rfl rfl (by rfl) (fun ws => by go_simp; try with_reducible rfl) ?_; go_frame   -- 6 Op.move (Operand.tmp 0)
      refine pq_pu (some 46) rfl rfl (by rfl) (fun ws => by go_simp; try with_reducible rfl) ?_; go_frame   -- 7 Op.nilCheck (Operand.tmp 45)
      refine pq_pu (some 47) rfl rfl (by rfl) (fun ws => by go_simp; try with_reducible rfl) ?_; go_frame   -- 8 Op.fieldAddr 52 (Operand.tmp 46) 1
      refine pq_ld (some 48) rfl rfl (by rfl) (fun ws HS => by go_split_ands; go_simp; try with_reducible rfl) ?_; go_frame   -- 9 Op.load 3 (Operand.tmp 47)
      refine pq_pu (some 49) rfl rfl (by rfl) (fun ws => by go_simp; try with_reducible rfl) ?_; go_frame   -- 10 Op.build 40 #[(0, Operand.tmp 44), (1, Operand.tmp 48)]
      refine pk_ke rfl (fun J hJ => ?_)   -- pi_ke 11 Op.buildSlice 37 1 #[(0, Operand.tmp 49)]
      go_wp2
      refine hJ _ _ ⟨cell_alloc HS.1, cell_alloc HS.2⟩ ?_
      refine pi_tail (by rfl) ?_; simp only [opsAt, List.getElem?_toArray, List.getElem?_cons_zero, List.getElem?_cons_succ]   -- [(12, 'Op.call { callee := Callee.builtin Builtin.append, args := #[Operand.tmp 43, Operand.tmp 50], argTypes := #[37, 37] }'), (13, 'Op.nilCheck (Operand.tmp 39)'), (14, 'Op.fieldAddr 52 (Operand.tmp 52) 3'), (15, 'Op.store 37 (Operand.tmp 53) (Operand.tmp 51)')]
      have HG := Lib.hid (H2.out.go ((Below.refl _ W1).drew.alloc (Nat.le_refl _) (.cells #[.int .i64 (a : Int), .int .i64 (q : Int)] 40)))
      have hrow := HG.out.rems
      have hp1 := H2.out.lt
      refine wpList_app _ rfl _ _ _ rfl (p + 1) 40 c3i _ 2 16 Tryd.underlying37 hc3i hc3z hc3s hc3b rfl rv c.length (spanCells c) rfl hrow ⟨W1.heap.size, 0, none⟩ 1 1 [.int .i64 (a : Int), .int .i64 (q : Int)] rfl rfl (World.news_of_block (cs := #[.int .i64 (a : Int), .int .i64 (q : Int)]) (t := 40) (fr := (0, 0)) (heap_alloc_new _ _)) ?c1 (by omega) (by unfold maxLen; omega) (by omega) (by simp; omega) ?_
      case c1 => intro u hu; simp at hu; rcases hu with h | h <;> (subst h; rfl)
      intro gg cap w2 hown2 hat
      have HA := Lib.hid (HG.out.appR hat)
      have HP := Lib.hid (Rs.pushR (t := (a, q)) HG.out hat hown2)
      have c2 : w2.cell? ⟨p, 3, none⟩ = some rv := by have h := HA.out.2.1; simp only [World.cell?, h]; rfl
      have f2 : w2.frozen? ⟨p, 3, none⟩ = false := by have h := HA.out.2.1; simp only [World.frozen?, h]; simp
      clear hat hown2 hrow hp1 HS
      go_wp2_with fail
      refine bodyPost_ret (results_none rfl _ _ _) rfl ?_
      refine ritem_rem (b := false) rfl rfl ?_
      rw [HQ.out]
      exact ⟨_, _, HP.out⟩
set_option maxRecDepth 100000 in
set_option maxHeartbeats 3200000 in
theorem rremblk_any {w0 W : World} {p a : Nat} {src : ByteArray} {l : List Tok} {c : List (Nat × Nat)} (h : RsE w0 W p src a l c 0 0) (hn : l.length ≤ 1000000) (hcn : c.length ≤ 1000000) (ha : a + 1 < src.size) (hs : src.size ≤ 65536) (hp : Lib.hasPrefix (src.data.toList.drop a) [47, 47] = false) (hi : remItem (src.data.toList.drop a) = blkGo (src.data.toList.drop (a + 2)) 2 false) :
    Calls Tryd.prog 39 #[.pointer (some ⟨p, 0, none⟩)] W fun e W' => RItemP w0 W' p src a l c e (remItem (src.data.toList.drop a)) := by
  have H0 := Lib.hid h
  have Hn := Lib.hid hn
  obtain ⟨it, Hit⟩ : ∃ it, Hid (remItem (src.data.toList.drop a) = it) := ⟨_, Lib.hid rfl⟩
  have HI := Lib.hid (show it = blkGo (src.data.toList.drop (a + 2)) 2 false from Hit.out.symm.trans hi)
  rw [Hit.out]
  have HA := Lib.hid (at_any (t := ⟨#[47, 47]⟩) (b := false) h (by omega) (by omega) (by decide) hp)
  obtain ⟨c3i, hc3i, hc3z, hc3s, hc3b⟩ := info_parts Tryd.infoSpan
  obtain ⟨c0, c1, f1⟩ := h.cells
  clear h hi hp
  obtain ⟨a2, Ha2⟩ : ∃ a2, Hid (a + 2 = a2) := ⟨_, Lib.hid rfl⟩
  have hw : IntKind.i64.wrap ((a : Int) + 2) = (a2 : Int) := by rw [IntKind.wrap_i64, ← Ha2.out]; omega
  go_enter Tryd.func39, Tryd.ntmps39
  go_wp2_with (go_at_call 38; refine HA.out.mono ?_; rintro e w ⟨rfl, k, rfl⟩)
  clear c0 c1 f1
  go_loopg [3] (src.size - a2) (fun g v3 wr => ∃ q b, a2 ≤ q ∧ q ≤ src.size ∧ g = src.size - q ∧ v3 = .bool b ∧ Hid (it = blkGo (src.data.toList.drop q) (q - a) b) ∧ Hid (RsE w0 wr p src q l c 0 0))
  case atStart => exact ⟨a2, false, Nat.le_refl _, by have := Ha2.out; omega, rfl, rfl, Lib.hid (by rw [HI.out, Ha2.out, ← Ha2.out, Nat.add_sub_cancel_left]), Lib.hid ((H0.out.drewN _).setAt a2)⟩
  case round =>
    obtain ⟨q, b, haq, hq, rfl, rfl, HE, HS⟩ := hrel
    obtain ⟨c0, c1, f1⟩ := HS.out.cells
    by_cases hlt : q < src.size
    · have hlI : (q : Int) < (src.size : Int) := by omega
      have hgef : decide ((src.size : Int) ≤ (q : Int)) = false := decide_eq_false (by omega)
      cases hpc : Lib.hasPrefix (src.data.toList.drop q) [42, 47] with
      | false =>
        have HAq := Lib.hid (fun m => at_any (t := ⟨#[42, 47]⟩) (b := false) (HS.out.drewN m) (by omega) (by omega) (by decide) hpc)
        obtain ⟨z, hz⟩ : ∃ z, src[q].toNat = z := ⟨_, rfl⟩
        have HZ := Lib.hid hz
        obtain ⟨q1, Hq1⟩ : ∃ q1, Hid (q + 1 = q1) := ⟨_, Lib.hid rfl⟩
        have hw1 : IntKind.i64.wrap ((q : Int) + 1) = (q1 : Int) := by rw [IntKind.wrap_i64, ← Hq1.out]; omega
        obtain ⟨y, hy⟩ : ∃ y, ((z : Int) == 10) = y := ⟨_, rfl⟩
        have Hyb := Lib.hid (show (src[q] == 10) = y from beq_z (n := 10) HZ.out hy (by decide))
        have HE2 := Lib.hid (show it = blkGo (src.data.toList.drop q1) (q1 - a) (b || y) from by
          rw [HE.out, drop_at hlt, blk_step (by rw [← drop_at hlt]; exact hpc), Hyb.out, Hq1.out, show q - a + 1 = q1 - a from by have := Hq1.out; have := Ha2.out; omega])
        clear hpc
        cases b
        all_goals
          go_wp2_with fail
          go_quiet (first | (go_at_call 38; exact (HAq.out _).mono (fun e w h => ⟨h.1, h.2.elim (fun m hm => ⟨_, hm.trans (World.drewN_drewN ..)⟩)⟩)))
          go_wp2_with fail
          go_quiet (fail)
          go_wp2_with fail
          go_roundg (src.size - q1)
          case measure => have := Hq1.out; omega
          case rel => exact ⟨q1, _, by have := Hq1.out; omega, by have := Hq1.out; omega, rfl, rfl, HE2, Lib.hid ((HS.out.drewN _).setAt q1)⟩
      | true =>
        have HAq := Lib.hid (fun m => at_any (t := ⟨#[42, 47]⟩) (b := true) (HS.out.drewN m) (by omega) (by omega) (by decide) hpc)
        obtain ⟨e1, He1⟩ : ∃ e1, Hid (q + 2 = e1) := ⟨_, Lib.hid rfl⟩
        have hw1 : IntKind.i64.wrap ((q : Int) + 2) = (e1 : Int) := by rw [IntKind.wrap_i64, ← He1.out]; omega
        have HQ := Lib.hid (show it = .rem (q - a + 2) b from by rw [HE.out, blk_end hpc])
        have HQ2 := Lib.hid (show a + (q - a + 2) = e1 from by have := He1.out; have := Ha2.out; omega)
        clear hpc
        go_wp2_with fail
        go_quiet (first | (go_at_call 38; exact (HAq.out _).mono (fun e w h => ⟨h.1, h.2.elim (fun m hm => ⟨_, hm.trans (World.drewN_drewN ..)⟩)⟩)))
        obtain ⟨wb, Hwb⟩ : ∃ wb, Hid (wr.drewN nq = wb) := ⟨_, Lib.hid rfl⟩
        have HB1 := Lib.hid (HS.out.drewN nq)
        rw [Hwb.out] at HB1 ⊢
        clear c0 c1 f1
        obtain ⟨c0, c1, f1⟩ := HB1.out.cells
        go_wp2_with fail
        go_quiet (fail)
        go_upto_region 13 with fail
        obtain ⟨W1, HW1⟩ : ∃ W1, Hid ((wb.drewN nq).setCell ⟨p, 1, none⟩ (.int .i64 (e1 : Int)) = W1) := ⟨_, Lib.hid rfl⟩
        have H1 := Lib.hid ((HB1.out.drewN nq).setAt e1)
        rw [HW1.out] at H1 ⊢
        clear c0 c1 f1
        obtain ⟨tv, rv, h1⟩ := H1.out
        have H2 := Lib.hid h1
        obtain ⟨_, c1, _, c3, _⟩ := h1.cells
        clear h1
        have HS : (fun w' : World => w'.cell? ⟨p, 1, none⟩ = some (.int .i64 (e1 : Int)) ∧ w'.cell? ⟨p, 3, none⟩ = some rv) W1.drew := ⟨c1, c3⟩
        clear c1 c3
        refine wp_region_pi (fun w' : World => w'.cell? ⟨p, 1, none⟩ = some (.int .i64 (e1 : Int)) ∧ w'.cell? ⟨p, 3, none⟩ = some rv) [(0, 1), (1, 1), (2, 1), (3, 1), (4, 0), (5, 1), (6, 1), (7, 1), (8, 1), (9, 0), (10, 1), (11, 2), (12, 3), (13, 3), (14, 3), (15, 3)] [(12, [4]), (12, [11, 10, 9]), (13, [4]), (13, [9]), (14, [4]), (14, [9]), (15, [4]), (15, [9])] (by kernel_rfl) (by kernel_rfl) (fun _ _ _ _ _ h => h) (HS) ?_
        refine pq_pu (some 118) rfl rfl (by rfl) (fun ws => by go_simp; try with_reducible rfl) ?_; go_frame   -- 0 Op.move (Operand.tmp 0)
        refine pq_pu (some 119) rfl rfl (by rfl) (fun ws => by go_simp; try with_reducible rfl) ?_; go_frame   -- 1 Op.move (Operand.tmp 0)
        refine pq_pu (some 120) rfl rfl (by rfl) (fun ws => by go_simp; try with_reducible rfl) ?_; go_frame   -- 2 Op.nilCheck (Operand.tmp 119)
        refine pq_pu (some 121) rfl rfl (by rfl) (fun ws => by go_simp; try with_reducible rfl) ?_; go_frame   -- 3 Op.fieldAddr 52 (Operand.tmp 120) 3
        refine pq_ld (some 122) rfl rfl (by rfl) (fun ws HS => by go_split_ands; go_simp; try with_reducible rfl) ?_; go_frame   -- 4 Op.load 37 (Operand.tmp 121)
        refine pq_pu (some 123) rfl rfl (by rfl) (fun ws => by go_simp; try with_reducible rfl) ?_; go_frame   -- 5 Op.move (Operand.tmp 2)
        refine pq_pu (some 124) rfl rfl (by rfl) (fun ws => by go_simp; try with_reducible rfl) ?_; go_frame   -- 6 Op.move (Operand.tmp 0)
        refine pq_pu (some 125) rfl rfl (by rfl) (fun ws => by go_simp; try with_reducible rfl) ?_; go_frame   -- 7 Op.nilCheck (Operand.tmp 124)
        refine pq_pu (some 126) rfl rfl (by rfl) (fun ws => by go_simp; try with_reducible rfl) ?_; go_frame   -- 8 Op.fieldAddr 52 (Operand.tmp 125) 1
        refine pq_ld (some 127) rfl rfl (by rfl) (fun ws HS => by go_split_ands; go_simp; try with_reducible rfl) ?_; go_frame   -- 9 Op.load 3 (Operand.tmp 126)
        refine pq_pu (some 128) rfl rfl (by rfl) (fun ws => by go_simp; try with_reducible rfl) ?_; go_frame   -- 10 Op.build 40 #[(0, Operand.tmp 123), (1, Operand.tmp 127)]
        refine pk_ke rfl (fun J hJ => ?_)   -- pi_ke 11 Op.buildSlice 37 1 #[(0, Operand.tmp 128)]
        go_wp2
        refine hJ _ _ ⟨cell_alloc HS.1, cell_alloc HS.2⟩ ?_
        refine pi_tail (by rfl) ?_; simp only [opsAt, List.getElem?_toArray, List.getElem?_cons_zero, List.getElem?_cons_succ]   -- [(12, 'Op.call { callee := Callee.builtin Builtin.append, args := #[Operand.tmp 122, Operand.tmp 129], argTypes := #[37, 37] }'), (13, 'Op.nilCheck (Operand.tmp 118)'), (14, 'Op.fieldAddr 52 (Operand.tmp 131) 3'), (15, 'Op.store 37 (Operand.tmp 132) (Operand.tmp 130)')]
        have HG := Lib.hid (H2.out.go ((Below.refl _ W1).drew.alloc (Nat.le_refl _) (.cells #[.int .i64 (a : Int), .int .i64 (e1 : Int)] 40)))
        have hrow := HG.out.rems
        have hp1 := H2.out.lt
        refine wpList_app _ rfl _ _ _ rfl (p + 1) 40 c3i _ 2 16 Tryd.underlying37 hc3i hc3z hc3s hc3b rfl rv c.length (spanCells c) rfl hrow ⟨W1.heap.size, 0, none⟩ 1 1 [.int .i64 (a : Int), .int .i64 (e1 : Int)] rfl rfl (World.news_of_block (cs := #[.int .i64 (a : Int), .int .i64 (e1 : Int)]) (t := 40) (fr := (0, 0)) (heap_alloc_new _ _)) ?c1 (by omega) (by unfold maxLen; omega) (by omega) (by simp; omega) ?_
        case c1 => intro u hu; simp at hu; rcases hu with h | h <;> (subst h; rfl)
        intro gg cap w2 hown2 hat
        have HA := Lib.hid (HG.out.appR hat)
        have HP := Lib.hid (Rs.pushR (t := (a, e1)) HG.out hat hown2)
        have c2 : w2.cell? ⟨p, 3, none⟩ = some rv := by have h := HA.out.2.1; simp only [World.cell?, h]; rfl
        have f2 : w2.frozen? ⟨p, 3, none⟩ = false := by have h := HA.out.2.1; simp only [World.frozen?, h]; simp
        clear hat hown2 hrow hp1 HS
        cases b with
        | false =>
          go_wp2_with fail
          go_end0
          refine ritem_rem HQ.out rfl ?_
          rw [HQ2.out]
          exact ⟨_, _, HP.out⟩
        | true =>
          go_wp2_with (go_at_call 37; refine hold ?_)
          refine Hold.mk ?_
          refine (rline_any ⟨_, _, HP.out⟩ Hn.out a).mono ?_
          rintro e W' ⟨rfl, hS⟩
          have HS2 := Lib.hid hS
          clear hS
          go_wp2_with fail
          go_end0
          refine ritem_rem HQ.out rfl ?_
          rw [HQ2.out]
          exact HS2.out
    · have hlf : decide ((q : Int) < (src.size : Int)) = false := decide_eq_false (by omega)
      have hge : (src.size : Int) ≤ (q : Int) := by omega
      have HQ := Lib.hid (show it = .bad 0 from by rw [HE.out, drop_end (by omega)]; rfl)
      go_wp2_with fail
      go_quiet (fail)
      go_wp2_with fail
      go_quiet (fail)
      go_wp2_with (go_at_call 57; refine hold ?_)
      refine Hold.mk ?_
      refine (wrong_any (HS.out.drewN _) (a : Int)).mono ?_
      rintro e W' ⟨rfl, hS⟩
      have HS2 := Lib.hid hS
      clear hS
      go_wp2_with fail
      refine bodyPost_ret (results_none rfl _ _ _) rfl ?_
      exact ritem_bad HQ.out rfl (by simp) ⟨_, HS2.out⟩
end Go.Proofs.YtdgjegkoncodaaaDoor
