/- scan's remark. Conditions: a remark begins there; the text fits; the library's MaxLen holds an int. -/
import Derived.Test.YtdgjegkoncodaaaDoorScTextW
import Derived.Test.YtdgjegkoncodaaaDoorScLine
import Derived.Lib.IndexMore
namespace Go.Proofs.YtdgjegkoncodaaaDoor
open Go.RowKit

theorem lineLen_cons (c : UInt8) (t : List UInt8) : lineLen (c :: t) = if c == 10 then 0 else lineLen t + 1 := by
  unfold lineLen
  rw [List.takeWhile_cons]
  cases h : (c == 10) <;> simp [bne, h]
theorem lineLen_ix : ∀ (r : List UInt8), (Lib.indexByte r 10 = -1 ∧ lineLen r = r.length) ∨ Lib.indexByte r 10 = (lineLen r : Int)
  | [] => .inl ⟨rfl, rfl⟩
  | c :: t => by
    rw [lineLen_cons]
    unfold Lib.indexByte
    cases h : (c == 10) with
    | true => exact .inr rfl
    | false =>
      rcases lineLen_ix t with ⟨h1, h2⟩ | h1
      · left
        rw [h1, h2]
        exact ⟨rfl, rfl⟩
      · right
        rw [h1]
        have : ((lineLen t : Int) == -1) = false := by rw [beq_eq_false_iff_ne]; omega
        simp [this]
theorem take_line : ∀ (r : List UInt8), (r.take (lineLen r)).contains 10 = false
  | [] => rfl
  | c :: t => by
    rw [lineLen_cons]
    cases h : (c == 10) with
    | true => rfl
    | false =>
      have h2 : (10 == c) = false := by rw [beq_eq_false_iff_ne] at h ⊢; exact fun e => h e.symm
      simp only [Bool.false_eq_true, if_false, List.take_succ_cons, List.contains_cons, h2, Bool.false_or]
      exact take_line t
theorem occ_head (c : UInt8) (t : List UInt8) : Lib.occAt (c :: t) [42, 47] 0 = (c == 42 && t.head? == some 47) := by
  unfold Lib.occAt
  cases t with
  | nil => simp [List.isPrefixOf]
  | cons d t' => 
    simp only [List.drop_zero, List.isPrefixOf, List.head?_cons, Bool.and_true]
    rw [Bool.eq_iff_iff]
    simp
    exact ⟨fun h => ⟨h.1.symm, h.2.symm⟩, fun h => ⟨h.1.symm, h.2.symm⟩⟩
theorem occ_succ (c : UInt8) (t : List UInt8) (j : Nat) : Lib.occAt (c :: t) [42, 47] (j + 1) = Lib.occAt t [42, 47] j := by unfold Lib.occAt; rw [List.drop_succ_cons]
theorem closeAt_some : ∀ (l : List UInt8) (k : Nat), closeAt l = some k → Lib.occAt l [42, 47] k = true ∧ ∀ j, j < k → Lib.occAt l [42, 47] j = false
  | [], k, h => by simp [closeAt] at h
  | c :: t, k, h => by
    unfold closeAt at h
    by_cases hc : (c == 42 && t.head? == some 47) = true
    · rw [if_pos hc] at h
      cases h
      exact ⟨by rw [occ_head]; exact hc, fun j hj => absurd hj (Nat.not_lt_zero _)⟩
    · rw [if_neg hc] at h
      cases hk : closeAt t with
      | none => rw [hk] at h; simp at h
      | some i =>
        rw [hk] at h
        have e : i + 1 = k := by simpa using h
        subst e
        obtain ⟨h1, h2⟩ := closeAt_some t i hk
        refine ⟨by rw [occ_succ]; exact h1, fun j hj => ?_⟩
        cases j with
        | zero => rw [occ_head]; simpa using hc
        | succ j => rw [occ_succ]; exact h2 j (by omega)
theorem closeAt_none : ∀ (l : List UInt8), closeAt l = none → ∀ j, Lib.occAt l [42, 47] j = false
  | [], _, j => by simp [Lib.occAt]
  | c :: t, h, j => by
    unfold closeAt at h
    by_cases hc : (c == 42 && t.head? == some 47) = true
    · rw [if_pos hc] at h; cases h
    · rw [if_neg hc] at h
      cases hk : closeAt t with
      | some i => rw [hk] at h; simp at h
      | none =>
        cases j with
        | zero => rw [occ_head]; simpa using hc
        | succ j => rw [occ_succ]; exact closeAt_none t hk j
theorem close_ix (l : List UInt8) : Lib.index l [42, 47] = match closeAt l with | some k => (k : Int) | none => -1 := by
  cases h : closeAt l with
  | none => exact Lib.index_none (fun j _ => closeAt_none l h j)
  | some k =>
    obtain ⟨h1, h2⟩ := closeAt_some l k h
    have := closeAt_le l k h
    exact Lib.index_first (by omega) h1 h2
theorem item_rem {w0 W : World} {p a n : Nat} {src : ByteArray} {l : List Tok} {c : List (Nat × Nat)} {e : Ending} {it : Item} {b : Bool} (hi : it = .rem n b) (he : e = .returned (.tuple #[])) (h : ScE w0 W p src (a + n) (if b then lineT l a else l) (c ++ [(a, a + n)])) : ItemP w0 W p src a l c e it := by
  subst hi
  exact ⟨he, h⟩
/-- What stands at a remark's head. -/
def remItem (r : List UInt8) : Item := if (r.drop 1).head? == some 42 then (match closeAt (r.drop 2) with | none => .bad 0 | some k => .rem (k + 4) ((r.take (k + 4)).contains 10)) else .rem (lineLen r) false
theorem ibyte_C {s : ByteArray} {v : Int} (h : Lib.indexByte s.data.toList 10 = v) (W : World) : Calls Tryd.prog 62 #[.string s, .int .u8 10] W (fun e w' => e = .returned (.int .i64 v) ∧ W = w') := by
  have h2 := Tryd.strings_IndexByte s 10 W
  rw [show (10 : Int).toNat.toUInt8 = 10 from rfl, h] at h2
  exact h2.mono fun e w h => ⟨h.1, h.2.symm⟩
set_option maxRecDepth 100000 in
set_option maxHeartbeats 3200000 in
theorem remark_any {w0 W : World} {p a : Nat} {src : ByteArray} {l : List Tok} {c : List (Nat × Nat)} {m : Int} (h : ScE w0 W p src a l c) (hm : w0.cell? ⟨2, 0, none⟩ = some (.int .i64 m)) (hp : 2 < p) (hn : l.length ≤ 1000000) (hcn : c.length ≤ 1000000) (ha : a + 1 < src.size) (hs : src.size ≤ 65536) :
    Calls Tryd.prog 51 #[.pointer (some ⟨p, 0, none⟩)] W fun e W' => ItemP w0 W' p src a l c e (remItem (src.data.toList.drop a)) := by
  have Hn := Lib.hid hn
  have H0 := Lib.hid h
  have Hm := Lib.hid (show W.cell? ⟨2, 0, none⟩ = some (.int .i64 m) from by
    have h1 := h.below.block 2 hp
    have h2 : W.cell? ⟨2, 0, none⟩ = w0.cell? ⟨2, 0, none⟩ := by simp only [World.cell?, h1]
    rw [h2, hm])
  obtain ⟨c0, c1, f1⟩ := h.cells
  obtain ⟨r, Hr⟩ : ∃ r, Hid (src.data.toList.drop a = r) := ⟨_, Lib.hid rfl⟩
  rw [Hr.out]
  obtain ⟨T, hT⟩ : ∃ T, src.extract a src.size = T := ⟨_, rfl⟩
  have HTl := Lib.hid (show T.data.toList = r from by rw [← hT, extract_at, strB_toList, ← Hr.out, List.take_of_length_le (by rw [List.length_drop, bytes_len]; omega)])
  have HTs := Lib.hid (show T.size = src.size - a from by rw [← bytes_len, HTl.out, ← Hr.out, List.length_drop, bytes_len])
  have hT1 : (1 : Int) < (T.size : Int) := by rw [HTs.out]; omega
  have hT1n : 1 < T.size := by omega
  obtain ⟨z, hz⟩ : ∃ z, T[1].toNat = z := ⟨_, rfl⟩
  have HZ := Lib.hid (show (r.drop 1).head?.map (·.toNat) = some z from by
    rw [← HTl.out, drop_at hT1n, ← hz]
    rfl)
  have HIX := Lib.hid (fun (v : Int) (h : Lib.indexByte r 10 = v) (W : World) => ibyte_C (s := T) (v := v) (by rw [HTl.out]; exact h) W)
  have HB := Lib.hid (fun W => bad_any (W := W) (p := p) (a : Int))
  have HL := Lib.hid (show r.length = src.size - a from by rw [← Hr.out, List.length_drop, bytes_len])
  clear h hn hm hp
  obtain ⟨c3i, hc3i, hc3z, hc3s, hc3b⟩ := info_parts Tryd.infoSpan
  cases hz42 : ((z : Int) == 42) with
  | true =>
    have Hst := Lib.hid (show (r.drop 1).head? = some 42 from by
      have h := HZ.out
      cases hh : (r.drop 1).head? with
      | none => rw [hh] at h; cases h
      | some y =>
        rw [hh] at h
        have h2 : y.toNat = z := by simpa using h
        have h3 : y = 42 := u8_eq (n := 42) (by rw [h2]; exact hz42) (by decide)
        rw [h3])
    obtain ⟨v1, Hv1⟩ : ∃ v1, Hid (Lib.indexByte r 10 = v1) := ⟨_, Lib.hid rfl⟩
    have HI1 := Lib.hid (HIX.out v1 Hv1.out)
    obtain ⟨T3, hT3⟩ : ∃ T3, T.extract 2 T.size = T3 := ⟨_, rfl⟩
    have hT2s : (2 : Int) ≤ (T.size : Int) := by omega
    have HT3 := Lib.hid (show T3.data.toList = r.drop 2 from by rw [← hT3, extract_at, strB_toList, HTl.out, List.take_of_length_le (by rw [List.length_drop, ← HTl.out, bytes_len]; omega)])
    have HT3s := Lib.hid (show T3.size < 4294967281 from by rw [← bytes_len, HT3.out, List.length_drop, HL.out]; omega)
    have HX := Lib.hid ((Tryd.strings_Index T3 ⟨#[42, 47]⟩ m W HT3s.out Hm.out).mono (R' := fun e w' => e = .returned (.int .i64 (Lib.index T3.data.toList (⟨#[42, 47]⟩ : ByteArray).data.toList)) ∧ W = w') fun e w h => ⟨h.1, h.2.symm⟩)
    have HX2 := Lib.hid (show Lib.index T3.data.toList (⟨#[42, 47]⟩ : ByteArray).data.toList = match closeAt (r.drop 2) with | some k => (k : Int) | none => -1 from by rw [HT3.out]; exact close_ix _)
    cases hk : closeAt (r.drop 2) with
    | none =>
      have HI := Lib.hid (show remItem r = .bad 0 from by unfold remItem; rw [Hst.out, hk]; rfl)
      rw [HX2.out, hk] at HX
      clear hk
      go_enter Tryd.func51, Tryd.ntmps51
      go_wp2_with (first | (go_at_call 62; refine (HI1.out _).mono ?_; rintro e W' ⟨rfl, rfl⟩) | (go_at_call 63; refine HX.out.mono ?_; rintro e W' ⟨rfl, rfl⟩) | (go_at_call 52; refine (HB.out _).mono ?_; rintro e W' ⟨rfl, rfl⟩))
      exact ⟨rfl, item_bad HI.out (by first | assumption | exact Eq.symm (by assumption)) H0.out.below⟩
    | some k =>
      obtain ⟨n, Hnk⟩ : ∃ n, Hid (k + 4 = n) := ⟨_, Lib.hid rfl⟩
      have HN := Lib.hid (show n ≤ T.size from by have := closeAt_le _ _ hk; rw [List.length_drop, HL.out] at this; have := HTs.out; rw [← Hnk.out]; omega)
      have HQ := Lib.hid (show remItem r = .rem n ((r.take n).contains 10) from by unfold remItem; rw [Hst.out, hk, ← Hnk.out]; rfl)
      have hwk : IntKind.i64.wrap ((k : Int) + 4) = (n : Int) := by have := HN.out; have := HTs.out; rw [IntKind.wrap_i64, ← Hnk.out]; have := Hnk.out; omega
      rw [HX2.out, hk] at HX
      have HX3 := Lib.hid (show Calls Tryd.prog 63 #[.string T3, .string ⟨#[42, 47]⟩] W (fun e w' => e = .returned (.int .i64 (k : Int)) ∧ W = w') from HX.out)
      clear hk HX
      go_enter Tryd.func51, Tryd.ntmps51
      go_upto_region 10 with first
        | (go_at_call 62; refine (HI1.out _).mono ?_; rintro e W' ⟨rfl, rfl⟩)
        | (go_at_call 63; refine HX3.out.mono ?_; rintro e W' ⟨rfl, rfl⟩)
      obtain ⟨e1, He1⟩ : ∃ e1, Hid (a + n = e1) := ⟨_, Lib.hid rfl⟩
      have hwn : IntKind.i64.wrap ((a : Int) + (n : Int)) = (e1 : Int) := by have := HN.out; have := HTs.out; rw [IntKind.wrap_i64, ← He1.out]; omega
      go_upto_region 11 with fail
      obtain ⟨W1, HW1⟩ : ∃ W1, Hid (W.setCell ⟨p, 1, none⟩ (.int .i64 (e1 : Int)) = W1) := ⟨_, Lib.hid rfl⟩
      have H1 := Lib.hid (H0.out.setAt e1)
      rw [HW1.out] at H1 ⊢
      clear c0 c1 f1
      obtain ⟨tv, rv, h1⟩ := H1.out
      have H2 := Lib.hid h1
      obtain ⟨c0, c1, _, c3⟩ := h1.cells
      clear h1
      have HS : (fun w' : World => w'.cell? ⟨p, 1, none⟩ = some (.int .i64 (e1 : Int)) ∧ w'.cell? ⟨p, 3, none⟩ = some rv) W1.drew := ⟨c1, c3⟩
      clear c0 c1 c3
      refine wp_region_pi (fun w' : World => w'.cell? ⟨p, 1, none⟩ = some (.int .i64 (e1 : Int)) ∧ w'.cell? ⟨p, 3, none⟩ = some rv) [(0, 1), (1, 1), (2, 1), (3, 1), (4, 0), (5, 1), (6, 1), (7, 1), (8, 1), (9, 0), (10, 1), (11, 2), (12, 3), (13, 3), (14, 3), (15, 3)] [(12, [4]), (12, [11, 10, 9]), (13, [4]), (13, [9]), (14, [4]), (14, [9]), (15, [4]), (15, [9])] (by kernel_rfl) (by kernel_rfl) (fun _ _ _ _ _ h => h) (HS) ?_
      refine pq_pu (some 42) rfl rfl (by rfl) (fun ws => by go_simp; try with_reducible rfl) ?_; go_frame   -- 0 Op.move (Operand.tmp 0)
      refine pq_pu (some 43) rfl rfl (by rfl) (fun ws => by go_simp; try with_reducible rfl) ?_; go_frame   -- 1 Op.move (Operand.tmp 0)
      refine pq_pu (some 44) rfl rfl (by rfl) (fun ws => by go_simp; try with_reducible rfl) ?_; go_frame   -- 2 Op.nilCheck (Operand.tmp 43)
      refine pq_pu (some 45) rfl rfl (by rfl) (fun ws => by go_simp; try with_reducible rfl) ?_; go_frame   -- 3 Op.fieldAddr 48 (Operand.tmp 44) 3
      refine pq_ld (some 46) rfl rfl (by rfl) (fun ws HS => by go_split_ands; go_simp; try with_reducible rfl) ?_; go_frame   -- 4 Op.load 37 (Operand.tmp 45)
      refine pq_pu (some 47) rfl rfl (by rfl) (fun ws => by go_simp; try with_reducible rfl) ?_; go_frame   -- 5 Op.move (Operand.tmp 2)
      refine pq_pu (some 48) rfl rfl (by rfl) (fun ws => by go_simp; try with_reducible rfl) ?_; go_frame   -- 6 Op.move (Operand.tmp 0)
      refine pq_pu (some 49) rfl rfl (by rfl) (fun ws => by go_simp; try with_reducible rfl) ?_; go_frame   -- 7 Op.nilCheck (Operand.tmp 48)
      refine pq_pu (some 50) rfl rfl (by rfl) (fun ws => by go_simp; try with_reducible rfl) ?_; go_frame   -- 8 Op.fieldAddr 48 (Operand.tmp 49) 1
      refine pq_ld (some 51) rfl rfl (by rfl) (fun ws HS => by go_split_ands; go_simp; try with_reducible rfl) ?_; go_frame   -- 9 Op.load 3 (Operand.tmp 50)
      refine pq_pu (some 52) rfl rfl (by rfl) (fun ws => by go_simp; try with_reducible rfl) ?_; go_frame   -- 10 Op.build 40 #[(0, Operand.tmp 47), (1, Operand.tmp 51)]
      refine pk_ke rfl (fun J hJ => ?_)   -- pi_ke 11 Op.buildSlice 37 1 #[(0, Operand.tmp 52)]
      go_wp2
      refine hJ _ _ ⟨cell_alloc HS.1, cell_alloc HS.2⟩ ?_
      refine pi_tail (by rfl) ?_; simp only [opsAt, List.getElem?_toArray, List.getElem?_cons_zero, List.getElem?_cons_succ]   -- [(12, 'Op.call { callee := Callee.builtin Builtin.append, args := #[Operand.tmp 46, Operand.tmp 53], argTypes := #[37, 37] }'), (13, 'Op.nilCheck (Operand.tmp 42)'), (14, 'Op.fieldAddr 48 (Operand.tmp 55) 3'), (15, 'Op.store 37 (Operand.tmp 56) (Operand.tmp 54)')]
      have HG := Lib.hid (H2.out.go ((Below.refl _ W1).drew.alloc (Nat.le_refl _) (.cells #[.int .i64 (a : Int), .int .i64 (e1 : Int)] 40)))
      have hrow := HG.out.rems
      have hp1 := H2.out.lt
      refine wpList_app _ rfl _ _ _ rfl (p + 1) 40 c3i _ 2 16 Tryd.underlying37 hc3i hc3z hc3s hc3b rfl rv c.length (spanCells c) rfl hrow ⟨W1.heap.size, 0, none⟩ 1 1 [.int .i64 (a : Int), .int .i64 (e1 : Int)] rfl rfl (World.news_of_block (cs := #[.int .i64 (a : Int), .int .i64 (e1 : Int)]) (t := 40) (fr := (0, 0)) (heap_alloc_new _ _)) ?c1 (by omega) (by unfold maxLen; omega) (by omega) (by simp; omega) ?_
      case c1 => intro u hu; simp at hu; rcases hu with h | h <;> (subst h; rfl)
      intro gg cap w2 hown2 hat
      have HA := Lib.hid (HG.out.appR hat)
      have HP := Lib.hid (Sc.pushR (t := (a, e1)) HG.out hat hown2)
      have c2 : w2.cell? ⟨p, 3, none⟩ = some rv := by have h := HA.out.2.1; simp only [World.cell?, h]; rfl
      have f2 : w2.frozen? ⟨p, 3, none⟩ = false := by have h := HA.out.2.1; simp only [World.frozen?, h]; simp
      clear hat hown2 hrow hp1 HS
      obtain ⟨T2, hT2⟩ : ∃ T2, T.extract 0 n = T2 := ⟨_, rfl⟩
      have hnT : (n : Int) ≤ (T.size : Int) := by have := HN.out; omega
      have HT2 := Lib.hid (show T2.data.toList = r.take n from by rw [← hT2, extract_take, strB_toList, HTl.out])
      obtain ⟨v2, Hv2⟩ : ∃ v2, Hid (Lib.indexByte T2.data.toList 10 = v2) := ⟨_, Lib.hid rfl⟩
      have HI2 := Lib.hid (fun W => ibyte_C Hv2.out W)
      have Hb := Lib.hid (show decide (0 ≤ v2) = (r.take n).contains 10 from by rw [← Hv2.out, index_contains, HT2.out])
      cases hbb : (r.take n).contains 10 with
      | true =>
        have hv2 : 0 ≤ v2 := by have h := Hb.out; rw [hbb] at h; exact of_decide_eq_true h
        rw [hbb] at HQ
        go_wp2_with (first | (go_at_call 62; refine (HI2.out _).mono ?_; rintro e W' ⟨rfl, rfl⟩) | (go_at_call 49; refine hold ?_))
        refine Hold.mk ?_
        refine (line_any ⟨_, _, HP.out⟩ Hn.out a).mono ?_
        rintro e W' ⟨rfl, hS⟩
        have HS2 := Lib.hid hS
        clear hS
        go_wp2_with fail
        go_end0
        refine item_rem HQ.out rfl ?_
        rw [He1.out]
        exact HS2.out
      | false =>
        have hv2 : ¬ (0 ≤ v2) := by have h := Hb.out; rw [hbb] at h; exact of_decide_eq_false h
        rw [hbb] at HQ
        go_wp2_with (go_at_call 62; refine (HI2.out _).mono ?_; rintro e W' ⟨rfl, rfl⟩)
        go_end0
        refine item_rem HQ.out rfl ?_
        rw [He1.out]
        exact ⟨_, _, HP.out⟩
  | false =>
    have Hst := Lib.hid (show ((r.drop 1).head? == some 42) = false from by
      have h := HZ.out
      cases hh : (r.drop 1).head? with
      | none => rfl
      | some y =>
        rw [hh] at h
        have h2 : y.toNat = z := by simpa using h
        have h3 := u8_ne (n := 42) (by rw [h2]; exact hz42) (by decide)
        simpa using h3)
    obtain ⟨n, HNl⟩ : ∃ n, Hid (n = lineLen r) := ⟨_, Lib.hid rfl⟩
    have HN := Lib.hid (show n ≤ T.size from by rw [HNl.out, ← bytes_len, HTl.out]; exact lineLen_le r)
    have HQ := Lib.hid (show remItem r = .rem n false from by unfold remItem; rw [Hst.out, HNl.out]; rfl)
    rcases lineLen_ix r with hix | hix
    · have HI1 := Lib.hid (HIX.out (-1) hix.1)
      have HnT := Lib.hid (show n = T.size from by rw [HNl.out, hix.2, ← HTl.out, bytes_len])
      clear hix
      have hTn : (T.size : Int) = (n : Int) := by rw [HnT.out]
      go_enter Tryd.func51, Tryd.ntmps51
      go_upto_region 10 with (go_at_call 62; refine (HI1.out _).mono ?_; rintro e W' ⟨rfl, rfl⟩)
      obtain ⟨e1, He1⟩ : ∃ e1, Hid (a + n = e1) := ⟨_, Lib.hid rfl⟩
      have hwn : IntKind.i64.wrap ((a : Int) + (n : Int)) = (e1 : Int) := by have := HN.out; have := HTs.out; rw [IntKind.wrap_i64, ← He1.out]; omega
      go_upto_region 11 with fail
      obtain ⟨W1, HW1⟩ : ∃ W1, Hid (W.setCell ⟨p, 1, none⟩ (.int .i64 (e1 : Int)) = W1) := ⟨_, Lib.hid rfl⟩
      have H1 := Lib.hid (H0.out.setAt e1)
      rw [HW1.out] at H1 ⊢
      clear c0 c1 f1
      obtain ⟨tv, rv, h1⟩ := H1.out
      have H2 := Lib.hid h1
      obtain ⟨c0, c1, _, c3⟩ := h1.cells
      clear h1
      have HS : (fun w' : World => w'.cell? ⟨p, 1, none⟩ = some (.int .i64 (e1 : Int)) ∧ w'.cell? ⟨p, 3, none⟩ = some rv) W1.drew := ⟨c1, c3⟩
      clear c0 c1 c3
      refine wp_region_pi (fun w' : World => w'.cell? ⟨p, 1, none⟩ = some (.int .i64 (e1 : Int)) ∧ w'.cell? ⟨p, 3, none⟩ = some rv) [(0, 1), (1, 1), (2, 1), (3, 1), (4, 0), (5, 1), (6, 1), (7, 1), (8, 1), (9, 0), (10, 1), (11, 2), (12, 3), (13, 3), (14, 3), (15, 3)] [(12, [4]), (12, [11, 10, 9]), (13, [4]), (13, [9]), (14, [4]), (14, [9]), (15, [4]), (15, [9])] (by kernel_rfl) (by kernel_rfl) (fun _ _ _ _ _ h => h) (HS) ?_
      refine pq_pu (some 42) rfl rfl (by rfl) (fun ws => by go_simp; try with_reducible rfl) ?_; go_frame   -- 0 Op.move (Operand.tmp 0)
      refine pq_pu (some 43) rfl rfl (by rfl) (fun ws => by go_simp; try with_reducible rfl) ?_; go_frame   -- 1 Op.move (Operand.tmp 0)
      refine pq_pu (some 44) rfl rfl (by rfl) (fun ws => by go_simp; try with_reducible rfl) ?_; go_frame   -- 2 Op.nilCheck (Operand.tmp 43)
      refine pq_pu (some 45) rfl rfl (by rfl) (fun ws => by go_simp; try with_reducible rfl) ?_; go_frame   -- 3 Op.fieldAddr 48 (Operand.tmp 44) 3
      refine pq_ld (some 46) rfl rfl (by rfl) (fun ws HS => by go_split_ands; go_simp; try with_reducible rfl) ?_; go_frame   -- 4 Op.load 37 (Operand.tmp 45)
      refine pq_pu (some 47) rfl rfl (by rfl) (fun ws => by go_simp; try with_reducible rfl) ?_; go_frame   -- 5 Op.move (Operand.tmp 2)
      refine pq_pu (some 48) rfl rfl (by rfl) (fun ws => by go_simp; try with_reducible rfl) ?_; go_frame   -- 6 Op.move (Operand.tmp 0)
      refine pq_pu (some 49) rfl rfl (by rfl) (fun ws => by go_simp; try with_reducible rfl) ?_; go_frame   -- 7 Op.nilCheck (Operand.tmp 48)
      refine pq_pu (some 50) rfl rfl (by rfl) (fun ws => by go_simp; try with_reducible rfl) ?_; go_frame   -- 8 Op.fieldAddr 48 (Operand.tmp 49) 1
      refine pq_ld (some 51) rfl rfl (by rfl) (fun ws HS => by go_split_ands; go_simp; try with_reducible rfl) ?_; go_frame   -- 9 Op.load 3 (Operand.tmp 50)
      refine pq_pu (some 52) rfl rfl (by rfl) (fun ws => by go_simp; try with_reducible rfl) ?_; go_frame   -- 10 Op.build 40 #[(0, Operand.tmp 47), (1, Operand.tmp 51)]
      refine pk_ke rfl (fun J hJ => ?_)   -- pi_ke 11 Op.buildSlice 37 1 #[(0, Operand.tmp 52)]
      go_wp2
      refine hJ _ _ ⟨cell_alloc HS.1, cell_alloc HS.2⟩ ?_
      refine pi_tail (by rfl) ?_; simp only [opsAt, List.getElem?_toArray, List.getElem?_cons_zero, List.getElem?_cons_succ]   -- [(12, 'Op.call { callee := Callee.builtin Builtin.append, args := #[Operand.tmp 46, Operand.tmp 53], argTypes := #[37, 37] }'), (13, 'Op.nilCheck (Operand.tmp 42)'), (14, 'Op.fieldAddr 48 (Operand.tmp 55) 3'), (15, 'Op.store 37 (Operand.tmp 56) (Operand.tmp 54)')]
      have HG := Lib.hid (H2.out.go ((Below.refl _ W1).drew.alloc (Nat.le_refl _) (.cells #[.int .i64 (a : Int), .int .i64 (e1 : Int)] 40)))
      have hrow := HG.out.rems
      have hp1 := H2.out.lt
      refine wpList_app _ rfl _ _ _ rfl (p + 1) 40 c3i _ 2 16 Tryd.underlying37 hc3i hc3z hc3s hc3b rfl rv c.length (spanCells c) rfl hrow ⟨W1.heap.size, 0, none⟩ 1 1 [.int .i64 (a : Int), .int .i64 (e1 : Int)] rfl rfl (World.news_of_block (cs := #[.int .i64 (a : Int), .int .i64 (e1 : Int)]) (t := 40) (fr := (0, 0)) (heap_alloc_new _ _)) ?c1 (by omega) (by unfold maxLen; omega) (by omega) (by simp; omega) ?_
      case c1 => intro u hu; simp at hu; rcases hu with h | h <;> (subst h; rfl)
      intro gg cap w2 hown2 hat
      have HA := Lib.hid (HG.out.appR hat)
      have HP := Lib.hid (Sc.pushR (t := (a, e1)) HG.out hat hown2)
      have c2 : w2.cell? ⟨p, 3, none⟩ = some rv := by have h := HA.out.2.1; simp only [World.cell?, h]; rfl
      have f2 : w2.frozen? ⟨p, 3, none⟩ = false := by have h := HA.out.2.1; simp only [World.frozen?, h]; simp
      clear hat hown2 hrow hp1 HS
      obtain ⟨T2, hT2⟩ : ∃ T2, T.extract 0 n = T2 := ⟨_, rfl⟩
      have hnT : (n : Int) ≤ (T.size : Int) := by have := HN.out; omega
      have HT2 := Lib.hid (show T2.data.toList = r.take n from by rw [← hT2, extract_take, strB_toList, HTl.out])
      obtain ⟨v2, Hv2⟩ : ∃ v2, Hid (Lib.indexByte T2.data.toList 10 = v2) := ⟨_, Lib.hid rfl⟩
      have HI2 := Lib.hid (fun W => ibyte_C Hv2.out W)
      have Hb := Lib.hid (show decide (0 ≤ v2) = (r.take n).contains 10 from by rw [← Hv2.out, index_contains, HT2.out])
      have hv2 : ¬ (0 ≤ v2) := by have h := Hb.out; rw [HNl.out, take_line] at h; exact of_decide_eq_false h
      go_wp2_with (go_at_call 62; refine (HI2.out _).mono ?_; rintro e W' ⟨rfl, rfl⟩)
      go_end0
      refine item_rem HQ.out rfl ?_
      rw [He1.out]
      exact ⟨_, _, HP.out⟩
    · have HI1 := Lib.hid (HIX.out (n : Int) (by rw [HNl.out]; exact hix))
      clear hix
      go_enter Tryd.func51, Tryd.ntmps51
      go_upto_region 10 with (go_at_call 62; refine (HI1.out _).mono ?_; rintro e W' ⟨rfl, rfl⟩)
      obtain ⟨e1, He1⟩ : ∃ e1, Hid (a + n = e1) := ⟨_, Lib.hid rfl⟩
      have hwn : IntKind.i64.wrap ((a : Int) + (n : Int)) = (e1 : Int) := by have := HN.out; have := HTs.out; rw [IntKind.wrap_i64, ← He1.out]; omega
      go_upto_region 11 with fail
      obtain ⟨W1, HW1⟩ : ∃ W1, Hid (W.setCell ⟨p, 1, none⟩ (.int .i64 (e1 : Int)) = W1) := ⟨_, Lib.hid rfl⟩
      have H1 := Lib.hid (H0.out.setAt e1)
      rw [HW1.out] at H1 ⊢
      clear c0 c1 f1
      obtain ⟨tv, rv, h1⟩ := H1.out
      have H2 := Lib.hid h1
      obtain ⟨c0, c1, _, c3⟩ := h1.cells
      clear h1
      have HS : (fun w' : World => w'.cell? ⟨p, 1, none⟩ = some (.int .i64 (e1 : Int)) ∧ w'.cell? ⟨p, 3, none⟩ = some rv) W1.drew := ⟨c1, c3⟩
      clear c0 c1 c3
      refine wp_region_pi (fun w' : World => w'.cell? ⟨p, 1, none⟩ = some (.int .i64 (e1 : Int)) ∧ w'.cell? ⟨p, 3, none⟩ = some rv) [(0, 1), (1, 1), (2, 1), (3, 1), (4, 0), (5, 1), (6, 1), (7, 1), (8, 1), (9, 0), (10, 1), (11, 2), (12, 3), (13, 3), (14, 3), (15, 3)] [(12, [4]), (12, [11, 10, 9]), (13, [4]), (13, [9]), (14, [4]), (14, [9]), (15, [4]), (15, [9])] (by kernel_rfl) (by kernel_rfl) (fun _ _ _ _ _ h => h) (HS) ?_
      refine pq_pu (some 42) rfl rfl (by rfl) (fun ws => by go_simp; try with_reducible rfl) ?_; go_frame   -- 0 Op.move (Operand.tmp 0)
      refine pq_pu (some 43) rfl rfl (by rfl) (fun ws => by go_simp; try with_reducible rfl) ?_; go_frame   -- 1 Op.move (Operand.tmp 0)
      refine pq_pu (some 44) rfl rfl (by rfl) (fun ws => by go_simp; try with_reducible rfl) ?_; go_frame   -- 2 Op.nilCheck (Operand.tmp 43)
      refine pq_pu (some 45) rfl rfl (by rfl) (fun ws => by go_simp; try with_reducible rfl) ?_; go_frame   -- 3 Op.fieldAddr 48 (Operand.tmp 44) 3
      refine pq_ld (some 46) rfl rfl (by rfl) (fun ws HS => by go_split_ands; go_simp; try with_reducible rfl) ?_; go_frame   -- 4 Op.load 37 (Operand.tmp 45)
      refine pq_pu (some 47) rfl rfl (by rfl) (fun ws => by go_simp; try with_reducible rfl) ?_; go_frame   -- 5 Op.move (Operand.tmp 2)
      refine pq_pu (some 48) rfl rfl (by rfl) (fun ws => by go_simp; try with_reducible rfl) ?_; go_frame   -- 6 Op.move (Operand.tmp 0)
      refine pq_pu (some 49) rfl rfl (by rfl) (fun ws => by go_simp; try with_reducible rfl) ?_; go_frame   -- 7 Op.nilCheck (Operand.tmp 48)
      refine pq_pu (some 50) rfl rfl (by rfl) (fun ws => by go_simp; try with_reducible rfl) ?_; go_frame   -- 8 Op.fieldAddr 48 (Operand.tmp 49) 1
      refine pq_ld (some 51) rfl rfl (by rfl) (fun ws HS => by go_split_ands; go_simp; try with_reducible rfl) ?_; go_frame   -- 9 Op.load 3 (Operand.tmp 50)
      refine pq_pu (some 52) rfl rfl (by rfl) (fun ws => by go_simp; try with_reducible rfl) ?_; go_frame   -- 10 Op.build 40 #[(0, Operand.tmp 47), (1, Operand.tmp 51)]
      refine pk_ke rfl (fun J hJ => ?_)   -- pi_ke 11 Op.buildSlice 37 1 #[(0, Operand.tmp 52)]
      go_wp2
      refine hJ _ _ ⟨cell_alloc HS.1, cell_alloc HS.2⟩ ?_
      refine pi_tail (by rfl) ?_; simp only [opsAt, List.getElem?_toArray, List.getElem?_cons_zero, List.getElem?_cons_succ]   -- [(12, 'Op.call { callee := Callee.builtin Builtin.append, args := #[Operand.tmp 46, Operand.tmp 53], argTypes := #[37, 37] }'), (13, 'Op.nilCheck (Operand.tmp 42)'), (14, 'Op.fieldAddr 48 (Operand.tmp 55) 3'), (15, 'Op.store 37 (Operand.tmp 56) (Operand.tmp 54)')]
      have HG := Lib.hid (H2.out.go ((Below.refl _ W1).drew.alloc (Nat.le_refl _) (.cells #[.int .i64 (a : Int), .int .i64 (e1 : Int)] 40)))
      have hrow := HG.out.rems
      have hp1 := H2.out.lt
      refine wpList_app _ rfl _ _ _ rfl (p + 1) 40 c3i _ 2 16 Tryd.underlying37 hc3i hc3z hc3s hc3b rfl rv c.length (spanCells c) rfl hrow ⟨W1.heap.size, 0, none⟩ 1 1 [.int .i64 (a : Int), .int .i64 (e1 : Int)] rfl rfl (World.news_of_block (cs := #[.int .i64 (a : Int), .int .i64 (e1 : Int)]) (t := 40) (fr := (0, 0)) (heap_alloc_new _ _)) ?c1 (by omega) (by unfold maxLen; omega) (by omega) (by simp; omega) ?_
      case c1 => intro u hu; simp at hu; rcases hu with h | h <;> (subst h; rfl)
      intro gg cap w2 hown2 hat
      have HA := Lib.hid (HG.out.appR hat)
      have HP := Lib.hid (Sc.pushR (t := (a, e1)) HG.out hat hown2)
      have c2 : w2.cell? ⟨p, 3, none⟩ = some rv := by have h := HA.out.2.1; simp only [World.cell?, h]; rfl
      have f2 : w2.frozen? ⟨p, 3, none⟩ = false := by have h := HA.out.2.1; simp only [World.frozen?, h]; simp
      clear hat hown2 hrow hp1 HS
      obtain ⟨T2, hT2⟩ : ∃ T2, T.extract 0 n = T2 := ⟨_, rfl⟩
      have hnT : (n : Int) ≤ (T.size : Int) := by have := HN.out; omega
      have HT2 := Lib.hid (show T2.data.toList = r.take n from by rw [← hT2, extract_take, strB_toList, HTl.out])
      obtain ⟨v2, Hv2⟩ : ∃ v2, Hid (Lib.indexByte T2.data.toList 10 = v2) := ⟨_, Lib.hid rfl⟩
      have HI2 := Lib.hid (fun W => ibyte_C Hv2.out W)
      have Hb := Lib.hid (show decide (0 ≤ v2) = (r.take n).contains 10 from by rw [← Hv2.out, index_contains, HT2.out])
      have hv2 : ¬ (0 ≤ v2) := by have h := Hb.out; rw [HNl.out, take_line] at h; exact of_decide_eq_false h
      go_wp2_with (go_at_call 62; refine (HI2.out _).mono ?_; rintro e W' ⟨rfl, rfl⟩)
      go_end0
      refine item_rem HQ.out rfl ?_
      rw [He1.out]
      exact ⟨_, _, HP.out⟩
end Go.Proofs.YtdgjegkoncodaaaDoor
