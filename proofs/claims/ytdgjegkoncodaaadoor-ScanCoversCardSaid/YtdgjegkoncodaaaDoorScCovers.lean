/- The walk of ScanCovers. Conditions: what the library's variables hold. -/
import Derived.Test.YtdgjegkoncodaaaDoorScTokens
import Derived.Test.YtdgjegkoncodaaaDoorScCov
namespace Go.Proofs.YtdgjegkoncodaaaDoor
open Go.RowKit

theorem infoM : (Tryd.prog.info? 3).map (fun i => (i.zero, i.size, i.bytes)) = some (some (.int .i64 0), 1, 8) := by kernel_rfl
/-- 'make([]int, n)' -/
theorem wpList_makeM (w : World) {ops : Array Oper} {rest : List Oper} {o : Oper} {a : Act} {Q : Exit → Act → World → Prop} (hg : o.guard = none) (l c : Operand) (hop : o.op = Op.makeSlice 41 l c)
    (L C : Int) (n : Nat) (hl : a.eval l = .int .i64 L) (hc : a.eval c = .int .i64 C) (hL : L = (n : Int)) (hC : C = (n : Int)) (hn : n ≤ 4000000)
    (hK : ∀ w', Met w' w.heap.size n (fun _ => 0) → Below w.heap.size w w' → wpList Tryd.prog ops Q rest (a.put o.dst (.slice (some ⟨w.heap.size, 0, none⟩) n n)) w') : wpList Tryd.prog ops Q (o :: rest) a w := by
  refine wpList_plain hg fun K hK' => ?_
  obtain ⟨i, hi, hz, hs, hb⟩ := info_parts infoM
  have hrun := run_makeSlice (P := Tryd.prog) (w := w) 41 3 i _ Tryd.underlying41 hi hz .i64 .i64 (n : Int) (n : Int) (by omega) (Int.le_refl _) (by rw [hs]; simp; omega) (by rw [hb]; omega) (by omega)
  rw [Int.toNat_natCast, hs] at hrun
  subst hL
  subst hC
  unfold Oper.wp
  simp [execOp, hop, hl, hc, hrun, Result.andThen]
  refine hK' _ _ (hK _ ?_ ((Below.refl _ w).alloc (Nat.le_refl _) _))
  refine ⟨_, heap_alloc_new w _, fun k hk => ?_⟩
  simp [madeCells, Value.cells, Nat.mod_one, hk]
/-- A row of remarks that can be read, in blocks from b on. -/
def SpanB (W : World) (b : Nat) (tv : Value) (l : List (Nat × Nat)) : Prop := ∃ a cap, tv = .slice a l.length cap ∧ l.length ≤ maxLen ∧ ∀ i (h : i < l.length), ∃ g, a = some ⟨g, 0, none⟩ ∧ b ≤ g ∧ g < W.heap.size ∧
  W.cell? ⟨g, i * 2, none⟩ = some (.int .i64 l[i].1) ∧ W.cell? ⟨g, i * 2 + 1, none⟩ = some (.int .i64 l[i].2)
theorem SpanB.of {W : World} {b : Nat} {tv : Value} {l : List (Nat × Nat)} (h : W.ownsRow b 40 2 tv l.length (spanCells l)) : SpanB W b tv l := by
  obtain ⟨a, cap, e, hm, hr⟩ := SpanV.of h
  refine ⟨a, cap, e, hm, fun i hi => ?_⟩
  obtain ⟨g, h1, h2, h3, h4⟩ := hr i hi
  refine ⟨g, h1, ?_, h2, h3, h4⟩
  exact (row_lt h (g := g) (by rw [e, h1]; rfl)).2.1
/-- The blocks from b on that W had are as they were. -/
def Keep (b : Nat) (W W' : World) : Prop := ∀ g, b ≤ g → g < W.heap.size → W'.heap[g]? = W.heap[g]?
theorem Keep.cell {b : Nat} {W W' : World} (h : Keep b W W') {g : Nat} (h1 : b ≤ g) (h2 : g < W.heap.size) (j : Nat) : W'.cell? ⟨g, j, none⟩ = W.cell? ⟨g, j, none⟩ := by
  simp only [World.cell?, h g h1 h2]
theorem Keep.set {b : Nat} {W W' : World} (h : Keep b W W') {k j : Nat} (hk : k < b) (v : Value) : Keep b W (W'.setCell ⟨k, j, none⟩ v) := fun g h1 h2 => by
  rw [heap_set_ne (show g ≠ k by omega)]
  exact h g h1 h2
set_option maxRecDepth 100000 in
set_option maxHeartbeats 6400000 in
theorem scanCovers_big (s : ByteArray) (hs : (4000 : Int) < (s.size : Int)) {w : World} (hL : Lay w) : Calls Tryd.prog 9 #[.string s] w fun e w' => e = .returned (.bool true) ∧ Below w.heap.size w w' := by
  have HA := Lib.hid (fun (W : World) (h : Lay W) => aw_any h)
  have HLw := Lib.hid hL
  clear hL
  obtain ⟨B, HB⟩ : ∃ b, Hid (w.heap.size = b) := ⟨_, Lib.hid rfl⟩
  rw [HB.out]
  have HR0 := Lib.hid (show Below B w w from Below.refl _ _)
  go_enter Tryd.func9, Tryd.ntmps9
  go_wp2_with (go_at_call 12; refine hold ?_)
  refine Hold.mk ?_
  refine (HA.out _ (HLw.out.go (by rw [HB.out]; exact HR0.out))).mono ?_
  rintro e W9 ⟨rfl, hb⟩
  have HB9 := Lib.hid (show Below B w W9 from HR0.out.trans (Below.mono hb (by rw [← HB.out]; exact HR0.out.size)))
  clear hb
  go_wp2_with fail
  go_ret
  exact ⟨rfl, HB9.out⟩
set_option maxRecDepth 100000 in
set_option maxHeartbeats 6400000 in
theorem scanCovers_bad (s : ByteArray) (hs : s.size ≤ 4000) (h1 : (resT (scanAll s.data.toList)).1 ≠ 0) {w : World} (hL : Lay w) : Calls Tryd.prog 9 #[.string s] w fun e w' => e = .returned (.bool true) ∧ Below w.heap.size w w' := by
  have HA := Lib.hid (fun (W : World) (h : Lay W) => aw_any h)
  have HLw := Lib.hid hL
  clear hL
  obtain ⟨B, HB⟩ : ∃ b, Hid (w.heap.size = b) := ⟨_, Lib.hid rfl⟩
  rw [HB.out]
  have HR0 := Lib.hid (show Below B w w from Below.refl _ _)
  have hsz : decide ((4000 : Int) < (s.size : Int)) = false := decide_eq_false (by omega)
  have HT1 := Lib.hid (fun (W : World) (h : Lay W) => tokens_lay s h)
  have HC := Lib.hid (fun (W : World) (h : Lay W) => comments_lay s h)
  obtain ⟨T1, HT1t⟩ : ∃ x, Hid (resT (scanAll s.data.toList) = x) := ⟨_, Lib.hid rfl⟩
  rw [HT1t.out] at HT1 HC
  obtain ⟨k1, Hk1⟩ : ∃ x, Hid (T1.1 = x) := ⟨_, Lib.hid rfl⟩
  obtain ⟨a1, Ha1⟩ : ∃ x, Hid (T1.2.1 = x) := ⟨_, Lib.hid rfl⟩
  have hbr := bad_rows h1
  rw [HT1t.out] at hbr
  rw [HT1t.out, Hk1.out] at h1
  clear hs
  go_enter Tryd.func9, Tryd.ntmps9
  go_wp2_with (go_at_call 13; refine hold ?_)
  refine Hold.mk ?_
  refine (HT1.out _ (HLw.out.go (by rw [HB.out]; exact HR0.out))).mono ?_
  rintro e W1a ⟨⟨tv1, rfl, hr⟩, hb⟩
  rw [Hk1.out, Ha1.out]
  obtain ⟨W1, HW1⟩ : ∃ x, Hid (W1a.alloc (.cells #[.int .i64 k1, .string ⟨#[]⟩, .int .i64 a1] 25) = x) := ⟨_, Lib.hid rfl⟩
  obtain ⟨b1, Hb1⟩ : ∃ b, Hid (W1a.heap.size = b) := ⟨_, Lib.hid rfl⟩
  have HBa1 := Lib.hid (show Below W1a.heap.size W1a W1 from by rw [← HW1.out]; exact (Below.refl _ _).alloc (Nat.le_refl _) _)
  have HBs1 := Lib.hid (hb.trans (Below.mono HBa1.out hb.size))
  have HB1 := Lib.hid (show Below B w W1 from HR0.out.trans (Below.mono HBs1.out (by rw [← HB.out]; exact HR0.out.size)))
  have HV1 := Lib.hid ((TokV.of hr).go HBa1.out)
  have G1 := Lib.hid (show W1.heap[b1]? = some (.cells #[.int .i64 k1, .string ⟨#[]⟩, .int .i64 a1] 25 (0, 0)) from by rw [← HW1.out, ← Hb1.out]; exact heap_alloc_new W1a _)
  clear hr hb
  go_upto_region 4 with fail
  rw [HW1.out, Hb1.out]
  have h10 : W1.cell? ⟨b1, 0, none⟩ = some (.int .i64 k1) := by simp only [World.cell?, G1.out]; rfl
  rw [hbr.1] at HV1
  obtain ⟨ad1, cp1, rfl, _, _⟩ := HV1.out
  have e1 : (k1 != (0 : Int)) = true := by simpa using h1
  have HBR := Lib.hid hbr.2
  clear h1 hbr
  go_wp2_with (go_at_call 20; refine hold ?_)
  refine Hold.mk ?_
  refine (HC.out _ (HLw.out.go (by rw [HB.out]; exact HB1.out))).mono ?_
  rintro e W3 ⟨⟨rv, rfl, hr⟩, hb⟩
  have HB3 := Lib.hid (show Below B w W3 from HB1.out.trans (Below.mono hb (by rw [← HB.out]; exact HB1.out.size)))
  have hv := SpanV.of hr
  rw [HBR.out] at hv
  obtain ⟨adc, cpc, rfl, _, _⟩ := hv
  clear hr hb
  go_wp2_with (go_at_call 12; refine hold ?_)
  refine Hold.mk ?_
  refine (HA.out _ (HLw.out.go (by rw [HB.out]; exact HB3.out))).mono ?_
  rintro e W9 ⟨rfl, hb⟩
  have HB9 := Lib.hid (show Below B w W9 from HB3.out.trans (Below.mono hb (by rw [← HB.out]; exact HB3.out.size)))
  clear hb
  go_wp2_with fail
  go_ret
  exact ⟨rfl, HB9.out⟩
set_option maxRecDepth 100000 in
set_option maxHeartbeats 6400000 in
theorem scanCovers_ok (s : ByteArray) (hs : s.size ≤ 4000) (h1 : (resT (scanAll s.data.toList)).1 = 0) {w : World} (hL : Lay w) : Calls Tryd.prog 9 #[.string s] w fun e w' => e = .returned (.bool true) ∧ Below w.heap.size w w' := by
  have HA := Lib.hid (fun (W : World) (h : Lay W) => aw_any h)
  have HLw := Lib.hid hL
  clear hL
  obtain ⟨B, HB⟩ : ∃ b, Hid (w.heap.size = b) := ⟨_, Lib.hid rfl⟩
  rw [HB.out]
  have HR0 := Lib.hid (show Below B w w from Below.refl _ _)
  have hsz : decide ((4000 : Int) < (s.size : Int)) = false := decide_eq_false (by omega)
  have HT1 := Lib.hid (fun (W : World) (h : Lay W) => tokens_lay s h)
  have HC := Lib.hid (fun (W : World) (h : Lay W) => comments_lay s h)
  obtain ⟨T1, HT1t⟩ : ∃ x, Hid (resT (scanAll s.data.toList) = x) := ⟨_, Lib.hid rfl⟩
  rw [HT1t.out] at HT1 HC
  obtain ⟨k1, Hk1⟩ : ∃ x, Hid (T1.1 = x) := ⟨_, Lib.hid rfl⟩
  obtain ⟨a1, Ha1⟩ : ∃ x, Hid (T1.2.1 = x) := ⟨_, Lib.hid rfl⟩
  have hcov := cov_law h1
  rw [HT1t.out] at hcov
  rw [HT1t.out, Hk1.out] at h1
  have HK1 := Lib.hid h1
  obtain ⟨X, HX⟩ : ∃ x, Hid (T1.2.2.1 = x) := ⟨_, Lib.hid rfl⟩
  obtain ⟨C, HCc⟩ : ∃ x, Hid (T1.2.2.2 = x) := ⟨_, Lib.hid rfl⟩
  rw [HX.out, HCc.out] at hcov
  have HV := Lib.hid hcov
  obtain ⟨nX, HnX⟩ : ∃ x, Hid (X.length = x) := ⟨_, Lib.hid rfl⟩
  obtain ⟨nC, HnC⟩ : ∃ x, Hid (C.length = x) := ⟨_, Lib.hid rfl⟩
  clear h1 hcov
  go_enter Tryd.func9, Tryd.ntmps9
  go_wp2_with (go_at_call 13; refine hold ?_)
  refine Hold.mk ?_
  refine (HT1.out _ (HLw.out.go (by rw [HB.out]; exact HR0.out))).mono ?_
  rintro e W1a ⟨⟨tv1, rfl, hr⟩, hb⟩
  rw [Hk1.out, Ha1.out]
  obtain ⟨W1, HW1⟩ : ∃ x, Hid (W1a.alloc (.cells #[.int .i64 k1, .string ⟨#[]⟩, .int .i64 a1] 25) = x) := ⟨_, Lib.hid rfl⟩
  obtain ⟨b1, Hb1⟩ : ∃ b, Hid (W1a.heap.size = b) := ⟨_, Lib.hid rfl⟩
  have HBa1 := Lib.hid (show Below W1a.heap.size W1a W1 from by rw [← HW1.out]; exact (Below.refl _ _).alloc (Nat.le_refl _) _)
  have HBs1 := Lib.hid (hb.trans (Below.mono HBa1.out hb.size))
  have HB1 := Lib.hid (show Below B w W1 from HR0.out.trans (Below.mono HBs1.out (by rw [← HB.out]; exact HR0.out.size)))
  have HV1 := Lib.hid ((TokV.of hr).go HBa1.out)
  have G1 := Lib.hid (show W1.heap[b1]? = some (.cells #[.int .i64 k1, .string ⟨#[]⟩, .int .i64 a1] 25 (0, 0)) from by rw [← HW1.out, ← Hb1.out]; exact heap_alloc_new W1a _)
  clear hr hb
  go_upto_region 4 with fail
  rw [HW1.out, Hb1.out]
  obtain rfl := HK1.out
  have h10 : W1.cell? ⟨b1, 0, none⟩ = some (.int .i64 0) := by simp only [World.cell?, G1.out]; rfl
  rw [HX.out] at HV1
  obtain ⟨ad1, cp1, rfl, hmX, R1⟩ := HV1.out
  rw [HnX.out] at hmX ⊢
  have HR1 := Lib.hid R1
  have hmXI : (nX : Int) ≤ 9223372036854775807 := by unfold maxLen at hmX; omega
  clear R1 hmX
  go_wp2_with (refine wpList_makeM _ rfl _ _ rfl _ _ s.size rfl rfl (by go_num) (by go_num) (by omega) ?_; intro w7 ho hb; have HO := Lib.hid (And.intro ho hb); clear ho hb)
  obtain ⟨bm, Hbm⟩ : ∃ x, Hid (W1.heap.size = x) := ⟨_, Lib.hid rfl⟩
  have HM0 := Lib.hid HO.out.1
  have HW0 := Lib.hid HO.out.2
  rw [Hbm.out] at HM0 ⊢
  clear HO h10
  go_loopg [6, 7, 8] nX (fun g v6 v7 v8 wr => ∃ (j la : Nat), v6 = .int .i64 (la : Int) ∧ v7 = .int .i64 (j : Int) ∧ g + j = nX ∧ Hid (la = lastT (X.take j)) ∧ Hid (Below W1.heap.size W1 wr) ∧ Hid (Met wr bm s.size (fun i => cntT (X.take j) i)))
  case atStart => exact ⟨0, 0, rfl, rfl, rfl, Lib.hid rfl, HW0, HM0⟩
  case round =>
    obtain ⟨j, la, rfl, rfl, hg, HLa, HW, HM⟩ := hrel
    by_cases hj : j < nX
    · have hjI : (j : Int) < (nX : Int) := by omega
      have hjX : j < X.length := by rw [HnX.out]; exact hj
      obtain ⟨j1, Hj1⟩ : ∃ x, Hid (j + 1 = x) := ⟨_, Lib.hid rfl⟩
      have hjw : IntKind.i64.wrap ((j : Int) + 1) = (j1 : Int) := by rw [IntKind.wrap_i64, ← Hj1.out]; omega
      obtain ⟨g1, rfl, lt1, c10, c11, c12, _⟩ := HR1.out j hjX
      have c10 := (HW.out.cell lt1).trans c10
      have c11 := (HW.out.cell lt1).trans c11
      have c12 := (HW.out.cell lt1).trans c12
      obtain ⟨kd, Hkd⟩ : ∃ x, Hid (X[j].kind = x) := ⟨_, Lib.hid rfl⟩
      obtain ⟨f, Hf⟩ : ∃ x, Hid (X[j].frm = x) := ⟨_, Lib.hid rfl⟩
      obtain ⟨t, Ht⟩ : ∃ x, Hid (X[j].to = x) := ⟨_, Lib.hid rfl⟩
      rw [Hkd.out] at c10
      rw [Hf.out] at c11
      rw [Ht.out] at c12
      have Hlt := Lib.hid lt1
      have C11 := Lib.hid c11
      have C12 := Lib.hid c12
      have HF := Lib.hid (show f ≤ t ∧ t ≤ s.size ∧ (kd ≠ 6 → la ≤ f) from by
        have h := HV.out.tok j hjX
        rw [Hkd.out, Hf.out, Ht.out, bytes_len, ← HLa.out] at h
        exact h)
      have e1 : decide ((f : Int) < 0) = false := decide_eq_false (by omega)
      have e2 : decide ((t : Int) < (f : Int)) = false := decide_eq_false (by have := HF.out.1; omega)
      have e2n : decide (t < f) = false := decide_eq_false (by have := HF.out.1; omega)
      have e3 : decide ((s.size : Int) < (t : Int)) = false := decide_eq_false (by have := HF.out.2.1; omega)
      have e3n : decide (s.size < t) = false := decide_eq_false (by have := HF.out.2.1; omega)
      clear lt1
      cases hk6 : ((kd : Int) != 6) with
      | false =>
        go_wp2_with fail
        go_quiet (fail)
        obtain ⟨WO, HWO⟩ : ∃ x, Hid (wr.drewN nq = x) := ⟨_, Lib.hid rfl⟩
        have HW2 := Lib.hid (show Below W1.heap.size W1 (wr.drewN nq) from below_drewN HW.out nq)
        have HM2 := Lib.hid (show Met (wr.drewN nq) bm s.size (fun i => cntT (X.take j) i) from HM.out)
        have c10 : (wr.drewN nq).cell? ⟨g1, j * 4, none⟩ = some (.int .i64 kd) := c10
        have c11 : (wr.drewN nq).cell? ⟨g1, j * 4 + 1, none⟩ = some (.int .i64 (f : Int)) := C11.out
        rw [HWO.out] at HW2 HM2 c10 c11 ⊢
        clear c12 e1 e2 e3 e2n e3n
        go_wp2_with fail
        clear c10 c11
        go_loopg [8] (t - f) (fun g v8 wr => ∃ k : Nat, v8 = .int .i64 (k : Int) ∧ g + k = t ∧ f ≤ k ∧ Hid (Below W1.heap.size W1 wr) ∧ Hid (Met wr bm s.size (fun i => cntT (X.take j) i + if f ≤ i ∧ i < k then 1 else 0)))
        case atStart => exact ⟨f, rfl, by have := HF.out.1; omega, Nat.le_refl _, HW2, Lib.hid (HM2.out.fn (fun i _ => by rw [if_neg (by omega)]; rfl))⟩
        case round =>
          obtain ⟨k, rfl, hgk, hfk, HWk, HMk⟩ := hrel
          have c11 : wr.cell? ⟨g1, j * 4 + 1, none⟩ = some (.int .i64 (f : Int)) := (HWk.out.cell Hlt.out).trans ((HW.out.cell Hlt.out).symm.trans C11.out)
          have c12 : wr.cell? ⟨g1, j * 4 + 2, none⟩ = some (.int .i64 (t : Int)) := (HWk.out.cell Hlt.out).trans ((HW.out.cell Hlt.out).symm.trans C12.out)
          by_cases hk : k < t
          · have hkI : (k : Int) < (t : Int) := by omega
            have hks : k < s.size := by have := HF.out.2.1; omega
            have hksI : (k : Int) < (s.size : Int) := by omega
            obtain ⟨k2, Hk2⟩ : ∃ x, Hid (k + 1 = x) := ⟨_, Lib.hid rfl⟩
            have hkw : IntKind.i64.wrap ((k : Int) + 1) = (k2 : Int) := by rw [IntKind.wrap_i64, ← Hk2.out]; omega
            obtain ⟨m0, Hm0⟩ : ∃ x, Hid ((cntT (X.take j) k + if f ≤ k ∧ k < k then 1 else 0) = x) := ⟨_, Lib.hid rfl⟩
            have hm1 : m0 ≤ 1 := by
              have h1 := cntT_take X j k
              have h2 := (HV.out.one k (by rw [bytes_len]; exact hks)).1
              rw [← Hm0.out, if_neg (by omega)]
              omega
            obtain ⟨m1, Hm1⟩ : ∃ x, Hid (m0 + 1 = x) := ⟨_, Lib.hid rfl⟩
            have hmw : IntKind.i64.wrap ((m0 : Int) + 1) = (m1 : Int) := by rw [IntKind.wrap_i64, ← Hm1.out]; omega
            have mc : wr.cell? ⟨bm, k, none⟩ = some (.int .i64 (m0 : Int)) := by rw [← Hm0.out]; exact HMk.out.cell k hks
            have mf := HMk.out.thaw k
            clear hm1
            go_wp2_with fail
            go_roundg (t - k2)
            case measure => have := Hk2.out; omega
            case rel =>
              refine ⟨k2, rfl, by have := Hk2.out; omega, by have := Hk2.out; omega, Lib.hid (HWk.out.setCell (p := ⟨bm, k, none⟩) (by rw [Hbm.out]; exact Nat.le_refl _) _), Lib.hid ((HMk.out.set k m1 hks).fn (fun i _ => ?_))⟩
              have h1 := Hm1.out
              have h2 := Hm0.out
              have h3 := Hk2.out
              rw [if_neg (by omega)] at h2
              by_cases hik : i = k
              · subst hik
                rw [if_pos rfl, if_pos (by omega)]
                omega
              · rw [if_neg hik]
                by_cases hc : f ≤ i ∧ i < k
                · rw [if_pos hc, if_pos (by omega)]
                · rw [if_neg hc, if_neg (by omega)]
          · have hkI : decide ((k : Int) < (t : Int)) = false := decide_eq_false (by omega)
            have hkN : decide (k < t) = false := decide_eq_false (by omega)
            have hkt : k = t := by omega
            rw [hkt] at HMk
            clear hk hkt
            have HX1 := Lib.hid (show ∀ i, cntT (X.take j1) i = cntT (X.take j) i + if f ≤ i ∧ i < t then 1 else 0 from fun i => by rw [← Hj1.out, cntT_succ X j i hjX, Hf.out, Ht.out])
            by_cases hft : f < t
            · have hftI : (f : Int) < (t : Int) := by omega
              have HLL := Lib.hid (show t = lastT (X.take j1) from by rw [← Hj1.out, lastT_succ X j hjX, Hf.out, Ht.out, if_pos hft])
              go_wp2_with fail
              go_quiet (fail)
              go_wp2_with fail
              go_roundg (nX - j1)
              case measure => have := Hj1.out; omega
              case rel => exact ⟨j1, t, rfl, rfl, by have := Hj1.out; omega, HLL, Lib.hid (below_drewN HWk.out _), Lib.hid (HMk.out.fn (fun i _ => (HX1.out i).symm))⟩
            · have hftI : decide ((f : Int) < (t : Int)) = false := decide_eq_false (by omega)
              have hftN : decide (f < t) = false := decide_eq_false (by omega)
              have HLL := Lib.hid (show la = lastT (X.take j1) from by rw [← Hj1.out, lastT_succ X j hjX, Hf.out, Ht.out, if_neg hft]; exact HLa.out)
              go_wp2_with fail
              go_quiet (fail)
              go_wp2_with fail
              go_roundg (nX - j1)
              case measure => have := Hj1.out; omega
              case rel => exact ⟨j1, la, rfl, rfl, by have := Hj1.out; omega, HLL, Lib.hid (below_drewN HWk.out _), Lib.hid (HMk.out.fn (fun i _ => (HX1.out i).symm))⟩
      | true =>
        have e4 : decide ((f : Int) < (la : Int)) = false := decide_eq_false (by have := HF.out.2.2 (by simpa using hk6); omega)
        have e4n : decide (f < la) = false := decide_eq_false (by have := HF.out.2.2 (by simpa using hk6); omega)
        go_wp2_with fail
        go_quiet (fail)
        obtain ⟨WO, HWO⟩ : ∃ x, Hid (wr.drewN nq = x) := ⟨_, Lib.hid rfl⟩
        have HW2 := Lib.hid (show Below W1.heap.size W1 (wr.drewN nq) from below_drewN HW.out nq)
        have HM2 := Lib.hid (show Met (wr.drewN nq) bm s.size (fun i => cntT (X.take j) i) from HM.out)
        have c10 : (wr.drewN nq).cell? ⟨g1, j * 4, none⟩ = some (.int .i64 kd) := c10
        have c11 : (wr.drewN nq).cell? ⟨g1, j * 4 + 1, none⟩ = some (.int .i64 (f : Int)) := C11.out
        rw [HWO.out] at HW2 HM2 c10 c11 ⊢
        clear c12 e1 e2 e3 e2n e3n e4 e4n
        go_wp2_with fail
        clear c10 c11
        go_loopg [8] (t - f) (fun g v8 wr => ∃ k : Nat, v8 = .int .i64 (k : Int) ∧ g + k = t ∧ f ≤ k ∧ Hid (Below W1.heap.size W1 wr) ∧ Hid (Met wr bm s.size (fun i => cntT (X.take j) i + if f ≤ i ∧ i < k then 1 else 0)))
        case atStart => exact ⟨f, rfl, by have := HF.out.1; omega, Nat.le_refl _, HW2, Lib.hid (HM2.out.fn (fun i _ => by rw [if_neg (by omega)]; rfl))⟩
        case round =>
          obtain ⟨k, rfl, hgk, hfk, HWk, HMk⟩ := hrel
          have c11 : wr.cell? ⟨g1, j * 4 + 1, none⟩ = some (.int .i64 (f : Int)) := (HWk.out.cell Hlt.out).trans ((HW.out.cell Hlt.out).symm.trans C11.out)
          have c12 : wr.cell? ⟨g1, j * 4 + 2, none⟩ = some (.int .i64 (t : Int)) := (HWk.out.cell Hlt.out).trans ((HW.out.cell Hlt.out).symm.trans C12.out)
          by_cases hk : k < t
          · have hkI : (k : Int) < (t : Int) := by omega
            have hks : k < s.size := by have := HF.out.2.1; omega
            have hksI : (k : Int) < (s.size : Int) := by omega
            obtain ⟨k2, Hk2⟩ : ∃ x, Hid (k + 1 = x) := ⟨_, Lib.hid rfl⟩
            have hkw : IntKind.i64.wrap ((k : Int) + 1) = (k2 : Int) := by rw [IntKind.wrap_i64, ← Hk2.out]; omega
            obtain ⟨m0, Hm0⟩ : ∃ x, Hid ((cntT (X.take j) k + if f ≤ k ∧ k < k then 1 else 0) = x) := ⟨_, Lib.hid rfl⟩
            have hm1 : m0 ≤ 1 := by
              have h1 := cntT_take X j k
              have h2 := (HV.out.one k (by rw [bytes_len]; exact hks)).1
              rw [← Hm0.out, if_neg (by omega)]
              omega
            obtain ⟨m1, Hm1⟩ : ∃ x, Hid (m0 + 1 = x) := ⟨_, Lib.hid rfl⟩
            have hmw : IntKind.i64.wrap ((m0 : Int) + 1) = (m1 : Int) := by rw [IntKind.wrap_i64, ← Hm1.out]; omega
            have mc : wr.cell? ⟨bm, k, none⟩ = some (.int .i64 (m0 : Int)) := by rw [← Hm0.out]; exact HMk.out.cell k hks
            have mf := HMk.out.thaw k
            clear hm1
            go_wp2_with fail
            go_roundg (t - k2)
            case measure => have := Hk2.out; omega
            case rel =>
              refine ⟨k2, rfl, by have := Hk2.out; omega, by have := Hk2.out; omega, Lib.hid (HWk.out.setCell (p := ⟨bm, k, none⟩) (by rw [Hbm.out]; exact Nat.le_refl _) _), Lib.hid ((HMk.out.set k m1 hks).fn (fun i _ => ?_))⟩
              have h1 := Hm1.out
              have h2 := Hm0.out
              have h3 := Hk2.out
              rw [if_neg (by omega)] at h2
              by_cases hik : i = k
              · subst hik
                rw [if_pos rfl, if_pos (by omega)]
                omega
              · rw [if_neg hik]
                by_cases hc : f ≤ i ∧ i < k
                · rw [if_pos hc, if_pos (by omega)]
                · rw [if_neg hc, if_neg (by omega)]
          · have hkI : decide ((k : Int) < (t : Int)) = false := decide_eq_false (by omega)
            have hkN : decide (k < t) = false := decide_eq_false (by omega)
            have hkt : k = t := by omega
            rw [hkt] at HMk
            clear hk hkt
            have HX1 := Lib.hid (show ∀ i, cntT (X.take j1) i = cntT (X.take j) i + if f ≤ i ∧ i < t then 1 else 0 from fun i => by rw [← Hj1.out, cntT_succ X j i hjX, Hf.out, Ht.out])
            by_cases hft : f < t
            · have hftI : (f : Int) < (t : Int) := by omega
              have HLL := Lib.hid (show t = lastT (X.take j1) from by rw [← Hj1.out, lastT_succ X j hjX, Hf.out, Ht.out, if_pos hft])
              go_wp2_with fail
              go_quiet (fail)
              go_wp2_with fail
              go_roundg (nX - j1)
              case measure => have := Hj1.out; omega
              case rel => exact ⟨j1, t, rfl, rfl, by have := Hj1.out; omega, HLL, Lib.hid (below_drewN HWk.out _), Lib.hid (HMk.out.fn (fun i _ => (HX1.out i).symm))⟩
            · have hftI : decide ((f : Int) < (t : Int)) = false := decide_eq_false (by omega)
              have hftN : decide (f < t) = false := decide_eq_false (by omega)
              have HLL := Lib.hid (show la = lastT (X.take j1) from by rw [← Hj1.out, lastT_succ X j hjX, Hf.out, Ht.out, if_neg hft]; exact HLa.out)
              go_wp2_with fail
              go_quiet (fail)
              go_wp2_with fail
              go_roundg (nX - j1)
              case measure => have := Hj1.out; omega
              case rel => exact ⟨j1, la, rfl, rfl, by have := Hj1.out; omega, HLL, Lib.hid (below_drewN HWk.out _), Lib.hid (HMk.out.fn (fun i _ => (HX1.out i).symm))⟩
    · have hjI : decide ((j : Int) < (nX : Int)) = false := decide_eq_false (by omega)
      have hjN : decide (j < nX) = false := decide_eq_false hj
      have hjn : j = X.length := by rw [HnX.out]; omega
      rw [hjn, List.take_length] at HM
      clear hjn hj
      have HBx := Lib.hid (show Below B w wr from HB1.out.trans (Below.mono HW.out (by rw [← HB.out]; exact HB1.out.size)))
      go_wp2_with (go_at_call 20; refine hold ?_)
      refine Hold.mk ?_
      refine (HC.out _ (HLw.out.go (by rw [HB.out]; exact HBx.out))).mono ?_
      rintro e W3 ⟨⟨rv, rfl, hr⟩, hb⟩
      have HB3 := Lib.hid (show Below B w W3 from HBx.out.trans (Below.mono hb (by rw [← HB.out]; exact HBx.out.size)))
      have HWc := Lib.hid (show Below W1.heap.size W1 W3 from HW.out.trans (Below.mono hb HW.out.size))
      have HMc := Lib.hid (show Met W3 bm s.size (fun i => cntT X i) from HM.out.same (hb.block bm HM.out.lt))
      obtain ⟨bq, Hbq⟩ : ∃ x, Hid (wr.heap.size = x) := ⟨_, Lib.hid rfl⟩
      have Hbq2 := Lib.hid (show bm < bq from by rw [← Hbq.out]; exact HM.out.lt)
      have HSv := Lib.hid (SpanB.of hr)
      rw [HCc.out, Hbq.out] at HSv
      clear hr hb
      obtain ⟨adc, cpc, rfl, hmC, Rc⟩ := HSv.out
      rw [HnC.out] at hmC ⊢
      have hmCI : (nC : Int) ≤ 9223372036854775807 := by unfold maxLen at hmC; omega
      have HRc := Lib.hid Rc
      clear Rc hmC
      go_wp2_with fail
      go_loopg [10, 11] nC (fun g v10 v11 wr => ∃ j : Nat, v10 = .int .i64 (j : Int) ∧ g + j = nC ∧ Hid (Keep bq W3 wr) ∧ Hid (Below W1.heap.size W1 wr) ∧ Hid (Met wr bm s.size (fun i => cntT X i + cntC (C.take j) i)))
      case atStart => exact ⟨0, rfl, rfl, Lib.hid (fun _ _ _ => rfl), HWc, Lib.hid (HMc.out.fn (fun i _ => rfl))⟩
      case round =>
        obtain ⟨j, rfl, hg, HK, HW, HM⟩ := hrel
        by_cases hj : j < nC
        · have hjI : (j : Int) < (nC : Int) := by omega
          have hjC : j < C.length := by rw [HnC.out]; exact hj
          obtain ⟨j1, Hj1⟩ : ∃ x, Hid (j + 1 = x) := ⟨_, Lib.hid rfl⟩
          have hjw : IntKind.i64.wrap ((j : Int) + 1) = (j1 : Int) := by rw [IntKind.wrap_i64, ← Hj1.out]; omega
          obtain ⟨gc, rfl, ge1, lt1, c10, c11⟩ := HRc.out j hjC
          obtain ⟨f, Hf⟩ : ∃ x, Hid (C[j].1 = x) := ⟨_, Lib.hid rfl⟩
          obtain ⟨t, Ht⟩ : ∃ x, Hid (C[j].2 = x) := ⟨_, Lib.hid rfl⟩
          rw [Hf.out] at c10
          rw [Ht.out] at c11
          have HGc := Lib.hid (And.intro ge1 lt1)
          have C10 := Lib.hid c10
          have C11 := Lib.hid c11
          have c10 := (HK.out.cell ge1 lt1 _).trans c10
          have c11 := (HK.out.cell ge1 lt1 _).trans c11
          have HF := Lib.hid (show f ≤ t ∧ t ≤ s.size from by
            have h := HV.out.rem j hjC
            rw [Hf.out, Ht.out, bytes_len] at h
            exact h)
          have e1 : decide ((f : Int) < 0) = false := decide_eq_false (by omega)
          have e2 : decide ((t : Int) < (f : Int)) = false := decide_eq_false (by have := HF.out.1; omega)
          have e2n : decide (t < f) = false := decide_eq_false (by have := HF.out.1; omega)
          have e3 : decide ((s.size : Int) < (t : Int)) = false := decide_eq_false (by have := HF.out.2; omega)
          have e3n : decide (s.size < t) = false := decide_eq_false (by have := HF.out.2; omega)
          clear lt1 ge1
          go_wp2_with fail
          go_quiet (fail)
          obtain ⟨WO, HWO⟩ : ∃ x, Hid (wr.drewN nq = x) := ⟨_, Lib.hid rfl⟩
          have HK2 := Lib.hid (show Keep bq W3 (wr.drewN nq) from HK.out)
          have HW2 := Lib.hid (show Below W1.heap.size W1 (wr.drewN nq) from below_drewN HW.out nq)
          have HM2 := Lib.hid (show Met (wr.drewN nq) bm s.size (fun i => cntT X i + cntC (C.take j) i) from HM.out)
          have c10 : (wr.drewN nq).cell? ⟨gc, j * 2, none⟩ = some (.int .i64 (f : Int)) := c10
          rw [HWO.out] at HK2 HW2 HM2 c10 ⊢
          clear c11 e1 e2 e3 e2n e3n
          go_wp2_with fail
          clear c10
          go_loopg [11] (t - f) (fun g v11 wr => ∃ k : Nat, v11 = .int .i64 (k : Int) ∧ g + k = t ∧ f ≤ k ∧ Hid (Keep bq W3 wr) ∧ Hid (Below W1.heap.size W1 wr) ∧ Hid (Met wr bm s.size (fun i => cntT X i + cntC (C.take j) i + if f ≤ i ∧ i < k then 1 else 0)))
          case atStart => exact ⟨f, rfl, by have := HF.out.1; omega, Nat.le_refl _, HK2, HW2, Lib.hid (HM2.out.fn (fun i _ => by rw [if_neg (by omega)]; rfl))⟩
          case round =>
            obtain ⟨k, rfl, hgk, hfk, HKk, HWk, HMk⟩ := hrel
            have c11 : wr.cell? ⟨gc, j * 2 + 1, none⟩ = some (.int .i64 (t : Int)) := (HKk.out.cell HGc.out.1 HGc.out.2 _).trans C11.out
            by_cases hk : k < t
            · have hkI : (k : Int) < (t : Int) := by omega
              have hks : k < s.size := by have := HF.out.2; omega
              have hksI : (k : Int) < (s.size : Int) := by omega
              obtain ⟨k2, Hk2⟩ : ∃ x, Hid (k + 1 = x) := ⟨_, Lib.hid rfl⟩
              have hkw : IntKind.i64.wrap ((k : Int) + 1) = (k2 : Int) := by rw [IntKind.wrap_i64, ← Hk2.out]; omega
              obtain ⟨m0, Hm0⟩ : ∃ x, Hid ((cntT X k + cntC (C.take j) k + if f ≤ k ∧ k < k then 1 else 0) = x) := ⟨_, Lib.hid rfl⟩
              have hm1 : m0 ≤ 1 := by
                have h1 := cntC_take C j k
                have h2 := (HV.out.one k (by rw [bytes_len]; exact hks)).1
                rw [← Hm0.out, if_neg (by omega)]
                omega
              obtain ⟨m1, Hm1⟩ : ∃ x, Hid (m0 + 1 = x) := ⟨_, Lib.hid rfl⟩
              have hmw : IntKind.i64.wrap ((m0 : Int) + 1) = (m1 : Int) := by rw [IntKind.wrap_i64, ← Hm1.out]; omega
              have mc : wr.cell? ⟨bm, k, none⟩ = some (.int .i64 (m0 : Int)) := by rw [← Hm0.out]; exact HMk.out.cell k hks
              have mf := HMk.out.thaw k
              clear hm1
              go_wp2_with fail
              go_roundg (t - k2)
              case measure => have := Hk2.out; omega
              case rel =>
                refine ⟨k2, rfl, by have := Hk2.out; omega, by have := Hk2.out; omega, Lib.hid (HKk.out.set Hbq2.out _), Lib.hid (HWk.out.setCell (p := ⟨bm, k, none⟩) (by rw [Hbm.out]; exact Nat.le_refl _) _), Lib.hid ((HMk.out.set k m1 hks).fn (fun i _ => ?_))⟩
                have h1 := Hm1.out
                have h2 := Hm0.out
                have h3 := Hk2.out
                rw [if_neg (by omega)] at h2
                by_cases hik : i = k
                · subst hik
                  rw [if_pos rfl, if_pos (by omega)]
                  omega
                · rw [if_neg hik]
                  by_cases hc : f ≤ i ∧ i < k
                  · rw [if_pos hc, if_pos (by omega)]
                  · rw [if_neg hc, if_neg (by omega)]
            · have hkI : decide ((k : Int) < (t : Int)) = false := decide_eq_false (by omega)
              have hkN : decide (k < t) = false := decide_eq_false (by omega)
              have hkt : k = t := by omega
              rw [hkt] at HMk
              clear hk hkt
              have HX1 := Lib.hid (show ∀ i, cntC (C.take j1) i = cntC (C.take j) i + if f ≤ i ∧ i < t then 1 else 0 from fun i => by rw [← Hj1.out, cntC_succ C j i hjC, Hf.out, Ht.out])
              go_wp2_with fail
              go_roundg (nC - j1)
              case measure => have := Hj1.out; omega
              case rel => exact ⟨j1, rfl, by have := Hj1.out; omega, HKk, HWk, Lib.hid (HMk.out.fn (fun i _ => by rw [HX1.out i, Nat.add_assoc]))⟩
        · have hjI : decide ((j : Int) < (nC : Int)) = false := decide_eq_false (by omega)
          have hjN : decide (j < nC) = false := decide_eq_false hj
          have hjn : j = C.length := by rw [HnC.out]; omega
          rw [hjn, List.take_length] at HM
          clear hjn hj
          obtain ⟨W5, HW5⟩ : ∃ x, Hid (wr = x) := ⟨_, Lib.hid rfl⟩
          rw [HW5.out] at HM HW HK ⊢
          go_wp2_with fail
          go_loopg [12, 13] s.size (fun g v12 v13 wr => ∃ (i m : Nat), v12 = .int .i64 (i : Int) ∧ g + i = s.size ∧ wr = W5.drewN m)
          case atStart => exact ⟨0, 0, rfl, rfl, rfl⟩
          case round =>
            obtain ⟨i, m, rfl, hgi, rfl⟩ := hrel
            by_cases hi : i < s.size
            · have hiI : (i : Int) < (s.size : Int) := by omega
              have hone := HV.out.one i (by rw [bytes_len]; exact hi)
              obtain ⟨u, Hu⟩ : ∃ x, Hid (cntT X i + cntC C i = x) := ⟨_, Lib.hid rfl⟩
              have mc : W5.cell? ⟨bm, i, none⟩ = some (.int .i64 (u : Int)) := by rw [← Hu.out]; exact HM.out.cell i hi
              rw [Hu.out] at hone
              obtain ⟨z, hz⟩ : ∃ z, s[i].toNat = z := ⟨_, rfl⟩
              have hzz : s.data.toList[i]'(by rw [bytes_len]; exact hi) = s[i] := by simp; rfl
              rw [hzz, hz] at hone
              clear hzz Hu
              have hu : (u = 0 ∧ blankZ z) ∨ u = 1 := by
                rcases Nat.lt_or_ge u 1 with h | h
                · exact .inl ⟨by omega, hone.2 (by omega)⟩
                · exact .inr (by omega)
              unfold blankZ at hu
              clear hone
              rcases hu with ⟨rfl, rfl | rfl | rfl | rfl⟩ | rfl
              · go_wp2_with fail
                go_roundg (s.size - (i + 1))
                case measure => omega
                case rel => exact ⟨i + 1, m, by go_num, by omega, rfl⟩
              · go_wp2_with fail
                go_roundg (s.size - (i + 1))
                case measure => omega
                case rel => exact ⟨i + 1, m, by go_num, by omega, rfl⟩
              · go_wp2_with fail
                go_roundg (s.size - (i + 1))
                case measure => omega
                case rel => exact ⟨i + 1, m, by go_num, by omega, rfl⟩
              · go_wp2_with fail
                go_roundg (s.size - (i + 1))
                case measure => omega
                case rel => exact ⟨i + 1, m, by go_num, by omega, rfl⟩
              · by_cases q1 : z = 32
                · subst q1
                  go_wp2_with fail
                  go_roundg (s.size - (i + 1))
                  case measure => omega
                  case rel => exact ⟨i + 1, m, by go_num, by omega, rfl⟩
                · by_cases q2 : z = 9
                  · subst q2
                    go_wp2_with fail
                    go_roundg (s.size - (i + 1))
                    case measure => omega
                    case rel => exact ⟨i + 1, m, by go_num, by omega, rfl⟩
                  · by_cases q3 : z = 13
                    · subst q3
                      go_wp2_with fail
                      go_roundg (s.size - (i + 1))
                      case measure => omega
                      case rel => exact ⟨i + 1, m, by go_num, by omega, rfl⟩
                    · by_cases q4 : z = 10
                      · subst q4
                        go_wp2_with fail
                        go_roundg (s.size - (i + 1))
                        case measure => omega
                        case rel => exact ⟨i + 1, m, by go_num, by omega, rfl⟩
                      · have p32 : ((z : Int) == 32) = false := by simp; omega
                        have p9 : ((z : Int) == 9) = false := by simp; omega
                        have p13 : ((z : Int) == 13) = false := by simp; omega
                        have p10 : ((z : Int) == 10) = false := by simp; omega
                        clear q1 q2 q3 q4
                        go_wp2_with fail
                        go_roundg (s.size - (i + 1))
                        case measure => omega
                        case rel => exact ⟨i + 1, m, by go_num, by omega, rfl⟩
            · have hiI : decide ((i : Int) < (s.size : Int)) = false := decide_eq_false (by omega)
              have hiN : decide (i < s.size) = false := decide_eq_false hi
              obtain ⟨hp, hfin⟩ := HV.out.fin
              obtain ⟨g1, rfl, lt1, c10, _, _, _⟩ := HR1.out (X.length - 1) hp
              rw [hfin] at c10
              have c10 := (HW.out.cell lt1).trans c10
              rw [HnX.out] at c10 hp
              obtain ⟨n0, Hn0⟩ : ∃ x, Hid (nX - 1 = x) := ⟨_, Lib.hid rfl⟩
              rw [Hn0.out] at c10 hp
              have hnw : IntKind.i64.wrap ((nX : Int) - 1) = (n0 : Int) := by rw [IntKind.wrap_i64, ← Hn0.out]; have := Hn0.out; omega
              have hn0I : (n0 : Int) < (nX : Int) := by omega
              have hposI : (0 : Int) < (nX : Int) := by omega
              clear lt1 hp hfin
              have HB7 := Lib.hid (show Below B w (W5.drewN m) from below_drewN (HB1.out.trans (Below.mono HW.out (by rw [← HB.out]; exact HB1.out.size))) m)
              go_wp2_with (go_at_call 12; refine hold ?_)
              refine Hold.mk ?_
              refine (HA.out _ (HLw.out.go (by rw [HB.out]; exact HB7.out))).mono ?_
              rintro e W9 ⟨rfl, hb⟩
              have HB9 := Lib.hid (show Below B w W9 from HB7.out.trans (Below.mono hb (by rw [← HB.out]; exact HB7.out.size)))
              clear hb
              go_wp2_with fail
              go_ret
              exact ⟨rfl, HB9.out⟩
theorem scanCovers_any (s : ByteArray) {w : World} (hL : Lay w) : Calls Tryd.prog 9 #[.string s] w fun e w' => e = .returned (.bool true) ∧ Below w.heap.size w w' := by
  by_cases hs : (4000 : Int) < (s.size : Int)
  · exact scanCovers_big s hs hL
  · by_cases h1 : (resT (scanAll s.data.toList)).1 = 0
    · exact scanCovers_ok s (by omega) h1 hL
    · exact scanCovers_bad s (by omega) h1 hL
end Go.Proofs.YtdgjegkoncodaaaDoor
