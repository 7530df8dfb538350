/- The walk of ScanBlanks. Conditions: what the library's variables hold. -/
import Derived.Test.YtdgjegkoncodaaaDoorScTokens
import Derived.Test.YtdgjegkoncodaaaDoorScIns2
import Derived.Test.YtdgjegkoncodaaaDoorRegT
namespace Go.Proofs.YtdgjegkoncodaaaDoor
open Go.RowKit

theorem blank_text (s : ByteArray) (a : Nat) (h : a ≤ s.size) : (s.extract 0 a ++ ⟨#[32, 47, 42, 32, 120, 32, 42, 47, 9]⟩ ++ s.extract a s.size).data.toList = s.data.toList.take a ++ insB (s.data.toList.drop a) := by
  rw [extract_at s a s.size]
  have e0 : (s.extract 0 a).data.toList = s.data.toList.take a := by rw [extract_at s 0 a, strB_toList]; simp
  have e1 : (strB ((s.data.toList.drop a).take (s.size - a))).data.toList = s.data.toList.drop a := by rw [strB_toList, List.take_of_length_le (by rw [List.length_drop, bytes_len]; omega)]
  simp only [ByteArray.data_append, Array.toList_append]
  rw [e0, e1]
  simp [insB]
set_option maxRecDepth 100000 in
set_option maxHeartbeats 6400000 in
theorem scanBlanks_big (s : ByteArray) (k : Int) (hs : (4000 : Int) < (s.size : Int)) {w : World} (hL : Lay w) : Calls Tryd.prog 10 #[.string s, .int .i64 k] w fun e w' => e = .returned (.bool true) ∧ Below w.heap.size w w' := by
  have HA := Lib.hid (fun (W : World) (h : Lay W) => aw_any h)
  have HLw := Lib.hid hL
  clear hL
  obtain ⟨B, HB⟩ : ∃ b, Hid (w.heap.size = b) := ⟨_, Lib.hid rfl⟩
  rw [HB.out]
  have HR0 := Lib.hid (show Below B w w from Below.refl _ _)
  go_enter Tryd.func10, Tryd.ntmps10
  go_wp2_with (go_at_call 12; refine hold ?_)
  refine Hold.mk ?_
  refine (HA.out _ (HLw.out.go (by rw [HB.out]; exact HR0.out))).mono ?_
  rintro e W9 ⟨rfl, hb⟩
  have HB9 := Lib.hid (show Below B w W9 from HR0.out.trans (Below.mono hb (by rw [← HB.out]; exact HR0.out.size)))
  clear hb
  go_wp2_with fail
  go_ret
  exact ⟨rfl, HB9.out⟩
set_option maxRecDepth 100000 in
set_option maxHeartbeats 6400000 in
theorem scanBlanks_bad (s : ByteArray) (k : Int) (hs : s.size ≤ 4000) (h1 : (resT (scanAll s.data.toList)).1 ≠ 0) {w : World} (hL : Lay w) : Calls Tryd.prog 10 #[.string s, .int .i64 k] w fun e w' => e = .returned (.bool true) ∧ Below w.heap.size w w' := by
  have HA := Lib.hid (fun (W : World) (h : Lay W) => aw_any h)
  have HLw := Lib.hid hL
  clear hL
  obtain ⟨B, HB⟩ : ∃ b, Hid (w.heap.size = b) := ⟨_, Lib.hid rfl⟩
  rw [HB.out]
  have HR0 := Lib.hid (show Below B w w from Below.refl _ _)
  have hsz : decide ((4000 : Int) < (s.size : Int)) = false := decide_eq_false (by omega)
  have HT1 := Lib.hid (fun (W : World) (h : Lay W) => tokens_lay s h)
  obtain ⟨T1, HT1t⟩ : ∃ x, Hid (resT (scanAll s.data.toList) = x) := ⟨_, Lib.hid rfl⟩
  rw [HT1t.out] at HT1
  obtain ⟨k1, Hk1⟩ : ∃ x, Hid (T1.1 = x) := ⟨_, Lib.hid rfl⟩
  obtain ⟨a1, Ha1⟩ : ∃ x, Hid (T1.2.1 = x) := ⟨_, Lib.hid rfl⟩
  rw [HT1t.out, Hk1.out] at h1
  clear hs
  go_enter Tryd.func10, Tryd.ntmps10
  go_wp2_with (go_at_call 13; refine hold ?_)
  refine Hold.mk ?_
  refine (HT1.out _ (HLw.out.go (by rw [HB.out]; exact HR0.out))).mono ?_
  rintro e W1a ⟨⟨tv1, rfl, hr⟩, hb⟩
  rw [Hk1.out, Ha1.out]
  obtain ⟨W1, HW1⟩ : ∃ x, Hid (W1a.alloc (.cells #[.int .i64 k1, .string ⟨#[]⟩, .int .i64 a1] 25) = x) := ⟨_, Lib.hid rfl⟩
  obtain ⟨b1, Hb1⟩ : ∃ b, Hid (W1a.heap.size = b) := ⟨_, Lib.hid rfl⟩
  have HBa1 := Lib.hid (show Below W1a.heap.size W1a W1 from by rw [← HW1.out]; exact (Below.refl _ _).alloc (Nat.le_refl _) _)
  have HBs1 := Lib.hid (hb.trans (Below.mono HBa1.out hb.size))
  have HB1 := Lib.hid (show Below B w W1 from HR0.out.trans (Below.mono HBs1.out (by rw [← HB.out]; exact HR0.out.size)))
  have HV1 := Lib.hid ((TokV.of hr).go HBa1.out)
  have G1 := Lib.hid (show W1.heap[b1]? = some (.cells #[.int .i64 k1, .string ⟨#[]⟩, .int .i64 a1] 25 (0, 0)) from by rw [← HW1.out, ← Hb1.out]; exact heap_alloc_new W1a _)
  clear hr hb
  go_upto_region 4 with fail
  rw [HW1.out, Hb1.out]
  have h10 : W1.cell? ⟨b1, 0, none⟩ = some (.int .i64 k1) := by simp only [World.cell?, G1.out]; rfl
  obtain ⟨ad1, cp1, rfl, _, _⟩ := HV1.out
  have e1 : (k1 != (0 : Int)) = true := by simpa using h1
  clear h1
  go_wp2_with (go_at_call 12; refine hold ?_)
  refine Hold.mk ?_
  refine (HA.out _ (HLw.out.go (by rw [HB.out]; exact HB1.out))).mono ?_
  rintro e W9 ⟨rfl, hb⟩
  have HB9 := Lib.hid (show Below B w W9 from HB1.out.trans (Below.mono hb (by rw [← HB.out]; exact HB1.out.size)))
  clear hb
  go_wp2_with fail
  go_ret
  exact ⟨rfl, HB9.out⟩
set_option maxRecDepth 100000 in
set_option maxHeartbeats 6400000 in
theorem scanBlanks_ok (s : ByteArray) (k : Int) (hs : s.size ≤ 4000) (h1 : (resT (scanAll s.data.toList)).1 = 0) {w : World} (hL : Lay w) : Calls Tryd.prog 10 #[.string s, .int .i64 k] w fun e w' => e = .returned (.bool true) ∧ Below w.heap.size w w' := by
  have HA := Lib.hid (fun (W : World) (h : Lay W) => aw_any h)
  have HLw := Lib.hid hL
  clear hL
  obtain ⟨B, HB⟩ : ∃ b, Hid (w.heap.size = b) := ⟨_, Lib.hid rfl⟩
  rw [HB.out]
  have HR0 := Lib.hid (show Below B w w from Below.refl _ _)
  have hsz : decide ((4000 : Int) < (s.size : Int)) = false := decide_eq_false (by omega)
  have HT1 := Lib.hid (fun (W : World) (h : Lay W) => tokens_lay s h)
  obtain ⟨T1, HT1t⟩ : ∃ x, Hid (resT (scanAll s.data.toList) = x) := ⟨_, Lib.hid rfl⟩
  rw [HT1t.out] at HT1
  obtain ⟨k1, Hk1⟩ : ∃ x, Hid (T1.1 = x) := ⟨_, Lib.hid rfl⟩
  obtain ⟨a1, Ha1⟩ : ∃ x, Hid (T1.2.1 = x) := ⟨_, Lib.hid rfl⟩
  have hbl := fun k hk => blanks_law h1 (by rw [bytes_len]; exact hs) k hk
  have hx0 : 1 ≤ T1.2.2.1.length ∧ T1.2.2.1.length ≤ 10000 := by
    obtain ⟨x, c, e1, e2, _, _⟩ := ok_of h1
    have := sc3_len e2
    rw [← HT1t.out, e1]
    rw [bytes_len] at this
    exact ⟨this.2.1, by show x.length ≤ 10000; omega⟩
  rw [HT1t.out] at hbl
  rw [HT1t.out, Hk1.out] at h1
  have HK1 := Lib.hid h1
  have hsI : s.size ≤ 4000 := hs
  clear h1 hs
  obtain ⟨X, HX⟩ : ∃ x, Hid (T1.2.2.1 = x) := ⟨_, Lib.hid rfl⟩
  simp only [HX.out] at hbl
  rw [HX.out] at hx0
  obtain ⟨n, Hn⟩ : ∃ x, Hid (X.length = x) := ⟨_, Lib.hid rfl⟩
  rw [Hn.out] at hx0
  obtain ⟨kk, Hkk⟩ : ∃ x : Nat, Hid (((k.tmod (n : Int)).natAbs) = x) := ⟨_, Lib.hid rfl⟩
  have hkk : kk < n := by
    rw [← Hkk.out, Int.natAbs_tmod, Int.natAbs_natCast]
    exact Nat.mod_lt _ hx0.1
  have hkX : kk < X.length := by rw [Hn.out]; exact hkk
  obtain ⟨b1', b2', jx, b3'⟩ := hbl kk hkX
  rw [bytes_len] at b1'
  obtain ⟨at_, Hat⟩ : ∃ x, Hid (X[kk].frm = x) := ⟨_, Lib.hid rfl⟩
  rw [Hat.out] at b1' b2' b3'
  have HT2 := Lib.hid (fun (W : World) (h : Lay W) => tokens_lay (s.extract 0 at_ ++ ⟨#[32, 47, 42, 32, 120, 32, 42, 47, 9]⟩ ++ s.extract at_ s.size) h)
  rw [blank_text s at_ b1'] at HT2
  obtain ⟨T2, HT2t⟩ : ∃ x, Hid (resT (scanAll (s.data.toList.take at_ ++ insB (s.data.toList.drop at_))) = x) := ⟨_, Lib.hid rfl⟩
  rw [HT2t.out] at HT2 b2' b3'
  obtain ⟨k2, Hk2⟩ : ∃ x, Hid (T2.1 = x) := ⟨_, Lib.hid rfl⟩
  obtain ⟨a2, Ha2⟩ : ∃ x, Hid (T2.2.1 = x) := ⟨_, Lib.hid rfl⟩
  rw [Hk2.out] at b2'
  have HK2 := Lib.hid b2'
  obtain ⟨Z, HZz⟩ : ∃ x, Hid (T2.2.2.1 = x) := ⟨_, Lib.hid rfl⟩
  rw [HZz.out] at b3'
  have HZ := Lib.hid b3'
  have Hnz := Lib.hid (show Z.length = n from by rw [HZ.out, ins_len]; exact Hn.out)
  have hatI : (at_ : Int) ≤ (s.size : Int) := by omega
  have Hatl := Lib.hid b1'
  have HN := Lib.hid (And.intro hx0.1 hx0.2)
  have HC := Lib.hid (fun (W : World) (h : Lay W) => comments_lay s h)
  rw [HT1t.out] at HC
  obtain ⟨C, HCc⟩ : ∃ x, Hid (T1.2.2.2 = x) := ⟨_, Lib.hid rfl⟩
  have q1 : ((n : Int) == 0) = false := by simp; omega
  have hnpos : (0 : Int) < (n : Int) := by omega
  have hkkI : (kk : Int) < (n : Int) := by omega
  have Hfr := Lib.hid (show ∀ u (hu : u < X.length), X[u].frm ≤ s.size from fun u hu => by have h := (hbl u hu).1; rw [bytes_len] at h; exact h)
  clear hbl b2' b3' b1' hx0
  go_enter Tryd.func10, Tryd.ntmps10
  go_wp2_with (go_at_call 13; refine hold ?_)
  refine Hold.mk ?_
  refine (HT1.out _ (HLw.out.go (by rw [HB.out]; exact HR0.out))).mono ?_
  rintro e W1a ⟨⟨tv1, rfl, hr⟩, hb⟩
  rw [Hk1.out, Ha1.out]
  obtain ⟨W1, HW1⟩ : ∃ x, Hid (W1a.alloc (.cells #[.int .i64 k1, .string ⟨#[]⟩, .int .i64 a1] 25) = x) := ⟨_, Lib.hid rfl⟩
  obtain ⟨b1, Hb1⟩ : ∃ b, Hid (W1a.heap.size = b) := ⟨_, Lib.hid rfl⟩
  have HBa1 := Lib.hid (show Below W1a.heap.size W1a W1 from by rw [← HW1.out]; exact (Below.refl _ _).alloc (Nat.le_refl _) _)
  have HBs1 := Lib.hid (hb.trans (Below.mono HBa1.out hb.size))
  have HB1 := Lib.hid (show Below B w W1 from HR0.out.trans (Below.mono HBs1.out (by rw [← HB.out]; exact HR0.out.size)))
  have HV1 := Lib.hid ((TokV.of hr).go HBa1.out)
  have G1 := Lib.hid (show W1.heap[b1]? = some (.cells #[.int .i64 k1, .string ⟨#[]⟩, .int .i64 a1] 25 (0, 0)) from by rw [← HW1.out, ← Hb1.out]; exact heap_alloc_new W1a _)
  clear hr hb
  go_upto_region 4 with fail
  rw [HW1.out, Hb1.out]
  obtain rfl := HK1.out
  have h10 : W1.cell? ⟨b1, 0, none⟩ = some (.int .i64 0) := by simp only [World.cell?, G1.out]; rfl
  rw [HX.out] at HV1
  obtain ⟨ad1, cp1, rfl, _, R1⟩ := HV1.out
  rw [Hn.out]
  have HR1 := Lib.hid R1
  clear R1
  obtain ⟨g1, rfl, _, _, cf, _, _⟩ := HR1.out kk hkX
  rw [Hat.out] at cf
  obtain ⟨km, Hkm⟩ : ∃ x : Int, Hid (k.tmod (n : Int) = x) := ⟨_, Lib.hid rfl⟩
  have r0 : k.tmod (n : Int) = km := Hkm.out
  have Hkm2 := Lib.hid (show km.natAbs = kk from by rw [← Hkm.out]; exact Hkk.out)
  have HKX := Lib.hid hkX
  have r1 : IntKind.i64.wrap km = km := by rw [IntKind.wrap_i64]; have h1 := Hkm2.out; have h2 := HN.out; have h3 := HKX.out; rw [Hn.out] at h3; omega
  clear hkk
  -- the place
  have hcs : (km < 0 ∧ -km = (kk : Int)) ∨ (¬ km < 0 ∧ km = (kk : Int)) := by have := Hkm2.out; omega
  have HCS := Lib.hid hcs
  clear hcs
  rcases HCS.out with ⟨h, h2⟩ | ⟨h, h2⟩
  · have h' : km < 0 := h
    have h2' : IntKind.i64.wrap (-km) = (kk : Int) := by rw [IntKind.wrap_i64]; have := HN.out; omega
    clear h h2
    go_upto_region 10 with fail
    clear h' h2' r0 r1 q1
    go_wp2_with (go_at_call 20; refine hold ?_)
    refine Hold.mk ?_
    refine (HC.out _ (HLw.out.go (by rw [HB.out]; exact HB1.out))).mono ?_
    rintro e WC ⟨⟨rv, rfl, hr⟩, hb⟩
    have HVc := Lib.hid (SpanV.of hr)
    rw [HCc.out] at HVc
    have HBc := Lib.hid (show Below B w WC from HB1.out.trans (Below.mono hb (by rw [← HB.out]; exact HB1.out.size)))
    have HBs := Lib.hid hb
    clear hr hb cf h10
    obtain ⟨adc, cpc, rfl, hmc, Rc⟩ := HVc.out
    obtain ⟨nc, Hnc⟩ : ∃ x, Hid (C.length = x) := ⟨_, Lib.hid rfl⟩
    rw [Hnc.out] at hmc ⊢
    have hmI : (nc : Int) ≤ 9223372036854775807 := by unfold maxLen at hmc; omega
    have HRc := Lib.hid Rc
    clear Rc hmc
    go_wp2_with fail
    go_loopg [9] nc (fun g v9 wr => ∃ (i m : Nat), v9 = .int .i64 (i : Int) ∧ g + i = nc ∧ wr = WC.drewN m)
    case atStart => exact ⟨0, 0, rfl, rfl, rfl⟩
    case round =>
      obtain ⟨i, m, rfl, hg, rfl⟩ := hrel
      have HB5 := Lib.hid (show Below B w (WC.drewN m) from below_drewN HBc.out m)
      by_cases hin : i < nc
      · have hinI : (i : Int) < (nc : Int) := by omega
        obtain ⟨gc, rfl, _, c0, c1⟩ := HRc.out i (by rw [Hnc.out]; exact hin)
        obtain ⟨cf, Hcf⟩ : ∃ x, Hid ((C[i]'(by rw [Hnc.out]; exact hin)).1 = x) := ⟨_, Lib.hid rfl⟩
        obtain ⟨ct, Hct⟩ : ∃ x, Hid ((C[i]'(by rw [Hnc.out]; exact hin)).2 = x) := ⟨_, Lib.hid rfl⟩
        rw [Hcf.out] at c0
        rw [Hct.out] at c1
        clear Hcf Hct
        by_cases d1 : cf < at_
        · have d1I : (cf : Int) < (at_ : Int) := by omega
          by_cases d2 : at_ < ct
          · have d2I : (at_ : Int) < (ct : Int) := by omega
            go_wp2_with (go_at_call 12; refine hold ?_)
            refine Hold.mk ?_
            refine (HA.out _ (HLw.out.go (by rw [HB.out]; exact HB5.out))).mono ?_
            rintro e W9 ⟨rfl, hb⟩
            have HB9 := Lib.hid (show Below B w W9 from HB5.out.trans (Below.mono hb (by rw [← HB.out]; exact HB5.out.size)))
            clear hb
            go_wp2_with fail
            go_ret
            exact ⟨rfl, HB9.out⟩
          · have d2f : decide ((at_ : Int) < (ct : Int)) = false := decide_eq_false (by omega)
            by_cases e1 : at_ = ct
            · subst e1
              by_cases e2 : 0 < at_
              · have e2I : (0 : Int) < (at_ : Int) := by omega
                obtain ⟨at1, Hat1⟩ : ∃ x, Hid (at_ - 1 = x) := ⟨_, Lib.hid rfl⟩
                have hw : IntKind.i64.wrap ((at_ : Int) - 1) = (at1 : Int) := by rw [IntKind.wrap_i64, ← Hat1.out]; omega
                have hl1 : at1 < s.size := by have := Hat1.out; omega
                have hl1I : (at1 : Int) < (s.size : Int) := by omega
                obtain ⟨z, hz⟩ : ∃ z, s[at1].toNat = z := ⟨_, rfl⟩
                cases hz47 : ((z : Int) != 47) with
                | true =>
                  go_wp2_with (go_at_call 12; refine hold ?_)
                  refine Hold.mk ?_
                  refine (HA.out _ (HLw.out.go (by rw [HB.out]; exact HB5.out))).mono ?_
                  rintro e W9 ⟨rfl, hb⟩
                  have HB9 := Lib.hid (show Below B w W9 from HB5.out.trans (Below.mono hb (by rw [← HB.out]; exact HB5.out.size)))
                  clear hb
                  go_wp2_with fail
                  go_ret
                  exact ⟨rfl, HB9.out⟩
                | false =>
                  go_wp2_with fail
                  go_roundg (nc - (i + 1))
                  case measure => omega
                  case rel => exact ⟨i + 1, m, by go_num, by omega, rfl⟩
              · exfalso
                omega
            · have e1f : ((at_ : Int) == (ct : Int)) = false := by simp; omega
              go_wp2_with fail
              go_roundg (nc - (i + 1))
              case measure => omega
              case rel => exact ⟨i + 1, m, by go_num, by omega, rfl⟩
        · have d1f : decide ((cf : Int) < (at_ : Int)) = false := decide_eq_false (by omega)
          by_cases e1 : at_ = ct
          · subst e1
            by_cases e2 : 0 < at_
            · have e2I : (0 : Int) < (at_ : Int) := by omega
              obtain ⟨at1, Hat1⟩ : ∃ x, Hid (at_ - 1 = x) := ⟨_, Lib.hid rfl⟩
              have hw : IntKind.i64.wrap ((at_ : Int) - 1) = (at1 : Int) := by rw [IntKind.wrap_i64, ← Hat1.out]; omega
              have hl1 : at1 < s.size := by have := Hat1.out; omega
              have hl1I : (at1 : Int) < (s.size : Int) := by omega
              obtain ⟨z, hz⟩ : ∃ z, s[at1].toNat = z := ⟨_, rfl⟩
              cases hz47 : ((z : Int) != 47) with
              | true =>
                go_wp2_with (go_at_call 12; refine hold ?_)
                refine Hold.mk ?_
                refine (HA.out _ (HLw.out.go (by rw [HB.out]; exact HB5.out))).mono ?_
                rintro e W9 ⟨rfl, hb⟩
                have HB9 := Lib.hid (show Below B w W9 from HB5.out.trans (Below.mono hb (by rw [← HB.out]; exact HB5.out.size)))
                clear hb
                go_wp2_with fail
                go_ret
                exact ⟨rfl, HB9.out⟩
              | false =>
                go_wp2_with fail
                go_roundg (nc - (i + 1))
                case measure => omega
                case rel => exact ⟨i + 1, m, by go_num, by omega, rfl⟩
            · have e2f : decide ((0 : Int) < (at_ : Int)) = false := decide_eq_false (by omega)
              go_wp2_with fail
              go_roundg (nc - (i + 1))
              case measure => omega
              case rel => exact ⟨i + 1, m, by go_num, by omega, rfl⟩
          · have e1f : ((at_ : Int) == (ct : Int)) = false := by simp; omega
            go_wp2_with fail
            go_roundg (nc - (i + 1))
            case measure => omega
            case rel => exact ⟨i + 1, m, by go_num, by omega, rfl⟩
      · have hinf : decide ((i : Int) < (nc : Int)) = false := decide_eq_false (by omega)
        obtain ⟨s1, hs1⟩ : ∃ x, s.extract 0 at_ = x := ⟨_, rfl⟩
        obtain ⟨s2, hs2⟩ : ∃ x, s.extract at_ s.size = x := ⟨_, rfl⟩
        rw [hs1, hs2] at HT2
        have hz1 : s1.size ≤ 4000 := by rw [← hs1, ByteArray.size_extract]; omega
        have hz2 : s2.size ≤ 4000 := by rw [← hs2, ByteArray.size_extract]; omega
        go_upto_region 17 with fail
        refine wp_region_tree (.pu 0 (.pu 1 (.pu 2 (.pu 3 (.pu 4 (.pu 5 (.pu 6 (.pu 7 (.pu 8 (.fk 9 (.pu 10 (.pu 11 (.pu 12 (.ef 13 (.pu 14 (.ef 15 .done)))))) 13 (.ef 9 (.pu 10 (.pu 11 (.pu 12 (.pu 14 (.ef 15 .done)))))))))))))))) (by kernel_rfl) (by kernel_rfl) (fun _ _ _ _ _ h => h) ?_
        refine tq_pu (some 91) rfl rfl (by rfl) (fun ws => by go_simp; try with_reducible rfl) ?_; go_frame
        refine tq_pu (some 92) rfl rfl (by rfl) (fun ws => by go_simp; try with_reducible rfl) ?_; go_frame
        refine tq_pu (some 93) rfl rfl (by rfl) (fun ws => by go_simp; try with_reducible rfl) ?_; go_frame
        refine tq_pu (some 94) rfl rfl (by rfl) (fun ws => by go_simp; try with_reducible rfl) ?_; go_frame
        refine tq_pu (some 95) rfl rfl (by rfl) (fun ws => by go_simp; rw [if_neg (by omega)]) ?_; go_frame
        refine tq_pu (some 96) rfl rfl (by rfl) (fun ws => by go_simp; try with_reducible rfl) ?_; go_frame
        refine tq_pu (some 97) rfl rfl (by rfl) (fun ws => by go_simp; try with_reducible rfl) ?_; go_frame
        refine tq_pu (some 98) rfl rfl (by rfl) (fun ws => by go_simp; try with_reducible rfl) ?_; go_frame
        refine tq_pu (some 99) rfl rfl (by rfl) (fun ws => by go_simp; rw [if_neg (by omega)]) ?_; go_frame
        have HB6 := Lib.hid (show Below B w (WC.drewN (m + 1)) from below_drewN HBc.out (m + 1))
        have HBd := Lib.hid (show Below W1.heap.size W1 (WC.drewN (m + 1)) from below_drewN HBs.out (m + 1))
        obtain ⟨WD, HWD⟩ : ∃ x, Hid (WC.drewN (m + 1) = x) := ⟨_, Lib.hid rfl⟩
        rw [show (WC.drewN m).drew = WD from HWD.out]
        rw [HWD.out] at HB6 HBd
        have HLD := Lib.hid (show Lay WD from HLw.out.go (by rw [HB.out]; exact HB6.out))
        clear hs1 hs2 hz1 hz2 hatI
        refine tq_fk rfl rfl (fun J hJ => ?_) (fun J hJ => ?_)
        · go_wp2_with (go_at_call 13; refine hold ?_)
          refine Hold.mk ?_
          refine (HT2.out _ HLD.out).mono ?_
          rintro e W2a ⟨⟨tv2, rfl, hr⟩, hb⟩
          rw [Hk2.out, Ha2.out]
          obtain rfl := HK2.out
          go_wp2
          refine hJ _ _ ?_
          refine tq_pu (some 90) rfl rfl (by rfl) (fun ws => by go_simp; try with_reducible rfl) ?_; go_frame
          refine tq_pu (some 101) rfl rfl (by rfl) (fun ws => by go_simp; try with_reducible rfl) ?_; go_frame
          refine tq_pu (some 102) rfl rfl (by rfl) (fun ws => by go_simp; try with_reducible rfl) ?_; go_frame
          have HV2a := Lib.hid (TokV.of hr)
          have Hb := Lib.hid hb
          clear hr hb
          refine tq_ef rfl (fun J hJ => ?_)
          go_wp2
          refine hJ _ _ ?_
          obtain ⟨WZ, HWZ⟩ : ∃ x, Hid (W2a.alloc (.cells #[.int .i64 0, .string ⟨#[]⟩, .int .i64 0] 25) = x) := ⟨_, Lib.hid rfl⟩
          obtain ⟨bz, Hbz⟩ : ∃ x, Hid (W2a.heap.size = x) := ⟨_, Lib.hid rfl⟩
          rw [HWZ.out, Hbz.out]
          have KZ : WZ.heap[bz]? = some (.cells #[.int .i64 0, .string ⟨#[]⟩, .int .i64 0] 25 (0, 0)) := by rw [← HWZ.out, ← Hbz.out]; exact heap_alloc_new W2a _
          have z0 : WZ.cell? ⟨bz, 0, none⟩ = some (.int .i64 0) := by simp only [World.cell?, KZ]; rfl
          have v0 : WZ.frozen? ⟨bz, 0, none⟩ = false := by simp only [World.frozen?, KZ]; simp
          have z1 : WZ.cell? ⟨bz, 1, none⟩ = some (.string ⟨#[]⟩) := by simp only [World.cell?, KZ]; rfl
          have v1 : WZ.frozen? ⟨bz, 1, none⟩ = false := by simp only [World.frozen?, KZ]; simp
          have z2 : WZ.cell? ⟨bz, 2, none⟩ = some (.int .i64 0) := by simp only [World.cell?, KZ]; rfl
          have v2 : WZ.frozen? ⟨bz, 2, none⟩ = false := by simp only [World.frozen?, KZ]; simp
          have HZb := Lib.hid (show Below WD.heap.size WD WZ from by rw [← HWZ.out]; exact Hb.out.alloc Hb.out.size _)
          have HZa := Lib.hid (show Below W2a.heap.size W2a WZ from by rw [← HWZ.out]; exact (Below.refl _ _).alloc (Nat.le_refl _) _)
          have Hle := Lib.hid (show WD.heap.size ≤ bz from by rw [← Hbz.out]; exact Hb.out.size)
          have Hle2 := Lib.hid (show W2a.heap.size ≤ bz from by rw [← Hbz.out]; exact Nat.le_refl _)
          have HKZ := Lib.hid KZ
          clear KZ
          refine tq_pu (some 11) rfl rfl (by rfl) (fun ws => by go_simp; try with_reducible rfl) ?_; go_frame
          refine tq_ef rfl (fun J2 hJ2 => ?_)
          go_wp2
          refine hJ2 _ _ ?_
          refine tq_done ?_
          go_upto_region 18 with fail
          obtain ⟨W2, HW2⟩ : ∃ x, Hid (((WZ.setCell ⟨bz, 0, none⟩ (.int .i64 0)).setCell ⟨bz, 1, none⟩ (.string ⟨#[]⟩)).setCell ⟨bz, 2, none⟩ (.int .i64 a2) = x) := ⟨_, Lib.hid rfl⟩
          rw [HW2.out]
          have G2 : W2.heap[bz]? = some (.cells #[.int .i64 0, .string ⟨#[]⟩, .int .i64 a2] 25 (0, 0)) := by rw [← HW2.out]; exact set3 HKZ.out _ _ _
          have h20 : W2.cell? ⟨bz, 0, none⟩ = some (.int .i64 0) := by simp only [World.cell?, G2]; rfl
          have HBz := Lib.hid (show Below WD.heap.size WD W2 from by rw [← HW2.out]; exact ((HZb.out.setCell (p := ⟨bz, 0, none⟩) Hle.out _).setCell (p := ⟨bz, 1, none⟩) Hle.out _).setCell (p := ⟨bz, 2, none⟩) Hle.out _)
          have HB2 := Lib.hid (show Below B w W2 from HB6.out.trans (Below.mono HBz.out (by rw [← HB.out]; exact HB6.out.size)))
          have HBW := Lib.hid (show Below W1.heap.size W1 W2 from HBd.out.trans (Below.mono HBz.out HBd.out.size))
          clear z0 z1 z2 v0 v1 v2 G2
          have HV2 := Lib.hid (show TokV W2 tv2 T2.2.2.1 from HV2a.out.go (by rw [← HW2.out]; exact ((HZa.out.setCell (p := ⟨bz, 0, none⟩) Hle2.out _).setCell (p := ⟨bz, 1, none⟩) Hle2.out _).setCell (p := ⟨bz, 2, none⟩) Hle2.out _))
          rw [HZz.out] at HV2
          obtain ⟨ad2, cp2, rfl, _, R2⟩ := HV2.out
          rw [Hnz.out]
          have HR2 := Lib.hid R2
          clear R2
          go_wp2_with fail
          clear h20
          go_loopg [13] n (fun g v13 wr => ∃ (u q : Nat), v13 = .int .i64 (u : Int) ∧ g + u = n ∧ wr = W2.drewN q)
          case atStart => exact ⟨0, 0, rfl, rfl, rfl⟩
          case round =>
            obtain ⟨u, q, rfl, hgu, rfl⟩ := hrel
            by_cases hu : u < n
            · have huI : (u : Int) < (n : Int) := by omega
              have huX : u < X.length := by rw [Hn.out]; exact hu
              have huZ : u < Z.length := by rw [Hnz.out]; exact hu
              have hwu : IntKind.i64.wrap ((u : Int) + 1) = ((u + 1 : Nat) : Int) := by rw [IntKind.wrap_i64]; have := HN.out; omega
              obtain ⟨u1, Hu1⟩ : ∃ x, Hid (u + 1 = x) := ⟨_, Lib.hid rfl⟩
              rw [Hu1.out] at hwu
              obtain ⟨g9, he, lt1, c10, c11, c12, c13⟩ := HR1.out u huX
              obtain rfl : g1 = g9 := by simpa using he
              obtain ⟨g2, rfl, _, c20, c21, c22, c23⟩ := HR2.out u huZ
              have HQ := Lib.hid (show Z[u].kind = X[u].kind ∧ Z[u].text = X[u].text ∧ (Z[u].frm = X[u].frm ∨ Z[u].frm = X[u].frm + 9) from by
                have h := ins_get (X := X) (j := jx) (i := u) huX (by rw [ins_len]; exact huX)
                simp only [← HZ.out] at h
                exact h)
              rw [HQ.out.1] at c20
              rw [HQ.out.2.1] at c23
              have hfx := Hfr.out u huX
              have hfz := HQ.out.2.2
              obtain ⟨lk, Hlk⟩ : ∃ x, Hid (X[u].kind = x) := ⟨_, Lib.hid rfl⟩
              obtain ⟨lf, Hlf⟩ : ∃ x, Hid (X[u].frm = x) := ⟨_, Lib.hid rfl⟩
              obtain ⟨zf, Hzf⟩ : ∃ x, Hid (Z[u].frm = x) := ⟨_, Lib.hid rfl⟩
              obtain ⟨lx, Hlx⟩ : ∃ x, Hid (strB X[u].text = x) := ⟨_, Lib.hid rfl⟩
              rw [Hlk.out] at c10 c20
              rw [Hlf.out] at c11 hfz hfx
              rw [Hzf.out] at c21 hfz
              rw [Hlx.out] at c13 c23
              have c10 := (HBW.out.cell lt1).trans c10
              have c11 := (HBW.out.cell lt1).trans c11
              have c13 := (HBW.out.cell lt1).trans c13
              clear he lt1 c12 c22 Hlk Hlf Hzf Hlx
              rcases hfz with hfz | hfz
              · subst hfz
                go_wp2_with fail
                go_quiet (fail)
                go_wp2_with fail
                go_roundg (n - u1)
                case measure => have := Hu1.out; omega
                case rel => exact ⟨u1, q + nq, rfl, by have := Hu1.out; omega, rfl⟩
              · have e3 : ((zf : Int) != (lf : Int)) = true := by simp; omega
                have e4 : IntKind.i64.wrap ((lf : Int) + 9) = (zf : Int) := by rw [IntKind.wrap_i64]; omega
                clear hfz
                go_wp2_with fail
                go_quiet (fail)
                go_wp2_with fail
                go_roundg (n - u1)
                case measure => have := Hu1.out; omega
                case rel => exact ⟨u1, q + nq, rfl, by have := Hu1.out; omega, rfl⟩
            · have huI : decide ((u : Int) < (n : Int)) = false := decide_eq_false (by omega)
              have HB7 := Lib.hid (show Below B w (W2.drewN q) from below_drewN HB2.out q)
              go_wp2_with (go_at_call 12; refine hold ?_)
              refine Hold.mk ?_
              refine (HA.out _ (HLw.out.go (by rw [HB.out]; exact HB7.out))).mono ?_
              rintro e W9 ⟨rfl, hb⟩
              have HB9 := Lib.hid (show Below B w W9 from HB7.out.trans (Below.mono hb (by rw [← HB.out]; exact HB7.out.size)))
              clear hb
              go_wp2_with fail
              go_ret
              exact ⟨rfl, HB9.out⟩
        · go_wp2
          refine hJ _ _ ?_
          obtain ⟨WZ, HWZ⟩ : ∃ x, Hid (WD.alloc (.cells #[.int .i64 0, .string ⟨#[]⟩, .int .i64 0] 25) = x) := ⟨_, Lib.hid rfl⟩
          obtain ⟨bz, Hbz⟩ : ∃ x, Hid (WD.heap.size = x) := ⟨_, Lib.hid rfl⟩
          rw [HWZ.out, Hbz.out]
          have KY : WZ.heap[bz]? = some (.cells #[.int .i64 0, .string ⟨#[]⟩, .int .i64 0] 25 (0, 0)) := by rw [← HWZ.out, ← Hbz.out]; exact heap_alloc_new WD _
          have HKY := Lib.hid KY
          clear KY
          have HBY := Lib.hid (show Below WD.heap.size WD WZ from by rw [← HWZ.out]; exact (Below.refl _ _).alloc (Nat.le_refl _) _)
          have Hsz := Lib.hid (show WZ.heap.size = bz + 1 from by rw [← HWZ.out, ← Hbz.out]; simp)
          have Hle := Lib.hid (show WD.heap.size ≤ bz from by rw [← Hbz.out]; exact Nat.le_refl _)
          have HLZ := Lib.hid (show Lay WZ from HLD.out.go HBY.out)
          refine tq_ef rfl (fun J hJ => ?_)
          go_wp2_with (go_at_call 13; refine hold ?_)
          refine Hold.mk ?_
          refine (HT2.out _ HLZ.out).mono ?_
          rintro e W2a ⟨⟨tv2, rfl, hr⟩, hb⟩
          rw [Hk2.out, Ha2.out]
          obtain rfl := HK2.out
          go_wp2
          refine hJ _ _ ?_
          refine tq_pu (some 90) rfl rfl (by rfl) (fun ws => by go_simp; try with_reducible rfl) ?_; go_frame
          refine tq_pu (some 101) rfl rfl (by rfl) (fun ws => by go_simp; try with_reducible rfl) ?_; go_frame
          refine tq_pu (some 102) rfl rfl (by rfl) (fun ws => by go_simp; try with_reducible rfl) ?_; go_frame
          refine tq_pu (some 11) rfl rfl (by rfl) (fun ws => by go_simp; try with_reducible rfl) ?_; go_frame
          have KZ : W2a.heap[bz]? = some (.cells #[.int .i64 0, .string ⟨#[]⟩, .int .i64 0] 25 (0, 0)) := (hb.block bz (by rw [Hsz.out]; omega)).trans HKY.out
          have z0 : W2a.cell? ⟨bz, 0, none⟩ = some (.int .i64 0) := by simp only [World.cell?, KZ]; rfl
          have v0 : W2a.frozen? ⟨bz, 0, none⟩ = false := by simp only [World.frozen?, KZ]; simp
          have z1 : W2a.cell? ⟨bz, 1, none⟩ = some (.string ⟨#[]⟩) := by simp only [World.cell?, KZ]; rfl
          have v1 : W2a.frozen? ⟨bz, 1, none⟩ = false := by simp only [World.frozen?, KZ]; simp
          have z2 : W2a.cell? ⟨bz, 2, none⟩ = some (.int .i64 0) := by simp only [World.cell?, KZ]; rfl
          have v2 : W2a.frozen? ⟨bz, 2, none⟩ = false := by simp only [World.frozen?, KZ]; simp
          have HZb := Lib.hid (show Below WD.heap.size WD W2a from HBY.out.trans (Below.mono hb HBY.out.size))
          have Hr := Lib.hid hr
          clear hr hb
          have HKZ := Lib.hid KZ
          clear KZ
          refine tq_ef rfl (fun J2 hJ2 => ?_)
          go_wp2
          refine hJ2 _ _ ?_
          refine tq_done ?_
          go_upto_region 18 with fail
          obtain ⟨W2, HW2⟩ : ∃ x, Hid (((W2a.setCell ⟨bz, 0, none⟩ (.int .i64 0)).setCell ⟨bz, 1, none⟩ (.string ⟨#[]⟩)).setCell ⟨bz, 2, none⟩ (.int .i64 a2) = x) := ⟨_, Lib.hid rfl⟩
          rw [HW2.out]
          have G2 : W2.heap[bz]? = some (.cells #[.int .i64 0, .string ⟨#[]⟩, .int .i64 a2] 25 (0, 0)) := by rw [← HW2.out]; exact set3 HKZ.out _ _ _
          have h20 : W2.cell? ⟨bz, 0, none⟩ = some (.int .i64 0) := by simp only [World.cell?, G2]; rfl
          have HBz := Lib.hid (show Below WD.heap.size WD W2 from by rw [← HW2.out]; exact ((HZb.out.setCell (p := ⟨bz, 0, none⟩) Hle.out _).setCell (p := ⟨bz, 1, none⟩) Hle.out _).setCell (p := ⟨bz, 2, none⟩) Hle.out _)
          have HB2 := Lib.hid (show Below B w W2 from HB6.out.trans (Below.mono HBz.out (by rw [← HB.out]; exact HB6.out.size)))
          have HBW := Lib.hid (show Below W1.heap.size W1 W2 from HBd.out.trans (Below.mono HBz.out HBd.out.size))
          clear z0 z1 z2 v0 v1 v2 G2
          have HV2 := Lib.hid (show TokV W2 tv2 T2.2.2.1 from by
            have l0 : bz < WZ.heap.size := by rw [Hsz.out]; omega
            rw [← HW2.out]
            exact TokV.of (ownsRow_setCell_below (ownsRow_setCell_below (ownsRow_setCell_below Hr.out (a := ⟨bz, 0, none⟩) l0 _) (a := ⟨bz, 1, none⟩) l0 _) (a := ⟨bz, 2, none⟩) l0 _))
          rw [HZz.out] at HV2
          obtain ⟨ad2, cp2, rfl, _, R2⟩ := HV2.out
          rw [Hnz.out]
          have HR2 := Lib.hid R2
          clear R2
          go_wp2_with fail
          clear h20
          go_loopg [13] n (fun g v13 wr => ∃ (u q : Nat), v13 = .int .i64 (u : Int) ∧ g + u = n ∧ wr = W2.drewN q)
          case atStart => exact ⟨0, 0, rfl, rfl, rfl⟩
          case round =>
            obtain ⟨u, q, rfl, hgu, rfl⟩ := hrel
            by_cases hu : u < n
            · have huI : (u : Int) < (n : Int) := by omega
              have huX : u < X.length := by rw [Hn.out]; exact hu
              have huZ : u < Z.length := by rw [Hnz.out]; exact hu
              have hwu : IntKind.i64.wrap ((u : Int) + 1) = ((u + 1 : Nat) : Int) := by rw [IntKind.wrap_i64]; have := HN.out; omega
              obtain ⟨u1, Hu1⟩ : ∃ x, Hid (u + 1 = x) := ⟨_, Lib.hid rfl⟩
              rw [Hu1.out] at hwu
              obtain ⟨g9, he, lt1, c10, c11, c12, c13⟩ := HR1.out u huX
              obtain rfl : g1 = g9 := by simpa using he
              obtain ⟨g2, rfl, _, c20, c21, c22, c23⟩ := HR2.out u huZ
              have HQ := Lib.hid (show Z[u].kind = X[u].kind ∧ Z[u].text = X[u].text ∧ (Z[u].frm = X[u].frm ∨ Z[u].frm = X[u].frm + 9) from by
                have h := ins_get (X := X) (j := jx) (i := u) huX (by rw [ins_len]; exact huX)
                simp only [← HZ.out] at h
                exact h)
              rw [HQ.out.1] at c20
              rw [HQ.out.2.1] at c23
              have hfx := Hfr.out u huX
              have hfz := HQ.out.2.2
              obtain ⟨lk, Hlk⟩ : ∃ x, Hid (X[u].kind = x) := ⟨_, Lib.hid rfl⟩
              obtain ⟨lf, Hlf⟩ : ∃ x, Hid (X[u].frm = x) := ⟨_, Lib.hid rfl⟩
              obtain ⟨zf, Hzf⟩ : ∃ x, Hid (Z[u].frm = x) := ⟨_, Lib.hid rfl⟩
              obtain ⟨lx, Hlx⟩ : ∃ x, Hid (strB X[u].text = x) := ⟨_, Lib.hid rfl⟩
              rw [Hlk.out] at c10 c20
              rw [Hlf.out] at c11 hfz hfx
              rw [Hzf.out] at c21 hfz
              rw [Hlx.out] at c13 c23
              have c10 := (HBW.out.cell lt1).trans c10
              have c11 := (HBW.out.cell lt1).trans c11
              have c13 := (HBW.out.cell lt1).trans c13
              clear he lt1 c12 c22 Hlk Hlf Hzf Hlx
              rcases hfz with hfz | hfz
              · subst hfz
                go_wp2_with fail
                go_quiet (fail)
                go_wp2_with fail
                go_roundg (n - u1)
                case measure => have := Hu1.out; omega
                case rel => exact ⟨u1, q + nq, rfl, by have := Hu1.out; omega, rfl⟩
              · have e3 : ((zf : Int) != (lf : Int)) = true := by simp; omega
                have e4 : IntKind.i64.wrap ((lf : Int) + 9) = (zf : Int) := by rw [IntKind.wrap_i64]; omega
                clear hfz
                go_wp2_with fail
                go_quiet (fail)
                go_wp2_with fail
                go_roundg (n - u1)
                case measure => have := Hu1.out; omega
                case rel => exact ⟨u1, q + nq, rfl, by have := Hu1.out; omega, rfl⟩
            · have huI : decide ((u : Int) < (n : Int)) = false := decide_eq_false (by omega)
              have HB7 := Lib.hid (show Below B w (W2.drewN q) from below_drewN HB2.out q)
              go_wp2_with (go_at_call 12; refine hold ?_)
              refine Hold.mk ?_
              refine (HA.out _ (HLw.out.go (by rw [HB.out]; exact HB7.out))).mono ?_
              rintro e W9 ⟨rfl, hb⟩
              have HB9 := Lib.hid (show Below B w W9 from HB7.out.trans (Below.mono hb (by rw [← HB.out]; exact HB7.out.size)))
              clear hb
              go_wp2_with fail
              go_ret
              exact ⟨rfl, HB9.out⟩
  · have h' : decide (km < 0) = false := decide_eq_false h
    obtain rfl := h2
    clear h
    go_upto_region 10 with fail
    clear h' r0 r1 q1
    go_wp2_with (go_at_call 20; refine hold ?_)
    refine Hold.mk ?_
    refine (HC.out _ (HLw.out.go (by rw [HB.out]; exact HB1.out))).mono ?_
    rintro e WC ⟨⟨rv, rfl, hr⟩, hb⟩
    have HVc := Lib.hid (SpanV.of hr)
    rw [HCc.out] at HVc
    have HBc := Lib.hid (show Below B w WC from HB1.out.trans (Below.mono hb (by rw [← HB.out]; exact HB1.out.size)))
    have HBs := Lib.hid hb
    clear hr hb cf h10
    obtain ⟨adc, cpc, rfl, hmc, Rc⟩ := HVc.out
    obtain ⟨nc, Hnc⟩ : ∃ x, Hid (C.length = x) := ⟨_, Lib.hid rfl⟩
    rw [Hnc.out] at hmc ⊢
    have hmI : (nc : Int) ≤ 9223372036854775807 := by unfold maxLen at hmc; omega
    have HRc := Lib.hid Rc
    clear Rc hmc
    go_wp2_with fail
    go_loopg [9] nc (fun g v9 wr => ∃ (i m : Nat), v9 = .int .i64 (i : Int) ∧ g + i = nc ∧ wr = WC.drewN m)
    case atStart => exact ⟨0, 0, rfl, rfl, rfl⟩
    case round =>
      obtain ⟨i, m, rfl, hg, rfl⟩ := hrel
      have HB5 := Lib.hid (show Below B w (WC.drewN m) from below_drewN HBc.out m)
      by_cases hin : i < nc
      · have hinI : (i : Int) < (nc : Int) := by omega
        obtain ⟨gc, rfl, _, c0, c1⟩ := HRc.out i (by rw [Hnc.out]; exact hin)
        obtain ⟨cf, Hcf⟩ : ∃ x, Hid ((C[i]'(by rw [Hnc.out]; exact hin)).1 = x) := ⟨_, Lib.hid rfl⟩
        obtain ⟨ct, Hct⟩ : ∃ x, Hid ((C[i]'(by rw [Hnc.out]; exact hin)).2 = x) := ⟨_, Lib.hid rfl⟩
        rw [Hcf.out] at c0
        rw [Hct.out] at c1
        clear Hcf Hct
        by_cases d1 : cf < at_
        · have d1I : (cf : Int) < (at_ : Int) := by omega
          by_cases d2 : at_ < ct
          · have d2I : (at_ : Int) < (ct : Int) := by omega
            go_wp2_with (go_at_call 12; refine hold ?_)
            refine Hold.mk ?_
            refine (HA.out _ (HLw.out.go (by rw [HB.out]; exact HB5.out))).mono ?_
            rintro e W9 ⟨rfl, hb⟩
            have HB9 := Lib.hid (show Below B w W9 from HB5.out.trans (Below.mono hb (by rw [← HB.out]; exact HB5.out.size)))
            clear hb
            go_wp2_with fail
            go_ret
            exact ⟨rfl, HB9.out⟩
          · have d2f : decide ((at_ : Int) < (ct : Int)) = false := decide_eq_false (by omega)
            by_cases e1 : at_ = ct
            · subst e1
              by_cases e2 : 0 < at_
              · have e2I : (0 : Int) < (at_ : Int) := by omega
                obtain ⟨at1, Hat1⟩ : ∃ x, Hid (at_ - 1 = x) := ⟨_, Lib.hid rfl⟩
                have hw : IntKind.i64.wrap ((at_ : Int) - 1) = (at1 : Int) := by rw [IntKind.wrap_i64, ← Hat1.out]; omega
                have hl1 : at1 < s.size := by have := Hat1.out; omega
                have hl1I : (at1 : Int) < (s.size : Int) := by omega
                obtain ⟨z, hz⟩ : ∃ z, s[at1].toNat = z := ⟨_, rfl⟩
                cases hz47 : ((z : Int) != 47) with
                | true =>
                  go_wp2_with (go_at_call 12; refine hold ?_)
                  refine Hold.mk ?_
                  refine (HA.out _ (HLw.out.go (by rw [HB.out]; exact HB5.out))).mono ?_
                  rintro e W9 ⟨rfl, hb⟩
                  have HB9 := Lib.hid (show Below B w W9 from HB5.out.trans (Below.mono hb (by rw [← HB.out]; exact HB5.out.size)))
                  clear hb
                  go_wp2_with fail
                  go_ret
                  exact ⟨rfl, HB9.out⟩
                | false =>
                  go_wp2_with fail
                  go_roundg (nc - (i + 1))
                  case measure => omega
                  case rel => exact ⟨i + 1, m, by go_num, by omega, rfl⟩
              · exfalso
                omega
            · have e1f : ((at_ : Int) == (ct : Int)) = false := by simp; omega
              go_wp2_with fail
              go_roundg (nc - (i + 1))
              case measure => omega
              case rel => exact ⟨i + 1, m, by go_num, by omega, rfl⟩
        · have d1f : decide ((cf : Int) < (at_ : Int)) = false := decide_eq_false (by omega)
          by_cases e1 : at_ = ct
          · subst e1
            by_cases e2 : 0 < at_
            · have e2I : (0 : Int) < (at_ : Int) := by omega
              obtain ⟨at1, Hat1⟩ : ∃ x, Hid (at_ - 1 = x) := ⟨_, Lib.hid rfl⟩
              have hw : IntKind.i64.wrap ((at_ : Int) - 1) = (at1 : Int) := by rw [IntKind.wrap_i64, ← Hat1.out]; omega
              have hl1 : at1 < s.size := by have := Hat1.out; omega
              have hl1I : (at1 : Int) < (s.size : Int) := by omega
              obtain ⟨z, hz⟩ : ∃ z, s[at1].toNat = z := ⟨_, rfl⟩
              cases hz47 : ((z : Int) != 47) with
              | true =>
                go_wp2_with (go_at_call 12; refine hold ?_)
                refine Hold.mk ?_
                refine (HA.out _ (HLw.out.go (by rw [HB.out]; exact HB5.out))).mono ?_
                rintro e W9 ⟨rfl, hb⟩
                have HB9 := Lib.hid (show Below B w W9 from HB5.out.trans (Below.mono hb (by rw [← HB.out]; exact HB5.out.size)))
                clear hb
                go_wp2_with fail
                go_ret
                exact ⟨rfl, HB9.out⟩
              | false =>
                go_wp2_with fail
                go_roundg (nc - (i + 1))
                case measure => omega
                case rel => exact ⟨i + 1, m, by go_num, by omega, rfl⟩
            · have e2f : decide ((0 : Int) < (at_ : Int)) = false := decide_eq_false (by omega)
              go_wp2_with fail
              go_roundg (nc - (i + 1))
              case measure => omega
              case rel => exact ⟨i + 1, m, by go_num, by omega, rfl⟩
          · have e1f : ((at_ : Int) == (ct : Int)) = false := by simp; omega
            go_wp2_with fail
            go_roundg (nc - (i + 1))
            case measure => omega
            case rel => exact ⟨i + 1, m, by go_num, by omega, rfl⟩
      · have hinf : decide ((i : Int) < (nc : Int)) = false := decide_eq_false (by omega)
        obtain ⟨s1, hs1⟩ : ∃ x, s.extract 0 at_ = x := ⟨_, rfl⟩
        obtain ⟨s2, hs2⟩ : ∃ x, s.extract at_ s.size = x := ⟨_, rfl⟩
        rw [hs1, hs2] at HT2
        have hz1 : s1.size ≤ 4000 := by rw [← hs1, ByteArray.size_extract]; omega
        have hz2 : s2.size ≤ 4000 := by rw [← hs2, ByteArray.size_extract]; omega
        go_upto_region 17 with fail
        refine wp_region_tree (.pu 0 (.pu 1 (.pu 2 (.pu 3 (.pu 4 (.pu 5 (.pu 6 (.pu 7 (.pu 8 (.fk 9 (.pu 10 (.pu 11 (.pu 12 (.ef 13 (.pu 14 (.ef 15 .done)))))) 13 (.ef 9 (.pu 10 (.pu 11 (.pu 12 (.pu 14 (.ef 15 .done)))))))))))))))) (by kernel_rfl) (by kernel_rfl) (fun _ _ _ _ _ h => h) ?_
        refine tq_pu (some 91) rfl rfl (by rfl) (fun ws => by go_simp; try with_reducible rfl) ?_; go_frame
        refine tq_pu (some 92) rfl rfl (by rfl) (fun ws => by go_simp; try with_reducible rfl) ?_; go_frame
        refine tq_pu (some 93) rfl rfl (by rfl) (fun ws => by go_simp; try with_reducible rfl) ?_; go_frame
        refine tq_pu (some 94) rfl rfl (by rfl) (fun ws => by go_simp; try with_reducible rfl) ?_; go_frame
        refine tq_pu (some 95) rfl rfl (by rfl) (fun ws => by go_simp; rw [if_neg (by omega)]) ?_; go_frame
        refine tq_pu (some 96) rfl rfl (by rfl) (fun ws => by go_simp; try with_reducible rfl) ?_; go_frame
        refine tq_pu (some 97) rfl rfl (by rfl) (fun ws => by go_simp; try with_reducible rfl) ?_; go_frame
        refine tq_pu (some 98) rfl rfl (by rfl) (fun ws => by go_simp; try with_reducible rfl) ?_; go_frame
        refine tq_pu (some 99) rfl rfl (by rfl) (fun ws => by go_simp; rw [if_neg (by omega)]) ?_; go_frame
        have HB6 := Lib.hid (show Below B w (WC.drewN (m + 1)) from below_drewN HBc.out (m + 1))
        have HBd := Lib.hid (show Below W1.heap.size W1 (WC.drewN (m + 1)) from below_drewN HBs.out (m + 1))
        obtain ⟨WD, HWD⟩ : ∃ x, Hid (WC.drewN (m + 1) = x) := ⟨_, Lib.hid rfl⟩
        rw [show (WC.drewN m).drew = WD from HWD.out]
        rw [HWD.out] at HB6 HBd
        have HLD := Lib.hid (show Lay WD from HLw.out.go (by rw [HB.out]; exact HB6.out))
        clear hs1 hs2 hz1 hz2 hatI
        refine tq_fk rfl rfl (fun J hJ => ?_) (fun J hJ => ?_)
        · go_wp2_with (go_at_call 13; refine hold ?_)
          refine Hold.mk ?_
          refine (HT2.out _ HLD.out).mono ?_
          rintro e W2a ⟨⟨tv2, rfl, hr⟩, hb⟩
          rw [Hk2.out, Ha2.out]
          obtain rfl := HK2.out
          go_wp2
          refine hJ _ _ ?_
          refine tq_pu (some 90) rfl rfl (by rfl) (fun ws => by go_simp; try with_reducible rfl) ?_; go_frame
          refine tq_pu (some 101) rfl rfl (by rfl) (fun ws => by go_simp; try with_reducible rfl) ?_; go_frame
          refine tq_pu (some 102) rfl rfl (by rfl) (fun ws => by go_simp; try with_reducible rfl) ?_; go_frame
          have HV2a := Lib.hid (TokV.of hr)
          have Hb := Lib.hid hb
          clear hr hb
          refine tq_ef rfl (fun J hJ => ?_)
          go_wp2
          refine hJ _ _ ?_
          obtain ⟨WZ, HWZ⟩ : ∃ x, Hid (W2a.alloc (.cells #[.int .i64 0, .string ⟨#[]⟩, .int .i64 0] 25) = x) := ⟨_, Lib.hid rfl⟩
          obtain ⟨bz, Hbz⟩ : ∃ x, Hid (W2a.heap.size = x) := ⟨_, Lib.hid rfl⟩
          rw [HWZ.out, Hbz.out]
          have KZ : WZ.heap[bz]? = some (.cells #[.int .i64 0, .string ⟨#[]⟩, .int .i64 0] 25 (0, 0)) := by rw [← HWZ.out, ← Hbz.out]; exact heap_alloc_new W2a _
          have z0 : WZ.cell? ⟨bz, 0, none⟩ = some (.int .i64 0) := by simp only [World.cell?, KZ]; rfl
          have v0 : WZ.frozen? ⟨bz, 0, none⟩ = false := by simp only [World.frozen?, KZ]; simp
          have z1 : WZ.cell? ⟨bz, 1, none⟩ = some (.string ⟨#[]⟩) := by simp only [World.cell?, KZ]; rfl
          have v1 : WZ.frozen? ⟨bz, 1, none⟩ = false := by simp only [World.frozen?, KZ]; simp
          have z2 : WZ.cell? ⟨bz, 2, none⟩ = some (.int .i64 0) := by simp only [World.cell?, KZ]; rfl
          have v2 : WZ.frozen? ⟨bz, 2, none⟩ = false := by simp only [World.frozen?, KZ]; simp
          have HZb := Lib.hid (show Below WD.heap.size WD WZ from by rw [← HWZ.out]; exact Hb.out.alloc Hb.out.size _)
          have HZa := Lib.hid (show Below W2a.heap.size W2a WZ from by rw [← HWZ.out]; exact (Below.refl _ _).alloc (Nat.le_refl _) _)
          have Hle := Lib.hid (show WD.heap.size ≤ bz from by rw [← Hbz.out]; exact Hb.out.size)
          have Hle2 := Lib.hid (show W2a.heap.size ≤ bz from by rw [← Hbz.out]; exact Nat.le_refl _)
          have HKZ := Lib.hid KZ
          clear KZ
          refine tq_pu (some 11) rfl rfl (by rfl) (fun ws => by go_simp; try with_reducible rfl) ?_; go_frame
          refine tq_ef rfl (fun J2 hJ2 => ?_)
          go_wp2
          refine hJ2 _ _ ?_
          refine tq_done ?_
          go_upto_region 18 with fail
          obtain ⟨W2, HW2⟩ : ∃ x, Hid (((WZ.setCell ⟨bz, 0, none⟩ (.int .i64 0)).setCell ⟨bz, 1, none⟩ (.string ⟨#[]⟩)).setCell ⟨bz, 2, none⟩ (.int .i64 a2) = x) := ⟨_, Lib.hid rfl⟩
          rw [HW2.out]
          have G2 : W2.heap[bz]? = some (.cells #[.int .i64 0, .string ⟨#[]⟩, .int .i64 a2] 25 (0, 0)) := by rw [← HW2.out]; exact set3 HKZ.out _ _ _
          have h20 : W2.cell? ⟨bz, 0, none⟩ = some (.int .i64 0) := by simp only [World.cell?, G2]; rfl
          have HBz := Lib.hid (show Below WD.heap.size WD W2 from by rw [← HW2.out]; exact ((HZb.out.setCell (p := ⟨bz, 0, none⟩) Hle.out _).setCell (p := ⟨bz, 1, none⟩) Hle.out _).setCell (p := ⟨bz, 2, none⟩) Hle.out _)
          have HB2 := Lib.hid (show Below B w W2 from HB6.out.trans (Below.mono HBz.out (by rw [← HB.out]; exact HB6.out.size)))
          have HBW := Lib.hid (show Below W1.heap.size W1 W2 from HBd.out.trans (Below.mono HBz.out HBd.out.size))
          clear z0 z1 z2 v0 v1 v2 G2
          have HV2 := Lib.hid (show TokV W2 tv2 T2.2.2.1 from HV2a.out.go (by rw [← HW2.out]; exact ((HZa.out.setCell (p := ⟨bz, 0, none⟩) Hle2.out _).setCell (p := ⟨bz, 1, none⟩) Hle2.out _).setCell (p := ⟨bz, 2, none⟩) Hle2.out _))
          rw [HZz.out] at HV2
          obtain ⟨ad2, cp2, rfl, _, R2⟩ := HV2.out
          rw [Hnz.out]
          have HR2 := Lib.hid R2
          clear R2
          go_wp2_with fail
          clear h20
          go_loopg [13] n (fun g v13 wr => ∃ (u q : Nat), v13 = .int .i64 (u : Int) ∧ g + u = n ∧ wr = W2.drewN q)
          case atStart => exact ⟨0, 0, rfl, rfl, rfl⟩
          case round =>
            obtain ⟨u, q, rfl, hgu, rfl⟩ := hrel
            by_cases hu : u < n
            · have huI : (u : Int) < (n : Int) := by omega
              have huX : u < X.length := by rw [Hn.out]; exact hu
              have huZ : u < Z.length := by rw [Hnz.out]; exact hu
              have hwu : IntKind.i64.wrap ((u : Int) + 1) = ((u + 1 : Nat) : Int) := by rw [IntKind.wrap_i64]; have := HN.out; omega
              obtain ⟨u1, Hu1⟩ : ∃ x, Hid (u + 1 = x) := ⟨_, Lib.hid rfl⟩
              rw [Hu1.out] at hwu
              obtain ⟨g9, he, lt1, c10, c11, c12, c13⟩ := HR1.out u huX
              obtain rfl : g1 = g9 := by simpa using he
              obtain ⟨g2, rfl, _, c20, c21, c22, c23⟩ := HR2.out u huZ
              have HQ := Lib.hid (show Z[u].kind = X[u].kind ∧ Z[u].text = X[u].text ∧ (Z[u].frm = X[u].frm ∨ Z[u].frm = X[u].frm + 9) from by
                have h := ins_get (X := X) (j := jx) (i := u) huX (by rw [ins_len]; exact huX)
                simp only [← HZ.out] at h
                exact h)
              rw [HQ.out.1] at c20
              rw [HQ.out.2.1] at c23
              have hfx := Hfr.out u huX
              have hfz := HQ.out.2.2
              obtain ⟨lk, Hlk⟩ : ∃ x, Hid (X[u].kind = x) := ⟨_, Lib.hid rfl⟩
              obtain ⟨lf, Hlf⟩ : ∃ x, Hid (X[u].frm = x) := ⟨_, Lib.hid rfl⟩
              obtain ⟨zf, Hzf⟩ : ∃ x, Hid (Z[u].frm = x) := ⟨_, Lib.hid rfl⟩
              obtain ⟨lx, Hlx⟩ : ∃ x, Hid (strB X[u].text = x) := ⟨_, Lib.hid rfl⟩
              rw [Hlk.out] at c10 c20
              rw [Hlf.out] at c11 hfz hfx
              rw [Hzf.out] at c21 hfz
              rw [Hlx.out] at c13 c23
              have c10 := (HBW.out.cell lt1).trans c10
              have c11 := (HBW.out.cell lt1).trans c11
              have c13 := (HBW.out.cell lt1).trans c13
              clear he lt1 c12 c22 Hlk Hlf Hzf Hlx
              rcases hfz with hfz | hfz
              · subst hfz
                go_wp2_with fail
                go_quiet (fail)
                go_wp2_with fail
                go_roundg (n - u1)
                case measure => have := Hu1.out; omega
                case rel => exact ⟨u1, q + nq, rfl, by have := Hu1.out; omega, rfl⟩
              · have e3 : ((zf : Int) != (lf : Int)) = true := by simp; omega
                have e4 : IntKind.i64.wrap ((lf : Int) + 9) = (zf : Int) := by rw [IntKind.wrap_i64]; omega
                clear hfz
                go_wp2_with fail
                go_quiet (fail)
                go_wp2_with fail
                go_roundg (n - u1)
                case measure => have := Hu1.out; omega
                case rel => exact ⟨u1, q + nq, rfl, by have := Hu1.out; omega, rfl⟩
            · have huI : decide ((u : Int) < (n : Int)) = false := decide_eq_false (by omega)
              have HB7 := Lib.hid (show Below B w (W2.drewN q) from below_drewN HB2.out q)
              go_wp2_with (go_at_call 12; refine hold ?_)
              refine Hold.mk ?_
              refine (HA.out _ (HLw.out.go (by rw [HB.out]; exact HB7.out))).mono ?_
              rintro e W9 ⟨rfl, hb⟩
              have HB9 := Lib.hid (show Below B w W9 from HB7.out.trans (Below.mono hb (by rw [← HB.out]; exact HB7.out.size)))
              clear hb
              go_wp2_with fail
              go_ret
              exact ⟨rfl, HB9.out⟩
        · go_wp2
          refine hJ _ _ ?_
          obtain ⟨WZ, HWZ⟩ : ∃ x, Hid (WD.alloc (.cells #[.int .i64 0, .string ⟨#[]⟩, .int .i64 0] 25) = x) := ⟨_, Lib.hid rfl⟩
          obtain ⟨bz, Hbz⟩ : ∃ x, Hid (WD.heap.size = x) := ⟨_, Lib.hid rfl⟩
          rw [HWZ.out, Hbz.out]
          have KY : WZ.heap[bz]? = some (.cells #[.int .i64 0, .string ⟨#[]⟩, .int .i64 0] 25 (0, 0)) := by rw [← HWZ.out, ← Hbz.out]; exact heap_alloc_new WD _
          have HKY := Lib.hid KY
          clear KY
          have HBY := Lib.hid (show Below WD.heap.size WD WZ from by rw [← HWZ.out]; exact (Below.refl _ _).alloc (Nat.le_refl _) _)
          have Hsz := Lib.hid (show WZ.heap.size = bz + 1 from by rw [← HWZ.out, ← Hbz.out]; simp)
          have Hle := Lib.hid (show WD.heap.size ≤ bz from by rw [← Hbz.out]; exact Nat.le_refl _)
          have HLZ := Lib.hid (show Lay WZ from HLD.out.go HBY.out)
          refine tq_ef rfl (fun J hJ => ?_)
          go_wp2_with (go_at_call 13; refine hold ?_)
          refine Hold.mk ?_
          refine (HT2.out _ HLZ.out).mono ?_
          rintro e W2a ⟨⟨tv2, rfl, hr⟩, hb⟩
          rw [Hk2.out, Ha2.out]
          obtain rfl := HK2.out
          go_wp2
          refine hJ _ _ ?_
          refine tq_pu (some 90) rfl rfl (by rfl) (fun ws => by go_simp; try with_reducible rfl) ?_; go_frame
          refine tq_pu (some 101) rfl rfl (by rfl) (fun ws => by go_simp; try with_reducible rfl) ?_; go_frame
          refine tq_pu (some 102) rfl rfl (by rfl) (fun ws => by go_simp; try with_reducible rfl) ?_; go_frame
          refine tq_pu (some 11) rfl rfl (by rfl) (fun ws => by go_simp; try with_reducible rfl) ?_; go_frame
          have KZ : W2a.heap[bz]? = some (.cells #[.int .i64 0, .string ⟨#[]⟩, .int .i64 0] 25 (0, 0)) := (hb.block bz (by rw [Hsz.out]; omega)).trans HKY.out
          have z0 : W2a.cell? ⟨bz, 0, none⟩ = some (.int .i64 0) := by simp only [World.cell?, KZ]; rfl
          have v0 : W2a.frozen? ⟨bz, 0, none⟩ = false := by simp only [World.frozen?, KZ]; simp
          have z1 : W2a.cell? ⟨bz, 1, none⟩ = some (.string ⟨#[]⟩) := by simp only [World.cell?, KZ]; rfl
          have v1 : W2a.frozen? ⟨bz, 1, none⟩ = false := by simp only [World.frozen?, KZ]; simp
          have z2 : W2a.cell? ⟨bz, 2, none⟩ = some (.int .i64 0) := by simp only [World.cell?, KZ]; rfl
          have v2 : W2a.frozen? ⟨bz, 2, none⟩ = false := by simp only [World.frozen?, KZ]; simp
          have HZb := Lib.hid (show Below WD.heap.size WD W2a from HBY.out.trans (Below.mono hb HBY.out.size))
          have Hr := Lib.hid hr
          clear hr hb
          have HKZ := Lib.hid KZ
          clear KZ
          refine tq_ef rfl (fun J2 hJ2 => ?_)
          go_wp2
          refine hJ2 _ _ ?_
          refine tq_done ?_
          go_upto_region 18 with fail
          obtain ⟨W2, HW2⟩ : ∃ x, Hid (((W2a.setCell ⟨bz, 0, none⟩ (.int .i64 0)).setCell ⟨bz, 1, none⟩ (.string ⟨#[]⟩)).setCell ⟨bz, 2, none⟩ (.int .i64 a2) = x) := ⟨_, Lib.hid rfl⟩
          rw [HW2.out]
          have G2 : W2.heap[bz]? = some (.cells #[.int .i64 0, .string ⟨#[]⟩, .int .i64 a2] 25 (0, 0)) := by rw [← HW2.out]; exact set3 HKZ.out _ _ _
          have h20 : W2.cell? ⟨bz, 0, none⟩ = some (.int .i64 0) := by simp only [World.cell?, G2]; rfl
          have HBz := Lib.hid (show Below WD.heap.size WD W2 from by rw [← HW2.out]; exact ((HZb.out.setCell (p := ⟨bz, 0, none⟩) Hle.out _).setCell (p := ⟨bz, 1, none⟩) Hle.out _).setCell (p := ⟨bz, 2, none⟩) Hle.out _)
          have HB2 := Lib.hid (show Below B w W2 from HB6.out.trans (Below.mono HBz.out (by rw [← HB.out]; exact HB6.out.size)))
          have HBW := Lib.hid (show Below W1.heap.size W1 W2 from HBd.out.trans (Below.mono HBz.out HBd.out.size))
          clear z0 z1 z2 v0 v1 v2 G2
          have HV2 := Lib.hid (show TokV W2 tv2 T2.2.2.1 from by
            have l0 : bz < WZ.heap.size := by rw [Hsz.out]; omega
            rw [← HW2.out]
            exact TokV.of (ownsRow_setCell_below (ownsRow_setCell_below (ownsRow_setCell_below Hr.out (a := ⟨bz, 0, none⟩) l0 _) (a := ⟨bz, 1, none⟩) l0 _) (a := ⟨bz, 2, none⟩) l0 _))
          rw [HZz.out] at HV2
          obtain ⟨ad2, cp2, rfl, _, R2⟩ := HV2.out
          rw [Hnz.out]
          have HR2 := Lib.hid R2
          clear R2
          go_wp2_with fail
          clear h20
          go_loopg [13] n (fun g v13 wr => ∃ (u q : Nat), v13 = .int .i64 (u : Int) ∧ g + u = n ∧ wr = W2.drewN q)
          case atStart => exact ⟨0, 0, rfl, rfl, rfl⟩
          case round =>
            obtain ⟨u, q, rfl, hgu, rfl⟩ := hrel
            by_cases hu : u < n
            · have huI : (u : Int) < (n : Int) := by omega
              have huX : u < X.length := by rw [Hn.out]; exact hu
              have huZ : u < Z.length := by rw [Hnz.out]; exact hu
              have hwu : IntKind.i64.wrap ((u : Int) + 1) = ((u + 1 : Nat) : Int) := by rw [IntKind.wrap_i64]; have := HN.out; omega
              obtain ⟨u1, Hu1⟩ : ∃ x, Hid (u + 1 = x) := ⟨_, Lib.hid rfl⟩
              rw [Hu1.out] at hwu
              obtain ⟨g9, he, lt1, c10, c11, c12, c13⟩ := HR1.out u huX
              obtain rfl : g1 = g9 := by simpa using he
              obtain ⟨g2, rfl, _, c20, c21, c22, c23⟩ := HR2.out u huZ
              have HQ := Lib.hid (show Z[u].kind = X[u].kind ∧ Z[u].text = X[u].text ∧ (Z[u].frm = X[u].frm ∨ Z[u].frm = X[u].frm + 9) from by
                have h := ins_get (X := X) (j := jx) (i := u) huX (by rw [ins_len]; exact huX)
                simp only [← HZ.out] at h
                exact h)
              rw [HQ.out.1] at c20
              rw [HQ.out.2.1] at c23
              have hfx := Hfr.out u huX
              have hfz := HQ.out.2.2
              obtain ⟨lk, Hlk⟩ : ∃ x, Hid (X[u].kind = x) := ⟨_, Lib.hid rfl⟩
              obtain ⟨lf, Hlf⟩ : ∃ x, Hid (X[u].frm = x) := ⟨_, Lib.hid rfl⟩
              obtain ⟨zf, Hzf⟩ : ∃ x, Hid (Z[u].frm = x) := ⟨_, Lib.hid rfl⟩
              obtain ⟨lx, Hlx⟩ : ∃ x, Hid (strB X[u].text = x) := ⟨_, Lib.hid rfl⟩
              rw [Hlk.out] at c10 c20
              rw [Hlf.out] at c11 hfz hfx
              rw [Hzf.out] at c21 hfz
              rw [Hlx.out] at c13 c23
              have c10 := (HBW.out.cell lt1).trans c10
              have c11 := (HBW.out.cell lt1).trans c11
              have c13 := (HBW.out.cell lt1).trans c13
              clear he lt1 c12 c22 Hlk Hlf Hzf Hlx
              rcases hfz with hfz | hfz
              · subst hfz
                go_wp2_with fail
                go_quiet (fail)
                go_wp2_with fail
                go_roundg (n - u1)
                case measure => have := Hu1.out; omega
                case rel => exact ⟨u1, q + nq, rfl, by have := Hu1.out; omega, rfl⟩
              · have e3 : ((zf : Int) != (lf : Int)) = true := by simp; omega
                have e4 : IntKind.i64.wrap ((lf : Int) + 9) = (zf : Int) := by rw [IntKind.wrap_i64]; omega
                clear hfz
                go_wp2_with fail
                go_quiet (fail)
                go_wp2_with fail
                go_roundg (n - u1)
                case measure => have := Hu1.out; omega
                case rel => exact ⟨u1, q + nq, rfl, by have := Hu1.out; omega, rfl⟩
            · have huI : decide ((u : Int) < (n : Int)) = false := decide_eq_false (by omega)
              have HB7 := Lib.hid (show Below B w (W2.drewN q) from below_drewN HB2.out q)
              go_wp2_with (go_at_call 12; refine hold ?_)
              refine Hold.mk ?_
              refine (HA.out _ (HLw.out.go (by rw [HB.out]; exact HB7.out))).mono ?_
              rintro e W9 ⟨rfl, hb⟩
              have HB9 := Lib.hid (show Below B w W9 from HB7.out.trans (Below.mono hb (by rw [← HB.out]; exact HB7.out.size)))
              clear hb
              go_wp2_with fail
              go_ret
              exact ⟨rfl, HB9.out⟩
theorem scanBlanks_any (s : ByteArray) (k : Int) {w : World} (hL : Lay w) : Calls Tryd.prog 10 #[.string s, .int .i64 k] w fun e w' => e = .returned (.bool true) ∧ Below w.heap.size w w' := by
  by_cases hs : (4000 : Int) < (s.size : Int)
  · exact scanBlanks_big s k hs hL
  · by_cases h1 : (resT (scanAll s.data.toList)).1 = 0
    · exact scanBlanks_ok s k (by omega) h1 hL
    · exact scanBlanks_bad s k (by omega) h1 hL
end Go.Proofs.YtdgjegkoncodaaaDoor
