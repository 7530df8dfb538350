/- The walk of ScanLimits. Conditions: what the library's variables hold. -/
import Derived.Test.YtdgjegkoncodaaaDoorScTokens
import Derived.Test.YtdgjegkoncodaaaDoorScVal
import Derived.Test.YtdgjegkoncodaaaDoorScTextW
namespace Go.Proofs.YtdgjegkoncodaaaDoor
open Go.RowKit

/-- A row of one's own that has grown: what stood below is as it was. -/
theorem app_below {w w' : World} {B g n : Nat} {e : TypeId} {v : Value} {xs : List Value} (hB : B ≤ w.heap.size) (hv : w.ownsRow B e 1 v n xs) (hat : AppAt w v g w') : Below B w w' := by
  have hg := hat.grown
  exact ⟨hg.os, hg.tape, hg.output, hg.size, fun k hk => hg.block k (Nat.lt_of_lt_of_le hk hB) (fun e => by have := (row_lt hv e.symm).2.1; omega)⟩
/-- 'append(b, byte)' on a row of bytes of one's own. -/
theorem wpList_byte {w : World} {ops : Array Oper} {rest : List Oper} {o : Oper} {a : Act} {Q : Exit → Act → World → Prop} (hgd : o.guard = none) (s x : Operand)
    (ho : o.op = .call { callee := .builtin .append, args := #[s, x], argTypes := #[30, 30] })
    {B : Nat} {v : Value} {ob : List UInt8} {U : Int} {u : UInt8} (hs : a.eval s = v) (hx : a.eval x = .slice (some ⟨w.heap.size, 0, none⟩) 1 1)
    (hB : B ≤ w.heap.size) (hv : Out w B v ob) (hU : U = (u.toNat : Int)) (hl : ob.length ≤ 1000000)
    (hK : ∀ g cap w', Below B w w' → Out w' B (.slice (some ⟨g, 0, none⟩) (ob.length + 1) cap) (ob ++ [u]) → wpList Tryd.prog ops Q rest (a.put o.dst (.slice (some ⟨g, 0, none⟩) (ob.length + 1) cap)) w') :
    wpList Tryd.prog ops Q (o :: rest) a (w.alloc (.cells #[.int .u8 U] 5)) := by
  subst hU
  obtain ⟨i, hi, hz, hsz, hby⟩ := info_parts infoB8
  have hb := (Below.refl w.heap.size w).alloc (Nat.le_refl _) (.cells #[.int .u8 (u.toNat : Int)] 5)
  have h1 := hv.go hb
  refine wpList_app _ hgd s x _ ho B 5 i _ 1 1 Tryd.underlying30 hi hz hsz hby rfl v ob.length (byteC ob) hs h1 ⟨w.heap.size, 0, none⟩ 1 1 [.int .u8 (u.toNat : Int)] hx rfl (World.news_of_block (cs := #[.int .u8 (u.toNat : Int)]) (t := 5) (fr := (0, 0)) (heap_alloc_new _ _)) (by simp [Value.oneCell']) (by omega) (by unfold maxLen; omega) (by omega) (by simp; omega) ?_
  intro g cap w' h2 h3
  refine hK g cap w' ((Below.mono hb hB).trans (app_below (Nat.le_trans hB hb.size) h1 h3)) ?_
  unfold Out
  rw [byteC_push, List.length_append]
  exact h2
set_option maxRecDepth 100000 in
set_option maxHeartbeats 3200000 in
theorem scanLimits_in (n d t : Nat) (hn : 1 ≤ n) (hn2 : n ≤ 70) (hd : 1 ≤ d) (hd2 : d ≤ 210) (ht : t ≤ 66000) {w : World} (hL : Lay w) : Calls Tryd.prog 5 #[.int .i64 (n : Int), .int .i64 (d : Int), .int .i64 (t : Int)] w fun e w' => e = .returned (.bool true) ∧ Below w.heap.size w w' := by
  have HA := Lib.hid (fun (W : World) (h : Lay W) => aw_any h)
  have HLw := Lib.hid hL
  have HT := Lib.hid (fun (W : World) (h : Lay W) => tokens_lay (strB (limS n d t)) h)
  have HU := Lib.hid (fun (W : World) => rtokens_any (w := W) (rval_any (strB (limS n d t))))
  rw [strB_toList] at HT HU
  obtain ⟨T, HTt⟩ : ∃ x, Hid (resT (scanAll (limS n d t)) = x) := ⟨_, Lib.hid rfl⟩
  rw [HTt.out] at HT HU
  obtain ⟨k0, Hk0⟩ : ∃ x, Hid (T.1 = x) := ⟨_, Lib.hid rfl⟩
  obtain ⟨a0, Ha0⟩ : ∃ x, Hid (T.2.1 = x) := ⟨_, Lib.hid rfl⟩
  have HLW := Lib.hid (show k0 = 0 ↔ (n ≤ 60 ∧ d ≤ 200 ∧ n + 1 + d + t ≤ 65536) from by rw [← Hk0.out, ← HTt.out]; exact lim_law n d t hn hd)
  obtain ⟨src, Hsrc⟩ : ∃ x, Hid (strB (limS n d t) = x) := ⟨_, Lib.hid rfl⟩
  rw [Hsrc.out] at HT HU
  obtain ⟨B, HB⟩ : ∃ b, Hid (w.heap.size = b) := ⟨_, Lib.hid rfl⟩
  rw [HB.out]
  have g1 : decide ((n : Int) < 1) = false := decide_eq_false (by omega)
  have g2 : decide ((70 : Int) < (n : Int)) = false := decide_eq_false (by omega)
  have g3 : decide ((d : Int) < 1) = false := decide_eq_false (by omega)
  have g4 : decide ((210 : Int) < (d : Int)) = false := decide_eq_false (by omega)
  have g5 : decide ((t : Int) < 0) = false := decide_eq_false (by omega)
  have g6 : decide ((66000 : Int) < (t : Int)) = false := decide_eq_false (by omega)
  have HN := Lib.hid (And.intro hn (And.intro hn2 (And.intro hd (And.intro hd2 ht))))
  clear hL hn hn2 hd hd2 ht
  go_enter Tryd.func5, Tryd.ntmps5
  go_wp2_with fail
  go_loopg [7, 8] n (fun g v7 vi wr => ∃ i : Nat, vi = .int .i64 (i : Int) ∧ g + i = n ∧ Hid (Out wr B v7 (List.replicate i 97)) ∧ Hid (Below B w wr))
  case atStart => exact ⟨0, rfl, rfl, Lib.hid (Out.nil _ _), Lib.hid (Below.refl _ _)⟩
  case round =>
    obtain ⟨i, rfl, hg, HO, HW⟩ := hrel
    by_cases hi : i < n
    · have hiI : (i : Int) < (n : Int) := by omega
      have hw : IntKind.i64.wrap ((i : Int) + 1) = ((i + 1 : Nat) : Int) := by rw [IntKind.wrap_i64]; have := HN.out; omega
      obtain ⟨j, Hj⟩ : ∃ j, Hid (i + 1 = j) := ⟨_, Lib.hid rfl⟩
      rw [Hj.out] at hw
      go_wp2_with (at_builtin; refine hold ?_)
      refine Hold.mk ?_
      refine wpList_byte (u := 97) rfl _ _ rfl rfl rfl (Nat.le_trans (by rw [← HB.out]; exact Nat.le_refl _) HW.out.size) HO.out rfl (by have := HN.out; simp; omega) ?_
      intro g1 cap w' h1 h2
      have HO2 := Lib.hid h2
      have HW2 := Lib.hid (HW.out.trans h1)
      clear h1 h2
      go_wp2_with fail
      go_roundg (n - j)
      case measure => have := Hj.out; omega
      case rel => exact ⟨j, rfl, by have := Hj.out; omega, Lib.hid (by rw [← Hj.out]; simpa [List.replicate_succ', List.append_assoc] using HO2.out), HW2⟩
    · have hiI : decide ((i : Int) < (n : Int)) = false := decide_eq_false (by omega)
      have hin : i = n := by omega
      rw [hin] at HO ⊢
      clear hin
      clear hiI hg
      go_wp2_with (at_builtin; refine hold ?_)
      refine Hold.mk ?_
      refine wpList_byte (u := 32) rfl _ _ rfl rfl rfl (Nat.le_trans (by rw [← HB.out]; exact Nat.le_refl _) HW.out.size) HO.out rfl (by have := HN.out; simp; omega) ?_
      intro g1 cap w' h1 h2
      have HO1 := Lib.hid h2
      have HW1 := Lib.hid (HW.out.trans h1)
      clear h1 h2 HO HW
      obtain ⟨v7, Hv7⟩ : ∃ v, Hid (Value.slice (some ⟨g1, 0, none⟩) ((List.replicate n (97 : UInt8)).length + 1) cap = v) := ⟨_, Lib.hid rfl⟩
      rw [Hv7.out] at HO1 ⊢
      go_wp2_with fail
      have HO := HO1
      have HW := HW1
      clear HO1 HW1
      go_loopg [7, 9] d (fun g v7 vi wr => ∃ i : Nat, vi = .int .i64 (i : Int) ∧ g + i = d ∧ Hid (Out wr B v7 ((List.replicate n 97 ++ [32]) ++ List.replicate i 55)) ∧ Hid (Below B w wr))
      case atStart => exact ⟨0, rfl, rfl, Lib.hid (by simpa using HO.out), Lib.hid (HW.out)⟩
      case round =>
        obtain ⟨i, rfl, hg, HO, HW⟩ := hrel
        by_cases hi : i < d
        · have hiI : (i : Int) < (d : Int) := by omega
          have hw : IntKind.i64.wrap ((i : Int) + 1) = ((i + 1 : Nat) : Int) := by rw [IntKind.wrap_i64]; have := HN.out; omega
          obtain ⟨j, Hj⟩ : ∃ j, Hid (i + 1 = j) := ⟨_, Lib.hid rfl⟩
          rw [Hj.out] at hw
          go_wp2_with (at_builtin; refine hold ?_)
          refine Hold.mk ?_
          refine wpList_byte (u := 55) rfl _ _ rfl rfl rfl (Nat.le_trans (by rw [← HB.out]; exact Nat.le_refl _) HW.out.size) HO.out rfl (by have := HN.out; simp; omega) ?_
          intro g1 cap w' h1 h2
          have HO2 := Lib.hid h2
          have HW2 := Lib.hid (HW.out.trans h1)
          clear h1 h2
          go_wp2_with fail
          go_roundg (d - j)
          case measure => have := Hj.out; omega
          case rel => exact ⟨j, rfl, by have := Hj.out; omega, Lib.hid (by rw [← Hj.out]; simpa [List.replicate_succ', List.append_assoc] using HO2.out), HW2⟩
        · have hiI : decide ((i : Int) < (d : Int)) = false := decide_eq_false (by omega)
          have hin : i = d := by omega
          rw [hin] at HO ⊢
          clear hin
          clear hiI hg
          go_wp2_with fail
          go_loopg [7, 10] t (fun g v7 vi wr => ∃ i : Nat, vi = .int .i64 (i : Int) ∧ g + i = t ∧ Hid (Out wr B v7 (((List.replicate n 97 ++ [32]) ++ List.replicate d 55) ++ List.replicate i 32)) ∧ Hid (Below B w wr))
          case atStart => exact ⟨0, rfl, rfl, Lib.hid (by simpa using HO.out), Lib.hid (HW.out)⟩
          case round =>
            obtain ⟨i, rfl, hg, HO, HW⟩ := hrel
            by_cases hi : i < t
            · have hiI : (i : Int) < (t : Int) := by omega
              have hw : IntKind.i64.wrap ((i : Int) + 1) = ((i + 1 : Nat) : Int) := by rw [IntKind.wrap_i64]; have := HN.out; omega
              obtain ⟨j, Hj⟩ : ∃ j, Hid (i + 1 = j) := ⟨_, Lib.hid rfl⟩
              rw [Hj.out] at hw
              go_wp2_with (at_builtin; refine hold ?_)
              refine Hold.mk ?_
              refine wpList_byte (u := 32) rfl _ _ rfl rfl rfl (Nat.le_trans (by rw [← HB.out]; exact Nat.le_refl _) HW.out.size) HO.out rfl (by have := HN.out; simp; omega) ?_
              intro g1 cap w' h1 h2
              have HO2 := Lib.hid h2
              have HW2 := Lib.hid (HW.out.trans h1)
              clear h1 h2
              go_wp2_with fail
              go_roundg (t - j)
              case measure => have := Hj.out; omega
              case rel => exact ⟨j, rfl, by have := Hj.out; omega, Lib.hid (by rw [← Hj.out]; simpa [List.replicate_succ', List.append_assoc] using HO2.out), HW2⟩
            · have hiI : decide ((i : Int) < (t : Int)) = false := decide_eq_false (by omega)
              have hin : i = t := by omega
              rw [hin] at HO ⊢
              clear hin
              clear hiI hg
              have HOL := Lib.hid (show Out wr B u7 (limS n d t) from by
                have h := HO.out
                rw [show ((List.replicate n (97 : UInt8) ++ [32]) ++ List.replicate d 55) ++ List.replicate t 32 = limS n d t from by simp [limS]] at h
                exact h)
              obtain ⟨ad, cap, hf⟩ := row_form HOL.out
              obtain rfl := hf
              obtain ⟨L, HL⟩ : ∃ x, Hid ((limS n d t).length = x) := ⟨_, Lib.hid rfl⟩
              rw [HL.out]
              rw [HL.out] at HOL
              have HL2 := Lib.hid (show n + 1 + d + t = L from by rw [← HL.out, limS_len])
              have HLw1 := Lib.hid (show Lay wr from HLw.out.go (by rw [HB.out]; exact HW.out))
              have HW1 := HW
              clear HO HW
              go_wp2_with (refine wpList_strB rfl _ rfl rfl HOL.out ?_)
              rw [Hsrc.out]
              go_wp2_with (go_at_call 13; refine hold ?_)
              refine Hold.mk ?_
              refine (HT.out _ HLw1.out).mono ?_
              rintro e W1 ⟨⟨tv, rfl, hr⟩, hb⟩
              rw [Hk0.out, Ha0.out]
              obtain ⟨W2, HW2⟩ : ∃ W2, Hid (W1.alloc (.cells #[.int .i64 k0, .string ⟨#[]⟩, .int .i64 a0] 25) = W2) := ⟨_, Lib.hid rfl⟩
              obtain ⟨b4, Hb4⟩ : ∃ b, Hid (W1.heap.size = b) := ⟨_, Lib.hid rfl⟩
              have HB12 := Lib.hid (show Below W1.heap.size W1 W2 from by rw [← HW2.out]; exact (Below.refl _ W1).alloc (Nat.le_refl _) _)
              have HBr2 := Lib.hid (hb.trans (Below.mono HB12.out hb.size))
              have HB2 := Lib.hid (show Below B w W2 from HW1.out.trans (Below.mono HBr2.out (Nat.le_trans (by rw [← HB.out]; exact Nat.le_refl _) HW1.out.size)))
              have HV2 := Lib.hid ((TokV.of hr).go HB12.out)
              have HO2 := Lib.hid (HOL.out.go HBr2.out)
              have G4 := Lib.hid (show W2.heap[b4]? = some (.cells #[.int .i64 k0, .string ⟨#[]⟩, .int .i64 a0] 25 (0, 0)) from by rw [← HW2.out, ← Hb4.out]; exact heap_alloc_new W1 _)
              clear hr hb
              go_upto_region 18 with fail
              rw [HW2.out, Hb4.out]
              go_wp2_with (refine wpList_strB rfl _ rfl rfl HO2.out ?_)
              rw [Hsrc.out]
              go_wp2_with (go_at_call 14; refine hold ?_)
              refine Hold.mk ?_
              refine (HU.out _).mono ?_
              rintro e W3 ⟨⟨tu, rfl, hr⟩, hb⟩
              rw [Hk0.out, Ha0.out]
              obtain ⟨W4, HW4⟩ : ∃ W2, Hid (W3.alloc (.cells #[.int .i64 k0, .string ⟨#[]⟩, .int .i64 a0] 25) = W2) := ⟨_, Lib.hid rfl⟩
              obtain ⟨b6, Hb6⟩ : ∃ b, Hid (W3.heap.size = b) := ⟨_, Lib.hid rfl⟩
              have HB34 := Lib.hid (show Below W3.heap.size W3 W4 from by rw [← HW4.out]; exact (Below.refl _ W3).alloc (Nat.le_refl _) _)
              have HB24 := Lib.hid (hb.trans (Below.mono HB34.out hb.size))
              have HB4 := Lib.hid (show Below B w W4 from HB2.out.trans (Below.mono HB24.out (Nat.le_trans (by rw [← HB.out]; exact Nat.le_refl _) HB2.out.size)))
              have HV4 := Lib.hid (HV2.out.go HB24.out)
              have HU4 := Lib.hid ((TokV.of hr).go HB34.out)
              have G6 := Lib.hid (show W4.heap[b6]? = some (.cells #[.int .i64 k0, .string ⟨#[]⟩, .int .i64 a0] 25 (0, 0)) from by rw [← HW4.out, ← Hb6.out]; exact heap_alloc_new W3 _)
              have K4 : W4.heap[b4]? = some (.cells #[.int .i64 k0, .string ⟨#[]⟩, .int .i64 a0] 25 (0, 0)) := (HB24.out.block b4 (Array.getElem?_eq_some_iff.1 G4.out).1).trans G4.out
              have h40 : W4.cell? ⟨b4, 0, none⟩ = some (.int .i64 k0) := by simp only [World.cell?, K4]; rfl
              have h41 : W4.cell? ⟨b4, 1, none⟩ = some (.string ⟨#[]⟩) := by simp only [World.cell?, K4]; rfl
              have h42 : W4.cell? ⟨b4, 2, none⟩ = some (.int .i64 a0) := by simp only [World.cell?, K4]; rfl
              have h60 : W4.cell? ⟨b6, 0, none⟩ = some (.int .i64 k0) := by simp only [World.cell?, G6.out]; rfl
              have h61 : W4.cell? ⟨b6, 1, none⟩ = some (.string ⟨#[]⟩) := by simp only [World.cell?, G6.out]; rfl
              have h62 : W4.cell? ⟨b6, 2, none⟩ = some (.int .i64 a0) := by simp only [World.cell?, G6.out]; rfl
              clear hr hb K4
              go_upto_region 19 with fail
              rw [HW4.out, Hb6.out]
              have hcs : ((60 : Int) < (n : Int) ∧ k0 ≠ 0) ∨ ((n : Int) ≤ 60 ∧ (200 : Int) < (d : Int) ∧ k0 ≠ 0) ∨ ((n : Int) ≤ 60 ∧ (d : Int) ≤ 200 ∧ (65536 : Int) < (L : Int) ∧ k0 ≠ 0) ∨ ((n : Int) ≤ 60 ∧ (d : Int) ≤ 200 ∧ (L : Int) ≤ 65536 ∧ k0 = 0) := by
                have h1 := HLW.out
                have h2 := HL2.out
                rw [h2] at h1
                by_cases hk : k0 = 0
                · have := h1.1 hk; omega
                · have : ¬ (n ≤ 60 ∧ d ≤ 200 ∧ L ≤ 65536) := fun h => hk (h1.2 h)
                  omega
              rcases hcs with ⟨f1, hk⟩ | ⟨f1, f2, hk⟩ | ⟨f1, f2, f3, hk⟩ | ⟨f1, f2, f3, hk⟩
              · have hq : (k0 == (0 : Int)) = false := by simpa using hk
                have f1' : decide ((n : Int) ≤ 60) = false := decide_eq_false (by omega)
                clear hk
                go_wp2_with (go_at_call 15; refine hold ?_)
                refine Hold.mk ?_
                refine (same_any HV4.out HU4.out).mono ?_
                rintro e W5 ⟨rfl, m, rfl⟩
                have HL5 := Lib.hid (show Lay (W4.drewN m) from HLw.out.go ⟨HB4.out.os, HB4.out.tape, HB4.out.output, HB4.out.size, by rw [HB.out]; exact HB4.out.block⟩)
                have HB5 := Lib.hid (show Below B w (W4.drewN m) from ⟨HB4.out.os, HB4.out.tape, HB4.out.output, HB4.out.size, HB4.out.block⟩)
                go_wp2_with (go_at_call 12; refine hold ?_)
                refine Hold.mk ?_
                refine (HA.out _ HL5.out).mono ?_
                rintro e W6 ⟨rfl, hb⟩
                have HB6 := Lib.hid (show Below B w W6 from HB5.out.trans (Below.mono hb (Nat.le_trans (by rw [← HB.out]; exact Nat.le_refl _) HB5.out.size)))
                clear hb
                go_wp2_with fail
                go_ret
                exact ⟨rfl, HB6.out⟩
              · have hq : (k0 == (0 : Int)) = false := by simpa using hk
                have f2' : decide ((d : Int) ≤ 200) = false := decide_eq_false (by omega)
                clear hk
                go_wp2_with (go_at_call 15; refine hold ?_)
                refine Hold.mk ?_
                refine (same_any HV4.out HU4.out).mono ?_
                rintro e W5 ⟨rfl, m, rfl⟩
                have HL5 := Lib.hid (show Lay (W4.drewN m) from HLw.out.go ⟨HB4.out.os, HB4.out.tape, HB4.out.output, HB4.out.size, by rw [HB.out]; exact HB4.out.block⟩)
                have HB5 := Lib.hid (show Below B w (W4.drewN m) from ⟨HB4.out.os, HB4.out.tape, HB4.out.output, HB4.out.size, HB4.out.block⟩)
                go_wp2_with (go_at_call 12; refine hold ?_)
                refine Hold.mk ?_
                refine (HA.out _ HL5.out).mono ?_
                rintro e W6 ⟨rfl, hb⟩
                have HB6 := Lib.hid (show Below B w W6 from HB5.out.trans (Below.mono hb (Nat.le_trans (by rw [← HB.out]; exact Nat.le_refl _) HB5.out.size)))
                clear hb
                go_wp2_with fail
                go_ret
                exact ⟨rfl, HB6.out⟩
              · have hq : (k0 == (0 : Int)) = false := by simpa using hk
                have f3' : decide ((L : Int) ≤ 65536) = false := decide_eq_false (by omega)
                clear hk
                go_wp2_with (go_at_call 15; refine hold ?_)
                refine Hold.mk ?_
                refine (same_any HV4.out HU4.out).mono ?_
                rintro e W5 ⟨rfl, m, rfl⟩
                have HL5 := Lib.hid (show Lay (W4.drewN m) from HLw.out.go ⟨HB4.out.os, HB4.out.tape, HB4.out.output, HB4.out.size, by rw [HB.out]; exact HB4.out.block⟩)
                have HB5 := Lib.hid (show Below B w (W4.drewN m) from ⟨HB4.out.os, HB4.out.tape, HB4.out.output, HB4.out.size, HB4.out.block⟩)
                go_wp2_with (go_at_call 12; refine hold ?_)
                refine Hold.mk ?_
                refine (HA.out _ HL5.out).mono ?_
                rintro e W6 ⟨rfl, hb⟩
                have HB6 := Lib.hid (show Below B w W6 from HB5.out.trans (Below.mono hb (Nat.le_trans (by rw [← HB.out]; exact Nat.le_refl _) HB5.out.size)))
                clear hb
                go_wp2_with fail
                go_ret
                exact ⟨rfl, HB6.out⟩
              · have hq : (k0 == (0 : Int)) = true := by simpa using hk
                clear hk
                go_wp2_with (go_at_call 15; refine hold ?_)
                refine Hold.mk ?_
                refine (same_any HV4.out HU4.out).mono ?_
                rintro e W5 ⟨rfl, m, rfl⟩
                have HL5 := Lib.hid (show Lay (W4.drewN m) from HLw.out.go ⟨HB4.out.os, HB4.out.tape, HB4.out.output, HB4.out.size, by rw [HB.out]; exact HB4.out.block⟩)
                have HB5 := Lib.hid (show Below B w (W4.drewN m) from ⟨HB4.out.os, HB4.out.tape, HB4.out.output, HB4.out.size, HB4.out.block⟩)
                go_wp2_with (go_at_call 12; refine hold ?_)
                refine Hold.mk ?_
                refine (HA.out _ HL5.out).mono ?_
                rintro e W6 ⟨rfl, hb⟩
                have HB6 := Lib.hid (show Below B w W6 from HB5.out.trans (Below.mono hb (Nat.le_trans (by rw [← HB.out]; exact Nat.le_refl _) HB5.out.size)))
                clear hb
                go_wp2_with fail
                go_ret
                exact ⟨rfl, HB6.out⟩
set_option maxRecDepth 100000 in
theorem scanLimits_any (a0 a1 a2 : Int) {w : World} (hL : Lay w) : Calls Tryd.prog 5 #[.int .i64 a0, .int .i64 a1, .int .i64 a2] w fun e w' => e = .returned (.bool true) ∧ Below w.heap.size w w' := by
  by_cases h : 1 ≤ a0 ∧ a0 ≤ 70 ∧ 1 ≤ a1 ∧ a1 ≤ 210 ∧ 0 ≤ a2 ∧ a2 ≤ 66000
  · obtain ⟨n, rfl⟩ := Int.eq_ofNat_of_zero_le (show 0 ≤ a0 by omega)
    obtain ⟨d, rfl⟩ := Int.eq_ofNat_of_zero_le (show 0 ≤ a1 by omega)
    obtain ⟨t, rfl⟩ := Int.eq_ofNat_of_zero_le (show 0 ≤ a2 by omega)
    exact scanLimits_in n d t (by omega) (by omega) (by omega) (by omega) (by omega) hL
  · have HA := Lib.hid (fun (W : World) (h : Lay W) => aw_any h)
    have HLw := Lib.hid hL
    have HC := Lib.hid (show a0 < 1 ∨ ¬ a0 < 1 ∧ 70 < a0 ∨ ¬ a0 < 1 ∧ ¬ 70 < a0 ∧ a1 < 1 ∨ ¬ a0 < 1 ∧ ¬ 70 < a0 ∧ ¬ a1 < 1 ∧ 210 < a1 ∨ ¬ a0 < 1 ∧ ¬ 70 < a0 ∧ ¬ a1 < 1 ∧ ¬ 210 < a1 ∧ a2 < 0 ∨ ¬ a0 < 1 ∧ ¬ 70 < a0 ∧ ¬ a1 < 1 ∧ ¬ 210 < a1 ∧ ¬ a2 < 0 ∧ 66000 < a2 from by omega)
    clear hL h
    rcases HC.out with h | ⟨h1, h⟩ | ⟨h1, h2, h⟩ | ⟨h1, h2, h3, h⟩ | ⟨h1, h2, h3, h4, h⟩ | ⟨h1, h2, h3, h4, h5, h⟩
    all_goals
      clear HC
      go_enter Tryd.func5, Tryd.ntmps5
      go_wp2_with (go_at_call 12; refine hold ?_)
      refine Hold.mk ?_
      refine (HA.out _ HLw.out).mono ?_
      rintro e W5 ⟨rfl, hb⟩
      have HB5 := Lib.hid hb
      clear hb
      go_wp2_with fail
      go_ret
      exact ⟨rfl, HB5.out⟩
end Go.Proofs.YtdgjegkoncodaaaDoor
