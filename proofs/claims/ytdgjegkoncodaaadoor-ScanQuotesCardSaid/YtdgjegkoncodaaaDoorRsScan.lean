/- The reference's Scan. Condition: Valid's contract. -/
import Derived.Test.YtdgjegkoncodaaaDoorRsRem
import Derived.Test.YtdgjegkoncodaaaDoorRsText
import Derived.Test.YtdgjegkoncodaaaDoorRsName
import Derived.Test.YtdgjegkoncodaaaDoorScRead
namespace Go.Proofs.YtdgjegkoncodaaaDoor
open Go.RowKit

/-- What the loop holds: it goes on at q, or it has stopped with what is wrong. -/
def LoopP (w0 W : World) (p : Nat) (src : ByteArray) (t : Told3) (g : Nat) : Prop :=
  (∃ q l c, q ≤ src.size ∧ g = src.size - q + 1 ∧ (t = scanR (src.data.toList.drop q) q l c ∧ l.length ≤ q ∧ c.length ≤ q) ∧ RsE w0 W p src q l c 0 0) ∨
  (∃ q a l c, g = 0 ∧ t = .bad q ∧ RsE w0 W p src a l c 3 (q : Int))
/-- What Scan leaves. -/
def RScanP (w W : World) (src : ByteArray) (e : Ending) : Option Told3 → Prop
  | some (.ok l c) => ∃ p, e = .returned (.pointer (some ⟨p, 0, none⟩)) ∧ w.heap.size ≤ p ∧ ∃ wx, Below w.heap.size w wx ∧ RsE wx W p src src.size l c 0 0
  | some (.bad q) => ∃ p, e = .returned (.pointer (some ⟨p, 0, none⟩)) ∧ w.heap.size ≤ p ∧ ∃ wx, Below w.heap.size w wx ∧ RsE wx W p ⟨#[]⟩ 0 [] [] 3 (q : Int)
  | none => ∃ p, e = .returned (.pointer (some ⟨p, 0, none⟩)) ∧ w.heap.size ≤ p ∧ ∃ wx, Below w.heap.size w wx ∧ RsE wx W p ⟨#[]⟩ 0 [] [] 2 0
theorem rs_new {w : World} {src : ByteArray} {fk fa : Int} : RsE w (w.alloc (.cells #[.string src, .int .i64 0, .slice none 0 0, .slice none 0 0, .int .i64 fk, .string ⟨#[]⟩, .int .i64 fa] 52)) w.heap.size src 0 [] [] fk fa :=
  ⟨_, _, (Below.refl _ w).alloc (Nat.le_refl _) _, heap_alloc_new _ _, World.ownsRow_nil _ _ _ _, World.ownsRow_nil _ _ _ _⟩
/-- What is left of a step, where no blank, no line's end and no remark begins. -/
def restItem (y : UInt8) (t : List UInt8) : Item :=
  if letterB y.toNat then nameItem (y :: t) else if digitB y.toNat then numItem (y :: t) else if y == 34 then strItem t 1 [] else signItem (y :: t)
theorem step_rest {y : UInt8} {t : List UInt8} (h0 : (y == 10) = false) (hb : (y == 32 || y == 9 || y == 13) = false) (h1 : Lib.hasPrefix (y :: t) [47, 47] = false) (h2 : Lib.hasPrefix (y :: t) [47, 42] = false) : step1 (y :: t) = restItem y t := by
  rw [pre_two] at h1 h2
  show stepC y t = _
  unfold stepC restItem
  rw [h0, hb, h1, h2]
  cases hl : letterB y.toNat with
  | true =>
    have hk : 0 < nameLen (y :: t) := by rw [nameLen_letter hl, nameFrom_cons, hl]; simp
    simp only [Bool.false_eq_true, if_false, if_true]
    unfold nameItem
    rw [if_pos (decide_eq_true hk)]
  | false =>
    have hk : nameLen (y :: t) = 0 := by unfold nameLen; rw [nameFrom, hl]; rfl
    rw [hk]
    simp only [Bool.false_eq_true, if_false]
    rfl
theorem loop_item {w W : World} {p q : Nat} {src : ByteArray} {l : List Tok} {c : List (Nat × Nat)} {T : Told3} {e : Ending} {it : Item} (hlt : q < src.size) (hE : T = scanR (src.data.toList.drop q) q l c ∧ l.length ≤ q ∧ c.length ≤ q) (hs : step1 (src.data.toList.drop q) = it) (h : RItemP w W p src q l c e it) : e = .returned (.tuple #[]) ∧ ∃ g, g < src.size - q + 1 ∧ LoopP w W p src T g := by
  have hz := rd_size (r := src.data.toList.drop q) rfl hlt
  obtain ⟨e1, e2, e3⟩ := hE
  rw [hs] at hz
  cases it with
  | nl => exact h.elim
  | blank => exact h.elim
  | rem n b =>
    have h1 := rd_rem (l := l) (c := c) rfl hlt hs
    simp only [Item.size] at hz
    refine ⟨h.1, _, ?_, .inl ⟨q + n, _, _, hz.2, rfl, ⟨e1.trans h1, ?_, ?_⟩, h.2⟩⟩
    · omega
    · have := lineT_len l q
      cases b <;> simp <;> omega
    · rw [List.length_append]; simp only [List.length_singleton]; omega
  | tok k n x =>
    have h1 := rd_tok (l := l) (c := c) rfl hlt hs
    simp only [Item.size] at hz
    refine ⟨h.1, _, ?_, .inl ⟨q + n, _, _, hz.2, rfl, ⟨e1.trans h1, ?_, ?_⟩, h.2⟩⟩
    · omega
    · rw [List.length_append]; simp only [List.length_singleton]; omega
    · omega
  | bad o =>
    obtain ⟨he, a', h2⟩ := h
    exact ⟨he, 0, by omega, .inr ⟨q + o, a', l, c, rfl, e1.trans (rd_bad rfl hlt hs), h2⟩⟩
set_option maxRecDepth 100000 in
set_option maxHeartbeats 6400000 in
theorem rscan_any {w : World} {src : ByteArray} (hV : ∀ W, Calls Tryd.prog 22 #[.string src] W (fun e W' => e = .returned (.bool (validS src.data.toList)) ∧ ∃ m, W' = W.drewN m)) :
    Calls Tryd.prog 26 #[.string src] w fun e W' => RScanP w W' src e (scanAll src.data.toList) := by
  have HVl := Lib.hid hV
  clear hV
  by_cases hbig : src.size ≤ 65536
  · have hgt : decide (65536 < (src.size : Int)) = false := decide_eq_false (by omega)
    cases hv : validS src.data.toList with
    | true =>
      have HV2 := Lib.hid (show ∀ W, Calls Tryd.prog 22 #[.string src] W (fun e W' => e = .returned (.bool true) ∧ ∃ m, W' = W.drewN m) from by rw [← hv]; exact HVl.out)
      have HSA := Lib.hid (show scanAll src.data.toList = some (scanR src.data.toList 0 [] []) from by unfold scanAll; rw [hv, bytes_len, decide_eq_true hbig]; rfl)
      rw [HSA.out]
      clear hv
      go_enter Tryd.func26, Tryd.ntmps26
      go_upto_region 2 with fail
      have HN := Lib.hid (rs_new (w := w) (src := src) (fk := 0) (fa := 0))
      obtain ⟨W1, HW1⟩ : ∃ W1, Hid (w.alloc (.cells #[.string src, .int .i64 0, .slice none 0 0, .slice none 0 0, .int .i64 0, .string ⟨#[]⟩, .int .i64 0] 52) = W1) := ⟨_, Lib.hid rfl⟩
      obtain ⟨p, Hp⟩ : ∃ p, Hid (w.heap.size = p) := ⟨_, Lib.hid rfl⟩
      rw [HW1.out, Hp.out] at HN ⊢
      go_wp2_with (go_at_call 22; refine (HV2.out _).mono ?_; rintro e w' ⟨rfl, k, rfl⟩)
      go_loopg [] (src.size + 1) (fun g wr => Hid (LoopP w wr p src (scanR src.data.toList 0 [] []) g))
      case atStart => exact Lib.hid (.inl ⟨0, [], [], Nat.zero_le _, rfl, ⟨rfl, Nat.le_refl _, Nat.le_refl _⟩, HN.out.drewN _⟩)
      case round =>
        rcases hrel.out with ⟨q, l, c, hq, rfl, he, hs⟩ | ⟨q, a, l, c, rfl, he, hs⟩
        · have HE := Lib.hid he
          have HS := Lib.hid hs
          clear he hs hrel
          obtain ⟨tv, rv, h1⟩ := HS.out
          obtain ⟨c0, c1, c2, c3, c4, c5, c6⟩ := h1.cells
          have f1 := h1.thaw 1
          clear h1 c2 c3 c5 c6
          by_cases hlt : q < src.size
          · have hlI : (q : Int) < (src.size : Int) := by omega
            obtain ⟨z, hz⟩ : ∃ z, src[q].toNat = z := ⟨_, rfl⟩
            have HZ := Lib.hid hz
            have HR := Lib.hid (drop_at hlt)
            have HN0 := Lib.hid (show l.length ≤ 1000000 from by have := HE.out.2.1; omega)
            have HC0 := Lib.hid (show c.length ≤ 1000000 from by have := HE.out.2.2; omega)
            obtain ⟨q1, Hq1⟩ : ∃ q1, Hid (q + 1 = q1) := ⟨_, Lib.hid rfl⟩
            have hw : IntKind.i64.wrap ((q : Int) + 1) = (q1 : Int) := by rw [IntKind.wrap_i64, ← Hq1.out]; omega
            go_upto_region 7 with fail
            cases d10 : ((z : Int) == 10) with
            | true =>
              have HI := Lib.hid (show step1 (src.data.toList.drop q) = .nl from by rw [HR.out]; show stepC _ _ = _; unfold stepC; rw [if_pos (show (src[q] == 10) = true from beq_z (n := 10) HZ.out d10 (by decide))])
              go_wp2_with (go_at_call 37; refine hold ?_)
              refine Hold.mk ?_
              refine (rline_any HS.out HN0.out q).mono ?_
              rintro e W' ⟨rfl, hS⟩
              have HS2 := Lib.hid hS
              clear hS c0 c1 c4 f1
              obtain ⟨c0, c1, f1⟩ := HS2.out.cells
              go_wp2_with fail
              go_roundg (src.size - (q + 1) + 1)
              case measure => omega
              case rel => exact Lib.hid (.inl ⟨q + 1, lineT l q, c, by omega, rfl, ⟨by rw [HE.out.1]; exact rd_nl rfl hlt HI.out, by have := HE.out.2.1; have := lineT_len l q; omega, by have := HE.out.2.2; omega⟩, by rw [Hq1.out]; exact HS2.out.setAt q1⟩)
            | false =>
              have H10 := Lib.hid (show (src[q] == 10) = false from beq_z (n := 10) HZ.out d10 (by decide))
              cases d32 : ((z : Int) == 32) with
              | true =>
                have HI := Lib.hid (show step1 (src.data.toList.drop q) = .blank from by rw [HR.out]; show stepC _ _ = _; unfold stepC; rw [H10.out, show (src[q] == 32) = true from beq_z (n := 32) HZ.out d32 (by decide)]; simp)
                go_wp2_with fail
                go_roundg (src.size - (q + 1) + 1)
                case measure => omega
                case rel => exact Lib.hid (.inl ⟨q + 1, l, c, by omega, rfl, ⟨by rw [HE.out.1]; exact rd_blank rfl hlt HI.out, by have := HE.out.2.1; omega, by have := HE.out.2.2; omega⟩, by rw [Hq1.out]; exact HS.out.setAt q1⟩)
              | false =>
                cases d9 : ((z : Int) == 9) with
                | true =>
                  have HI := Lib.hid (show step1 (src.data.toList.drop q) = .blank from by rw [HR.out]; show stepC _ _ = _; unfold stepC; rw [H10.out, show (src[q] == 9) = true from beq_z (n := 9) HZ.out d9 (by decide)]; simp)
                  go_wp2_with fail
                  go_roundg (src.size - (q + 1) + 1)
                  case measure => omega
                  case rel => exact Lib.hid (.inl ⟨q + 1, l, c, by omega, rfl, ⟨by rw [HE.out.1]; exact rd_blank rfl hlt HI.out, by have := HE.out.2.1; omega, by have := HE.out.2.2; omega⟩, by rw [Hq1.out]; exact HS.out.setAt q1⟩)
                | false =>
                  cases d13 : ((z : Int) == 13) with
                  | true =>
                    have HI := Lib.hid (show step1 (src.data.toList.drop q) = .blank from by rw [HR.out]; show stepC _ _ = _; unfold stepC; rw [H10.out, show (src[q] == 13) = true from beq_z (n := 13) HZ.out d13 (by decide)]; simp)
                    go_wp2_with fail
                    go_roundg (src.size - (q + 1) + 1)
                    case measure => omega
                    case rel => exact Lib.hid (.inl ⟨q + 1, l, c, by omega, rfl, ⟨by rw [HE.out.1]; exact rd_blank rfl hlt HI.out, by have := HE.out.2.1; omega, by have := HE.out.2.2; omega⟩, by rw [Hq1.out]; exact HS.out.setAt q1⟩)
                  | false =>
                    have HB := Lib.hid (show (src[q] == 32 || src[q] == 9 || src[q] == 13) = false from by rw [show (src[q] == 32) = false from beq_z (n := 32) HZ.out d32 (by decide), show (src[q] == 9) = false from beq_z (n := 9) HZ.out d9 (by decide), show (src[q] == 13) = false from beq_z (n := 13) HZ.out d13 (by decide)]; rfl)
                    clear c0 c1 c4 f1
                    obtain ⟨b1, Hb1⟩ : ∃ b1, Hid (Lib.hasPrefix (src.data.toList.drop q) [47, 47] = b1) := ⟨_, Lib.hid rfl⟩
                    obtain ⟨b2, Hb2⟩ : ∃ b2, Hid (Lib.hasPrefix (src.data.toList.drop q) [47, 42] = b2) := ⟨_, Lib.hid rfl⟩
                    go_wp2_with (go_at_call 38; refine hold ?_)
                    refine Hold.mk ?_
                    refine (at_any (t := ⟨#[47, 47]⟩) HS.out (Nat.le_of_lt hlt) (by omega) (by decide) Hb1.out).mono ?_
                    rintro e W' ⟨rfl, k1, rfl⟩
                    cases b1 with
                    | true =>
                      have HY := Lib.hid (show step1 (src.data.toList.drop q) = remItem (src.data.toList.drop q) ∧ remItem (src.data.toList.drop q) = .rem (lineLen (src.data.toList.drop q)) false from by
                        have h := Hb1.out
                        rw [HR.out, pre_two] at h
                        rw [Bool.and_eq_true] at h
                        rw [HR.out]
                        refine ⟨rem_step H10.out HB.out h.1 (.inl (by simpa using h.2)), ?_⟩
                        have h2 : (src.data.toList.drop (q + 1)).head? = some 47 := by simpa using h.2
                        unfold remItem
                        rw [List.drop_succ_cons, List.drop_zero, h2]
                        rfl)
                      go_wp2_with (go_at_call 39; refine hold ?_)
                      refine Hold.mk ?_
                      refine (rremline_any (HS.out.drewN _) HN0.out HC0.out hlt hbig Hb1.out HY.out.2).mono ?_
                      rintro e W' hI
                      obtain ⟨rfl, g', hg, hL⟩ := loop_item hlt HE.out (HY.out.1) hI
                      have HL := Lib.hid hL
                      clear hI hL
                      go_wp2_with fail
                      go_roundg g'
                      case measure => exact hg
                      case rel => exact HL
                    | false =>
                      go_wp2_with (go_at_call 38; refine hold ?_)
                      refine Hold.mk ?_
                      refine (at_any (t := ⟨#[47, 42]⟩) (HS.out.drewN k1) (Nat.le_of_lt hlt) (by omega) (by decide) Hb2.out).mono ?_
                      rintro e W' ⟨rfl, k2, rfl⟩
                      cases b2 with
                      | true =>
                        have HY := Lib.hid (show q + 1 < src.size ∧ step1 (src.data.toList.drop q) = remItem (src.data.toList.drop q) ∧ remItem (src.data.toList.drop q) = blkGo (src.data.toList.drop (q + 2)) 2 false from by
                          have h := Hb2.out
                          rw [HR.out, pre_two] at h
                          rw [Bool.and_eq_true] at h
                          have h2 : (src.data.toList.drop (q + 1)).head? = some 42 := by simpa using h.2
                          have h3 : q + 1 < src.size := by
                            by_cases hx : q + 1 < src.size
                            · exact hx
                            · rw [drop_end hx] at h2; cases h2
                          rw [HR.out]
                          refine ⟨h3, rem_step H10.out HB.out h.1 (.inr h2), ?_⟩
                          rw [drop_at h3] at h2 ⊢
                          rw [eq_of_beq h.1, show src[q + 1] = 42 from Option.some.inj h2]
                          exact blk_start _)
                        go_wp2_with (go_at_call 39; refine hold ?_)
                        refine Hold.mk ?_
                        refine (rremblk_any (HS.out.drewN _) HN0.out HC0.out HY.out.1 hbig Hb1.out HY.out.2.2).mono ?_
                        rintro e W' hI
                        obtain ⟨rfl, g', hg, hL⟩ := loop_item hlt HE.out (HY.out.2.1) hI
                        have HL := Lib.hid hL
                        clear hI hL
                        go_wp2_with fail
                        go_roundg g'
                        case measure => exact hg
                        case rel => exact HL
                      | false =>
                        have HSt := Lib.hid (show step1 (src.data.toList.drop q) = restItem src[q] (src.data.toList.drop (q + 1)) from by
                          have h1 := Hb1.out
                          have h2 := Hb2.out
                          rw [HR.out] at h1 h2 ⊢
                          exact step_rest H10.out HB.out h1 h2)
                        cases hlq : letterB src[q].toNat with
                        | true =>
                          have HLq := Lib.hid (fun W => rletter_C hlq W)
                          have HI := Lib.hid (show step1 (src.data.toList.drop q) = nameItem (src.data.toList.drop q) from by rw [HSt.out]; unfold restItem; rw [if_pos hlq, HR.out])
                          have Hh := Lib.hid hlq
                          clear hlq
                          rw [hz] at HLq
                          go_wp2_with (first | (go_at_call 28; refine (HLq.out _).mono ?_; rintro e w' ⟨rfl, rfl⟩) | (go_at_call 40; refine hold ?_))
                          refine Hold.mk ?_
                          refine (rname_any (HS.out.drewN _) HN0.out hlt Hh.out hbig).mono ?_
                          rintro e W' hI
                          obtain ⟨rfl, g', hg, hL⟩ := loop_item hlt HE.out (HI.out) hI
                          have HL := Lib.hid hL
                          clear hI hL
                          go_wp2_with fail
                          go_roundg g'
                          case measure => exact hg
                          case rel => exact HL
                        | false =>
                          have HLq := Lib.hid (fun W => rletter_C hlq W)
                          have Hnl := Lib.hid hlq
                          clear hlq
                          rw [hz] at HLq
                          cases hdq : digitB src[q].toNat with
                          | true =>
                            have HDq := Lib.hid (fun W => rdigit_C hdq W)
                            have HI := Lib.hid (show step1 (src.data.toList.drop q) = numItem (src.data.toList.drop q) from by rw [HSt.out]; unfold restItem; rw [Hnl.out, hdq, HR.out]; rfl)
                            have Hh := Lib.hid hdq
                            clear hdq
                            rw [hz] at HDq
                            go_wp2_with (first | (go_at_call 28; refine (HLq.out _).mono ?_; rintro e w' ⟨rfl, rfl⟩) | (go_at_call 29; refine (HDq.out _).mono ?_; rintro e w' ⟨rfl, rfl⟩) | (go_at_call 41; refine hold ?_))
                            refine Hold.mk ?_
                            refine (rnumber_any (HS.out.drewN _) HN0.out hlt Hh.out hbig).mono ?_
                            rintro e W' hI
                            obtain ⟨rfl, g', hg, hL⟩ := loop_item hlt HE.out (HI.out) hI
                            have HL := Lib.hid hL
                            clear hI hL
                            go_wp2_with fail
                            go_roundg g'
                            case measure => exact hg
                            case rel => exact HL
                          | false =>
                            have HDq := Lib.hid (fun W => rdigit_C hdq W)
                            have Hnd := Lib.hid hdq
                            clear hdq
                            rw [hz] at HDq
                            cases d34 : ((z : Int) == 34) with
                            | true =>
                              have HI := Lib.hid (show step1 (src.data.toList.drop q) = strItem (src.data.toList.drop (q + 1)) 1 [] from by rw [HSt.out]; unfold restItem; rw [Hnl.out, Hnd.out, show (src[q] == 34) = true from beq_z (n := 34) HZ.out d34 (by decide)]; rfl)
                              go_wp2_with (first | (go_at_call 28; refine (HLq.out _).mono ?_; rintro e w' ⟨rfl, rfl⟩) | (go_at_call 29; refine (HDq.out _).mono ?_; rintro e w' ⟨rfl, rfl⟩) | (go_at_call 42; refine hold ?_))
                              refine Hold.mk ?_
                              refine (rtext_any (HS.out.drewN _) HN0.out hlt hbig).mono ?_
                              rintro e W' hI
                              obtain ⟨rfl, g', hg, hL⟩ := loop_item hlt HE.out (HI.out) hI
                              have HL := Lib.hid hL
                              clear hI hL
                              go_wp2_with fail
                              go_roundg g'
                              case measure => exact hg
                              case rel => exact HL
                            | false =>
                              have HI := Lib.hid (show step1 (src.data.toList.drop q) = signItem (src.data.toList.drop q) from by rw [HSt.out]; unfold restItem; rw [Hnl.out, Hnd.out, show (src[q] == 34) = false from beq_z (n := 34) HZ.out d34 (by decide), HR.out]; rfl)
                              go_wp2_with (first | (go_at_call 28; refine (HLq.out _).mono ?_; rintro e w' ⟨rfl, rfl⟩) | (go_at_call 29; refine (HDq.out _).mono ?_; rintro e w' ⟨rfl, rfl⟩) | (go_at_call 43; refine hold ?_))
                              refine Hold.mk ?_
                              refine (rsign_any (HS.out.drewN _) HN0.out hlt hbig).mono ?_
                              rintro e W' hI
                              obtain ⟨rfl, g', hg, hL⟩ := loop_item hlt HE.out (HI.out) hI
                              have HL := Lib.hid hL
                              clear hI hL
                              go_wp2_with fail
                              go_roundg g'
                              case measure => exact hg
                              case rel => exact HL
          · have hlf : decide ((q : Int) < (src.size : Int)) = false := decide_eq_false (by omega)
            have hqs : q = src.size := by omega
            have HX := Lib.hid (show scanR src.data.toList 0 [] [] = .ok (lineT l src.size ++ [⟨7, src.size, src.size, []⟩]) c from by rw [HE.out.1, drop_end hlt, scanR_nil, hqs])
            have HQ := Lib.hid hqs
            have HL0 := Lib.hid (show (lineT l src.size).length ≤ 1000000 from by have := lineT_len l src.size; have := HE.out.2.1; omega)
            have HN0 := Lib.hid (show l.length ≤ 1000000 from by have := HE.out.2.1; omega)
            clear hqs
            go_upto_region 20 with fail
            go_wp2_with (go_at_call 37; refine hold ?_)
            refine Hold.mk ?_
            refine (rline_any HS.out HN0.out src.size).mono ?_
            rintro e W' ⟨rfl, hS⟩
            have HS2 := Lib.hid hS
            clear hS c0 c1 c4 f1
            go_wp2_with (go_at_call 44; refine hold ?_)
            refine Hold.mk ?_
            refine (radd_any HS2.out HL0.out 7 src.size [] _ rfl).mono ?_
            rintro e W' ⟨rfl, hS⟩
            have HS3 := Lib.hid hS
            clear hS
            go_wp2_with fail
            go_ret
            rw [HX.out]
            refine ⟨p, rfl, Nat.le_of_eq Hp.out, w, Below.refl _ _, ?_⟩
            have h := HS3.out
            rw [HQ.out] at h
            exact h
        · have HE := Lib.hid he
          have HS := Lib.hid hs
          clear he hs hrel
          obtain ⟨tv, rv, h1⟩ := HS.out
          obtain ⟨c0, c1, c2, c3, c4, c5, c6⟩ := h1.cells
          have HLt := Lib.hid h1.lt
          have HBl := Lib.hid h1.below
          clear h1 c0 c1 c2 c3
          go_wp2_with fail
          go_ret
          rw [HE.out]
          have hp := HLt.out
          have hp2 := Hp.out
          exact ⟨_, rfl, by omega, wr, by rw [hp2]; exact HBl.out, rs_new⟩
    | false =>
      have HV2 := Lib.hid (show ∀ W, Calls Tryd.prog 22 #[.string src] W (fun e W' => e = .returned (.bool false) ∧ ∃ m, W' = W.drewN m) from by rw [← hv]; exact HVl.out)
      have HSA := Lib.hid (show scanAll src.data.toList = none from by unfold scanAll; rw [hv, Bool.and_false]; rfl)
      rw [HSA.out]
      clear hv
      go_enter Tryd.func26, Tryd.ntmps26
      go_upto_region 2 with fail
      have HN := Lib.hid (rs_new (w := w) (src := src) (fk := 0) (fa := 0))
      obtain ⟨W1, HW1⟩ : ∃ W1, Hid (w.alloc (.cells #[.string src, .int .i64 0, .slice none 0 0, .slice none 0 0, .int .i64 0, .string ⟨#[]⟩, .int .i64 0] 52) = W1) := ⟨_, Lib.hid rfl⟩
      obtain ⟨p, Hp⟩ : ∃ p, Hid (w.heap.size = p) := ⟨_, Lib.hid rfl⟩
      rw [HW1.out, Hp.out] at HN ⊢
      go_upto_region 3 with (go_at_call 22; refine (HV2.out _).mono ?_; rintro e w' ⟨rfl, k, rfl⟩)
      obtain ⟨Wk, HWk⟩ : ∃ Wk, Hid (W1.drewN k = Wk) := ⟨_, Lib.hid rfl⟩
      have HNk := Lib.hid (show RsE w Wk p src 0 [] [] 0 0 from by rw [← HWk.out]; exact HN.out.drewN k)
      rw [HWk.out]
      obtain ⟨tv0, rv0, h0⟩ := HNk.out
      obtain ⟨c0, c1, c2, c3, c4, c5, c6⟩ := h0.cells
      have f4 := h0.thaw 4
      have f5 := h0.thaw 5
      have f6 := h0.thaw 6
      have HF0 := Lib.hid (show RsE w (((Wk.setCell ⟨p, 4, none⟩ (.int .i64 2)).setCell ⟨p, 5, none⟩ (.string ⟨#[]⟩)).setCell ⟨p, 6, none⟩ (.int .i64 0)) p src 0 [] [] 2 0 from ⟨_, _, h0.setF 2 0⟩)
      clear h0 c0 c1 c2 c3
      go_wp2_with fail
      obtain ⟨W2, HW2⟩ : ∃ W2, Hid (((Wk.setCell ⟨p, 4, none⟩ (.int .i64 2)).setCell ⟨p, 5, none⟩ (.string ⟨#[]⟩)).setCell ⟨p, 6, none⟩ (.int .i64 0) = W2) := ⟨_, Lib.hid rfl⟩
      rw [HW2.out] at HF0 ⊢
      clear c4 c5 c6 f4 f5 f6
      go_loopg [] 0 (fun g wr => wr = W2 ∧ g = 0)
      case atStart => exact ⟨rfl, rfl⟩
      case round =>
        obtain ⟨rfl, rfl⟩ := hrel
        obtain ⟨tv, rv, h1⟩ := HF0.out
        obtain ⟨c0, c1, c2, c3, c4, c5, c6⟩ := h1.cells
        have HLt := Lib.hid h1.lt
        have HBl := Lib.hid h1.below
        clear h1 c0 c1 c2 c3
        go_wp2_with fail
        go_ret
        have hp := HLt.out
        have hp2 := Hp.out
        exact ⟨_, rfl, by omega, wr, by rw [hp2]; exact HBl.out, rs_new⟩
  · have hgt : decide (65536 < (src.size : Int)) = true := decide_eq_true (by omega)
    have HSA := Lib.hid (show scanAll src.data.toList = none from by unfold scanAll; rw [bytes_len, decide_eq_false hbig]; rfl)
    rw [HSA.out]
    go_enter Tryd.func26, Tryd.ntmps26
    go_upto_region 2 with fail
    have HN := Lib.hid (rs_new (w := w) (src := src) (fk := 0) (fa := 0))
    obtain ⟨W1, HW1⟩ : ∃ W1, Hid (w.alloc (.cells #[.string src, .int .i64 0, .slice none 0 0, .slice none 0 0, .int .i64 0, .string ⟨#[]⟩, .int .i64 0] 52) = W1) := ⟨_, Lib.hid rfl⟩
    obtain ⟨p, Hp⟩ : ∃ p, Hid (w.heap.size = p) := ⟨_, Lib.hid rfl⟩
    rw [HW1.out, Hp.out] at HN ⊢
    go_upto_region 3 with fail
    obtain ⟨Wk, HWk⟩ : ∃ Wk, Hid (W1 = Wk) := ⟨_, Lib.hid rfl⟩
    have HNk := Lib.hid (show RsE w Wk p src 0 [] [] 0 0 from by rw [← HWk.out]; exact HN.out)
    rw [HWk.out]
    obtain ⟨tv0, rv0, h0⟩ := HNk.out
    obtain ⟨c0, c1, c2, c3, c4, c5, c6⟩ := h0.cells
    have f4 := h0.thaw 4
    have f5 := h0.thaw 5
    have f6 := h0.thaw 6
    have HF0 := Lib.hid (show RsE w (((Wk.setCell ⟨p, 4, none⟩ (.int .i64 2)).setCell ⟨p, 5, none⟩ (.string ⟨#[]⟩)).setCell ⟨p, 6, none⟩ (.int .i64 0)) p src 0 [] [] 2 0 from ⟨_, _, h0.setF 2 0⟩)
    clear h0 c0 c1 c2 c3
    go_wp2_with fail
    obtain ⟨W2, HW2⟩ : ∃ W2, Hid (((Wk.setCell ⟨p, 4, none⟩ (.int .i64 2)).setCell ⟨p, 5, none⟩ (.string ⟨#[]⟩)).setCell ⟨p, 6, none⟩ (.int .i64 0) = W2) := ⟨_, Lib.hid rfl⟩
    rw [HW2.out] at HF0 ⊢
    clear c4 c5 c6 f4 f5 f6
    go_loopg [] 0 (fun g wr => wr = W2 ∧ g = 0)
    case atStart => exact ⟨rfl, rfl⟩
    case round =>
      obtain ⟨rfl, rfl⟩ := hrel
      obtain ⟨tv, rv, h1⟩ := HF0.out
      obtain ⟨c0, c1, c2, c3, c4, c5, c6⟩ := h1.cells
      have HLt := Lib.hid h1.lt
      have HBl := Lib.hid h1.below
      clear h1 c0 c1 c2 c3
      go_wp2_with fail
      go_ret
      have hp := HLt.out
      have hp2 := Hp.out
      exact ⟨_, rfl, by omega, wr, by rw [hp2]; exact HBl.out, rs_new⟩
end Go.Proofs.YtdgjegkoncodaaaDoor
