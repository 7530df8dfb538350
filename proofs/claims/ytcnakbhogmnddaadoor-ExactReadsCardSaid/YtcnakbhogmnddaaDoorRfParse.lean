/- recastref2.Parse. Condition: the text has at most 400 bytes. -/
import Derived.Test.YtcnakbhogmnddaaDoorExParse
import Derived.Test.YtcnakbhogmnddaaDoorRfSum
import Derived.Deep.RegionWith
namespace Go.Proofs.YtcnakbhogmnddaaDoor
open Go.RowKit

/-- m times ten. -/
def TenP (V n : Nat) (w' : World) (g2 : Nat) : Prop := ∃ l, OwnW w' g2 l ∧ l.length = n + 1 ∧ Words l ∧ ofW l = V * 10
def SumP (V d n : Nat) (w' : World) (a3 : Option Addr) (n3 c3 : Nat) : Prop := ∃ l, WordsAt w' a3 n3 l ∧ n3 ≤ c3 ∧ n3 ≤ n + 2 ∧ ofW l = 10 * V + d
theorem row_word {w : World} {g x : Nat} {X : Int} (h : w.heap[g]? = some (.cells #[.int .u32 X] 82 (0, 0))) (hX : X = (x : Int)) (hx : x < 4294967296) : WordsAt w (some ⟨g, 0, none⟩) 1 [x] := by
  subst hX
  have h1 : OwnW w g [x] := h
  exact h1.words (fun y hy => by simp at hy; omega)
theorem ten_c {w wx : World} {a : Option Addr} {n c V g : Nat} (h1 : WordsAt w a n (canW V)) (hn : n ≤ 500) (hb : Below w.heap.size w wx) (h2 : wx.heap[g]? = some (.cells #[.int .u32 10] 82 (0, 0))) :
    Calls Tryd.prog 84 #[.slice a n c, .slice (some ⟨g, 0, none⟩) 1 1] wx fun e w' => ∃ g2, e = .returned (.slice (some ⟨g2, 0, none⟩) (n + 1) (n + 1)) ∧ TenP V n w' g2 ∧ (Below w.heap.size w w' ∧ ∀ k, k < wx.heap.size → w'.heap[k]? = wx.heap[k]?) := by
  refine (rtimes_any a (some ⟨g, 0, none⟩) n 1 c 1 _ [10] wx (h1.below hb) (row_word h2 rfl (by decide)) (by omega) (by omega)).mono ?_
  rintro e w' ⟨g2, l, rfl, _, h3, h4, h5, h6, h7⟩
  refine ⟨g2, rfl, ⟨l, h3, h4, h5, ?_⟩, hb.trans (Below.mono h7 hb.size), fun k hk => h7.block k hk⟩
  rw [h6, (canW_words V).2]
  rfl
theorem sum_c {w wy w' : World} {n V d g2 g : Nat} {X : Int} (h1 : TenP V n w' g2) (hk : wy.heap[g2]? = w'.heap[g2]?) (hn : n ≤ 500) (hb : Below w.heap.size w wy) (h2 : wy.heap[g]? = some (.cells #[.int .u32 X] 82 (0, 0))) (hX : X = (d : Int)) (hd : d < 10) :
    Calls Tryd.prog 85 #[.slice (some ⟨g2, 0, none⟩) (n + 1) (n + 1), .slice (some ⟨g, 0, none⟩) 1 1] wy fun e w'' => ∃ a3 n3 c3, e = .returned (.slice a3 n3 c3) ∧ SumP V d n w'' a3 n3 c3 ∧ Below w.heap.size w w'' := by
  obtain ⟨l, q1, q2, q3, q4⟩ := h1
  have q5 : OwnW wy g2 l := hk.trans q1
  have q6 := q5.words q3
  rw [q2] at q6
  refine (rplus_any (some ⟨g2, 0, none⟩) (some ⟨g, 0, none⟩) (n + 1) 1 (n + 1) 1 l [d] wy q6 (row_word h2 hX (by omega)) (by omega) (by omega)).mono ?_
  rintro e w'' ⟨a3, n3, c3, l3, rfl, r1, r2, r3, r4, r5⟩
  refine ⟨a3, n3, c3, rfl, ⟨l3, r1, r2, by omega, ?_⟩, hb.trans (Below.mono r5 hb.size)⟩
  rw [r4, q4]
  simp [ofW]
  omega
theorem trim_c {w w' : World} {n V d n3 c3 : Nat} {a3 : Option Addr} (h : SumP V d n w' a3 n3 c3) (hn : n ≤ 500) (hb : Below w.heap.size w w') :
    Calls Tryd.prog 86 #[.slice a3 n3 c3] w' fun e w'' => ∃ v, e = .returned v ∧ RowO w'' w.heap.size v (canW (10 * V + d)) ∧ Below w.heap.size w w'' := by
  obtain ⟨l, q1, q2, q3, q4⟩ := h
  refine (rtrim_any a3 n3 c3 l w' q1 (by omega) q2).mono ?_
  rintro e w'' ⟨v, rfl, r1, r2⟩
  refine ⟨v, rfl, ?_, hb.trans (Below.mono r2 hb.size)⟩
  rw [trim_can q1.2.1, q4] at r1
  exact r1.mono hb.size
theorem TenP.lt {w' : World} {V n g2 : Nat} (h : TenP V n w' g2) : g2 < w'.heap.size := by
  obtain ⟨l, h, _⟩ := h
  exact h.lt
theorem al1 (w : World) (A : Obj) : (w.alloc A).heap[w.heap.size]? = some A := heap_alloc_new w A
theorem al2_0 (w : World) (A B : Obj) : ((w.alloc A).alloc B).heap[w.heap.size]? = some A := (Below.heap_alloc (w.alloc A) B _ (by simp)).trans (heap_alloc_new w A)
theorem al2_1 (w : World) (A B : Obj) : ((w.alloc A).alloc B).heap[w.heap.size + 1]? = some B := by
  have := heap_alloc_new (w.alloc A) B
  rwa [World.size_alloc] at this
theorem bw1 (w : World) (A : Obj) : Below w.heap.size w (w.alloc A).drew := ((Below.refl _ w).alloc (Nat.le_refl _) A).drew
theorem bw2 (w : World) (A B : Obj) : Below w.heap.size w ((w.alloc A).alloc B).drew := (((Below.refl _ w).alloc (Nat.le_refl _) A).alloc (by simp) B).drew

set_option maxRecDepth 100000 in
set_option maxHeartbeats 12800000 in
theorem rparse_any (s : ByteArray) (w : World) (hs : s.size ≤ 400) :
    Calls Tryd.prog 51 #[.string s] w fun e w' => Told w' e (parK (bytesN s)) (parV (bytesN s)) ∧ Below w.heap.size w w' := by
  obtain ⟨l, Hl⟩ : ∃ l, Hid (bytesN s = l) := ⟨_, Lib.hid rfl⟩
  rw [Hl.out]
  have Hn := Lib.hid (show s.size = l.length from by rw [← Hl.out, bytesN_len])
  have Hg := Lib.hid (show ∀ k (hk : k < s.size), s[k].toNat = l.getD k 0 from fun k hk => by rw [← Hl.out]; exact bytesN_get hk)
  obtain ⟨w1, Hw1⟩ : ∃ w1, Hid (w1 = w.alloc (.cells #[.bool false, .slice none 0 0] 25)) := ⟨_, Lib.hid rfl⟩
  obtain ⟨bo, Hbo⟩ : ∃ b, Hid (b = w.heap.size) := ⟨_, Lib.hid rfl⟩
  have HB := Lib.hid (show Below w.heap.size w w1 from by
    rw [Hw1.out]
    exact (Below.refl _ w).alloc (Nat.le_refl _) _)
  have HQ := Lib.hid (show w1.heap[bo]? = some (.cells #[.bool false, .slice none 0 0] 25 (0, 0)) from by rw [Hw1.out, Hbo.out]; exact heap_alloc_new w _)
  obtain ⟨K9, V9, HKV⟩ : ∃ K9 V9, Hid (parK l = K9 ∧ parV l = V9) := ⟨_, _, Lib.hid ⟨rfl, rfl⟩⟩
  rw [HKV.out.1, HKV.out.2]
  have FIN := Lib.hid (show ∀ (wr : World) (tm : Array Value) (b : Bool) (a : Option Addr) (n c : Nat) (k : Int), wr.heap[bo]? = some (.cells #[.bool false, .slice none 0 0] 25 (0, 0)) → Below w.heap.size w wr → IntC wr (.agg #[.bool b, .slice a n c]) V9 → k = K9 → tm.getD 2 undef = .pointer (some ⟨bo, 0, none⟩) → tm.getD 3 undef = .int .i64 k →
      bodyPost Tryd.prog Tryd.f51 (fun e w' => Told w' e K9 V9 ∧ Below w.heap.size w w') .ret { tmps := tm, defers := [] } ((wr.setCell ⟨bo, 0, none⟩ (.bool b)).setCell ⟨bo, 1, none⟩ (.slice a n c)) from fun wr tm b a n c k q hb hi hk h2 h3 => by
    obtain ⟨hi2, hq2⟩ := hi.store q
    refine bodyPost_ret (results_cell_pair rfl tm _ bo 25 (.bool b) (.slice a n c) (0, 0) h2 hq2) rfl ?_
    rw [h3]
    exact ⟨⟨b, a, n, c, k, rfl, hk, hi2⟩, (hb.setCell (by have := Hbo.out; simp only; omega) _).setCell (by have := Hbo.out; simp only; omega) _⟩)
  have Hsz := Lib.hid (show w1.heap.size = bo + 1 from by rw [Hw1.out, Hbo.out]; simp)
  obtain ⟨⟨r0, r1⟩, f0, f1⟩ := box_cells HQ.out
  go_enter Tryd.func51, Tryd.ntmps51
  go_upto_region 1 with fail
  rw [← Hw1.out]
  try rw [← Hbo.out]
  by_cases h0 : s.size = 0
  · have HK := Lib.hid (par_bad (l := l) (by rw [show l = [] from List.length_eq_zero_iff.1 (by have := Hn.out; omega)]; exact good_nil))
    have e0 : s = ⟨#[]⟩ := by
      cases s with
      | mk d => congr 1; exact Array.eq_empty_of_size_eq_zero h0
    clear Hg hs h0
    subst e0
    go_wp2_with fail
    exact FIN.out w1 _ false none 0 0 3 HQ.out HB.out (by rw [← HKV.out.2, HK.out.2]; exact intC_zero _) (by rw [← HKV.out.1, HK.out.1]) rfl rfl
  · have hne : ¬ s = ⟨#[]⟩ := fun e => h0 (by rw [e]; rfl)
    have hne2 : s.toList.isEmpty = false := by
      rw [ByteArray.toList_eq, List.isEmpty_eq_false_iff]
      intro e
      have := congrArg List.length e
      rw [Array.length_toList] at this
      exact h0 this
    clear hne
    have hpos : 0 < s.size := by omega
    obtain ⟨u, Hu⟩ : ∃ u, Hid (l.getD 0 0 = u) := ⟨_, Lib.hid rfl⟩
    have e0 : s[0].toNat = u := by rw [Hg.out 0 hpos, Hu.out]
    by_cases hz : u = 48 ∧ 1 < s.size
    · have HK := Lib.hid (par_bad (l := l) (good_zero (by rw [Hu.out]; exact hz.1) (by rw [← Hn.out]; exact hz.2)))
      obtain ⟨hz1, hz2⟩ := hz
      have e1 : ((u : Int) == 48) = true := by simp; omega
      have ht : (s.toList == [48]) = false := by
        rw [beq_eq_false_iff_ne]
        intro e
        have h9 := congrArg List.length e
        rw [ByteArray.toList_eq, Array.length_toList] at h9
        have h8 : s.size = 1 := h9
        omega
      clear h0
      go_wp2_with fail
      exact FIN.out w1 _ false none 0 0 3 HQ.out HB.out (by rw [← HKV.out.2, HK.out.2]; exact intC_zero _) (by rw [← HKV.out.1, HK.out.1]) rfl rfl
    · have HZ := Lib.hid hz
      clear hz h0
      have Hpos := Lib.hid hpos
      have Hne := Lib.hid (show l ≠ [] from fun e => by have h9 := Hn.out; rw [e, List.length_nil] at h9; omega)
      have HZ2 := Lib.hid (show ¬ (l.getD 0 0 = 48 ∧ 1 < l.length) from by rw [Hu.out, ← Hn.out]; exact HZ.out)
      obtain ⟨n, Hnn⟩ : ∃ n, Hid (s.size = n) := ⟨_, Lib.hid rfl⟩
      by_cases hu : u = 48
      · have e1 : ((u : Int) == 48) = true := by simp; omega
        have ht : (s.toList == [48]) = true := by
          rw [beq_iff_eq, ByteArray.toList_eq]
          have h1 : s.data.toList.length = 1 := by
            rw [Array.length_toList]
            have h8 : s.size = s.data.size := rfl
            have h9 : ¬ 1 < s.size := fun h => HZ.out ⟨hu, h⟩
            omega
          have h2 : s.data.toList = [(s[0]'hpos)] := by
            match h3 : s.data.toList, h1 with
            | [x], _ =>
              have : (s[0]'hpos) = s.data.toList[0]'(by rw [h3]; simp) := rfl
              rw [this]
              simp [h3]
          rw [h2]
          have h4 : (s[0]'hpos).toNat = 48 := by rw [e0, hu]
          have h5 : (s[0]'hpos) = 48 := by
            have := congrArg UInt8.ofNat h4
            simpa using this
          rw [h5]
        have Hu48 := Lib.hid hu
        clear hu
        go_upto_region 3 with fail
        skip
        clear e0 hpos r0 r1 f0 f1
        go_wp2_with fail
        go_loopg [4, 3] s.size (fun gg v4 v3 wr => ∃ i : Nat, i ≤ s.size ∧ v4 = .int .i64 i ∧ v3 = .int .i64 0 ∧ gg = s.size - i ∧ wr = w1 ∧ Hid (∀ j, j < i → dig (l.getD j 0) = true))
        case atStart => exact ⟨0, Nat.zero_le _, rfl, rfl, rfl, rfl, Lib.hid (fun j hj => absurd hj (Nat.not_lt_zero _))⟩
        case round =>
          obtain ⟨i, hi, rfl, rfl, hgg, rfl, Hr⟩ := hrel
          by_cases hlt : i < s.size
          · obtain ⟨c, Hc⟩ : ∃ c, Hid (l.getD i 0 = c) := ⟨_, Lib.hid rfl⟩
            have e0 : s[i].toNat = c := by rw [Hg.out i hlt, Hc.out]
            have Hil := Lib.hid (show i < l.length from by rw [← Hn.out]; exact hlt)
            by_cases hd : dig c = true
            · have Hd := Lib.hid hd
              unfold dig at hd
              simp only [Bool.and_eq_true, decide_eq_true_eq] at hd
              obtain ⟨hd1, hd2⟩ := hd
              go_wp2_with fail
              go_roundg (s.size - (i + 1))
              case measure => omega
              case rel => exact ⟨i + 1, by omega, by go_num, rfl, rfl, rfl, Lib.hid (fun j hj => by
                by_cases h : j = i
                · rw [h, Hc.out]; exact Hd.out
                · exact Hr.out j (by omega))⟩
            · have hd0 : dig c = false := by simpa using hd
              have HK := Lib.hid (par_bad (good_bad Hil.out (by rw [Hc.out]; exact hd0)))
              have hd1 : c < 48 ∨ 57 < c := by
                unfold dig at hd0
                simp at hd0
                omega
              clear hd hd0
              obtain ⟨⟨r0, r1⟩, f0, f1⟩ := box_cells HQ.out
              rcases hd1 with hd1 | hd1
              all_goals
                go_wp2_with fail
                exact FIN.out wr _ false none 0 0 3 HQ.out HB.out (by rw [← HKV.out.2, HK.out.2]; exact intC_zero _) (by rw [← HKV.out.1, HK.out.1]) rfl rfl
          · have e : i = s.size := by omega
            subst e
            have HK := Lib.hid (par_ok (good_of Hne.out HZ2.out (fun j hj => Hr.out j (by rw [Hn.out]; exact hj))))
            have HGd := Lib.hid (show ∀ j, j < s.size → dig (l.getD j 0) = true from Hr.out)
            clear hgg Hr
            by_cases h200 : 200 < s.size
            · have HB2 := Lib.hid ((good_dec (good_of Hne.out HZ2.out (fun j hj => HGd.out j (by rw [Hn.out]; exact hj)))).2.2 (by rw [← Hn.out]; exact h200))
              obtain ⟨⟨r0, r1⟩, f0, f1⟩ := box_cells HQ.out
              go_wp2_with fail
              exact FIN.out wr _ false none 0 0 2 HQ.out HB.out (by rw [← HKV.out.2, HK.out.2, if_pos HB2.out]; exact intC_zero _) (by rw [← HKV.out.1, HK.out.1, if_pos HB2.out]) rfl rfl
            · have hd200 : decide (200 < (s.size : Int)) = false := decide_eq_false (by omega)
              go_wp2_with fail
              obtain ⟨w1, Hwr⟩ : ∃ w', Hid (w' = wr) := ⟨_, Lib.hid rfl⟩
              rw [← Hwr.out] at HQ HB Hsz ⊢
              go_loopg [5, 6] s.size (fun gg v5 v6 wr => ∃ (i m c : Nat) (a : Option Addr), i ≤ s.size ∧ v6 = .int .i64 i ∧ v5 = .slice a m c ∧ m ≤ i ∧ m ≤ c ∧ gg = s.size - i ∧ Hid (m = (canW (valS (l.take i))).length ∧ ParR w1 wr (.slice a m c) l i))
              case atStart => exact ⟨0, 0, 0, none, Nat.zero_le _, rfl, rfl, Nat.le_refl _, Nat.le_refl _, rfl, Lib.hid ⟨by rw [List.take_zero]; exact (canW_len.2 rfl).symm, .inl ⟨rfl, by rw [List.take_zero]; exact (canW_nil _).2 rfl⟩, Below.refl _ _⟩⟩
              case round =>
                obtain ⟨i, m, c, a, hi, rfl, rfl, hm, hmc, hgg, Hr⟩ := hrel
                obtain ⟨V, HV⟩ : ∃ V, Hid (valS (l.take i) = V) := ⟨_, Lib.hid rfl⟩
                have HW := Lib.hid (show WordsAt wr a m (canW V) ∧ RowO wr w1.heap.size (.slice a m c) (canW V) ∧ Below w1.heap.size w1 wr ∧ m = (canW V).length from by
                  obtain ⟨h1, h2, h3⟩ := Hr.out
                  rw [HV.out] at h1 h2
                  refine ⟨?_, h2, h3, h1⟩
                  have := h2.wordsAt (canW_words V).1
                  exact this)
                by_cases hlt : i < s.size
                · obtain ⟨c0, Hc⟩ : ∃ c, Hid (l.getD i 0 = c) := ⟨_, Lib.hid rfl⟩
                  have Hil := Lib.hid (show i < l.length from by rw [← Hn.out]; exact hlt)
                  have hd := HGd.out i hlt
                  rw [Hc.out] at hd
                  unfold dig at hd
                  simp only [Bool.and_eq_true, decide_eq_true_eq] at hd
                  obtain ⟨d, Hd⟩ : ∃ d, Hid (c0 = 48 + d) := ⟨c0 - 48, Lib.hid (by omega)⟩
                  have hd9 : d < 10 := by have := Hd.out; omega
                  have e0 : s[i].toNat = 48 + d := by rw [Hg.out i hlt, Hc.out, Hd.out]
                  clear hd
                  have E9 := Lib.hid (show IntKind.u32.wrap (IntKind.u8.wrap (48 + (d : Int) - 48)) = (d : Int) from by simp [IntKind.wrap, IntKind.bits, IntKind.signed]; omega)
                  have hm5 : m ≤ 500 := by omega
                  have HT := Lib.hid (fun (wx : World) (g : Nat) (hb : Below wr.heap.size wr wx) (h2 : wx.heap[g]? = some (.cells #[.int .u32 10] 82 (0, 0))) => ten_c (c := c) HW.out.1 hm5 hb h2)
                  have HP := Lib.hid (fun (wy w' : World) (g2 g : Nat) (h1 : TenP V m w' g2) (hk : wy.heap[g2]? = w'.heap[g2]?) (hb : Below wr.heap.size wr wy) (h2 : ∃ X, wy.heap[g]? = some (.cells #[.int .u32 X] 82 (0, 0)) ∧ X = (d : Int)) => sum_c h1 hk hm5 hb h2.choose_spec.1 h2.choose_spec.2 hd9)
                  have HTr := Lib.hid (fun (w' : World) (n3 c3 : Nat) (a3 : Option Addr) (h : SumP V d m w' a3 n3 c3) (hb : Below wr.heap.size wr w') => trim_c h hm5 hb)
                  go_upto_region 14 with fail
                  go_region_with first
                    | (go_at_call 84; refine (HT.out _ _ ?_ ?_).mono ?_; (first | exact bw1 _ _ | exact bw2 _ _ _); (first | exact al1 _ _ | exact al2_0 _ _ _ | exact al2_1 _ _ _); rintro e wt ⟨g2, rfl, ht, hbt⟩; have HTt := Lib.hid (And.intro ht hbt); clear ht hbt)
                    | (go_at_call 85; refine (HP.out _ wt g2 _ HTt.out.1 ?_ ?_ ?_).mono ?_; (first | exact rfl | exact Below.heap_alloc wt _ _ (TenP.lt HTt.out.1)); (first | exact HTt.out.2.1 | exact HTt.out.2.1.alloc HTt.out.2.1.size _); (first | exact ⟨_, al1 _ _, E9.out⟩ | exact ⟨_, (HTt.out.2.2 _ (by first | (simp; done) | (simp; omega))).trans (al2_1 _ _ _), E9.out⟩ | exact ⟨_, (HTt.out.2.2 _ (by first | (simp; done) | (simp; omega))).trans (al2_0 _ _ _), E9.out⟩); rintro e wp ⟨a3, n3, c3, rfl, hp, hbp⟩; have HPp := Lib.hid (And.intro hp hbp); clear hp hbp)
                    | (go_at_call 86; refine (HTr.out _ n3 c3 a3 HPp.out.1 HPp.out.2).mono ?_; rintro e wz ⟨vz, rfl, hz1, hz2⟩; have HZz := Lib.hid (And.intro hz1 hz2); clear hz1 hz2)
                    | fail
                  all_goals
                    obtain ⟨a7, c7, rfl, hc7, _⟩ := HZz.out.1.shape
                    obtain ⟨m7, Hm7⟩ : ∃ m7, Hid ((canW (10 * V + d)).length = m7) := ⟨_, Lib.hid rfl⟩
                    rw [Hm7.out] at hc7 ⊢
                    have h7 := HZz.out.1
                    rw [Hm7.out] at h7
                    have hm7 : m7 ≤ m + 1 := by have := more_len V d hd9; have := HW.out.2.2.2; have := Hm7.out; omega
                    have HP7 := Lib.hid (show ParR w1 wz (.slice a7 m7 c7) l (i + 1) from Hr.out.2.step Hil.out Hc.out (by rw [HV.out, Hd.out, Nat.add_sub_cancel_left]; exact h7.mono HW.out.2.2.1.size) (Below.mono HZz.out.2 HW.out.2.2.1.size))
                    have HE7 := Lib.hid (show m7 = (canW (valS (l.take (i + 1)))).length from by rw [val_step Hil.out Hc.out, HV.out, Hd.out, Nat.add_sub_cancel_left]; exact Hm7.out.symm)
                    clear h7
                    go_wp2_with fail
                    go_roundg (s.size - (i + 1))
                    case measure => omega
                    case rel => exact ⟨i + 1, m7, c7, a7, by omega, by go_num, rfl, by omega, hc7, rfl, Lib.hid ⟨HE7.out, HP7.out⟩⟩
                · have e : i = s.size := by omega
                  subst e
                  have hV : valS l = V := by rw [← HV.out, Hn.out, List.take_length]
                  have HKV2 := Lib.hid (show (if big (V : Int) then 2 else 0) = K9 ∧ (if big (V : Int) then 0 else (V : Int)) = V9 from by
                    rw [← HKV.out.1, ← HKV.out.2, HK.out.1, HK.out.2, hV]
                    exact ⟨rfl, rfl⟩)
                  clear hV
                  have HF5 := Lib.hid (rform_k (g := false) (cap := c) HW.out.1 (by omega) hmc (show valI false (canW V) = (V : Int) from by rw [valI_f, (canW_words V).2]))
                  have HBx := Lib.hid (show wr.heap[bo]? = some (.cells #[.bool false, .slice none 0 0] 25 (0, 0)) ∧ Below w.heap.size w wr from
                    ⟨(HW.out.2.2.1.block bo (Array.getElem?_eq_some_iff.1 HQ.out).1).trans HQ.out, HB.out.trans (Below.mono HW.out.2.2.1 HB.out.size)⟩)
                  go_wp2_with (go_at_call 83; refine hold ?_)
                  refine Hold.mk ?_
                  refine HF5.out.mono ?_
                  rintro e w5 ⟨⟨n5, a5, c5, d5, rfl, hv5⟩, hb5⟩
                  have HF6 := Lib.hid (rend_t hv5)
                  rw [HKV2.out.1, HKV2.out.2] at HF6
                  have Hb5 := Lib.hid (And.intro hb5.size hb5)
                  clear hv5 hb5
                  go_wp2_with (go_at_call 97; refine hold ?_)
                  refine Hold.mk ?_
                  refine HF6.out.mono ?_
                  rintro e w6 ⟨⟨b, a6, n6, c6, k6, rfl, hk6, hv6⟩, hb6⟩
                  have H6 := Lib.hid (And.intro hk6 (And.intro hv6 hb6))
                  clear hk6 hv6 hb6
                  have HX6 := Lib.hid (show w6.heap[bo]? = some (.cells #[.bool false, .slice none 0 0] 25 (0, 0)) ∧ Below w.heap.size w w6 from by
                    have h1 := Hb5.out.2.trans (Below.mono H6.out.2.2 Hb5.out.1)
                    exact ⟨(h1.block bo (Array.getElem?_eq_some_iff.1 HBx.out.1).1).trans HBx.out.1, HBx.out.2.trans (Below.mono h1 HBx.out.2.size)⟩)
                  obtain ⟨⟨r0, r1⟩, f0, f1⟩ := box_cells HX6.out.1
                  go_wp2_with fail
                  exact FIN.out w6 _ b a6 n6 c6 k6 HX6.out.1 HX6.out.2 H6.out.2.1 H6.out.1 rfl rfl
      · have e1 : ((u : Int) == 48) = false := by simp; omega
        go_upto_region 3 with fail
        clear e0 hpos r0 r1 f0 f1
        go_wp2_with fail
        go_loopg [4, 3] s.size (fun gg v4 v3 wr => ∃ i : Nat, i ≤ s.size ∧ v4 = .int .i64 i ∧ v3 = .int .i64 0 ∧ gg = s.size - i ∧ wr = w1 ∧ Hid (∀ j, j < i → dig (l.getD j 0) = true))
        case atStart => exact ⟨0, Nat.zero_le _, rfl, rfl, rfl, rfl, Lib.hid (fun j hj => absurd hj (Nat.not_lt_zero _))⟩
        case round =>
          obtain ⟨i, hi, rfl, rfl, hgg, rfl, Hr⟩ := hrel
          by_cases hlt : i < s.size
          · obtain ⟨c, Hc⟩ : ∃ c, Hid (l.getD i 0 = c) := ⟨_, Lib.hid rfl⟩
            have e0 : s[i].toNat = c := by rw [Hg.out i hlt, Hc.out]
            have Hil := Lib.hid (show i < l.length from by rw [← Hn.out]; exact hlt)
            by_cases hd : dig c = true
            · have Hd := Lib.hid hd
              unfold dig at hd
              simp only [Bool.and_eq_true, decide_eq_true_eq] at hd
              obtain ⟨hd1, hd2⟩ := hd
              go_wp2_with fail
              go_roundg (s.size - (i + 1))
              case measure => omega
              case rel => exact ⟨i + 1, by omega, by go_num, rfl, rfl, rfl, Lib.hid (fun j hj => by
                by_cases h : j = i
                · rw [h, Hc.out]; exact Hd.out
                · exact Hr.out j (by omega))⟩
            · have hd0 : dig c = false := by simpa using hd
              have HK := Lib.hid (par_bad (good_bad Hil.out (by rw [Hc.out]; exact hd0)))
              have hd1 : c < 48 ∨ 57 < c := by
                unfold dig at hd0
                simp at hd0
                omega
              clear hd hd0
              obtain ⟨⟨r0, r1⟩, f0, f1⟩ := box_cells HQ.out
              rcases hd1 with hd1 | hd1
              all_goals
                go_wp2_with fail
                exact FIN.out wr _ false none 0 0 3 HQ.out HB.out (by rw [← HKV.out.2, HK.out.2]; exact intC_zero _) (by rw [← HKV.out.1, HK.out.1]) rfl rfl
          · have e : i = s.size := by omega
            subst e
            have HK := Lib.hid (par_ok (good_of Hne.out HZ2.out (fun j hj => Hr.out j (by rw [Hn.out]; exact hj))))
            have HGd := Lib.hid (show ∀ j, j < s.size → dig (l.getD j 0) = true from Hr.out)
            clear hgg Hr
            by_cases h200 : 200 < s.size
            · have HB2 := Lib.hid ((good_dec (good_of Hne.out HZ2.out (fun j hj => HGd.out j (by rw [Hn.out]; exact hj)))).2.2 (by rw [← Hn.out]; exact h200))
              obtain ⟨⟨r0, r1⟩, f0, f1⟩ := box_cells HQ.out
              go_wp2_with fail
              exact FIN.out wr _ false none 0 0 2 HQ.out HB.out (by rw [← HKV.out.2, HK.out.2, if_pos HB2.out]; exact intC_zero _) (by rw [← HKV.out.1, HK.out.1, if_pos HB2.out]) rfl rfl
            · have hd200 : decide (200 < (s.size : Int)) = false := decide_eq_false (by omega)
              go_wp2_with fail
              obtain ⟨w1, Hwr⟩ : ∃ w', Hid (w' = wr) := ⟨_, Lib.hid rfl⟩
              rw [← Hwr.out] at HQ HB Hsz ⊢
              go_loopg [5, 6] s.size (fun gg v5 v6 wr => ∃ (i m c : Nat) (a : Option Addr), i ≤ s.size ∧ v6 = .int .i64 i ∧ v5 = .slice a m c ∧ m ≤ i ∧ m ≤ c ∧ gg = s.size - i ∧ Hid (m = (canW (valS (l.take i))).length ∧ ParR w1 wr (.slice a m c) l i))
              case atStart => exact ⟨0, 0, 0, none, Nat.zero_le _, rfl, rfl, Nat.le_refl _, Nat.le_refl _, rfl, Lib.hid ⟨by rw [List.take_zero]; exact (canW_len.2 rfl).symm, .inl ⟨rfl, by rw [List.take_zero]; exact (canW_nil _).2 rfl⟩, Below.refl _ _⟩⟩
              case round =>
                obtain ⟨i, m, c, a, hi, rfl, rfl, hm, hmc, hgg, Hr⟩ := hrel
                obtain ⟨V, HV⟩ : ∃ V, Hid (valS (l.take i) = V) := ⟨_, Lib.hid rfl⟩
                have HW := Lib.hid (show WordsAt wr a m (canW V) ∧ RowO wr w1.heap.size (.slice a m c) (canW V) ∧ Below w1.heap.size w1 wr ∧ m = (canW V).length from by
                  obtain ⟨h1, h2, h3⟩ := Hr.out
                  rw [HV.out] at h1 h2
                  refine ⟨?_, h2, h3, h1⟩
                  have := h2.wordsAt (canW_words V).1
                  exact this)
                by_cases hlt : i < s.size
                · obtain ⟨c0, Hc⟩ : ∃ c, Hid (l.getD i 0 = c) := ⟨_, Lib.hid rfl⟩
                  have Hil := Lib.hid (show i < l.length from by rw [← Hn.out]; exact hlt)
                  have hd := HGd.out i hlt
                  rw [Hc.out] at hd
                  unfold dig at hd
                  simp only [Bool.and_eq_true, decide_eq_true_eq] at hd
                  obtain ⟨d, Hd⟩ : ∃ d, Hid (c0 = 48 + d) := ⟨c0 - 48, Lib.hid (by omega)⟩
                  have hd9 : d < 10 := by have := Hd.out; omega
                  have e0 : s[i].toNat = 48 + d := by rw [Hg.out i hlt, Hc.out, Hd.out]
                  clear hd
                  have E9 := Lib.hid (show IntKind.u32.wrap (IntKind.u8.wrap (48 + (d : Int) - 48)) = (d : Int) from by simp [IntKind.wrap, IntKind.bits, IntKind.signed]; omega)
                  have hm5 : m ≤ 500 := by omega
                  have HT := Lib.hid (fun (wx : World) (g : Nat) (hb : Below wr.heap.size wr wx) (h2 : wx.heap[g]? = some (.cells #[.int .u32 10] 82 (0, 0))) => ten_c (c := c) HW.out.1 hm5 hb h2)
                  have HP := Lib.hid (fun (wy w' : World) (g2 g : Nat) (h1 : TenP V m w' g2) (hk : wy.heap[g2]? = w'.heap[g2]?) (hb : Below wr.heap.size wr wy) (h2 : ∃ X, wy.heap[g]? = some (.cells #[.int .u32 X] 82 (0, 0)) ∧ X = (d : Int)) => sum_c h1 hk hm5 hb h2.choose_spec.1 h2.choose_spec.2 hd9)
                  have HTr := Lib.hid (fun (w' : World) (n3 c3 : Nat) (a3 : Option Addr) (h : SumP V d m w' a3 n3 c3) (hb : Below wr.heap.size wr w') => trim_c h hm5 hb)
                  go_upto_region 14 with fail
                  go_region_with first
                    | (go_at_call 84; refine (HT.out _ _ ?_ ?_).mono ?_; (first | exact bw1 _ _ | exact bw2 _ _ _); (first | exact al1 _ _ | exact al2_0 _ _ _ | exact al2_1 _ _ _); rintro e wt ⟨g2, rfl, ht, hbt⟩; have HTt := Lib.hid (And.intro ht hbt); clear ht hbt)
                    | (go_at_call 85; refine (HP.out _ wt g2 _ HTt.out.1 ?_ ?_ ?_).mono ?_; (first | exact rfl | exact Below.heap_alloc wt _ _ (TenP.lt HTt.out.1)); (first | exact HTt.out.2.1 | exact HTt.out.2.1.alloc HTt.out.2.1.size _); (first | exact ⟨_, al1 _ _, E9.out⟩ | exact ⟨_, (HTt.out.2.2 _ (by first | (simp; done) | (simp; omega))).trans (al2_1 _ _ _), E9.out⟩ | exact ⟨_, (HTt.out.2.2 _ (by first | (simp; done) | (simp; omega))).trans (al2_0 _ _ _), E9.out⟩); rintro e wp ⟨a3, n3, c3, rfl, hp, hbp⟩; have HPp := Lib.hid (And.intro hp hbp); clear hp hbp)
                    | (go_at_call 86; refine (HTr.out _ n3 c3 a3 HPp.out.1 HPp.out.2).mono ?_; rintro e wz ⟨vz, rfl, hz1, hz2⟩; have HZz := Lib.hid (And.intro hz1 hz2); clear hz1 hz2)
                    | fail
                  all_goals
                    obtain ⟨a7, c7, rfl, hc7, _⟩ := HZz.out.1.shape
                    obtain ⟨m7, Hm7⟩ : ∃ m7, Hid ((canW (10 * V + d)).length = m7) := ⟨_, Lib.hid rfl⟩
                    rw [Hm7.out] at hc7 ⊢
                    have h7 := HZz.out.1
                    rw [Hm7.out] at h7
                    have hm7 : m7 ≤ m + 1 := by have := more_len V d hd9; have := HW.out.2.2.2; have := Hm7.out; omega
                    have HP7 := Lib.hid (show ParR w1 wz (.slice a7 m7 c7) l (i + 1) from Hr.out.2.step Hil.out Hc.out (by rw [HV.out, Hd.out, Nat.add_sub_cancel_left]; exact h7.mono HW.out.2.2.1.size) (Below.mono HZz.out.2 HW.out.2.2.1.size))
                    have HE7 := Lib.hid (show m7 = (canW (valS (l.take (i + 1)))).length from by rw [val_step Hil.out Hc.out, HV.out, Hd.out, Nat.add_sub_cancel_left]; exact Hm7.out.symm)
                    clear h7
                    go_wp2_with fail
                    go_roundg (s.size - (i + 1))
                    case measure => omega
                    case rel => exact ⟨i + 1, m7, c7, a7, by omega, by go_num, rfl, by omega, hc7, rfl, Lib.hid ⟨HE7.out, HP7.out⟩⟩
                · have e : i = s.size := by omega
                  subst e
                  have hV : valS l = V := by rw [← HV.out, Hn.out, List.take_length]
                  have HKV2 := Lib.hid (show (if big (V : Int) then 2 else 0) = K9 ∧ (if big (V : Int) then 0 else (V : Int)) = V9 from by
                    rw [← HKV.out.1, ← HKV.out.2, HK.out.1, HK.out.2, hV]
                    exact ⟨rfl, rfl⟩)
                  clear hV
                  have HF5 := Lib.hid (rform_k (g := false) (cap := c) HW.out.1 (by omega) hmc (show valI false (canW V) = (V : Int) from by rw [valI_f, (canW_words V).2]))
                  have HBx := Lib.hid (show wr.heap[bo]? = some (.cells #[.bool false, .slice none 0 0] 25 (0, 0)) ∧ Below w.heap.size w wr from
                    ⟨(HW.out.2.2.1.block bo (Array.getElem?_eq_some_iff.1 HQ.out).1).trans HQ.out, HB.out.trans (Below.mono HW.out.2.2.1 HB.out.size)⟩)
                  go_wp2_with (go_at_call 83; refine hold ?_)
                  refine Hold.mk ?_
                  refine HF5.out.mono ?_
                  rintro e w5 ⟨⟨n5, a5, c5, d5, rfl, hv5⟩, hb5⟩
                  have HF6 := Lib.hid (rend_t hv5)
                  rw [HKV2.out.1, HKV2.out.2] at HF6
                  have Hb5 := Lib.hid (And.intro hb5.size hb5)
                  clear hv5 hb5
                  go_wp2_with (go_at_call 97; refine hold ?_)
                  refine Hold.mk ?_
                  refine HF6.out.mono ?_
                  rintro e w6 ⟨⟨b, a6, n6, c6, k6, rfl, hk6, hv6⟩, hb6⟩
                  have H6 := Lib.hid (And.intro hk6 (And.intro hv6 hb6))
                  clear hk6 hv6 hb6
                  have HX6 := Lib.hid (show w6.heap[bo]? = some (.cells #[.bool false, .slice none 0 0] 25 (0, 0)) ∧ Below w.heap.size w w6 from by
                    have h1 := Hb5.out.2.trans (Below.mono H6.out.2.2 Hb5.out.1)
                    exact ⟨(h1.block bo (Array.getElem?_eq_some_iff.1 HBx.out.1).1).trans HBx.out.1, HBx.out.2.trans (Below.mono h1 HBx.out.2.size)⟩)
                  obtain ⟨⟨r0, r1⟩, f0, f1⟩ := box_cells HX6.out.1
                  go_wp2_with fail
                  exact FIN.out w6 _ b a6 n6 c6 k6 HX6.out.1 HX6.out.2 H6.out.2.1 H6.out.1 rfl rfl
end Go.Proofs.YtcnakbhogmnddaaDoor
