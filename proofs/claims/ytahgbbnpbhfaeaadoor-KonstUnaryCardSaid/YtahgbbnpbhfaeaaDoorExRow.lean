/- Rows of words that a function writes itself; sums word by word. No condition. -/
import Derived.Test.YtahgbbnpbhfaeaaDoorJ2
namespace Go.Proofs.YtahgbbnpbhfaeaaDoor
open Go.RowKit

/-- Block g is a row of these words. -/
def OwnW (w : World) (g : Nat) (l : List Nat) : Prop := w.heap[g]? = some (.cells (l.map fun (x : Nat) => Value.int .u32 (x : Int)).toArray 68 (0, 0))
section
variable {w w' : World} {g : Nat} {l : List Nat}
theorem OwnW.below (h : OwnW w g l) (hb : Below w.heap.size w w') : OwnW w' g l := (hb.block g (Array.getElem?_eq_some_iff.1 h).1).trans h
theorem OwnW.cell (h : OwnW w g l) (i : Nat) (hi : i < l.length) : w.cell? ⟨g, i, none⟩ = some (.int .u32 ((l.getD i 0 : Nat) : Int)) := by
  unfold OwnW at h
  simp only [World.cell?, h]
  simp [List.getD, hi]
theorem OwnW.frozen (h : OwnW w g l) (i : Nat) : w.frozen? ⟨g, i, none⟩ = false := by
  unfold OwnW at h
  simp only [World.frozen?, h]
  simp
theorem OwnW.words (h : OwnW w g l) (hw : Words l) : WordsAt w (some ⟨g, 0, none⟩) l.length l :=
  ⟨rfl, hw, fun i hi => ⟨_, rfl, by rw [addW]; exact h.cell i hi⟩⟩
theorem OwnW.set (h : OwnW w g l) (i x : Nat) : OwnW (w.setCell ⟨g, i, none⟩ (.int .u32 (x : Int))) g (l.set i x) := by
  have := setCell_same2 (j := i) h (.int .u32 (x : Int))
  unfold OwnW
  rw [this]
  congr 2
  simp
theorem OwnW.other (h : OwnW w g l) {p : Addr} (hp : p.block ≠ g) (u : Value) : OwnW (w.setCell p u) g l := (Below.heap_setCell _ _ _ _ (Ne.symm hp)).trans h
theorem OwnW.lt (h : OwnW w g l) : g < w.heap.size := (Array.getElem?_eq_some_iff.1 h).1
end
theorem WordsAt.set {w : World} {a : Option Addr} {n : Nat} {z : List Nat} {p : Addr} (h : WordsAt w a n z) (hp : ∀ x i, a = some x → i < n → x.add i ≠ p) (u : Value) : WordsAt (w.setCell p u) a n z :=
  ⟨h.1, h.2.1, fun i hi => by
    obtain ⟨x, e, hc⟩ := h.2.2 i hi
    refine ⟨x, e, ?_⟩
    rw [World.cell?_setCell_other _ _ _ _ (hp x i e hi).symm]
    exact hc⟩
theorem ofW_take (l : List Nat) (i : Nat) : ofW (l.take (i + 1)) = ofW (l.take i) + 4294967296 ^ i * l.getD i 0 := by
  by_cases hi : i < l.length
  · have e : l.take (i + 1) = l.take i ++ [l.getD i 0] := by
      rw [List.take_add_one, List.getElem?_eq_getElem hi]
      simp [List.getD, hi]
    rw [e, ofW_append]
    simp only [ofW, List.length_take, Nat.mul_zero, Nat.add_zero]
    rw [Nat.min_eq_left (by omega)]
  · rw [List.take_of_length_le (by omega), List.take_of_length_le (by omega)]
    simp [List.getD, List.getElem?_eq_none (show l.length ≤ i by omega)]
theorem take_set {l : List Nat} {i x : Nat} : (l.set i x).take i = l.take i := by
  apply List.ext_getElem?
  intro j
  simp only [List.getElem?_take, List.getElem?_set]
  by_cases h : j < i
  · simp [h, show i ≠ j by omega]
  · simp [h]
theorem getD_set {l : List Nat} {i x : Nat} (h : i < l.length) : (l.set i x).getD i 0 = x := by simp [List.getD, h]
theorem Words.set {l : List Nat} (h : Words l) {i x : Nat} (hx : x < 4294967296) : Words (l.set i x) := fun y hy => by
  rcases List.mem_or_eq_of_mem_set hy with hy | hy
  · exact h y hy
  · rw [hy]; exact hx
theorem words_zero (n : Nat) : Words (List.replicate n 0) := fun x hx => by
  have := List.eq_of_mem_replicate hx
  omega

theorem infoU : (Tryd.prog.info? 68).map (fun i => (i.zero, i.size, i.bytes)) = some (some (.int .u32 0), 1, 4) := by kernel_rfl
theorem made_zero (n : Nat) : madeCells (Value.int .u32 0).cells (n * 1) = ((List.replicate n 0).map fun (x : Nat) => Value.int .u32 (x : Int)).toArray := by
  apply Array.ext
  · simp [madeCells]
  · intro i h1 h2
    simp [madeCells, Value.cells, Nat.mod_one]
/-- 'make([]uint32, n)' -/
theorem wpList_makeW (w : World) {ops : Array Oper} {rest : List Oper} {o : Oper} {a : Act} {Q : Exit → Act → World → Prop} (hg : o.guard = none) (l c : Operand) (hop : o.op = Op.makeSlice 22 l c)
    (L C : Int) (n : Nat) (hl : a.eval l = .int .i64 L) (hc : a.eval c = .int .i64 C) (hL : L = (n : Int)) (hC : C = (n : Int)) (hn : n ≤ 4000000)
    (hK : ∀ w', OwnW w' w.heap.size (List.replicate n 0) → Below w.heap.size w w' → wpList Tryd.prog ops Q rest (a.put o.dst (.slice (some ⟨w.heap.size, 0, none⟩) n n)) w') : wpList Tryd.prog ops Q (o :: rest) a w := by
  refine wpList_plain hg fun K hK' => ?_
  obtain ⟨i, hi, hz, hs, hb⟩ := info_parts infoU
  have hrun := run_makeSlice (P := Tryd.prog) (w := w) 22 68 i _ Tryd.underlying22 hi hz .i64 .i64 (n : Int) (n : Int) (by omega) (Int.le_refl _) (by rw [hs]; simp; omega) (by rw [hb]; omega) (by omega)
  rw [Int.toNat_natCast, hs, made_zero] at hrun
  subst hL
  subst hC
  unfold Oper.wp
  simp [execOp, hop, hl, hc, hrun, Result.andThen]
  exact hK' _ _ (hK _ (by unfold OwnW; rw [heap_alloc_new]; simp) ((Below.refl _ w).alloc (Nat.le_refl _) _))

theorem add32_int (x c y : Nat) (Y : Int) (hY : Y = (y : Int)) (w : World) (hx : x < 4294967296) (hy : y < 4294967296) (hc : c ≤ 1) :
    Calls Tryd.prog 89 #[.int .u32 x, .int .u32 Y, .int .u32 c] w fun e w' => e = .returned (.tuple #[.int .u32 ((x + y + c) % 4294967296 : Nat), .int .u32 ((x + y + c) / 4294967296 : Nat)]) ∧ w = w' := by
  subst hY
  exact add32_any x y c w hx hy hc
/-- The sum so far: i words are told, c is carried. -/
def PlusR (w wr : World) (g : Nat) (z z2 : List Nat) (n i c : Nat) : Prop :=
  ∃ l, OwnW wr g l ∧ l.length = n ∧ Words l ∧ ofW (l.take i) + 4294967296 ^ i * c = ofW (z.take i) + ofW (z2.take i) ∧ Below w.heap.size w wr
theorem PlusR.below0 {w wr : World} {g : Nat} {z z2 : List Nat} {n i c : Nat} (h : PlusR w wr g z z2 n i c) : Below w.heap.size w wr := by
  obtain ⟨l, _, _, _, _, h⟩ := h
  exact h

set_option maxRecDepth 100000 in
set_option maxHeartbeats 1600000 in
theorem plus_any (a1 a2 : Option Addr) (n1 n2 cap1 cap2 : Nat) (z1 z2 : List Nat) (w : World) (h1 : WordsAt w a1 n1 z1) (h2 : WordsAt w a2 n2 z2) (hn1 : n1 ≤ 1000000) (hn2 : n2 ≤ 1000000) :
    Calls Tryd.prog 80 #[.slice a1 n1 cap1, .slice a2 n2 cap2] w fun e w' => ∃ g l, e = .returned (.slice (some ⟨g, 0, none⟩) l.length l.length) ∧ w.heap.size ≤ g ∧ OwnW w' g l ∧ Words l ∧ ofW l = ofW z1 + ofW z2 ∧ l.length ≤ max n1 n2 + 1 ∧ Below w.heap.size w w' := by
  have H1 := Lib.hid h1
  have H2 := Lib.hid h2
  clear h1 h2
  by_cases hlt : n1 < n2
  · go_enter Tryd.func80, Tryd.ntmps80
    go_wp2_with (refine wpList_makeW _ rfl _ _ rfl _ _ (n2 + 1) rfl rfl (by go_num) (by go_num) (by omega) ?_; intro w1 ho hb; have HO := Lib.hid (And.intro ho hb); clear ho hb)
    obtain ⟨g, Hg⟩ : ∃ g, Hid (g = w.heap.size) := ⟨_, Lib.hid rfl⟩
    rw [← Hg.out]
    go_loopg [6, 23] n2 (fun gg v6 v23 wr => ∃ (i c : Nat), i ≤ n2 ∧ v23 = .int .i64 i ∧ v6 = .int .u32 c ∧ c ≤ 1 ∧ gg = n2 - i ∧ Hid (PlusR w wr g z2 z1 (n2 + 1) i c))
    case atStart => exact ⟨0, 0, Nat.zero_le _, rfl, rfl, by omega, rfl, Lib.hid ⟨_, by rw [Hg.out]; exact HO.out.1, by simp, words_zero _, by simp [ofW], HO.out.2⟩⟩
    case round =>
      obtain ⟨i, c, hi, rfl, rfl, hc1, hgg, Hr⟩ := hrel
      by_cases hli : i < n2
      · obtain ⟨l, r1, r2, r3, r4, r5⟩ := Hr.out
        obtain ⟨x, e1, hx⟩ := (H2.out.below r5).2.2 i hli
        have H0 := Lib.hid (show ∀ i, i < n1 → _ from (H1.out.below r5).2.2)
        obtain ⟨u, Hu⟩ : ∃ u, Hid (z2.getD i 0 = u) := ⟨_, Lib.hid rfl⟩
        have hu9 : u < 4294967296 := by rw [← Hu.out]; exact H2.out.2.1.get i
        rw [Hu.out] at hx
        subst e1
        obtain ⟨u2, Hu2⟩ : ∃ u, Hid (z1.getD i 0 = u) := ⟨_, Lib.hid rfl⟩
        have hu29 : u2 < 4294967296 := by rw [← Hu2.out]; exact H1.out.2.1.get i
        have HA := Lib.hid (add32_any u u2 c wr hu9 hu29 hc1)
        have hcell := r1.cell i (by omega)
        have hfz := r1.frozen i
        have HF := Lib.hid (show PlusR w (wr.setCell ⟨g, i, none⟩ (.int .u32 (((u : Int) + u2 + c) % 4294967296))) g z2 z1 (n2 + 1) (i + 1) ((u + u2 + c) / 4294967296) from by
          have e0 : ((u : Int) + u2 + c) % 4294967296 = (((u + u2 + c) % 4294967296 : Nat) : Int) := by omega
          rw [e0]
          refine ⟨l.set i ((u + u2 + c) % 4294967296), r1.set i _, by simpa using r2, r3.set (Nat.mod_lt _ (by decide)), ?_, r5.setCell (by have := Hg.out; simp only; omega) _⟩
          rw [ofW_take, ofW_take z2, ofW_take z1, take_set, getD_set (by omega), Hu.out, Hu2.out, Nat.pow_succ]
          have hd := Nat.div_add_mod (u + u2 + c) 4294967296
          have e : 4294967296 ^ i * (u + u2 + c) = 4294967296 ^ i * ((u + u2 + c) % 4294967296) + 4294967296 ^ i * 4294967296 * ((u + u2 + c) / 4294967296) := by
            rw [Nat.mul_assoc, ← Nat.mul_add]
            congr 1
            omega
          rw [Nat.mul_add, Nat.mul_add] at e
          omega)
        clear r1 r2 r3 r4 r5 Hr
        by_cases hl2 : i < n1
        · obtain ⟨x2, e2, hx2⟩ := H0.out i hl2
          rw [Hu2.out] at hx2
          subst e2
          go_wp2_with (go_at_call 89; refine HA.out.mono ?_; rintro e w5 ⟨rfl, rfl⟩)
          go_roundg (n2 - (i + 1))
          case measure => omega
          case rel => exact ⟨i + 1, (u + u2 + c) / 4294967296, by omega, by go_num, congrArg (Value.int .u32) (by omega), by omega, rfl, by simpa using HF⟩
        · have h00 : u2 = 0 := by
            rw [← Hu2.out]
            simp [List.getD, List.getElem?_eq_none (show z1.length ≤ i by have := H1.out.1; omega)]
          subst h00
          have HA := Lib.hid (add32_int u c 0 0 rfl wr hu9 (by decide) hc1)
          have hge2 : n1 ≤ i := by omega
          clear hl2
          go_wp2_with (go_at_call 89; refine HA.out.mono ?_; rintro e w5 ⟨rfl, rfl⟩)
          go_roundg (n2 - (i + 1))
          case measure => omega
          case rel => exact ⟨i + 1, (u + 0 + c) / 4294967296, by omega, by go_num, congrArg (Value.int .u32) (by omega), by omega, rfl, by simpa using HF⟩
      · have hge : n2 ≤ i := by omega
        have hie : i = n2 := by omega
        have Hr2 := Lib.hid (show PlusR w wr g z2 z1 (n2 + 1) n2 c from hie ▸ Hr.out)
        obtain ⟨l, r1, r2, r3, r4, r5⟩ := Hr2.out
        have hcell := r1.cell n2 (by omega)
        have hfz := r1.frozen n2
        have HF := Lib.hid (show OwnW (wr.setCell ⟨g, n2, none⟩ (.int .u32 (c : Int))) g (l.set n2 c) ∧ (l.set n2 c).length = n2 + 1 ∧ Words (l.set n2 c) ∧ ofW (l.set n2 c) = ofW z1 + ofW z2 ∧ Below w.heap.size w (wr.setCell ⟨g, n2, none⟩ (.int .u32 (c : Int))) from by
          refine ⟨r1.set n2 c, by simpa using r2, r3.set (by omega), ?_, r5.setCell (by have := Hg.out; simp only; omega) _⟩
          have e := ofW_take (l.set n2 c) n2
          rw [List.take_of_length_le (by simp; omega), take_set, getD_set (by omega), r4, List.take_of_length_le (by have := H2.out.1; omega), List.take_of_length_le (by have := H1.out.1; omega)] at e
          omega)
        clear r1 r2 r3 r4 r5 Hr hli Hr2 hie
        go_wp2_with fail
        go_ret
        obtain ⟨f1, f2, f3, f4, f5⟩ := HF.out
        refine ⟨g, l.set n2 c, by rw [f2]; rfl, by have := Hg.out; omega, f1, f3, f4, by rw [f2]; omega, f5⟩
  · have hge1 : n2 ≤ n1 := by omega
    clear hlt
    go_enter Tryd.func80, Tryd.ntmps80
    go_wp2_with (refine wpList_makeW _ rfl _ _ rfl _ _ (n1 + 1) rfl rfl (by go_num) (by go_num) (by omega) ?_; intro w1 ho hb; have HO := Lib.hid (And.intro ho hb); clear ho hb)
    obtain ⟨g, Hg⟩ : ∃ g, Hid (g = w.heap.size) := ⟨_, Lib.hid rfl⟩
    rw [← Hg.out]
    go_loopg [6, 23] n1 (fun gg v6 v23 wr => ∃ (i c : Nat), i ≤ n1 ∧ v23 = .int .i64 i ∧ v6 = .int .u32 c ∧ c ≤ 1 ∧ gg = n1 - i ∧ Hid (PlusR w wr g z1 z2 (n1 + 1) i c))
    case atStart => exact ⟨0, 0, Nat.zero_le _, rfl, rfl, by omega, rfl, Lib.hid ⟨_, by rw [Hg.out]; exact HO.out.1, by simp, words_zero _, by simp [ofW], HO.out.2⟩⟩
    case round =>
      obtain ⟨i, c, hi, rfl, rfl, hc1, hgg, Hr⟩ := hrel
      by_cases hli : i < n1
      · obtain ⟨l, r1, r2, r3, r4, r5⟩ := Hr.out
        obtain ⟨x, e1, hx⟩ := (H1.out.below r5).2.2 i hli
        have H0 := Lib.hid (show ∀ i, i < n2 → _ from (H2.out.below r5).2.2)
        obtain ⟨u, Hu⟩ : ∃ u, Hid (z1.getD i 0 = u) := ⟨_, Lib.hid rfl⟩
        have hu9 : u < 4294967296 := by rw [← Hu.out]; exact H1.out.2.1.get i
        rw [Hu.out] at hx
        subst e1
        obtain ⟨u2, Hu2⟩ : ∃ u, Hid (z2.getD i 0 = u) := ⟨_, Lib.hid rfl⟩
        have hu29 : u2 < 4294967296 := by rw [← Hu2.out]; exact H2.out.2.1.get i
        have HA := Lib.hid (add32_any u u2 c wr hu9 hu29 hc1)
        have hcell := r1.cell i (by omega)
        have hfz := r1.frozen i
        have HF := Lib.hid (show PlusR w (wr.setCell ⟨g, i, none⟩ (.int .u32 (((u : Int) + u2 + c) % 4294967296))) g z1 z2 (n1 + 1) (i + 1) ((u + u2 + c) / 4294967296) from by
          have e0 : ((u : Int) + u2 + c) % 4294967296 = (((u + u2 + c) % 4294967296 : Nat) : Int) := by omega
          rw [e0]
          refine ⟨l.set i ((u + u2 + c) % 4294967296), r1.set i _, by simpa using r2, r3.set (Nat.mod_lt _ (by decide)), ?_, r5.setCell (by have := Hg.out; simp only; omega) _⟩
          rw [ofW_take, ofW_take z1, ofW_take z2, take_set, getD_set (by omega), Hu.out, Hu2.out, Nat.pow_succ]
          have hd := Nat.div_add_mod (u + u2 + c) 4294967296
          have e : 4294967296 ^ i * (u + u2 + c) = 4294967296 ^ i * ((u + u2 + c) % 4294967296) + 4294967296 ^ i * 4294967296 * ((u + u2 + c) / 4294967296) := by
            rw [Nat.mul_assoc, ← Nat.mul_add]
            congr 1
            omega
          rw [Nat.mul_add, Nat.mul_add] at e
          omega)
        clear r1 r2 r3 r4 r5 Hr
        by_cases hl2 : i < n2
        · obtain ⟨x2, e2, hx2⟩ := H0.out i hl2
          rw [Hu2.out] at hx2
          subst e2
          go_wp2_with (go_at_call 89; refine HA.out.mono ?_; rintro e w5 ⟨rfl, rfl⟩)
          go_roundg (n1 - (i + 1))
          case measure => omega
          case rel => exact ⟨i + 1, (u + u2 + c) / 4294967296, by omega, by go_num, congrArg (Value.int .u32) (by omega), by omega, rfl, by simpa using HF⟩
        · have h00 : u2 = 0 := by
            rw [← Hu2.out]
            simp [List.getD, List.getElem?_eq_none (show z2.length ≤ i by have := H2.out.1; omega)]
          subst h00
          have HA := Lib.hid (add32_int u c 0 0 rfl wr hu9 (by decide) hc1)
          have hge2 : n2 ≤ i := by omega
          clear hl2
          go_wp2_with (go_at_call 89; refine HA.out.mono ?_; rintro e w5 ⟨rfl, rfl⟩)
          go_roundg (n1 - (i + 1))
          case measure => omega
          case rel => exact ⟨i + 1, (u + 0 + c) / 4294967296, by omega, by go_num, congrArg (Value.int .u32) (by omega), by omega, rfl, by simpa using HF⟩
      · have hge : n1 ≤ i := by omega
        have hie : i = n1 := by omega
        have Hr2 := Lib.hid (show PlusR w wr g z1 z2 (n1 + 1) n1 c from hie ▸ Hr.out)
        obtain ⟨l, r1, r2, r3, r4, r5⟩ := Hr2.out
        have hcell := r1.cell n1 (by omega)
        have hfz := r1.frozen n1
        have HF := Lib.hid (show OwnW (wr.setCell ⟨g, n1, none⟩ (.int .u32 (c : Int))) g (l.set n1 c) ∧ (l.set n1 c).length = n1 + 1 ∧ Words (l.set n1 c) ∧ ofW (l.set n1 c) = ofW z1 + ofW z2 ∧ Below w.heap.size w (wr.setCell ⟨g, n1, none⟩ (.int .u32 (c : Int))) from by
          refine ⟨r1.set n1 c, by simpa using r2, r3.set (by omega), ?_, r5.setCell (by have := Hg.out; simp only; omega) _⟩
          have e := ofW_take (l.set n1 c) n1
          rw [List.take_of_length_le (by simp; omega), take_set, getD_set (by omega), r4, List.take_of_length_le (by have := H1.out.1; omega), List.take_of_length_le (by have := H2.out.1; omega)] at e
          omega)
        clear r1 r2 r3 r4 r5 Hr hli Hr2 hie
        go_wp2_with fail
        go_ret
        obtain ⟨f1, f2, f3, f4, f5⟩ := HF.out
        refine ⟨g, l.set n1 c, by rw [f2]; rfl, by have := Hg.out; omega, f1, f3, f4, by rw [f2]; omega, f5⟩
end Go.Proofs.YtahgbbnpbhfaeaaDoor
