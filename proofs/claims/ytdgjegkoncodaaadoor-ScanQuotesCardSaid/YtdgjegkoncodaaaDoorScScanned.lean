/- scan's scanned. Conditions: the tables of unicode/utf8 stand in blocks 0 and 1; the library's MaxLen holds an int. -/
import Derived.Test.YtdgjegkoncodaaaDoorScDefer
namespace Go.Proofs.YtdgjegkoncodaaaDoor
open Go.RowKit

/-- What is told of a source: the fault's number and place, the tokens, the remarks. -/
def resT : Option Told3 → Int × Int × List Tok × List (Nat × Nat)
  | none => (2, 0, [], [])
  | some (.ok l c) => (0, 0, l, c)
  | some (.bad q) => (3, q, [], [])
/-- What scanned tells. -/
def ScdP (w w' : World) (e : Ending) (t : Int × Int × List Tok × List (Nat × Nat)) : Prop := ∃ (b : Nat) (x i tv rv : Value), e = .returned (.tuple #[.pointer (some ⟨b, 0, none⟩), .agg #[.int .i64 t.1, .string ⟨#[]⟩, .int .i64 t.2.1]]) ∧ w.heap.size ≤ b ∧
  w'.heap[b]? = some (.cells #[x, i, tv, rv] 48 (0, 0)) ∧ w'.ownsRow w.heap.size 35 4 tv t.2.2.1.length (tokCells t.2.2.1) ∧ w'.ownsRow w.heap.size 40 2 rv t.2.2.2.length (spanCells t.2.2.2)
theorem old_cell {w : World} {b : Nat} {cs : Array Value} {t : TypeId} {fz : Nat × Nat} (h : w.heap[b]? = some (.cells cs t fz)) (j : Nat) (v : Value) (hj : cs[j]? = some v) (o : Obj) : (w.alloc o).cell? ⟨b, j, none⟩ = some v := by
  have : w.cell? ⟨b, j, none⟩ = some v := by
    rw [cell_of_row w b j cs t fz h]
    exact hj
  exact cell_alloc this
theorem old_thaw {w : World} {b : Nat} {cs : Array Value} {t : TypeId} (h : w.heap[b]? = some (.cells cs t (0, 0))) (j : Nat) (o : Obj) : (w.alloc o).frozen? ⟨b, j, none⟩ = false := by
  have hl := (Array.getElem?_eq_some_iff.1 h).1
  have h2 : (w.alloc o).heap[b]? = some (.cells cs t (0, 0)) := (heap_alloc_ne hl).trans h
  simp only [World.frozen?, h2]
  simp
theorem run_loadPtr {W : World} {b : Nat} {v : Value} {t : TypeId} {fz : Nat × Nat} (h : W.heap[b]? = some (.cells #[v] t fz)) : (loadVar 44 ⟨b, 0, none⟩).run Tryd.prog W = .ok v W := by
  have hc : W.cell? ⟨b, 0, none⟩ = some v := by simp only [World.cell?, h]; rfl
  simp [loadVar, go_sem, isAgg, run_underlying Tryd.underlying44, hc, Result.andThen]
theorem results_two {tmps : Array Value} {W : World} {b1 b2 : Nat} {v1 u0 u1 u2 : Value} (hp1 : tmps.getD 2 undef = .pointer (some ⟨b1, 0, none⟩)) (hp2 : tmps.getD 3 undef = .pointer (some ⟨b2, 0, none⟩))
    (h1 : W.heap[b1]? = some (.cells #[v1] 44 (0, 0))) (h2 : W.heap[b2]? = some (.cells #[u0, u1, u2] 25 (0, 0))) :
    (results Tryd.f25 tmps).run Tryd.prog W = .ok (.tuple #[v1, .agg #[u0, u1, u2]]) W := by
  have hl1 := run_loadPtr h1
  have hl2 := run_loadVar_row (P := Tryd.prog) W b2 _ 25 #[u0, u1, u2] (0, 0) _ h2 Tryd.underlying25 rfl (by kernel_rfl)
  have hp1' : tmps[2]?.getD undef = .pointer (some ⟨b1, 0, none⟩) := by simpa using hp1
  have hp2' : tmps[3]?.getD undef = .pointer (some ⟨b2, 0, none⟩) := by simpa using hp2
  simp only [results, show Tryd.f25.results = #[.cell 2 44, .cell 3 25] from rfl]
  simp [Sem.run_bind, Result.andThen, hp1', hp2', asAddr, hl1, hl2]
theorem end_scd {tmps : Array Value} {w W : World} {b1 b2 bs : Nat} {x i tv rv : Value} {t : Int × Int × List Tok × List (Nat × Nat)} (hp1 : tmps.getD 2 undef = .pointer (some ⟨b1, 0, none⟩)) (hp2 : tmps.getD 3 undef = .pointer (some ⟨b2, 0, none⟩))
    (h1 : W.heap[b1]? = some (.cells #[.pointer (some ⟨bs, 0, none⟩)] 44 (0, 0))) (h2 : W.heap[b2]? = some (.cells #[.int .i64 t.1, .string ⟨#[]⟩, .int .i64 t.2.1] 25 (0, 0))) (hb : w.heap.size ≤ bs)
    (hs : W.heap[bs]? = some (.cells #[x, i, tv, rv] 48 (0, 0))) (ht : W.ownsRow w.heap.size 35 4 tv t.2.2.1.length (tokCells t.2.2.1)) (hr : W.ownsRow w.heap.size 40 2 rv t.2.2.2.length (spanCells t.2.2.2)) (hbel : Below w.heap.size w W) :
    Leaves Tryd.prog Tryd.f25 tmps (fun e w' => ScdP w w' e t ∧ Below w.heap.size w w') [] .returning W :=
  ⟨_, results_two hp1 hp2 h1 h2, ⟨bs, x, i, tv, rv, rfl, hb, hs, ht, hr⟩, hbel⟩
theorem ofL {P : Program} {fn : Func} {R : Ending → World → Prop} {a : Act} {w : World} {ds : List Deferred} (hd : a.defers = ds) (h : Leaves P fn a.tmps R ds .returning w) : bodyPostD P fn R .ret a w := by
  subst hd
  exact h
theorem ofLp {P : Program} {fn : Func} {R : Ending → World → Prop} {a : Act} {w : World} {ch : List PanicEntry} {ds : List Deferred} (hd : a.defers = ds) (h : Leaves P fn a.tmps R ds (.panicking ch) w) : bodyPostD P fn R (.panic ch) a w := by
  subst hd
  exact h
theorem own_nil (w : World) (b : Nat) (e : TypeId) (s : Nat) : w.ownsRow b e s (.slice none 0 0) 0 [] := ⟨by simp, .inl ⟨rfl, rfl⟩⟩
/-- The result's boxes, written. -/
theorem boxes_set {W : World} {b1 b2 : Nat} {v1 u0 u1 u2 : Value} (h1 : W.heap[b1]? = some (.cells #[v1] 44 (0, 0))) (h2 : W.heap[b2]? = some (.cells #[u0, u1, u2] 25 (0, 0))) (hne : b1 ≠ b2) (y x0 x1 x2 : Value) :
    ((((W.setCell ⟨b1, 0, none⟩ y).setCell ⟨b2, 0, none⟩ x0).setCell ⟨b2, 1, none⟩ x1).setCell ⟨b2, 2, none⟩ x2).heap[b1]? = some (.cells #[y] 44 (0, 0)) ∧
    ((((W.setCell ⟨b1, 0, none⟩ y).setCell ⟨b2, 0, none⟩ x0).setCell ⟨b2, 1, none⟩ x1).setCell ⟨b2, 2, none⟩ x2).heap[b2]? = some (.cells #[x0, x1, x2] 25 (0, 0)) ∧
    ∀ k, k ≠ b1 → k ≠ b2 → ((((W.setCell ⟨b1, 0, none⟩ y).setCell ⟨b2, 0, none⟩ x0).setCell ⟨b2, 1, none⟩ x1).setCell ⟨b2, 2, none⟩ x2).heap[k]? = W.heap[k]? := by
  refine ⟨?_, ?_, fun k e1 e2 => ?_⟩
  · rw [heap_set_ne (show b1 ≠ b2 from hne), heap_set_ne (show b1 ≠ b2 from hne), heap_set_ne (show b1 ≠ b2 from hne)]
    exact (set_same h1 _).trans rfl
  · have a1 : (W.setCell ⟨b1, 0, none⟩ y).heap[b2]? = some (.cells #[u0, u1, u2] 25 (0, 0)) := (heap_set_ne (show b2 ≠ b1 from hne.symm)).trans h2
    exact (set_same (set_same (set_same a1 _) _) _).trans rfl
  · rw [heap_set_ne (show k ≠ b2 from e2), heap_set_ne (show k ≠ b2 from e2), heap_set_ne (show k ≠ b2 from e2), heap_set_ne (show k ≠ b1 from e1)]
theorem below_boxes {B b1 b2 : Nat} {w W : World} (h : Below B w W) (h1 : B ≤ b1) (h2 : B ≤ b2) (y x0 x1 x2 : Value) : Below B w ((((W.setCell ⟨b1, 0, none⟩ y).setCell ⟨b2, 0, none⟩ x0).setCell ⟨b2, 1, none⟩ x1).setCell ⟨b2, 2, none⟩ x2) :=
  (((h.setCell h1 _).setCell h2 _).setCell h2 _).setCell h2 _
/-- A text that is none: an empty scanner. -/
theorem none_end {tmps : Array Value} {w W : World} {b1 b2 : Nat} {v1 u0 u1 u2 : Value} (hp1 : tmps.getD 2 undef = .pointer (some ⟨b1, 0, none⟩)) (hp2 : tmps.getD 3 undef = .pointer (some ⟨b2, 0, none⟩))
    (h1 : W.heap[b1]? = some (.cells #[v1] 44 (0, 0))) (h2 : W.heap[b2]? = some (.cells #[u0, u1, u2] 25 (0, 0))) (hne : b1 ≠ b2) (hb : Below w.heap.size w W) (hb1 : w.heap.size ≤ b1) (hb2 : w.heap.size ≤ b2) {o : Option Told3} (ho : o = none) :
    Leaves Tryd.prog Tryd.f25 tmps (fun e w' => ScdP w w' e (resT o) ∧ Below w.heap.size w w') [] .returning (((((W.alloc (.cells #[.string ⟨#[]⟩, .int .i64 0, .slice none 0 0, .slice none 0 0] 48)).setCell ⟨b1, 0, none⟩ (.pointer (some ⟨W.heap.size, 0, none⟩))).setCell ⟨b2, 0, none⟩ (.int .i64 2)).setCell ⟨b2, 1, none⟩ (.string ⟨#[]⟩)).setCell ⟨b2, 2, none⟩ (.int .i64 0)) := by
  subst ho
  have l1 := (Array.getElem?_eq_some_iff.1 h1).1
  have l2 := (Array.getElem?_eq_some_iff.1 h2).1
  obtain ⟨a1, a2, a3⟩ := boxes_set (W := W.alloc (.cells #[.string ⟨#[]⟩, .int .i64 0, .slice none 0 0, .slice none 0 0] 48)) ((heap_alloc_ne l1).trans h1) ((heap_alloc_ne l2).trans h2) hne (.pointer (some ⟨W.heap.size, 0, none⟩)) (.int .i64 2) (.string ⟨#[]⟩) (.int .i64 0)
  exact end_scd (t := (2, 0, [], [])) hp1 hp2 a1 a2 hb.size ((a3 _ (by omega) (by omega)).trans (heap_alloc_new W _)) (own_nil _ _ _ _) (own_nil _ _ _ _) (below_boxes (hb.alloc hb.size _) hb1 hb2 _ _ _ _)
set_option maxHeartbeats 1600000 in
set_option maxRecDepth 100000 in
theorem scanned_any (src : ByteArray) (w : World) {m : Int} (hT : Lib.Utf8Tabs 0 1 w) (hm : w.cell? ⟨2, 0, none⟩ = some (.int .i64 m)) :
    Calls Tryd.prog 25 #[.string src] w fun e w' => ScdP w w' e (resT (scanAll src.data.toList)) ∧ Below w.heap.size w w' := by
  have HT := Lib.hid hT
  have Hm := Lib.hid hm
  clear hT hm
  obtain ⟨b1, Hb1⟩ : ∃ b, Hid (w.heap.size = b) := ⟨_, Lib.hid rfl⟩
  obtain ⟨W1, HW1⟩ : ∃ W1, Hid ((w.alloc (.cells #[.pointer none] 44)).alloc (.cells #[.int .i64 0, .string ⟨#[]⟩, .int .i64 0] 25) = W1) := ⟨_, Lib.hid rfl⟩
  have hmf : ∀ (fn : Fn) (first cap : Array Value) (w : World), (Instr.makeFunc fn first cap).run Tryd.prog w = .ok (.func fn first cap) w := fun _ _ _ _ => rfl
  go_enter_defers Tryd.func25, Tryd.ntmps25
  go_upto_region 1 with fail
  obtain ⟨b2, Hb2⟩ : ∃ b, Hid (b1 + 1 = b) := ⟨_, Lib.hid rfl⟩
  rw [HW1.out, Hb1.out, Hb2.out]
  have G1 : W1.heap[b1]? = some (.cells #[.pointer none] 44 (0, 0)) := by
    rw [← HW1.out, ← Hb1.out]
    exact (heap_alloc_ne (w := w.alloc _) (by simp)).trans (heap_alloc_new w _)
  have G2 : W1.heap[b2]? = some (.cells #[.int .i64 0, .string ⟨#[]⟩, .int .i64 0] 25 (0, 0)) := by
    rw [← HW1.out, ← Hb2.out, ← Hb1.out]
    have h := heap_alloc_new (w.alloc (.cells #[.pointer none] 44)) (.cells #[.int .i64 0, .string ⟨#[]⟩, .int .i64 0] 25)
    rw [World.size_alloc] at h
    exact h
  have HGa := Lib.hid G1
  have HGb := Lib.hid G2
  have HB1 := Lib.hid (show Below b1 w W1 from by rw [← HW1.out, ← Hb1.out]; exact ((Below.refl _ w).alloc (Nat.le_refl _) _).alloc (by simp) _)
  have HB0 := Lib.hid (show Below w.heap.size w W1 from by rw [Hb1.out]; exact HB1.out)
  have Hs1 := Lib.hid (show W1.heap.size = b1 + 2 from by rw [← HW1.out, ← Hb1.out]; simp)
  have hc1 := old_cell G1 0 _ rfl
  have hf1 := old_thaw G1 0
  have hc20 := old_cell G2 0 _ rfl
  have hc21 := old_cell G2 1 _ rfl
  have hc22 := old_cell G2 2 _ rfl
  have hf20 := old_thaw G2 0
  have hf21 := old_thaw G2 1
  have hf22 := old_thaw G2 2
  have hne : b1 ≠ b2 := by rw [← Hb2.out]; omega
  have hne2 : b2 ≠ b1 := hne.symm
  clear G1 G2
  by_cases hbig : (65536 : Int) < (src.size : Int)
  · have HQ := Lib.hid (show scanAll src.data.toList = none from by unfold scanAll; rw [decide_eq_false (by rw [bytes_len]; omega)]; rfl)
    go_wp2_with fail
    exact ofL rfl (none_end (w := w) (o := scanAll src.data.toList) rfl rfl HGa.out HGb.out hne HB0.out (by rw [Hb1.out]; exact Nat.le_refl _) (by rw [Hb1.out, ← Hb2.out]; omega) HQ.out)
  · obtain ⟨v, Hv⟩ : ∃ v, Hid (validS src.data.toList = v) := ⟨_, Lib.hid rfl⟩
    have HV := Lib.hid (valid_any src W1 (utf8_below HT.out HB0.out) (by omega))
    rw [Hv.out] at HV
    go_wp2_with (go_at_call 34; refine hold ?_)
    refine Hold.mk ?_
    refine HV.out.mono ?_
    rintro e W2 ⟨rfl, hb⟩
    have G1 : W2.heap[b1]? = some (.cells #[.pointer none] 44 (0, 0)) := (hb.block b1 (by rw [Hs1.out]; omega)).trans HGa.out
    have G2 : W2.heap[b2]? = some (.cells #[.int .i64 0, .string ⟨#[]⟩, .int .i64 0] 25 (0, 0)) := (hb.block b2 (by rw [Hs1.out, ← Hb2.out]; omega)).trans HGb.out
    have HB2 := Lib.hid (show Below w.heap.size w W2 from HB0.out.trans (Below.mono hb HB0.out.size))
    have HGc := Lib.hid G1
    have HGd := Lib.hid G2
    have HsW := Lib.hid (show b1 + 2 ≤ W2.heap.size from by rw [← Hs1.out]; exact hb.size)
    clear hb hc1 hf1 hc20 hc21 hc22 hf20 hf21 hf22
    have hc1 := old_cell G1 0 _ rfl
    have hf1 := old_thaw G1 0
    have hc20 := old_cell G2 0 _ rfl
    have hc21 := old_cell G2 1 _ rfl
    have hc22 := old_cell G2 2 _ rfl
    have hf20 := old_thaw G2 0
    have hf21 := old_thaw G2 1
    have hf22 := old_thaw G2 2
    clear G1 G2
    cases v with
    | false =>
      have HQ := Lib.hid (show scanAll src.data.toList = none from by unfold scanAll; rw [Hv.out]; simp)
      go_wp2_with fail
      exact ofL rfl (none_end (w := w) (o := scanAll src.data.toList) rfl rfl HGc.out HGd.out hne HB2.out (by rw [Hb1.out]; exact Nat.le_refl _) (by rw [Hb1.out, ← Hb2.out]; omega) HQ.out)
    | true =>
      have HQ := Lib.hid (show scanAll src.data.toList = some (scanR src.data.toList 0 [] []) from by unfold scanAll; rw [Hv.out, decide_eq_true (by rw [bytes_len]; omega)]; rfl)
      go_upto_region 5 with fail
      obtain ⟨p, Hp⟩ : ∃ p, Hid (W2.heap.size = p) := ⟨_, Lib.hid rfl⟩
      obtain ⟨W3, HW3⟩ : ∃ W3, Hid ((W2.alloc (.cells #[.string src, .int .i64 0, .slice none 0 0, .slice none 0 0] 48)).setCell ⟨b1, 0, none⟩ (.pointer (some ⟨p, 0, none⟩)) = W3) := ⟨_, Lib.hid rfl⟩
      rw [Hp.out, HW3.out]
      have hp12 : b1 < p ∧ b2 < p := by have h := HsW.out; have h2 := Hb2.out; rw [← Hp.out]; omega
      have l1 := (Array.getElem?_eq_some_iff.1 HGc.out).1
      have l2 := (Array.getElem?_eq_some_iff.1 HGd.out).1
      have K1 : W3.heap[b1]? = some (.cells #[.pointer (some ⟨p, 0, none⟩)] 44 (0, 0)) := by
        rw [← HW3.out]
        exact (set_same ((heap_alloc_ne l1).trans HGc.out) _).trans rfl
      have K2 : W3.heap[b2]? = some (.cells #[.int .i64 0, .string ⟨#[]⟩, .int .i64 0] 25 (0, 0)) := by
        rw [← HW3.out, heap_set_ne (show b2 ≠ b1 from hne2)]
        exact (heap_alloc_ne l2).trans HGd.out
      have K3 : W3.heap[p]? = some (.cells #[.string src, .int .i64 0, .slice none 0 0, .slice none 0 0] 48 (0, 0)) := by
        rw [← HW3.out, heap_set_ne (show p ≠ b1 by omega), ← Hp.out]
        exact heap_alloc_new W2 _
      have HB3 := Lib.hid (show Below w.heap.size w W3 from by rw [← HW3.out]; exact (HB2.out.alloc HB2.out.size _).setCell (by show w.heap.size ≤ b1; rw [Hb1.out]; exact Nat.le_refl _) _)
      have HS0 := Lib.hid (show ScE W3 W3 p src 0 [] [] from ⟨_, _, ⟨Below.refl _ _, K3, own_nil _ _ _ _, own_nil _ _ _ _⟩⟩)
      have HK := Lib.hid (And.intro K1 K2)
      have Hm2 := Lib.hid (World.block_lt_of_cell? _ _ Hm.out)
      have HR := Lib.hid (read_any (m := m) HS0.out (by rw [HB3.out.cell Hm2.out]; exact Hm.out) (by have h := Hm2.out; have h2 := Hb1.out; simp only at h; omega) (by omega))
      have hq0 : W3.cell? ⟨b1, 0, none⟩ = some (.pointer (some ⟨p, 0, none⟩)) := by simp only [World.cell?, K1]; rfl
      clear K1 K2 K3 hc1 hf1 hc20 hc21 hc22 hf20 hf21 hf22
      go_wp2_with (go_at_call 36; refine hold ?_)
      refine Hold.mk ?_
      refine HR.out.mono ?_
      intro e W4 hRP
      clear hq0
      cases hsc : scanR src.data.toList 0 [] [] with
      | ok l c =>
        rw [hsc] at hRP HQ
        obtain ⟨rfl, tv, rv, hSc⟩ := hRP
        have HSc := Lib.hid hSc
        have K1 : W4.heap[b1]? = some (.cells #[.pointer (some ⟨p, 0, none⟩)] 44 (0, 0)) := (hSc.below.block b1 hp12.1).trans HK.out.1
        have K2 : W4.heap[b2]? = some (.cells #[.int .i64 0, .string ⟨#[]⟩, .int .i64 0] 25 (0, 0)) := (hSc.below.block b2 hp12.2).trans HK.out.2
        have HK4 := Lib.hid (And.intro K1 K2)
        have g1 : W4.cell? ⟨b1, 0, none⟩ = some (.pointer (some ⟨p, 0, none⟩)) := by simp only [World.cell?, K1]; rfl
        have g20 : W4.cell? ⟨b2, 0, none⟩ = some (.int .i64 0) := by simp only [World.cell?, K2]; rfl
        have g21 : W4.cell? ⟨b2, 1, none⟩ = some (.string ⟨#[]⟩) := by simp only [World.cell?, K2]; rfl
        have g22 : W4.cell? ⟨b2, 2, none⟩ = some (.int .i64 0) := by simp only [World.cell?, K2]; rfl
        have k1 : W4.frozen? ⟨b1, 0, none⟩ = false := by simp only [World.frozen?, K1]; simp
        have k20 : W4.frozen? ⟨b2, 0, none⟩ = false := by simp only [World.frozen?, K2]; simp
        have k21 : W4.frozen? ⟨b2, 1, none⟩ = false := by simp only [World.frozen?, K2]; simp
        have k22 : W4.frozen? ⟨b2, 2, none⟩ = false := by simp only [World.frozen?, K2]; simp
        clear hSc K1 K2 hsc
        go_wp2_with fail
        refine ofL rfl ?_
        refine leaves_cons (f := 35) (args := #[.pointer (some ⟨b1, 0, none⟩), .pointer (some ⟨b2, 0, none⟩)]) (by simp) (by simp [go_sem]) ?_
        refine (catch_idle _ _ _).mono ?_
        rintro e u' w'' ⟨rfl, rfl, rfl⟩
        obtain ⟨a1, a2, a3⟩ := boxes_set HK4.out.1 HK4.out.2 hne (.pointer (some ⟨p, 0, none⟩)) (.int .i64 0) (.string ⟨#[]⟩) (.int .i64 0)
        have hwp : w.heap.size ≤ p := by have h2 := Hb1.out; omega
        have hb4 : Below w.heap.size w W4 := HB3.out.trans (Below.mono HSc.out.below hwp)
        rw [HQ.out]
        refine end_scd (w := w) (t := (0, 0, l, c)) rfl rfl a1 a2 hwp ((a3 p (by omega) (by omega)).trans HSc.out.box) ?_ ?_ (below_boxes hb4 (by rw [Hb1.out]; exact Nat.le_refl _) (by rw [Hb1.out, ← Hb2.out]; omega) _ _ _ _)
        · exact row_base (row_keep HSc.out.toks (fun g hg _ => a3 g (by omega) (by omega))) (fun k hk => by have := (row_lt HSc.out.toks hk).2.1; omega)
        · exact row_base (row_keep HSc.out.rems (fun g hg _ => a3 g (by omega) (by omega))) (fun k hk => by have := (row_lt HSc.out.rems hk).2.1; omega)
      | bad q =>
        rw [hsc] at hRP HQ
        obtain ⟨rfl, hbel⟩ := hRP
        have K1 : W4.heap[b1]? = some (.cells #[.pointer (some ⟨p, 0, none⟩)] 44 (0, 0)) := (hbel.block b1 hp12.1).trans HK.out.1
        have K2 : W4.heap[b2]? = some (.cells #[.int .i64 0, .string ⟨#[]⟩, .int .i64 0] 25 (0, 0)) := (hbel.block b2 hp12.2).trans HK.out.2
        have HK4 := Lib.hid (And.intro K1 K2)
        have HB4 := Lib.hid hbel
        clear hbel K1 K2 hsc
        unfold pan
        go_wp2_with fail
        refine ofLp rfl ?_
        refine leaves_cons (f := 35) (args := #[.pointer (some ⟨b1, 0, none⟩), .pointer (some ⟨b2, 0, none⟩)]) (by simp) (by simp [go_sem]) ?_
        refine (catch_panicking HK4.out.1 HK4.out.2 hne).mono ?_
        rintro e u' W5 ⟨rfl, rfl, hc⟩
        have hwp : w.heap.size ≤ p := by have h2 := Hb1.out; omega
        have hb4 : Below w.heap.size w W4 := HB3.out.trans (Below.mono HB4.out hwp)
        have hb5 : Below w.heap.size w W5 := ⟨hc.os.trans hb4.os, hc.tape.trans hb4.tape, hc.output.trans hb4.output, Nat.le_trans hb4.size hc.size, fun k hk => (hc.keep k (Nat.lt_of_lt_of_le hk hb4.size) (by rw [Hb1.out] at hk; omega) (by rw [Hb1.out] at hk; have := Hb2.out; omega)).trans (hb4.block k hk)⟩
        obtain ⟨bz, h1, h2, h3⟩ := hc.scan
        rw [HQ.out]
        exact end_scd (w := w) (t := (3, (q : Int), [], [])) rfl rfl h2 hc.fault (Nat.le_trans hb4.size h1) h3 (own_nil _ _ _ _) (own_nil _ _ _ _) hb5
end Go.Proofs.YtdgjegkoncodaaaDoor
