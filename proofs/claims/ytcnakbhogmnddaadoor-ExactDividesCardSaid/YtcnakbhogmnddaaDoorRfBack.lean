/- recastlaw2.back. No condition. -/
import Derived.Test.YtcnakbhogmnddaaDoorRfLent
namespace Go.Proofs.YtcnakbhogmnddaaDoor
open Go.RowKit

theorem whole_raw {v1 v2 : Value} {g : Bool} {z : List Nat} {w : World} (h1 : IntV w v1 g z) (h2 : IntV w v2 g z) : Calls Tryd.prog 40 #[v1, v2] w fun e w' => e = .returned (.bool true) ∧ Below w.heap.size w w' := by
  have h := whole_any v1 v2 g g z z w h1 h2
  rw [decide_eq_true ⟨rfl, rfl⟩] at h
  exact h
set_option maxRecDepth 100000 in
set_option maxHeartbeats 3200000 in
theorem kept_any {a : Addr} {n c : Nat} {g : Bool} {z : List Nat} {a2 : Option Addr} {n2 c2 : Nat} {w : World} (h1 : IntV w (.agg #[.bool g, .slice (some a) n c]) g z) (h2 : IntV w (.agg #[.bool g, .slice (some a) (n + 1) c]) g (z ++ [77])) (h3 : IntV w (.agg #[.bool g, .slice a2 n2 c2]) g z) :
    Calls Tryd.prog 41 #[.agg #[.bool g, .slice (some a) n c], .agg #[.bool g, .slice a2 n2 c2]] w fun e w' => e = .returned (.bool true) ∧ Below w.heap.size w w' := by
  have Hnn := Lib.hid (show n2 = n ∧ n + 1 ≤ c ∧ n ≤ 1000000 from by have e1 := h1.words.2.1.1; have e3 := h3.words.2.1.1; exact ⟨by omega, h2.words.2.2.1, h1.words.2.2.2⟩)
  obtain rfl : n2 = n := Hnn.out.1
  have ST0 := Lib.hid ((((St.start w).num h1).num h2).num h3)
  clear h1 h2 h3
  obtain ⟨m, Hm⟩ : ∃ m, Hid (n2 + 1 = m) := ⟨_, Lib.hid rfl⟩
  have hnm : n2 < m := by have := Hm.out; omega
  have hnmi : (n2 : Int) < (m : Int) := by omega
  have hmc : m ≤ c := by have := Hm.out; have := Hnn.out.2.1; omega
  have hmci : (m : Int) ≤ (c : Int) := by omega
  have ew : IntKind.i64.wrap ((n2 : Int) + 1) = (m : Int) := by
    have := Hm.out; have := Hnn.out.2.2
    simp [IntKind.wrap, IntKind.bits, IntKind.signed]
    omega
  go_enter Tryd.func41, Tryd.ntmps41
  go_upto_region 1 with fail
  obtain ⟨W1, HW1⟩ : ∃ W', Hid (W' = w.alloc (.cells #[.bool g, .slice (some a) n2 c] 25)) := ⟨_, Lib.hid rfl⟩
  obtain ⟨p1, Hp1⟩ : ∃ b, Hid (b = w.heap.size) := ⟨_, Lib.hid rfl⟩
  have Hp1n := Lib.hid (ST0.out.old Hp1.out)
  have ST2 := Lib.hid (ST0.out.box Hp1.out HW1.out)
  obtain ⟨W3, HW3⟩ : ∃ W', Hid (W' = W1.alloc (.cells #[.bool g, .slice a2 n2 c2] 25)) := ⟨_, Lib.hid rfl⟩
  obtain ⟨p2, Hp2⟩ : ∃ b, Hid (b = W1.heap.size) := ⟨_, Lib.hid rfl⟩
  have Hp2n := Lib.hid (ST2.out.old Hp2.out)
  have ST4 := Lib.hid (ST2.out.box Hp2.out HW3.out)
  have hz1 : w.heap.size + 1 = p2 := by rw [Hp2.out, HW1.out, World.size_alloc]
  rw [← HW1.out, ← HW3.out]
  try rw [hz1]
  try rw [← Hp1.out]
  clear hz1
  have HX := Lib.hid (show ∀ wx, Below W3.heap.size W3 wx → wx.cell? (a.add n2) = some (.int .u32 77) from fun wx hx => by
    have h := (IntV.words ((ST4.out.go hx).get (v := (.agg #[.bool g, .slice (some a) (n2 + 1) c])) (g := g) (z := z ++ [77]) (by simp))).2.1
    obtain ⟨x, e, h2⟩ := h.2.2 n2 (by omega)
    cases e
    rw [h2]
    have hl := h.1
    simp only [List.length_append, List.length_singleton] at hl
    simp [List.getD, show n2 = z.length by omega])
  have HC1 : Hid (∀ wx, Below W3.heap.size W3 wx → (fun w' : World => w'.cell? ⟨p2, 0, none⟩ = some (.bool g) ∧ w'.cell? ⟨p2, 1, none⟩ = some (.slice a2 n2 c2) ∧ w'.cell? ⟨p1, 0, none⟩ = some (.bool g) ∧ w'.cell? ⟨p1, 1, none⟩ = some (.slice (some a) n2 c)) wx) := Lib.hid fun wx hx => by
    have h := ST4.out.go hx
    exact ⟨(h.cells (b := p2) (n := g) (s := .slice a2 n2 c2) (by simp)).1, (h.cells (b := p2) (n := g) (s := .slice a2 n2 c2) (by simp)).2, (h.cells (b := p1) (n := g) (s := .slice (some a) n2 c) (by simp)).1, (h.cells (b := p1) (n := g) (s := .slice (some a) n2 c) (by simp)).2⟩
  have hD1 := Lib.hid (Below.refl W3.heap.size W3).drew
  have ST5 := Lib.hid (ST4.out.go hD1.out)
  have HY : (fun w' : World => w'.cell? ⟨p2, 0, none⟩ = some (.bool g) ∧ w'.cell? ⟨p2, 1, none⟩ = some (.slice a2 n2 c2) ∧ w'.cell? ⟨p1, 0, none⟩ = some (.bool g) ∧ w'.cell? ⟨p1, 1, none⟩ = some (.slice (some a) n2 c) ∧ w'.cell? (a.add n2) = some (.int .u32 77)) (W3.drew) := by
    obtain ⟨y1, y2, y3, y4⟩ := HC1.out _ hD1.out
    exact ⟨y1, y2, y3, y4, HX.out _ hD1.out⟩
  refine wp_region_pi (fun w' : World => w'.cell? ⟨p2, 0, none⟩ = some (.bool g) ∧ w'.cell? ⟨p2, 1, none⟩ = some (.slice a2 n2 c2) ∧ w'.cell? ⟨p1, 0, none⟩ = some (.bool g) ∧ w'.cell? ⟨p1, 1, none⟩ = some (.slice (some a) n2 c) ∧ w'.cell? (a.add n2) = some (.int .u32 77)) [(0, 0), (1, 0), (2, 2), (3, 1), (4, 1), (5, 0), (6, 1), (7, 0), (8, 1), (9, 1), (10, 1), (11, 1), (12, 0), (13, 1), (14, 1), (15, 0), (16, 1), (17, 1), (18, 1)] [] (by kernel_rfl) (by kernel_rfl) (fun _ _ _ _ _ h => h) (HY) ?_
  refine pd_ld (some 5) rfl rfl (by rfl) (fun ws HS => by go_split_ands; go_simp; try with_reducible rfl) ?_; go_frame   -- 0 Op.load 25 (Operand.tmp 2)
  refine pd_ld (some 6) rfl rfl (by rfl) (fun ws HS => by go_split_ands; go_simp; try with_reducible rfl) ?_; go_frame   -- 1 Op.load 25 (Operand.tmp 3)
  refine pi_ke rfl (fun J hJ => ?_)   -- pi_ke 2 Op.call { callee := Callee.value (Operand.func 40), args := #[Operand.tmp 5, Operand.tmp 6], argTypes := #[25, 25] }
  have C2 := Lib.hid (whole_raw (ST5.out.get (v := (.agg #[.bool g, .slice (some a) n2 c])) (g := g) (z := z) (by simp)) (ST5.out.get (v := (.agg #[.bool g, .slice a2 n2 c2])) (g := g) (z := z) (by simp)))
  go_wp2_with (go_at_call 40; refine C2.out.mono ?_; rintro e Wz ⟨rfl, hb⟩; have STz := Lib.hid (ST5.out.go hb); have hDz := Lib.hid (hD1.out.trans (Below.mono hb hD1.out.size)); clear hb)
  refine hJ _ _ (by obtain ⟨y1, y2, y3, y4⟩ := HC1.out _ hDz.out; exact ⟨y1, y2, y3, y4, HX.out _ hDz.out⟩) ?_
  refine pd_pu (some 8) rfl rfl (by rfl) (fun ws => by go_simp; try with_reducible rfl) ?_; go_frame   -- 3 Op.move (Operand.tmp 7)
  refine pd_pu (some 9) rfl rfl (by rfl) (fun ws => by go_simp; try with_reducible rfl) ?_; go_frame   -- 4 Op.fieldAddr 25 (Operand.tmp 2) 1
  refine pd_ld (some 10) rfl rfl (by rfl) (fun ws HS => by go_split_ands; go_simp; try with_reducible rfl) ?_; go_frame   -- 5 Op.load 23 (Operand.tmp 9)
  refine pd_pu (some 11) rfl rfl (by rfl) (fun ws => by go_simp; try with_reducible rfl) ?_; go_frame   -- 6 Op.fieldAddr 25 (Operand.tmp 3) 1
  refine pd_ld (some 12) rfl rfl (by rfl) (fun ws HS => by go_split_ands; go_simp; try with_reducible rfl) ?_; go_frame   -- 7 Op.load 23 (Operand.tmp 11)
  refine pd_pu (some 13) rfl rfl (by rfl) (fun ws => by go_simp; try with_reducible rfl) ?_; go_frame   -- 8 Op.call { callee := Callee.builtin Builtin.len, args := #[Operand.tmp 12], argTypes := #[23] }
  refine pd_pu (some 14) rfl rfl (by rfl) (fun ws => by go_simp; try with_reducible rfl) ?_; go_frame   -- 9 Op.binOp BinOp.add 3 (Operand.tmp 13) (Operand.const (Value.int IntKind.i64 1)) 3
  refine pd_pu (some 15) rfl rfl (by rfl) (fun ws => by go_simp; try with_reducible rfl) ?_; go_frame   -- 10 Op.slice 23 (Operand.tmp 10) none (some (Operand.tmp 14)) none
  refine pd_pu (some 16) rfl rfl (by rfl) (fun ws => by go_simp; try with_reducible rfl) ?_; go_frame   -- 11 Op.fieldAddr 25 (Operand.tmp 3) 1
  refine pd_ld (some 17) rfl rfl (by rfl) (fun ws HS => by go_split_ands; go_simp; try with_reducible rfl) ?_; go_frame   -- 12 Op.load 23 (Operand.tmp 16)
  refine pd_pu (some 18) rfl rfl (by rfl) (fun ws => by go_simp; try with_reducible rfl) ?_; go_frame   -- 13 Op.call { callee := Callee.builtin Builtin.len, args := #[Operand.tmp 17], argTypes := #[23] }
  refine pd_pu (some 19) rfl rfl (by rfl) (fun ws => by go_simp; try with_reducible rfl) ?_; go_frame   -- 14 Op.indexAddr 23 (Operand.tmp 15) (Operand.tmp 18)
  refine pd_ld (some 20) rfl rfl (by rfl) (fun ws HS => by go_split_ands; go_simp; try with_reducible rfl) ?_; go_frame   -- 15 Op.load 82 (Operand.tmp 19)
  refine pd_pu (some 21) rfl rfl (by rfl) (fun ws => by go_simp; try with_reducible rfl) ?_; go_frame   -- 16 Op.binOp BinOp.eql 82 (Operand.tmp 20) (Operand.const (Value.int IntKind.u32 77)) 82
  refine pd_pu (some 22) rfl rfl (by rfl) (fun ws => by go_simp; try with_reducible rfl) ?_; go_frame   -- 17 Op.pick (Operand.tmp 8) (Operand.tmp 21) (Operand.const (Value.bool false))
  refine pd_pu (some 4) rfl rfl (by rfl) (fun ws => by go_simp; try with_reducible rfl) ?_; go_frame   -- 18 Op.assign (Operand.tmp 22)
  refine pi_tail (r := []) rfl ?_; simp only [opsAt]
  go_wp2_with fail
  go_ret
  exact ⟨rfl, STz.out.below⟩
end Go.Proofs.YtcnakbhogmnddaaDoor
