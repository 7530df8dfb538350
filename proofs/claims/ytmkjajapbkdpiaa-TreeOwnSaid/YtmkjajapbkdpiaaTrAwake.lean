/- recastlaw4.awake. No condition. -/
import Derived.Test.YtmkjajapbkdpiaaTrIdents
namespace Go.Proofs.Ytmkjajapbkdpiaa
open Go.RowKit

section
variable {w w' : World} {B B' : Nat}
theorem LstF.nodes : ∀ {F : Fo} {d : Int} {a : Option Addr} {i : Nat} {L : List Item}, LstF w B d a i F L → KidsAt w a i F ∧ ∀ x ∈ L, NodeV w x.2.1 x.2.2 := by
  intro F
  induction F with
  | nil =>
    intro d a i L h
    have h : L = [] := h
    subst h
    exact ⟨trivial, fun _ h => by simp at h⟩
  | cons k f t s c r ihc ihr =>
    rintro d a i L ⟨ad, a', cap, L1, L2, h0, hb, h1, h2, h3, h4, h5, h6, h7, rfl, h9, h10⟩
    obtain ⟨p1, p2⟩ := ihc h9
    obtain ⟨q1, q2⟩ := ihr h10
    refine ⟨⟨⟨ad, a', cap, h0, h1, h2, h3, h4, h5, h6, h7, p1⟩, q1⟩, fun x hx => ?_⟩
    rcases List.mem_cons.1 hx with rfl | hx
    · exact ⟨a', cap, rfl, h6, h7, p1⟩
    · rcases List.mem_append.1 hx with hx | hx
      · exact p2 x hx
      · exact q2 x hx
theorem LstN.nodes {d : Int} {n : Nd} {v : Value} {L : List Item} (h : LstN w B d n v L) : NodeV w n v ∧ ∀ x ∈ L, NodeV w x.2.1 x.2.2 := by
  obtain ⟨a, cap, Lk, hv, h1, h2, rfl, h4⟩ := h
  obtain ⟨p1, p2⟩ := h4.nodes
  have h0 : NodeV w n v := ⟨a, cap, hv, h1, h2, p1⟩
  refine ⟨h0, fun x hx => ?_⟩
  rcases List.mem_cons.1 hx with rfl | hx
  · exact h0
  · exact p2 x hx
theorem LstF.wide (hB : B ≤ B') : ∀ {F : Fo} {d : Int} {a : Option Addr} {i : Nat} {L : List Item}, LstF w B d a i F L → LstF w B' d a i F L := by
  intro F
  induction F with
  | nil => intro d a i L h; exact h
  | cons k f t s c r ihc ihr =>
    rintro d a i L ⟨ad, a', cap, L1, L2, h0, hb, h1, h2, h3, h4, h5, h6, h7, h8, h9, h10⟩
    exact ⟨ad, a', cap, L1, L2, h0, by omega, h1, h2, h3, h4, h5, h6, h7, h8, ihc h9, ihr h10⟩
theorem LstN.up {d : Int} {n : Nd} {v : Value} {L : List Item} (h : LstN w w.heap.size d n v L) (hb : Below w.heap.size w w') : LstN w' w'.heap.size d n v L := by
  obtain ⟨a, cap, Lk, h1, h2, h3, h4, h5⟩ := h.cells (w' := w') (fun p u _ hu => cell_below hb rfl hu)
  exact ⟨a, cap, Lk, h1, h2, h3, h4, h5.wide hb.size⟩
end

set_option maxRecDepth 100000 in
set_option maxHeartbeats 1600000 in
theorem awake_any (w : World) : Calls Try.prog 9 #[] w fun e w' => e = .returned (.bool true) ∧ Below w.heap.size w w' := by
  have hdp : depL ((flatN 0 sampleNd).map (·.1)) = 3 := by kernel_rfl
  have Hd := Lib.hid hdp
  clear hdp
  go_enter Try.func9, Try.ntmps9
  go_wp2_with (go_at_call 33; refine (sample_any _).mono ?_; rintro e w1 ⟨b, b1, rfl, hL, hb1⟩; refine hold ?_)
  have HB := Lib.hid hb1
  have hL2 := hL.up ((Below.refl _ w1).alloc (Nat.le_refl _) (.cells #[.int .i64 52, .int .i64 0, .int .i64 5, .string ⟨#[43]⟩, .slice (some ⟨b, 0, none⟩) 2 2] 24))
  obtain ⟨w2, Hw2⟩ : ∃ w2, Hid (w2 = w1.alloc (.cells #[.int .i64 52, .int .i64 0, .int .i64 5, .string ⟨#[43]⟩, .slice (some ⟨b, 0, none⟩) 2 2] 24)) := ⟨_, Lib.hid rfl⟩
  obtain ⟨bt, Hbt⟩ : ∃ bt, Hid (bt = w1.heap.size) := ⟨_, Lib.hid rfl⟩
  rw [← Hw2.out] at hL2
  have hbx : w2.heap[bt]? = some (.cells #[.int .i64 52, .int .i64 0, .int .i64 5, .string ⟨#[43]⟩, .slice (some ⟨b, 0, none⟩) 2 2] 24 (0, 0)) := by rw [Hw2.out, Hbt.out]; exact heap_alloc_new w1 _
  have HC : Hid (∀ wx, Below w2.heap.size w2 wx → wx.cell? ⟨bt, 0, none⟩ = some (.int .i64 52) ∧ wx.cell? ⟨bt, 1, none⟩ = some (.int .i64 0) ∧ wx.cell? ⟨bt, 2, none⟩ = some (.int .i64 5) ∧ wx.cell? ⟨bt, 3, none⟩ = some (.string ⟨#[43]⟩) ∧ wx.cell? ⟨bt, 4, none⟩ = some (.slice (some ⟨b, 0, none⟩) 2 2)) := Lib.hid fun wx hx => by
    have e := (hx.block bt (Array.getElem?_eq_some_iff.1 hbx).1).trans hbx
    refine ⟨?_, ?_, ?_, ?_, ?_⟩ <;> (simp only [World.cell?, e]; rfl)
  have HS : Hid (∀ wx, Below w2.heap.size w2 wx → Calls Try.prog 14 #[.agg #[.int .i64 52, .int .i64 0, .int .i64 5, .string ⟨#[43]⟩, .slice (some ⟨b, 0, none⟩) 2 2]] wx fun e w' => e = .returned (.int .i64 4) ∧ Below wx.heap.size wx w') := Lib.hid fun wx hx => tsize_any sampleNd _ wx (hL2.up hx).nodes.1 (by decide)
  have HD : Hid (∀ wx, Below w2.heap.size w2 wx → Calls Try.prog 15 #[.agg #[.int .i64 52, .int .i64 0, .int .i64 5, .string ⟨#[43]⟩, .slice (some ⟨b, 0, none⟩) 2 2]] wx fun e w' => e = .returned (.int .i64 3) ∧ Below wx.heap.size wx w') := Lib.hid fun wx hx => by
    have := tdepth_any sampleNd _ wx (hL2.up hx).nodes.1 (by decide)
    rw [Hd.out] at this
    exact this
  have HI : Hid (∀ wx, Below w2.heap.size w2 wx → Calls Try.prog 22 #[.agg #[.int .i64 52, .int .i64 0, .int .i64 5, .string ⟨#[43]⟩, .slice (some ⟨b, 0, none⟩) 2 2]] wx fun e w' => (∃ a cap, e = .returned (.slice a 2 cap)) ∧ Below wx.heap.size wx w') := Lib.hid fun wx hx => by
    have h9 := hL2.up hx
    refine (idents_leaf sampleNd _ wx (sampleL b b1) h9 h9.nodes.2 (fun x hx hk => ?_) (by decide) (by simp [sampleL])).mono ?_
    · simp only [sampleL, List.mem_cons, List.not_mem_nil, or_false] at hx
      rcases hx with rfl | rfl | rfl | rfl
      · simp [sampleNd] at hk
      · rfl
      · simp at hk
      · rfl
    · rintro e w' ⟨a, cap, rfl, h⟩
      have hf : ((sampleL b b1).filter isId).length = 2 := by simp [sampleL, isId, sampleNd]
      rw [hf]
      exact ⟨⟨a, cap, rfl⟩, h⟩
  have HE := Lib.hid (fun wx : World => expr_bin 0 5 ⟨#[43]⟩ (some ⟨b, 0, none⟩) 2 2 wx)
  have HT := Lib.hid (fun wx : World => stmt_bin 0 5 ⟨#[43]⟩ (some ⟨b, 0, none⟩) 2 2 wx)
  have hA := Lib.hid (Below.refl w2.heap.size w2)
  have HF : Hid (Below w.heap.size w w2) := Lib.hid (by rw [Hw2.out]; exact HB.out.alloc HB.out.size _)
  clear hL hL2 hb1 hbx
  unfold valOf
  refine Hold.mk ?_
  go_wp2_with (go_at_call 14; refine hold ?_)
  rw [← Hw2.out]
  try rw [← Hbt.out]
  refine Hold.mk ?_
  refine (HS.out w2 hA.out).mono ?_
  rintro e w3 ⟨rfl, hb3⟩
  have hB := Lib.hid (hA.out.trans (Below.mono hb3 hA.out.size))
  obtain ⟨c0, c1, c2, c3, c4⟩ := HC.out w3 hB.out
  clear hb3
  go_wp2_with first
    | (go_at_call 15; refine (HD.out w3 hB.out).mono ?_; rintro e w4 ⟨rfl, hb4⟩; have hC := Lib.hid (hB.out.trans (Below.mono hb4 hB.out.size)); obtain ⟨d0, d1, d2, d3, d4⟩ := HC.out w4 hC.out; clear hb4)
    | (go_at_call 22; refine (HI.out w4 hC.out).mono ?_; rintro e w5 ⟨⟨a5, k5, rfl⟩, hb5⟩; have hD := Lib.hid (hC.out.trans (Below.mono hb5 hC.out.size)); obtain ⟨e0, e1, e2, e3, e4⟩ := HC.out w5 hD.out; clear hb5)
    | (go_at_call 25; refine (HE.out w5).mono ?_; rintro e w6 ⟨rfl, hb6⟩; have hE := Lib.hid (hD.out.trans (Below.mono hb6 hD.out.size)); obtain ⟨f0, f1, f2, f3, f4⟩ := HC.out w6 hE.out; clear hb6)
    | (go_at_call 27; refine (HT.out w6).mono ?_; rintro e w7 ⟨rfl, hb7⟩; have hG := Lib.hid (hE.out.trans (Below.mono hb7 hE.out.size)); clear hb7)
  go_ret
  exact ⟨rfl, HF.out.trans (Below.mono hG.out HF.out.size)⟩
end Go.Proofs.Ytmkjajapbkdpiaa
