/- slices.Clone of a row of nodes. No condition. -/
import Derived.Test.YtmkjajapbkdpiaaTrKidsP
import Derived.Test.YtmkjajapbkdpiaaTrIdents
import Derived.ArgAppend
namespace Go.Proofs.Ytmkjajapbkdpiaa
open Go.RowKit

/-- Nothing is put behind an empty row. -/
theorem wpList_app0 {P : Program} {ops : Array Oper} {rest : List Oper} {o : Oper} {a : Act} {w : World} {Q : Exit → Act → World → Prop} (hgd : o.guard = none) (s x : Operand) (t : TypeId)
    (ho : o.op = .call { callee := .builtin .append, args := #[s, x], argTypes := #[t, t] })
    (e : TypeId) (i : TypeInfo) (ht : P.underlying t = some (.slice e)) (hi : P.info? e = some i) (g : Nat) (ad : Addr) (c : Nat)
    (hs : a.eval s = .slice (some ⟨g, 0, none⟩) 0 0) (hx : a.eval x = .slice (some ad) 0 c)
    (h : wpList P ops Q rest (a.put o.dst (.slice (some ⟨g, 0, none⟩) 0 0)) w) : wpList P ops Q (o :: rest) a w :=
  wpList_plain hgd fun K hK => by
    have hr := run_append_room_cells (P := P) w t o.type e i ht hi g 0 0 0 ad 0 c [] (by simp) (by simp) (by simp) (by simp) (by simp) (by simp)
    unfold Oper.wp execOp
    simp only [ho, resolve, invoke, builtin, Sem.run_bind, Sem.run_pure, Result.andThen_ok, List.map_toArray, List.map_cons, List.map_nil, hs, hx, hr]
    exact hK _ _ h

def ClonePost (P : Nat → Prop) (F : Fo) (w : World) (e : Ending) (w' : World) : Prop :=
  ∃ a' cap', e = .returned (.slice a' F.len cap') ∧ F.len ≤ cap' ∧ cap' ≤ maxLen ∧ Below w.heap.size w w' ∧
    (F.len = 0 ∨ ∃ g cur, a' = some ⟨g, 0, none⟩ ∧ w.heap.size ≤ g ∧ w'.heap[g]? = some (.cells cur 24 (0, 0)) ∧ cur.size = cap' * 5 ∧ ∀ j, j < F.len → ElemG P w' g j (F.get j))

set_option maxRecDepth 100000 in
set_option maxHeartbeats 800000 in
theorem clone_any (P : Nat → Prop) (F : Fo) (a : Option Addr) (cap : Nat) (w : World) (hK : KidsP P w a 0 F) (hl : F.len ≤ cap) (hc : cap ≤ maxLen) (hs : F.len ≤ 1000000) :
    Calls Try.prog 42 #[.slice a F.len cap] w (ClonePost P F w) := by
  have q := fun (w : World) (a : Option Addr) (n c : Nat) => Lib.run_eql_slice_nil (P := Try.prog) w 22 24 a n c 0 0 Try.underlying22
  obtain ⟨ni, hni, hnz, hns, hnb⟩ := info_parts infoNd5
  obtain ⟨L, HL⟩ : ∃ L, Hid (F.len = L) := ⟨_, Lib.hid rfl⟩
  rw [HL.out] at hl hs ⊢
  have HK := Lib.hid hK
  have HC := Lib.hid hc
  clear hK hc
  cases a with
  | none =>
    have hL0 : L = 0 := by
      have h1 := HK.out
      cases F with
      | nil => exact HL.out.symm
      | cons k f t s c r => obtain ⟨⟨ad, _, _, e, _⟩, _⟩ := h1; cases e
    subst hL0
    go_enter Try.func42, Try.ntmps42
    go_wp2
    go_ret
    refine ⟨none, 0, ?_, by rw [HL.out]; exact Nat.le_refl _, by simp [maxLen], Below.refl _ _, .inl HL.out⟩
    rw [HL.out]
    rfl
  | some ad =>
    by_cases h0 : L = 0
    · subst h0
      go_enter Try.func42, Try.ntmps42
      go_wp2_with (refine wpList_app0 rfl _ _ _ rfl 24 ni Try.underlying22 hni w.heap.size ad cap rfl rfl ?_)
      go_ret
      refine ⟨some ⟨w.heap.size, 0, none⟩, 0, ?_, by rw [HL.out]; exact Nat.le_refl _, by simp [maxLen], (Below.refl _ w).alloc (Nat.le_refl _) _, .inl HL.out⟩
      rw [HL.out]
      rfl
    · obtain ⟨news, q1, q2, q3, q4⟩ := HK.out.news
      rw [HL.out] at q1
      have hown : (w.alloc (.cells #[] 24)).ownsRow w.heap.size 24 5 (.slice (some ⟨w.heap.size, 0, none⟩) 0 0) 0 [] :=
        ⟨rfl, .inr ⟨w.heap.size, 0, #[], rfl, Nat.le_refl _, heap_alloc_new w _, Nat.le_refl _, by simp [maxLen], rfl, rfl⟩⟩
      have hb1 := (Below.refl _ w).alloc (Nat.le_refl _) (.cells #[] 24)
      have hne : ∀ j u, news[j]? = some u → (w.alloc (.cells #[] 24)).cell? (ad.add j) = some u := fun j u hj => by
        have := q2 j u hj
        rw [Nat.zero_mul, Nat.zero_add] at this
        exact cell_below hb1 rfl this
      have HX := Lib.hid (And.intro q1 (And.intro q3 (And.intro hown hne)))
      have HY := Lib.hid (And.intro q4 hb1)
      clear q1 q2 q3 q4 hown hne hb1
      go_enter Try.func42, Try.ntmps42
      go_wp2_with (refine wpList_app _ rfl _ _ _ rfl w.heap.size 24 ni _ 5 64 Try.underlying22 hni hnz hns hnb rfl (.slice (some ⟨w.heap.size, 0, none⟩) 0 0) 0 [] rfl HX.out.2.2.1 ad L cap news rfl HX.out.1 HX.out.2.2.2 HX.out.2.1 (by omega) (by unfold maxLen; omega) (by omega) (by simp) ?_; intro g gc w3 hown hat; have HZ := Lib.hid (And.intro hown hat); clear hown hat)
      go_ret
      obtain ⟨hown, hat⟩ := HZ.out
      obtain ⟨q4, hb1⟩ := HY.out
      simp only [Nat.zero_add, List.nil_append] at hown ⊢
      have hgr := hat.grown
      have hbel : Below w.heap.size w w3 := ⟨hgr.os, hgr.tape, hgr.output, by have := hgr.size; simp at this; omega, fun k hk => (hgr.block k (by simp; omega) (by simp [Value.ownBlock]; omega)).trans (hb1.block k hk)⟩
      rcases hown.2 with ⟨e, _⟩ | ⟨g', cap', cur, e, h3, h4, h5, h6, h7, h8⟩
      · cases e
      · cases e
        refine ⟨_, gc, ?_, by rw [HL.out]; exact h5, h6, hbel, .inr ⟨g, cur, rfl, h3, h4, h7, ?_⟩⟩
        · rw [HL.out]; rfl
        · intro j hj
          have := q4 w3 g 0 (fun j u hj => by
            have := hown.cells (g := g) rfl j u hj
            simpa [Addr.add_lit] using this) (fun p v _ hc => cell_below hbel rfl hc) j hj
          simpa using this
end Go.Proofs.Ytmkjajapbkdpiaa
