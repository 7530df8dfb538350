/- A []int that came in, as a list; nothing appended to a nil slice. No condition. -/
import Derived.Test.YtmkjajapbkdpiaaTrIdsR
import Derived.ChangeSlices
import Derived.OpenShut
namespace Go.Proofs.Ytmkjajapbkdpiaa
open Go.RowKit Go.ChangeShapes Go.WideShapes

theorem open_intsV {H : Type} {enc : TypeId × Value → H} {w : World} {base : Nat} {spare : Nat → Bool} {held : Bool} {r : Reach} {b0 : Nat} {v : Value} {d : DataW H} {p : List MemPlace}
    (hv : Value.okWide Try.prog w r b0 27 v) (h : DataW.Trod enc Try.prog w base spare held 27 v d p) : ∃ (a : Option Addr) (len cap : Nat) (z : List Int), v = .slice a len cap ∧ IntsAt w a len z ∧ len ≤ cap ∧ cap ≤ maxLen := by
  obtain ⟨a, len, cap, rfl⟩ := okWide_slice Try.underlying27 hv
  obtain ⟨fuel, hf⟩ := h
  rcases open_ints Try.underlying27 Try.underlying3 intCell1 hf with ⟨e, _⟩ | ⟨a', len', cap', zs, e, _, hl, hm, hz, _, hc, _⟩
  · simp [Value.cells] at e
    obtain ⟨rfl, rfl, rfl⟩ := e
    exact ⟨none, 0, 0, [], rfl, ⟨rfl, fun i hi => absurd hi (by omega)⟩, Nat.le_refl _, Nat.zero_le _⟩
  · simp [Value.cells] at e
    obtain ⟨rfl, rfl, rfl⟩ := e
    have hlz : len ≤ zs.length := by
      rw [hz]
      split <;> omega
    refine ⟨some a', len, cap, zs.take len, rfl, ⟨by simp; omega, fun i hi => ⟨a', rfl, ?_⟩⟩, hl, hm⟩
    rw [hc i (by omega)]
    simp [List.getD, hi]

/-- Nothing is put behind a nil slice. -/
theorem wpList_app00 {P : Program} {ops : Array Oper} {rest : List Oper} {o : Oper} {a : Act} {w : World} {Q : Exit → Act → World → Prop} (hgd : o.guard = none) (s x : Operand) (t : TypeId)
    (ho : o.op = .call { callee := .builtin .append, args := #[s, x], argTypes := #[t, t] })
    (e : TypeId) (i : TypeInfo) (ht : P.underlying t = some (.slice e)) (hi : P.info? e = some i) (ax : Option Addr) (c : Nat)
    (hs : a.eval s = .slice none 0 0) (hx : a.eval x = .slice ax 0 c)
    (h : wpList P ops Q rest (a.put o.dst (.slice none 0 0)) w) : wpList P ops Q (o :: rest) a w :=
  wpList_plain hgd fun K hK => by
    have hr : (Builtin.append_ #[t, t] o.type #[.slice none 0 0, .slice ax 0 c]).run P w = .ok (.slice none 0 0) w := by
      cases ax <;> simp [Builtin.append_, run_underlying ht, sizeOf, typeInfo, hi, Builtin.lenOf, Builtin.firstCells, loadCells, loadCellsFrom]
    unfold Oper.wp execOp
    simp only [ho, resolve, invoke, builtin, Sem.run_bind, Sem.run_pure, Result.andThen_ok, List.map_toArray, List.map_cons, List.map_nil, hs, hx, hr]
    exact hK _ _ h
end Go.Proofs.Ytmkjajapbkdpiaa
