/- The region's steps: the operation is found by counting off, so that it stands written out. No condition. -/
import Derived.Test.YtahgbbnpbhfaeaaDoorJ1
namespace Go.Proofs.YtahgbbnpbhfaeaaDoor
open Go.RowKit
section
variable {P : Program} {ops : Array Oper} {Q : Exit → Act → World → Prop} {S : World → Prop}
theorem at_of_drop {i : Nat} {o : Oper} {r2 : List Oper} (h : ops.toList.drop i = o :: r2) : ops[i]? = some o := by
  have := congrArg (fun l => l[0]?) h
  simp only [List.getElem?_drop, List.getElem?_cons_zero, Nat.add_zero] at this
  rwa [Array.getElem?_toList] at this
theorem pq_ld (d : Option Nat) {i : Nat} {r : List (Nat × Nat)} {r2 : List Oper} {a : Act} {w : World} {o : Oper} {v : Value} (ho : ops.toList.drop i = o :: r2) (hd : o.dst = d) (hw : Region.wanted o (yielded ops a.tmps) = true) (hy : ∀ ws, S ws → (execOp a.eval o).run P ws = .ok (.value v) ws)
    (h : wpPi P ops Q S r (a.put d v) w) : wpPi P ops Q S ((i, 0) :: r) a w := by subst hd; exact pi_ld (at_of_drop ho) hw hy h
theorem pq_pu (d : Option Nat) {i : Nat} {r : List (Nat × Nat)} {r2 : List Oper} {a : Act} {w : World} {o : Oper} {v : Value} (ho : ops.toList.drop i = o :: r2) (hd : o.dst = d) (hw : Region.wanted o (yielded ops a.tmps) = true) (hy : ∀ ws, (execOp a.eval o).run P ws = .ok (.value v) ws)
    (h : wpPi P ops Q S r (a.put d v) w) : wpPi P ops Q S ((i, 1) :: r) a w := by subst hd; exact pi_pu (at_of_drop ho) hw hy h
theorem pq_ld_skip (d : Option Nat) {i : Nat} {r : List (Nat × Nat)} {r2 : List Oper} {a : Act} {w : World} {o : Oper} (ho : ops.toList.drop i = o :: r2) (hd : o.dst = d) (hw : Region.wanted o (yielded ops a.tmps) = false)
    (h : wpPi P ops Q S r (a.put d undef) w) : wpPi P ops Q S ((i, 0) :: r) a w := by subst hd; exact pi_ld_skip (at_of_drop ho) hw h
theorem pq_pu_skip (d : Option Nat) {i : Nat} {r : List (Nat × Nat)} {r2 : List Oper} {a : Act} {w : World} {o : Oper} (ho : ops.toList.drop i = o :: r2) (hd : o.dst = d) (hw : Region.wanted o (yielded ops a.tmps) = false)
    (h : wpPi P ops Q S r (a.put d undef) w) : wpPi P ops Q S ((i, 1) :: r) a w := by subst hd; exact pi_pu_skip (at_of_drop ho) hw h
/-- An effect. -/
theorem pk_ke {i : Nat} {r : List (Nat × Nat)} {r2 : List Oper} {a : Act} {w : World} {o : Oper} (ho : ops.toList.drop i = o :: r2)
    (h : ∀ J : Act → World → Prop, (∀ a' w', S w' → wpPi P ops Q S r a' w' → J a' w') → wpList P ops (Exit.then (Stop J) Q) [o] a w) : wpPi P ops Q S ((i, 2) :: r) a w := pi_ke (at_of_drop ho) h
theorem pk_dr {i : Nat} {r : List (Nat × Nat)} {r2 : List Oper} {a : Act} {w : World} {o : Oper} (ho : ops.toList.drop i = o :: r2)
    (h : ∀ J : Act → World → Prop, (∀ a' w', wpPi P ops Q S r a' w' → J a' w') → wpList P ops (Exit.then (Stop J) Q) [o] a w) : wpPi P ops Q S ((i, 3) :: r) a w := pi_dr (at_of_drop ho) h
end
end Go.Proofs.YtahgbbnpbhfaeaaDoor
