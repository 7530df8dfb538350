/- The region's steps with the place that is written named. No condition. -/
import Derived.Test.YtahgbbnpbhfaeaaDoorRegion
namespace Go.Proofs.YtahgbbnpbhfaeaaDoor
open Go.RowKit
section
variable {P : Program} {ops : Array Oper} {Q : Exit → Act → World → Prop} {S : World → Prop}
theorem pd_ld (d : Option Nat) {i : Nat} {r : List (Nat × Nat)} {a : Act} {w : World} {o : Oper} {v : Value} (ho : ops[i]? = some o) (hd : o.dst = d) (hw : Region.wanted o (yielded ops a.tmps) = true) (hy : ∀ ws, S ws → (execOp a.eval o).run P ws = .ok (.value v) ws)
    (h : wpPi P ops Q S r (a.put d v) w) : wpPi P ops Q S ((i, 0) :: r) a w := by subst hd; exact pi_ld ho hw hy h
theorem pd_pu (d : Option Nat) {i : Nat} {r : List (Nat × Nat)} {a : Act} {w : World} {o : Oper} {v : Value} (ho : ops[i]? = some o) (hd : o.dst = d) (hw : Region.wanted o (yielded ops a.tmps) = true) (hy : ∀ ws, (execOp a.eval o).run P ws = .ok (.value v) ws)
    (h : wpPi P ops Q S r (a.put d v) w) : wpPi P ops Q S ((i, 1) :: r) a w := by subst hd; exact pi_pu ho hw hy h
theorem pd_ld_skip (d : Option Nat) {i : Nat} {r : List (Nat × Nat)} {a : Act} {w : World} {o : Oper} (ho : ops[i]? = some o) (hd : o.dst = d) (hw : Region.wanted o (yielded ops a.tmps) = false)
    (h : wpPi P ops Q S r (a.put d undef) w) : wpPi P ops Q S ((i, 0) :: r) a w := by subst hd; exact pi_ld_skip ho hw h
theorem pd_pu_skip (d : Option Nat) {i : Nat} {r : List (Nat × Nat)} {a : Act} {w : World} {o : Oper} (ho : ops[i]? = some o) (hd : o.dst = d) (hw : Region.wanted o (yielded ops a.tmps) = false)
    (h : wpPi P ops Q S r (a.put d undef) w) : wpPi P ops Q S ((i, 1) :: r) a w := by subst hd; exact pi_pu_skip ho hw h
end
end Go.Proofs.YtahgbbnpbhfaeaaDoor
