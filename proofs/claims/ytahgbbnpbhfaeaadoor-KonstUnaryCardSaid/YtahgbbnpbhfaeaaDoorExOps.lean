/- The operations' contracts in the laws' words. No condition. -/
import Derived.Test.YtahgbbnpbhfaeaaDoorExState
namespace Go.Proofs.YtahgbbnpbhfaeaaDoor
open Go.RowKit

def bad1 (x y s : Int) : Bool := big x || big y || big s
def addK (x y : Int) : Int := if bad1 x y (x + y) then 2 else 0
def addV (x y : Int) : Int := if bad1 x y (x + y) then 0 else x + y
def subK (x y : Int) : Int := if bad1 x y (x - y) then 2 else 0
def subV (x y : Int) : Int := if bad1 x y (x - y) then 0 else x - y
def mulK (x y : Int) : Int := if bad1 x y (x * y) then 2 else 0
def mulV (x y : Int) : Int := if bad1 x y (x * y) then 0 else x * y
def quoK (x y : Int) : Int := if big x || big y then 2 else if y = 0 then 5 else 0
def quoV (x y : Int) : Int := if quoK x y = 0 then x.tdiv y else 0
def remV (x y : Int) : Int := if quoK x y = 0 then x.tmod y else 0
/-- A number and an error, told. -/
def Told (w' : World) (e : Ending) (K V : Int) : Prop := ∃ (b : Bool) (a : Option Addr) (n c : Nat) (k : Int), e = .returned (.tuple #[.agg #[.bool b, .slice a n c], .int .i64 k]) ∧ k = K ∧ IntC w' (.agg #[.bool b, .slice a n c]) V
section
variable {v1 v2 : Value} {g1 g2 : Bool} {z1 z2 : List Nat} {w : World} {x y : Int}
theorem told_of {w' : World} {e : Ending} {b : Bool} {i : Int} (h : AnsB w' e b i) : Told w' e (if b then 2 else 0) (if b then 0 else i) := by
  obtain ⟨v, e1, hv⟩ := h
  obtain ⟨n, a, k, c, rfl⟩ := hv.agg
  exact ⟨n, a, k, c, _, e1, rfl, hv⟩
theorem add_k (h1 : IntV w v1 g1 z1) (h2 : IntV w v2 g2 z2) (hx : valI g1 z1 = x) (hy : valI g2 z2 = y) : Calls Tryd.prog 64 #[v1, v2] w fun e w' => Told w' e (addK x y) (addV x y) ∧ Below w.heap.size w w' := by
  subst hx
  subst hy
  exact (add_any v1 v2 g1 g2 z1 z2 w h1 h2).mono fun e w' h => ⟨told_of h.1, h.2⟩
theorem sub_k (h1 : IntV w v1 g1 z1) (h2 : IntV w v2 g2 z2) (hx : valI g1 z1 = x) (hy : valI g2 z2 = y) : Calls Tryd.prog 65 #[v1, v2] w fun e w' => Told w' e (subK x y) (subV x y) ∧ Below w.heap.size w w' := by
  subst hx
  subst hy
  exact (sub_any v1 v2 g1 g2 z1 z2 w h1 h2).mono fun e w' h => ⟨told_of h.1, h.2⟩
theorem mul_k (h1 : IntV w v1 g1 z1) (h2 : IntV w v2 g2 z2) (hx : valI g1 z1 = x) (hy : valI g2 z2 = y) : Calls Tryd.prog 66 #[v1, v2] w fun e w' => Told w' e (mulK x y) (mulV x y) ∧ Below w.heap.size w w' := by
  subst hx
  subst hy
  exact (mul_any v1 v2 g1 g2 z1 z2 w h1 h2).mono fun e w' h => ⟨told_of h.1, h.2⟩
theorem cmp_k (h1 : IntV w v1 g1 z1) (h2 : IntV w v2 g2 z2) (hx : valI g1 z1 = x) (hy : valI g2 z2 = y) : Calls Tryd.prog 50 #[v1, v2] w fun e w' => e = .returned (.int .i64 (cmpI x y)) ∧ Below w.heap.size w w' := by
  subst hx
  subst hy
  exact compare_any v1 v2 g1 g2 z1 z2 w h1 h2
theorem neg_k (h1 : IntV w v1 g1 z1) (hx : valI g1 z1 = x) : Calls Tryd.prog 25 #[v1] w fun e w' => (∃ (b : Bool) (a : Option Addr) (n c : Nat), e = .returned (.agg #[.bool b, .slice a n c]) ∧ IntC w' (.agg #[.bool b, .slice a n c]) (-x)) ∧ Below w.heap.size w w' := by
  subst hx
  refine (neg_any v1 g1 z1 w h1).mono fun e w' h => ?_
  obtain ⟨v, rfl, hv, hb⟩ := h
  obtain ⟨n, a, k, c, rfl⟩ := hv.agg
  exact ⟨⟨n, a, k, c, rfl, hv⟩, hb⟩
theorem of_k (i : Int) (w : World) (h0 : -9223372036854775808 ≤ i) (h1 : i ≤ 9223372036854775807) : Calls Tryd.prog 38 #[.int .i64 i] w fun e w' => (∃ (b : Bool) (a : Option Addr) (n c : Nat), e = .returned (.agg #[.bool b, .slice a n c]) ∧ IntC w' (.agg #[.bool b, .slice a n c]) i) ∧ Below w.heap.size w w' := by
  refine (of_any i w h0 h1).mono fun e w' h => ?_
  obtain ⟨v, rfl, hv, hb⟩ := h
  obtain ⟨n, a, k, c, rfl⟩ := hv.agg
  exact ⟨⟨n, a, k, c, rfl, hv⟩, hb⟩
theorem quo_k (h1 : IntV w v1 g1 z1) (h2 : IntV w v2 g2 z2) (hx : valI g1 z1 = x) (hy : valI g2 z2 = y) : Calls Tryd.prog 67 #[v1, v2] w fun e w' => (∃ (b : Bool) (a : Option Addr) (n c : Nat) (b' : Bool) (a' : Option Addr) (n' c' : Nat) (k : Int), e = .returned (.tuple #[.agg #[.bool b, .slice a n c], .agg #[.bool b', .slice a' n' c'], .int .i64 k]) ∧ k = quoK x y ∧ IntC w' (.agg #[.bool b, .slice a n c]) (quoV x y) ∧ IntC w' (.agg #[.bool b', .slice a' n' c']) (remV x y)) ∧ Below w.heap.size w w' := by
  subst hx
  subst hy
  refine (quo_any v1 v2 g1 g2 z1 z2 w h1 h2).mono fun e w' h => ?_
  obtain ⟨⟨v, u, k, rfl, hk, hv, hu⟩, hb⟩ := h
  obtain ⟨n, a, k1, c, rfl⟩ := hv.agg
  obtain ⟨n', a', k2, c', rfl⟩ := hu.agg
  have hk' : k = quoK (valI g1 z1) (valI g2 z2) := hk
  rw [hk'] at hv hu
  exact ⟨⟨n, a, k1, c, n', a', k2, c', k, rfl, hk', hv, hu⟩, hb⟩
end
theorem whole_eq (v1 v2 : Value) (i j : Int) (w : World) (h1 : IntC w v1 i) (h2 : IntC w v2 j) (e : i = j) :
    Calls Tryd.prog 27 #[v1, v2] w fun e w' => e = .returned (.bool true) ∧ Below w.heap.size w w' := by
  subst e
  exact whole_same v1 v2 i w h1 h2
theorem bad1_comm (x y s : Int) : bad1 y x s = bad1 x y s := by unfold bad1; rw [Bool.or_comm (big y)]
theorem addK_comm (x y : Int) : addK y x = addK x y := by unfold addK; rw [Int.add_comm, bad1_comm]
theorem addV_comm (x y : Int) : addV y x = addV x y := by unfold addV; rw [Int.add_comm, bad1_comm]
theorem mulK_comm (x y : Int) : mulK y x = mulK x y := by unfold mulK; rw [Int.mul_comm, bad1_comm]
theorem mulV_comm (x y : Int) : mulV y x = mulV x y := by unfold mulV; rw [Int.mul_comm, bad1_comm]
theorem big_zero : big 0 = false := by
  unfold big
  exact decide_eq_false (Nat.not_le.2 (Nat.two_pow_pos 512))
theorem subK_self (x : Int) : subK x x = if big x then 2 else 0 := by
  unfold subK bad1
  rw [Int.sub_self, big_zero]
  simp
theorem subV_self (x : Int) : subV x x = 0 := by
  unfold subV
  rw [Int.sub_self]
  simp
theorem cmpI_swap (x y : Int) : cmpI y x = -cmpI x y := by
  unfold cmpI
  by_cases h1 : x < y
  · rw [if_pos h1, if_neg (by omega), if_neg (by omega)]
    decide
  · by_cases h2 : x = y
    · subst h2
      simp
    · rw [if_neg h1, if_neg h2, if_pos (by omega)]
theorem cmpI_lim (x y : Int) : -1 ≤ cmpI x y ∧ cmpI x y ≤ 1 := by
  unfold cmpI
  split
  · decide
  · split <;> decide
theorem cmpI_self (x : Int) : cmpI x x = 0 := by simp [cmpI]
end Go.Proofs.YtahgbbnpbhfaeaaDoor
