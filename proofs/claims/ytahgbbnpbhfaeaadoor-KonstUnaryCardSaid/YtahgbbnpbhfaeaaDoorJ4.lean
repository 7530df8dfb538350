/- Texts that a claim's limit of files puts together: ExBack, ExSmall. -/
import Derived.Test.YtahgbbnpbhfaeaaDoorExQuo
import Derived.RangeFuncNested
import Derived.RangeFuncBound
import Derived.RangeFuncCalls
import Derived.RangeFuncLeaves
import Derived.Shelf.Abstract
import Derived.Shelf.RegionOpen
import Derived.WalkKit
import Derived.OwnWalkIn
import Derived.TacticsInMore
import Derived.LoopNIn
import Derived.LoopIn
import Derived.RangeFuncWrites
/- slices.Backward of words. No condition. -/
namespace Go.Proofs.YtahgbbnpbhfaeaaDoor
open Go.RowKit Go.Shelf
attribute [local go_sem] Oper.semAt_some

/-- A word, and where it stands. -/
abbrev WItem : Type := Nat × { v : Nat // v < 4294967296 }
def encW (x : WItem) : Array Value := #[.int .i64 (x.1 : Int), .int .u32 ((x.2.1 : Nat) : Int)]
def itemW (z : List Nat) (i : Nat) : WItem := (i, ⟨z.getD i 0 % 4294967296, Nat.mod_lt _ (by decide)⟩)
/-- From the top, m words are left. -/
def backN (z : List Nat) (n m : Nat) : List WItem := (List.range (n - m)).map fun j => itemW z (n - 1 - j)
theorem backN_start (z : List Nat) (n : Nat) : backN z n n = [] := by simp [backN]
theorem backN_step (z : List Nat) (n m : Nat) (h : m < n) : backN z n m = backN z n (m + 1) ++ [itemW z m] := by
  unfold backN
  rw [show n - m = n - (m + 1) + 1 by omega, List.range_succ, List.map_append]
  simp only [List.map_cons, List.map_nil]
  congr 2
  rw [show n - 1 - (n - (m + 1)) = m by omega]
theorem backN_words (z : List Nat) (hz : Words z) : (backN z z.length 0).map (fun x => x.2.1) = z.reverse := by
  have e : (backN z z.length 0).map (fun x => x.2.1) = (List.range z.length).map fun j => z.getD (z.length - 1 - j) 0 % 4294967296 := by
    unfold backN
    rw [List.map_map]
    rfl
  rw [e]
  apply List.ext_getElem
  · simp
  · intro i h1 h2
    have hi : i < z.length := by simpa using h1
    have : z.length - 1 - i < z.length := by omega
    have h3 := hz.get (z.length - 1 - i)
    simp only [List.getElem_map, List.getElem_range, List.getElem_reverse]
    rw [Nat.mod_eq_of_lt h3]
    simp [List.getD, this]
theorem backN_len (z : List Nat) (n m : Nat) : (backN z n m).length = n - m := by simp [backN]

/-- The box and the row that are read. -/
def BackG (Bs : Nat) (a : Option Addr) (n cap : Nat) (z : List Nat) (W : World) : Prop := W.cell? ⟨Bs, 0, none⟩ = some (.slice a n cap) ∧ WordsAt W a n z
def BackK (Bs : Nat) (a : Option Addr) (n cap : Nat) (z : List Nat) (W W' : World) : Prop := BackG Bs a n cap z W → BackG Bs a n cap z W'
theorem cells_of_cell {W : World} {p : Addr} {v : Value} (h : W.cell? p = some v) : ∃ cs t fr, W.heap[p.block]? = some (.cells cs t fr) := by
  unfold World.cell? at h
  split at h
  · rename_i cs t fr e; exact ⟨cs, t, fr, e⟩
  · simp at h
theorem cell_same {W W' : World} {p : Addr} {v : Value} (hs : ∀ cs t fr, W.heap[p.block]? = some (.cells cs t fr) → W'.heap[p.block]? = some (.cells cs t fr)) (h : W.cell? p = some v) : W'.cell? p = some v := by
  obtain ⟨cs, t, fr, e⟩ := cells_of_cell h
  have := hs _ _ _ e
  unfold World.cell? at h ⊢
  rw [e] at h
  rw [this]
  exact h
theorem cell_putObj {W : World} {l : Nat} {o o' : Obj} (h : W.heap[l]? = some o) (hc : o.isCells = false) {p : Addr} {v : Value} (hp : W.cell? p = some v) : (W.putObj l o').cell? p = some v := by
  refine cell_same (fun cs t fr e => ?_) hp
  by_cases hpl : p.block = l
  · rw [hpl, h] at e; cases e; cases hc
  · rw [World.putObj_heap_other (fun e' => hpl (by omega))]; exact e
theorem BackK.put {Bs : Nat} {a : Option Addr} {n cap : Nat} {z : List Nat} (W : World) (l : Nat) (o o' : Obj) (h : W.heap[l]? = some o) (hc : o.isCells = false) : BackK Bs a n cap z W (W.putObj l o') := fun hg =>
  ⟨cell_putObj h hc hg.1, hg.2.cells fun _ _ hp => cell_putObj h hc hp⟩

set_option maxRecDepth 100000 in
set_option maxHeartbeats 2000000 in
theorem back1_in (n' : Nat) (hn' : 1 ≤ n') (l Bs : Nat) (a : Option Addr) (n cap : Nat) (z : List Nat) (hn : n ≤ 4000000) (J Jx : List WItem → World → Prop)
    (hY : ∀ pre x W, J pre W → pre.length < n → YieldAt Fence.wide (n' - 1) Tryd.prog l (encW x) W fun e W' => (e = .returned (.bool true) ∧ J (pre ++ [x]) W' ∧ BackK Bs a n cap z W W') ∨ (e = .returned (.bool false) ∧ Jx (pre ++ [x]) W'))
    (W : World) (hG : BackG Bs a n cap z W) (h0 : J [] W) :
    CallsIn Fence.wide n' Tryd.prog 72 #[.func (.yield l) #[] #[], .pointer (some ⟨Bs, 0, none⟩)] W fun e W' => (∃ v, e = .returned v) ∧ ((∃ ys, ys = backN z n 0 ∧ J ys W') ∨ (∃ pre, True ∧ Jx pre W')) := by
  have hbox := hG.1
  refine callsIn_of_wp Tryd.func72 rfl trivial ?_ rfl
  simp only [Tryd.ntmps72, List.size_toArray, List.length_cons, List.length_nil, Nat.reduceAdd, Nat.reduceSub, Array.replicate_succ, Array.replicate_zero, List.push_toArray, List.append_toArray, List.nil_append, List.cons_append]
  gi_wp2
  gi_loopw [3] (fun v wr => ∃ m : Nat, m ≤ n ∧ v = .int .i64 ((m : Int) - 1) ∧ J (backN z n m) wr ∧ BackG Bs a n cap z wr) (fun v _ => (intOf v + 1).toNat)
  case atStart => exact ⟨n, Nat.le_refl _, by go_num, by rw [backN_start]; exact h0, hG⟩
  case round =>
    obtain ⟨m, hm, rfl, hJs, hg⟩ := hrel
    have hb1 := hg.1
    cases m with
    | zero =>
      have e : (((0 : Nat) : Int) - 1) = -1 := by decide
      rw [e]
      gi_wp2
      go_end0
      exact ⟨⟨_, rfl⟩, .inl ⟨_, rfl, hJs⟩⟩
    | succ m =>
      have e : (((m + 1 : Nat) : Int) - 1) = (m : Int) := by omega
      rw [e]
      clear e
      obtain ⟨x, rfl, hx⟩ := hg.2.2.2 m (by omega)
      have hw := hg.2.2.1.get m
      obtain ⟨fn, tmps, assign, body, hy, hR⟩ := hY _ (itemW z m) wr hJs (by rw [backN_len]; omega)
      have ei : encW (itemW z m) = #[.int .i64 (m : Int), .int .u32 ((z.getD m 0 : Nat) : Int)] := by
        unfold encW itemW
        simp only [Nat.mod_eq_of_lt hw]
      rw [ei] at hy
      obtain ⟨u, Hu⟩ : ∃ u, Hid (z.getD m 0 = u) := ⟨_, Lib.hid rfl⟩
      rw [Hu.out] at hy hx hw
      have HR := Lib.hid (And.intro hR hg)
      clear hR ei
      gi_wp2
      refine HR.out.1.mono ?_
      rintro e W3 (⟨rfl, hJ3, hk3⟩ | ⟨rfl, hJx3⟩)
      · gi_wp2
        go_roundw
        case rel => exact ⟨m, by omega, by go_num, by rw [backN_step z n m (by omega)]; exact hJ3, hk3 HR.out.2⟩
        case measure => simp [intOf]
      · gi_wp2
        refine bodyPost_ret (results_none rfl _ _ _) rfl ?_
        exact ⟨⟨_, rfl⟩, .inr ⟨_, trivial, hJx3⟩⟩
theorem back_any (a : Option Addr) (n cap : Nat) (w : World) : Calls Tryd.prog 56 #[.slice a n cap] w fun e w' => e = .returned (.func (.func 72) #[] #[.pointer (some ⟨w.heap.size, 0, none⟩)]) ∧ w.alloc (.cells #[.slice a n cap] 22) = w' := by
  go_enter Tryd.func56, Tryd.ntmps56
  go_wp2_with fail
  go_ret
  exact ⟨rfl, rfl⟩
theorem back_stops (n' : Nat) (hn' : 1 ≤ n') (Bs : Nat) (a : Option Addr) (n cap : Nat) (z : List Nat) (hn : n ≤ 4000000) (w : World) (hBs : Bs < w.heap.size) (hG : BackG Bs a n cap z w) :
    SeqStopsK Fence.wide n' Tryd.prog 72 #[.pointer (some ⟨Bs, 0, none⟩)] encW (BackK Bs a n cap z) (fun ys => ys = backN z n 0) (fun _ => True) n w := fun l J Jx W hW _ _ hY h0 =>
  back1_in n' hn' l Bs a n cap z hn J Jx hY W ⟨(hW.cell (p := ⟨Bs, 0, none⟩) hBs).trans hG.1, hG.2.below hW⟩ h0
end Go.Proofs.YtahgbbnpbhfaeaaDoor

/- exact.Small. No condition. -/
namespace Go.Proofs.YtahgbbnpbhfaeaaDoor
open Go.RowKit Go.Shelf
attribute [local go_sem] Oper.semAt_some

def foldU : List Nat → Nat
  | [] => 0
  | [x] => x
  | x :: y :: _ => x * 4294967296 + y
theorem foldU_two (z : List Nat) (hl : z.length ≤ 2) : foldU z.reverse = ofW z := by
  match z, hl with
  | [], _ => rfl
  | [x], _ => simp [foldU, ofW]
  | [x, y], _ => simp [foldU, ofW]; omega
  | _ :: _ :: _ :: _, hl => simp at hl
theorem foldU_step (l : List Nat) (x : Nat) (hl : l.length < 2) (h : Words l) (hx : x < 4294967296) : foldU l < 4294967296 ∧ foldU (l ++ [x]) = foldU l * 4294967296 + x := by
  match l, hl, h with
  | [], _, _ => simp [foldU]
  | [y], _, h =>
    have hy := h y (by simp)
    simp [foldU, hy]
  | _ :: _ :: _, hl, _ => simp at hl; omega
theorem bits_or_u64 (y x : Nat) (hy : y < 4294967296) (hx : x < 4294967296) : bits .or .u64 ((y * 4294967296 : Nat) : Int) (x : Int) = ((y * 4294967296 + x : Nat) : Int) := by
  have h := (bits_nat .u64 64 (by decide) (fun n h0 h1 => wrap_u64_id n h0 (by omega)) (y * 4294967296) x (by omega) (by omega)).2
  rw [h]
  have := Nat.two_pow_add_eq_or_of_lt (i := 32) (b := x) (by omega) y
  rw [show y * 4294967296 = 2 ^ 32 * y by rw [Nat.mul_comm], ← this]

def fits64 (i : Int) : Bool := decide (-9223372036854775808 ≤ i ∧ i ≤ 9223372036854775807)

end Go.Proofs.YtahgbbnpbhfaeaaDoor
