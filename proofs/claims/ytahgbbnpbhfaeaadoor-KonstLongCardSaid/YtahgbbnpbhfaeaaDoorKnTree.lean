/- A region that makes two texts and a box in any order: one step of each kind. No condition. -/
import Derived.Test.YtahgbbnpbhfaeaaDoorRegT
import Derived.Test.YtahgbbnpbhfaeaaDoorKnBase
namespace Go.Proofs.YtahgbbnpbhfaeaaDoor
open Go.RowKit

theorem put_comm (a : Act) {i j : Nat} (h : i ≠ j) (x y : Value) : (a.put (some i) x).put (some j) y = (a.put (some j) y).put (some i) x := by
  unfold Act.put
  simp only
  congr 1
  exact Array.setIfInBounds_comm _ _ h
theorem put_size (a : Act) (d : Option Nat) (x : Value) : (a.put d x).tmps.size = a.tmps.size := by
  cases d <;> simp [Act.put]
theorem ev_ne (a : Act) {i j : Nat} (h : i ≠ j) (x : Value) : (a.put (some i) x).eval (.tmp j) = a.eval (.tmp j) := by
  simp [Act.put, Act.eval, Array.getElem?_setIfInBounds_ne h]
theorem ev_same (a : Act) {i : Nat} (h : i < a.tmps.size) (x : Value) : (a.put (some i) x).eval (.tmp i) = x := by
  simp [Act.put, Act.eval, h]
theorem ev_const (a : Act) (v : Value) : a.eval (.const v) = v := rfl
/-- n bytes 0 in block b. -/
def RowZ (w : World) (b n : Nat) : Prop := w.heap[b]? = some (.cells (List.replicate n (Value.int .u8 0)).toArray 5 (0, 0))
def strZ (n : Nat) : ByteArray := ⟨(List.replicate n 0).toArray⟩
theorem strZ_size (n : Nat) : (strZ n).size = n := by simp [strZ, ByteArray.size]
theorem infoB8 : (Tryd.prog.info? 5).map (fun i => (i.zero, i.size, i.bytes)) = some (some (.int .u8 0), 1, 1) := by kernel_rfl
section
variable {ops : Array Oper} {Q : Exit → Act → World → Prop} {o : Oper} {a : Act} {w : World} {i : Nat} {K : Act → World → Prop}
theorem op_plain (ho : ops[i]? = some o) (hg : o.guard = none) (h : ∀ K' : Act → World → Prop, (∀ a' w', K a' w' → K' a' w') → o.wp Tryd.prog a w K' (Exit.then K Q)) : wpOp Tryd.prog ops Q i K a w :=
  wpOp_of_list ho (wpList_plain hg fun K' hK => h K' (fun a' w' hk => hK a' w' hk))
theorem run_enter {f : FuncId} {fn : Func} {c : Code} (hf : Tryd.prog.funcs[f]? = some fn) (hname : (fn.name == "runtime.NumGoroutine") = false) (hb : fn.body = some c) (args : Array Value) (w : World) :
    (callFunc f args).run Tryd.prog w = .ok (.enter f args) w := by
  have h1 : fn.name ≠ "runtime.NumGoroutine" := by simpa using hname
  simp [callFunc, hf, h1, hb]
theorem op_call (ho : ops[i]? = some o) (hg : o.guard = none) (f : FuncId) (hf : ∀ args w, (callFunc f args).run Tryd.prog w = .ok (.enter f args) w) (xs : Array Operand) (tys : Array TypeId) (hop : o.op = .call { callee := .value (.func f), args := xs, argTypes := tys }) {vs : Array Value} (hvs : xs.map a.eval = vs)
    (hc : Calls Tryd.prog f vs w (fun e w' => ∃ v, e = .returned v ∧ K (a.put o.dst v) w')) : wpOp Tryd.prog ops Q i K a w := by
  refine op_plain ho hg fun K' hK => ?_
  have ef : a.eval (.func f) = .func (.func f) #[] #[] := rfl
  have he : execOp a.eval o = callFunc f (xs.map a.eval) := by
    unfold execOp
    simp [hop, resolve, Deferred.ofValue, invoke, ef]
  unfold Oper.wp
  rw [he, hvs, hf, Oper.upon_enter]
  refine Calls.mono hc ?_
  rintro e w' ⟨v, rfl, h⟩
  exact hK _ _ h
set_option maxRecDepth 100000 in
theorem op_make (ho : ops[i]? = some o) (hg : o.guard = none) (l c : Operand) (hop : o.op = .makeSlice 48 l c) {n : Nat} (hl : a.eval l = .int .i64 (n : Int)) (hc : a.eval c = .int .i64 (n : Int)) (hn : n ≤ 4000000)
    (hK' : ∀ w', RowZ w' w.heap.size n → Below w.heap.size w w' → K (a.put o.dst (.slice (some ⟨w.heap.size, 0, none⟩) n n)) w') : wpOp Tryd.prog ops Q i K a w := by
  refine op_plain ho hg fun K' hK => ?_
  obtain ⟨j, hi, hz, hs, hb⟩ := info_parts infoB8
  have hrun := run_makeSlice (P := Tryd.prog) (w := w) 48 5 j _ Tryd.underlying48 hi hz .i64 .i64 (n : Int) (n : Int) (by omega) (Int.le_refl _) (by rw [hs]; simp; omega) (by rw [hb]; omega) (by omega)
  rw [Int.toNat_natCast, hs] at hrun
  unfold Oper.wp
  simp [execOp, hop, hl, hc, hrun, Result.andThen]
  refine hK _ _ (hK' _ ?_ ((Below.refl _ w).alloc (Nat.le_refl _) _))
  unfold RowZ
  rw [heap_alloc_new]
  congr 2
  apply Array.ext
  · simp [madeCells]
  · intro k h1 h2
    simp [madeCells, Value.cells, Nat.mod_one]
theorem op_str (ho : ops[i]? = some o) (hg : o.guard = none) (x : Operand) (hop : o.op = .convert 48 9 x) {b n : Nat} (hx : a.eval x = .slice (some ⟨b, 0, none⟩) n n) (h : RowZ w b n)
    (hK' : K (a.put o.dst (.string (strZ n))) w) : wpOp Tryd.prog ops Q i K a w := by
  refine op_plain ho hg fun K' hK => ?_
  have hrun := run_convert_bytes_back (P := Tryd.prog) w 48 9 5 ⟨b, 0, none⟩ n (List.replicate n 0) Tryd.underlying48 Tryd.underlying5 Tryd.underlying9 (fun j hj => by
    rw [List.length_replicate] at hj
    rw [Addr.add_lit, cell_of_row w b _ _ _ _ h]
    simp [hj])
  rw [List.length_replicate] at hrun
  unfold Oper.wp execOp
  simp only [hop, hx, Sem.run_bind, Sem.run_pure]
  unfold strZ at hK'
  rw [hrun]
  exact hK _ _ hK'
theorem op_alloc (ho : ops[i]? = some o) (hg : o.guard = none) (hop : o.op = .alloc 26)
    (hK' : K (a.put o.dst (.pointer (some ⟨w.heap.size, 0, none⟩))) (w.alloc (.cells #[.int .i64 0, .bool false, .slice none 0 0, .string ⟨#[]⟩, .bool false] 26))) : wpOp Tryd.prog ops Q i K a w := by
  refine op_plain ho hg fun K' hK => ?_
  unfold Oper.wp
  simp [execOp, hop, go_sem, Tryd.zeroValue26]
  exact hK _ _ hK'
end
end Go.Proofs.YtahgbbnpbhfaeaaDoor
