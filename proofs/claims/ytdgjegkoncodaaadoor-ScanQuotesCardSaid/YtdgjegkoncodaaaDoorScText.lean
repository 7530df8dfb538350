/- scan's text. Conditions: a quote stands there; the text fits. -/
import Derived.Test.YtdgjegkoncodaaaDoorScNum
import Derived.Laws.IdiomStrings
namespace Go.Proofs.YtdgjegkoncodaaaDoor
open Go.RowKit

theorem infoB8 : (Tryd.prog.info? 5).map (fun i => (i.zero, i.size, i.bytes)) = some (some (.int .u8 0), 1, 1) := by kernel_rfl
def byteC (l : List UInt8) : List Value := l.map fun b => Value.int .u8 (b.toNat : Int)
theorem byteC_push (l : List UInt8) (x : UInt8) : byteC (l ++ [x]) = byteC l ++ [.int .u8 (x.toNat : Int)] := by simp [byteC]
theorem byteC_len (l : List UInt8) : (byteC l).length = l.length := by simp [byteC]
/-- A row of bytes that is owned. -/
def Out (w : World) (b : Nat) (v : Value) (l : List UInt8) : Prop := w.ownsRow b 5 1 v l.length (byteC l)
theorem Out.nil (w : World) (b : Nat) : Out w b (.slice none 0 0) [] := ⟨rfl, .inl ⟨rfl, rfl⟩⟩
theorem run_str {w : World} {b : Nat} {v : Value} {l : List UInt8} (h : Out w b v l) : (convert 30 9 v).run Tryd.prog w = .ok (.string (strB l)) w := by
  rcases h.2 with ⟨rfl, e⟩ | ⟨g, cap, cur, rfl, _⟩
  · have : l = [] := List.eq_nil_of_length_eq_zero e
    subst this
    rw [run_convert_bytes_string (P := Tryd.prog) w 30 9 5 none 0 0 Tryd.underlying30 Tryd.underlying5 Tryd.underlying9]
    rfl
  · refine run_convert_bytes_back (P := Tryd.prog) w 30 9 5 ⟨g, 0, none⟩ cap l Tryd.underlying30 Tryd.underlying5 Tryd.underlying9 (fun j hj => ?_)
    exact World.ownsRow.cells h (g := g) rfl j _ (by simp [byteC, hj])
theorem wpList_strB {w : World} {ops : Array Oper} {rest : List Oper} {o : Oper} {a : Act} {Q : Exit → Act → World → Prop} (hgd : o.guard = none) (x : Operand)
    (ho : o.op = .convert 30 9 x) {b : Nat} {v : Value} {l : List UInt8} (hx : a.eval x = v) (h : Out w b v l)
    (hK : wpList Tryd.prog ops Q rest (a.put o.dst (.string (strB l))) w) : wpList Tryd.prog ops Q (o :: rest) a w :=
  wpList_plain hgd fun K hK' => by
    unfold Oper.wp execOp
    simp only [ho, hx, Sem.run_bind, Sem.run_pure, run_str h, Result.andThen_ok]
    exact hK' _ _ hK
theorem Sc.out {w0 W W' : World} {p a g n : Nat} {src : ByteArray} {l : List Tok} {c : List (Nat × Nat)} {tv rv v : Value} {xs : List Value} (h : Sc w0 W p src a l c tv rv) (hv : W.ownsRow (p + 1) 5 1 v n xs) (hat : AppAt W v g W') : Sc w0 W' p src a l c tv rv := by
  have hg := hat.grown
  have hb : ∀ k, k < W.heap.size → (v.ownBlock = some k → False) → W'.heap[k]? = W.heap[k]? := fun k hk hne => hg.block k hk (fun e => hne e.symm)
  refine ⟨⟨hg.os.trans h.below.os, hg.tape.trans h.below.tape, hg.output.trans h.below.output, Nat.le_trans h.below.size hg.size, fun k hk => (hb k (Nat.lt_trans hk h.lt) (fun e => by have := (row_lt hv e).2.1; omega)).trans (h.below.block k hk)⟩, (hb p h.lt (fun e => by have := (row_lt hv e).2.1; omega)).trans h.box, ?_, ?_⟩
  · refine row_keep h.toks (fun g hbg hg2 => hb g (row_lt h.toks hg2).1 (fun e => ?_))
    obtain ⟨_, _, cur, e1⟩ := row_lt h.toks hg2
    obtain ⟨_, _, cur2, e2⟩ := row_lt hv e
    rw [e1] at e2
    simp at e2
  · refine row_keep h.rems (fun g hbg hg2 => hb g (row_lt h.rems hg2).1 (fun e => ?_))
    obtain ⟨_, _, cur, e1⟩ := row_lt h.rems hg2
    obtain ⟨_, _, cur2, e2⟩ := row_lt hv e
    rw [e1] at e2
    simp at e2
theorem Out.setAt {w : World} {p : Nat} {v : Value} {l : List UInt8} (h : Out w (p + 1) v l) (j : Nat) (u : Value) : Out (w.setCell ⟨p, j, none⟩ u) (p + 1) v l := row_keep h (fun g hg _ => Below.heap_setCell _ _ _ _ (by show g ≠ p; omega))
theorem Out.go {w w' : World} {b : Nat} {v : Value} {l : List UInt8} (h : Out w b v l) (hb : Below w.heap.size w w') : Out w' b v l := row_keep h (fun g _ hg => hb.block g (row_lt h hg).1)
/-- What comes behind a backslash that stands p bytes on: it, and the rest. -/
def escGo (o : Option UInt8) (t : List UInt8) (p : Nat) (out : List UInt8) : Item := match o with
  | some x => strItem (t.drop 1) (p + 2) (out ++ [x])
  | none => .bad p
theorem strItem_cons (c : UInt8) (t : List UInt8) (p : Nat) (out : List UInt8) : strItem (c :: t) p out = if c == 10 then .bad 0 else if c == 34 then .tok 3 (p + 1) out else if c == 92 then escGo (t.head?.bind escB) t p out else strItem t (p + 1) (out ++ [c]) := by
  cases t with
  | nil =>
    conv => lhs; unfold strItem
    rfl
  | cons e t' =>
    conv => lhs; unfold strItem
    simp only [List.head?_cons, Option.bind_some]
    cases escB e <;> rfl
theorem beq_z {c : UInt8} {z n : Nat} {v : Bool} (hc : c.toNat = z) (h : ((z : Int) == (n : Int)) = v) (hn : n < 256) : (c == UInt8.ofNat n) = v := by
  subst hc
  cases v with
  | true => rw [u8_eq h hn]; simp
  | false => exact u8_ne h hn
/-- 'append(out, byte)', with the scanner beside it. -/
theorem wpList_out {w : World} {ops : Array Oper} {rest : List Oper} {o : Oper} {a : Act} {Q : Exit → Act → World → Prop} (hgd : o.guard = none) (s x : Operand)
    (ho : o.op = .call { callee := .builtin .append, args := #[s, x], argTypes := #[30, 30] })
    {w0 : World} {p at_ : Nat} {src : ByteArray} {l : List Tok} {c : List (Nat × Nat)} {tv rv v : Value} {ob : List UInt8} {U : Int} {u : UInt8} (hs : a.eval s = v) (hx : a.eval x = .slice (some ⟨w.heap.size, 0, none⟩) 1 1)
    (h : Sc w0 w p src at_ l c tv rv) (hv : Out w (p + 1) v ob) (hU : U = (u.toNat : Int)) (hl : ob.length ≤ 1000000)
    (hK : ∀ g cap w', Sc w0 w' p src at_ l c tv rv → Out w' (p + 1) (.slice (some ⟨g, 0, none⟩) (ob.length + 1) cap) (ob ++ [u]) → wpList Tryd.prog ops Q rest (a.put o.dst (.slice (some ⟨g, 0, none⟩) (ob.length + 1) cap)) w') :
    wpList Tryd.prog ops Q (o :: rest) a (w.alloc (.cells #[.int .u8 U] 5)) := by
  subst hU
  obtain ⟨i, hi, hz, hsz, hby⟩ := info_parts infoB8
  have hb := (Below.refl w.heap.size w).alloc (Nat.le_refl _) (.cells #[.int .u8 (u.toNat : Int)] 5)
  have h1 := hv.go hb
  have hp := h.lt
  refine wpList_app _ hgd s x _ ho (p + 1) 5 i _ 1 1 Tryd.underlying30 hi hz hsz hby rfl v ob.length (byteC ob) hs h1 ⟨w.heap.size, 0, none⟩ 1 1 [.int .u8 (u.toNat : Int)] hx rfl (World.news_of_block (cs := #[.int .u8 (u.toNat : Int)]) (t := 5) (fr := (0, 0)) (heap_alloc_new _ _)) (by simp [Value.oneCell']) (by omega) (by unfold maxLen; omega) (by omega) (by simp; omega) ?_
  intro g cap w' h2 h3
  refine hK g cap w' ((h.go hb).out h1 h3) ?_
  unfold Out
  rw [byteC_push, List.length_append]
  exact h2
end Go.Proofs.YtdgjegkoncodaaaDoor
