/- Texts that a claim's limit of files puts together: KnQuoP, KnBld. -/
import Derived.Test.YtahgbbnpbhfaeaaDoorJ1
import Derived.Lib.ValidLaws
import Derived.Lib.TrimUEq
import Derived.Laws.RangeAny
import Derived.Lib.RuneCount
import Derived.Shelf.Strings.Builder1
import Derived.Shelf.Strings.BuilderK
import Derived.Test.YtahgbbnpbhfaeaaDoorProg
/- What Quote tells, plain; bytes in memory. No condition. -/
namespace Go.Proofs.YtahgbbnpbhfaeaaDoor.Qt
open Go.RowKit

theorem bytes_len (s : ByteArray) : s.data.toList.length = s.size := by simp
def strB (l : List UInt8) : ByteArray := ⟨l.toArray⟩
theorem strB_data (s : ByteArray) : strB s.data.toList = s := by cases s; simp [strB]
theorem strB_toList (l : List UInt8) : (strB l).data.toList = l := by simp [strB]
theorem strB_size (l : List UInt8) : (strB l).size = l.length := by unfold strB; rfl
/-- A row is kept where its block is. -/
theorem row_keep {w w' : World} {b : Nat} {e : TypeId} {s : Nat} {v : Value} {n : Nat} {xs : List Value} (h : w.ownsRow b e s v n xs) (hk : ∀ g, b ≤ g → v.ownBlock = some g → w'.heap[g]? = w.heap[g]?) : w'.ownsRow b e s v n xs := by
  obtain ⟨h1, h2⟩ := h
  refine ⟨h1, ?_⟩
  rcases h2 with h2 | ⟨g, cap, cur, rfl, h3, h4, h5⟩
  · exact .inl h2
  · exact .inr ⟨g, cap, cur, rfl, h3, (hk g h3 rfl).trans h4, h5⟩
theorem row_lt {w : World} {b : Nat} {e : TypeId} {s : Nat} {v : Value} {n : Nat} {xs : List Value} (h : w.ownsRow b e s v n xs) {g : Nat} (hg : v.ownBlock = some g) : g < w.heap.size ∧ b ≤ g ∧ ∃ cur, w.heap[g]? = some (.cells cur e (0, 0)) := by
  rcases h.2 with ⟨rfl, _⟩ | ⟨g', cap, cur, rfl, h3, h4, _⟩
  · cases hg
  · have : g' = g := by simpa [Value.ownBlock] using hg
    subst this
    exact ⟨(Array.getElem?_eq_some_iff.1 h4).1, h3, cur, h4⟩
theorem drop_at {s : ByteArray} {k : Nat} (hk : k < s.size) : s.data.toList.drop k = s[k] :: s.data.toList.drop (k + 1) := by
  rw [List.drop_eq_getElem_cons (by simpa using hk)]; rfl
theorem drop_end {s : ByteArray} {k : Nat} (hk : ¬ k < s.size) : s.data.toList.drop k = [] := by
  apply List.drop_eq_nil_of_le; rw [bytes_len]; omega
theorem extract_at (s : ByteArray) (a b : Nat) : s.extract a b = strB ((s.data.toList.drop a).take (b - a)) := by
  apply ByteArray.ext
  apply Array.ext'
  simp [strB, List.take_drop]
  try (congr 1; omega)
/-- A range over a string goes on. -/
def setIt (W : World) (b : Nat) (s : ByteArray) (pos : Nat) : World := { W with heap := W.heap.setIfInBounds b (.stringIter s pos) }
theorem run_next_at {P : Program} {W : World} {b pos : Nat} {s : ByteArray} (ty : TypeId) (h : W.heap[b]? = some (.stringIter s pos)) (hp : pos < s.size) :
    (Instr.next (.pointer (some ⟨b, 0, none⟩)) true ty).run P W = .ok (.tuple #[.bool true, .int .i64 pos, .int .i32 (Utf8.decode s pos).1]) (setIt W b s (pos + (Utf8.decode s pos).2)) := by
  simp only [Instr.next, getObj, setObj, Sem.run_bind, Sem.run, h, Result.andThen, hp, if_true]
  simp [goInt, setIt]
theorem run_next_stop {P : Program} {W : World} {b pos : Nat} {s : ByteArray} (ty : TypeId) (h : W.heap[b]? = some (.stringIter s pos)) (hp : ¬ pos < s.size) :
    (Instr.next (.pointer (some ⟨b, 0, none⟩)) true ty).run P W = .ok (.tuple #[.bool false]) W := by
  simp [Instr.next, getObj, Sem.run, h, hp]
theorem setIt_heap {W : World} {b pos pos' : Nat} {s : ByteArray} (h : W.heap[b]? = some (.stringIter s pos)) : (setIt W b s pos').heap[b]? = some (.stringIter s pos') := by
  have hb := (Array.getElem?_eq_some_iff.1 h).1
  unfold setIt
  simp [hb]
/-- What stands at a text's head, decoded. -/
theorem dec_cases (l : List UInt8) (hne : l ≠ []) : ((l.getD 0 0).toNat < 128 ∧ Lib.decodeL l = ((l.getD 0 0).toNat, 1)) ∨ (128 ≤ (l.getD 0 0).toNat ∧ Lib.decodeL l = (65533, 1)) ∨ (2 ≤ (Lib.decodeL l).2 ∧ (Lib.decodeL l).2 ≤ l.length ∧ 128 ≤ (Lib.decodeL l).1 ∧ ∀ i, i < (Lib.decodeL l).2 → 128 ≤ (l.getD i 0).toNat) := by
  have hle := Lib.decodeL_le l hne
  have b0 := (l.getD 0 0).toNat_lt
  have b1 := (l.getD 1 0).toNat_lt
  have b2 := (l.getD 2 0).toNat_lt
  have b3 := (l.getD 3 0).toNat_lt
  rw [Lib.decodeL_N] at hle ⊢
  generalize e0 : (l.getD 0 0).toNat = x0 at *
  generalize e1 : (l.getD 1 0).toNat = x1 at *
  generalize e2 : (l.getD 2 0).toNat = x2 at *
  generalize e3 : (l.getD 3 0).toNat = x3 at *
  unfold Lib.decodeN at hle ⊢
  by_cases c0 : x0 < 128
  · left; rw [if_pos c0]; exact ⟨c0, rfl⟩
  rw [if_neg c0] at hle ⊢
  by_cases c1 : x0 / 32 = 6 ∧ (1 < l.length ∧ x1 / 64 = 2)
  · rw [if_pos c1] at hle ⊢
    by_cases d1 : x0 % 32 * 64 + x1 % 64 ≥ 128
    · rw [if_pos d1] at hle ⊢
      right; right
      refine ⟨Nat.le_refl 2, hle, d1, fun i hi => ?_⟩
      have hi2 : i = 0 ∨ i = 1 := by simp only at hi; omega
      rcases hi2 with rfl | rfl <;> omega
    · rw [if_neg d1]
      right; left
      exact ⟨by omega, rfl⟩
  rw [if_neg c1] at hle ⊢
  by_cases c2 : x0 / 16 = 14 ∧ (1 < l.length ∧ x1 / 64 = 2) ∧ (2 < l.length ∧ x2 / 64 = 2)
  · rw [if_pos c2] at hle ⊢
    split at hle
    · rename_i d1
      rw [if_pos d1]
      right; right
      refine ⟨by show 2 ≤ _; omega, hle, by simp only; omega, fun i hi => ?_⟩
      have hi2 : i = 0 ∨ i = 1 ∨ i = 2 := by simp only at hi; omega
      rcases hi2 with rfl | rfl | rfl <;> omega
    · rename_i d1
      rw [if_neg d1]
      right; left
      exact ⟨by omega, rfl⟩
  rw [if_neg c2] at hle ⊢
  by_cases c3 : x0 / 8 = 30 ∧ (1 < l.length ∧ x1 / 64 = 2) ∧ (2 < l.length ∧ x2 / 64 = 2) ∧ (3 < l.length ∧ x3 / 64 = 2)
  · rw [if_pos c3] at hle ⊢
    split at hle
    · rename_i d1
      rw [if_pos d1]
      right; right
      refine ⟨by show 2 ≤ _; omega, hle, by simp only; omega, fun i hi => ?_⟩
      have hi2 : i = 0 ∨ i = 1 ∨ i = 2 ∨ i = 3 := by simp only at hi; omega
      rcases hi2 with rfl | rfl | rfl | rfl <;> omega
    · rename_i d1
      rw [if_neg d1]
      right; left
      exact ⟨by omega, rfl⟩
  · rw [if_neg c3]
    right; left
    exact ⟨by omega, rfl⟩
theorem heap_alloc_ne {w : World} {o : Obj} {k : Nat} (h : k < w.heap.size) : (w.alloc o).heap[k]? = w.heap[k]? := Below.heap_alloc w o k h
/-- A byte within quotes. -/
def qc (c : UInt8) : List UInt8 := if c = 92 ∨ c = 34 then [92, c] else if c = 10 then [92, 110] else if c = 9 then [92, 116] else [c]
def qb (l : List UInt8) : List UInt8 := l.flatMap qc
def quoteL (l : List UInt8) : List UInt8 := 34 :: (qb l ++ [34])
def plainB (c : UInt8) : Prop := c ≠ 92 ∧ c ≠ 34 ∧ c ≠ 10 ∧ c ≠ 9
theorem qc_plain {c : UInt8} (h : plainB c) : qc c = [c] := by
  obtain ⟨h1, h2, h3, h4⟩ := h
  unfold qc
  rw [if_neg (by rintro (h | h); exact h1 h; exact h2 h), if_neg h3, if_neg h4]
theorem qb_app (a b : List UInt8) : qb (a ++ b) = qb a ++ qb b := by unfold qb; rw [List.flatMap_append]
theorem qb_cons (c : UInt8) (l : List UInt8) : qb (c :: l) = qc c ++ qb l := rfl
theorem qb_plain : ∀ (l : List UInt8), (∀ c ∈ l, plainB c) → qb l = l
  | [], _ => rfl
  | c :: l, h => by rw [qb_cons, qc_plain (h c (by simp)), qb_plain l (fun d hd => h d (by simp [hd]))]; rfl
theorem qc_len (c : UInt8) : 1 ≤ (qc c).length ∧ (qc c).length ≤ 2 := by
  unfold qc
  split
  · simp
  · split
    · simp
    · split <;> simp
theorem qb_len : ∀ (l : List UInt8), (qb l).length ≤ 2 * l.length
  | [] => Nat.le_refl _
  | c :: l => by
    have := qb_len l
    have := (qc_len c).2
    rw [qb_cons, List.length_append, List.length_cons]
    omega
theorem qb_split {l : List UInt8} {f p : Nat} (hfp : f ≤ p) (h : ∀ c ∈ (l.drop f).take (p - f), plainB c) : qb (l.take p) = qb (l.take f) ++ (l.drop f).take (p - f) := by
  have e : l.take p = l.take f ++ (l.drop f).take (p - f) := by
    have := List.take_add (l := l) (i := f) (j := p - f)
    rw [show f + (p - f) = p by omega] at this
    exact this
  rw [e, qb_app, qb_plain _ h]
/-- A special byte behind bytes that are none. -/
theorem qb_step {l : List UInt8} {f p : Nat} (hfp : f ≤ p) (hp : p < l.length) (h : ∀ c ∈ (l.drop f).take (p - f), plainB c) : qb (l.take (p + 1)) = qb (l.take f) ++ ((l.drop f).take (p - f) ++ qc l[p]) := by
  rw [List.take_succ_eq_append_getElem hp, qb_app, qb_split hfp h, List.append_assoc]
  congr 2
  rw [qb_cons]
  simp [qb]
/-- What the rune at a text's head tells of its bytes. -/
theorem dec_plain {l : List UInt8} (hne : l ≠ []) : ((Lib.decodeL l).1 < 128 → (Lib.decodeL l).2 = 1 ∧ (l.getD 0 0).toNat = (Lib.decodeL l).1) ∧
    ((Lib.decodeL l).1 ≠ 92 → (Lib.decodeL l).1 ≠ 34 → (Lib.decodeL l).1 ≠ 10 → (Lib.decodeL l).1 ≠ 9 → ∀ c ∈ l.take (Lib.decodeL l).2, plainB c) := by
  have high : ∀ c : UInt8, 128 ≤ c.toNat → plainB c := fun c h => ⟨fun e => by rw [e] at h; exact absurd h (by decide), fun e => by rw [e] at h; exact absurd h (by decide), fun e => by rw [e] at h; exact absurd h (by decide), fun e => by rw [e] at h; exact absurd h (by decide)⟩
  obtain ⟨y, t, rfl⟩ : ∃ y t, l = y :: t := by cases l with | nil => exact absurd rfl hne | cons y t => exact ⟨y, t, rfl⟩
  rcases dec_cases (y :: t) hne with ⟨h1, h2⟩ | ⟨h1, h2⟩ | ⟨h1, h2, h3, h4⟩
  · rw [h2]
    refine ⟨fun _ => ⟨rfl, rfl⟩, fun a b c d x hx => ?_⟩
    have : x = y := by simpa using hx
    subst this
    refine ⟨fun e => a ?_, fun e => b ?_, fun e => c ?_, fun e => d ?_⟩ <;> (rw [e]; rfl)
  · rw [h2]
    simp only [List.getD_cons_zero] at h1
    refine ⟨fun h => absurd h (by decide), fun _ _ _ _ x hx => ?_⟩
    have : x = y := by simpa using hx
    subst this
    exact high _ h1
  · refine ⟨(fun h => by omega), fun _ _ _ _ x hx => ?_⟩
    obtain ⟨j, hj, e⟩ := List.mem_iff_getElem.1 hx
    rw [List.length_take] at hj
    have h5 := h4 j (by omega)
    rw [List.getElem_take] at e
    rw [List.getD, List.getElem?_eq_getElem (by omega), Option.getD_some, e] at h5
    exact high _ h5
theorem infoB8 : (Tryd.prog.info? 5).map (fun i => (i.zero, i.size, i.bytes)) = some (some (.int .u8 0), 1, 1) := by kernel_rfl
def byteC (l : List UInt8) : List Value := l.map fun b => Value.int .u8 (b.toNat : Int)
theorem byteC_push (l : List UInt8) (x : UInt8) : byteC (l ++ [x]) = byteC l ++ [.int .u8 (x.toNat : Int)] := by simp [byteC]
theorem byteC_len (l : List UInt8) : (byteC l).length = l.length := by simp [byteC]
/-- A row of bytes that is owned. -/
def Out (w : World) (b : Nat) (v : Value) (l : List UInt8) : Prop := w.ownsRow b 5 1 v l.length (byteC l)
theorem Out.nil (w : World) (b : Nat) : Out w b (.slice none 0 0) [] := ⟨rfl, .inl ⟨rfl, rfl⟩⟩
theorem run_str {w : World} {b : Nat} {v : Value} {l : List UInt8} (h : Out w b v l) : (convert 48 9 v).run Tryd.prog w = .ok (.string (strB l)) w := by
  rcases h.2 with ⟨rfl, e⟩ | ⟨g, cap, cur, rfl, _⟩
  · have : l = [] := List.eq_nil_of_length_eq_zero e
    subst this
    rw [run_convert_bytes_string (P := Tryd.prog) w 48 9 5 none 0 0 Tryd.underlying48 Tryd.underlying5 Tryd.underlying9]
    rfl
  · refine run_convert_bytes_back (P := Tryd.prog) w 48 9 5 ⟨g, 0, none⟩ cap l Tryd.underlying48 Tryd.underlying5 Tryd.underlying9 (fun j hj => ?_)
    exact World.ownsRow.cells h (g := g) rfl j _ (by simp [byteC, hj])
theorem wpList_strB {w : World} {ops : Array Oper} {rest : List Oper} {o : Oper} {a : Act} {Q : Exit → Act → World → Prop} (hgd : o.guard = none) (x : Operand)
    (ho : o.op = .convert 48 9 x) {b : Nat} {v : Value} {l : List UInt8} (hx : a.eval x = v) (h : Out w b v l)
    (hK : wpList Tryd.prog ops Q rest (a.put o.dst (.string (strB l))) w) : wpList Tryd.prog ops Q (o :: rest) a w :=
  wpList_plain hgd fun K hK' => by
    unfold Oper.wp execOp
    simp only [ho, hx, Sem.run_bind, Sem.run_pure, run_str h, Result.andThen_ok]
    exact hK' _ _ hK
theorem Out.go {w w' : World} {b : Nat} {v : Value} {l : List UInt8} (h : Out w b v l) (hb : Below w.heap.size w w') : Out w' b v l := row_keep h (fun g _ hg => hb.block g (row_lt h hg).1)
/-- A row of one's own that has grown: what stood below is as it was. -/
theorem app_belowQ {w w' : World} {B g n : Nat} {e : TypeId} {v : Value} {xs : List Value} (hB : B ≤ w.heap.size) (hv : w.ownsRow B e 1 v n xs) (hat : AppAt w v g w') : Below B w w' := by
  have hg := hat.grown
  exact ⟨hg.os, hg.tape, hg.output, hg.size, fun k hk => hg.block k (Nat.lt_of_lt_of_le hk hB) (fun e => by have := (row_lt hv e.symm).2.1; omega)⟩
/-- 'append(b, byte)' on a row of bytes of one's own. -/
theorem wpList_byte {w : World} {ops : Array Oper} {rest : List Oper} {o : Oper} {a : Act} {Q : Exit → Act → World → Prop} (hgd : o.guard = none) (s x : Operand)
    (ho : o.op = .call { callee := .builtin .append, args := #[s, x], argTypes := #[48, 48] })
    {B : Nat} {v : Value} {ob : List UInt8} {U : Int} {u : UInt8} (hs : a.eval s = v) (hx : a.eval x = .slice (some ⟨w.heap.size, 0, none⟩) 1 1)
    (hB : B ≤ w.heap.size) (hv : Out w B v ob) (hU : U = (u.toNat : Int)) (hl : ob.length ≤ 1000000)
    (hK : ∀ g cap w', Below B w w' → Out w' B (.slice (some ⟨g, 0, none⟩) (ob.length + 1) cap) (ob ++ [u]) → wpList Tryd.prog ops Q rest (a.put o.dst (.slice (some ⟨g, 0, none⟩) (ob.length + 1) cap)) w') :
    wpList Tryd.prog ops Q (o :: rest) a (w.alloc (.cells #[.int .u8 U] 5)) := by
  subst hU
  obtain ⟨i, hi, hz, hsz, hby⟩ := info_parts infoB8
  have hb := (Below.refl w.heap.size w).alloc (Nat.le_refl _) (.cells #[.int .u8 (u.toNat : Int)] 5)
  have h1 := hv.go hb
  refine wpList_app _ hgd s x _ ho B 5 i _ 1 1 Tryd.underlying48 hi hz hsz hby rfl v ob.length (byteC ob) hs h1 ⟨w.heap.size, 0, none⟩ 1 1 [.int .u8 (u.toNat : Int)] hx rfl (World.news_of_block (cs := #[.int .u8 (u.toNat : Int)]) (t := 5) (fr := (0, 0)) (heap_alloc_new _ _)) (by simp [Value.oneCell']) (by omega) (by unfold maxLen; omega) (by omega) (by simp; omega) ?_
  intro g cap w' h2 h3
  refine hK g cap w' ((Below.mono hb hB).trans (app_belowQ (Nat.le_trans hB hb.size) h1 h3)) ?_
  unfold Out
  rw [byteC_push, List.length_append]
  exact h2
/-- 'append(b, byte, byte)' on a row of bytes of one's own. -/
theorem wpList_byte2 {w : World} {ops : Array Oper} {rest : List Oper} {o : Oper} {a : Act} {Q : Exit → Act → World → Prop} (hgd : o.guard = none) (s x : Operand)
    (ho : o.op = .call { callee := .builtin .append, args := #[s, x], argTypes := #[48, 48] })
    {B : Nat} {v : Value} {ob : List UInt8} {U1 U2 : Int} {u1 u2 : UInt8} (hs : a.eval s = v) (hx : a.eval x = .slice (some ⟨w.heap.size, 0, none⟩) 2 2)
    (hB : B ≤ w.heap.size) (hv : Out w B v ob) (hU1 : U1 = (u1.toNat : Int)) (hU2 : U2 = (u2.toNat : Int)) (hl : ob.length ≤ 1000000)
    (hK : ∀ g cap w', Below B w w' → Out w' B (.slice (some ⟨g, 0, none⟩) (ob.length + 2) cap) (ob ++ [u1, u2]) → wpList Tryd.prog ops Q rest (a.put o.dst (.slice (some ⟨g, 0, none⟩) (ob.length + 2) cap)) w') :
    wpList Tryd.prog ops Q (o :: rest) a (w.alloc (.cells #[.int .u8 U1, .int .u8 U2] 5)) := by
  subst hU1
  subst hU2
  obtain ⟨i, hi, hz, hsz, hby⟩ := info_parts infoB8
  have hb := (Below.refl w.heap.size w).alloc (Nat.le_refl _) (.cells #[.int .u8 (u1.toNat : Int), .int .u8 (u2.toNat : Int)] 5)
  have h1 := hv.go hb
  refine wpList_app _ hgd s x _ ho B 5 i _ 1 1 Tryd.underlying48 hi hz hsz hby rfl v ob.length (byteC ob) hs h1 ⟨w.heap.size, 0, none⟩ 2 2 [.int .u8 (u1.toNat : Int), .int .u8 (u2.toNat : Int)] hx rfl (World.news_of_block (cs := #[.int .u8 (u1.toNat : Int), .int .u8 (u2.toNat : Int)]) (t := 5) (fr := (0, 0)) (heap_alloc_new _ _)) (by simp [Value.oneCell']) (by omega) (by unfold maxLen; omega) (by omega) (by simp; omega) ?_
  intro g cap w' h2 h3
  refine hK g cap w' ((Below.mono hb hB).trans (app_belowQ (Nat.le_trans hB hb.size) h1 h3)) ?_
  unfold Out
  rw [show byteC (ob ++ [u1, u2]) = byteC ob ++ [.int .u8 (u1.toNat : Int), .int .u8 (u2.toNat : Int)] from by simp [byteC], List.length_append]
  exact h2
end Go.Proofs.YtahgbbnpbhfaeaaDoor.Qt

/- The shelf's contracts of strings.Builder's WriteByte, WriteString, String at this dump. Conditions: as each says. -/
namespace Go.Proofs.YtahgbbnpbhfaeaaDoor.Qt
open Go.Shelf Go.RowKit

def lays167_ren : Go.Shelf.Ren := ⟨fun | 167 => 61 | 240 => 73 | 276 => 85 | n => n, fun | 0 => 0 | 3 => 3 | 4 => 4 | 5 => 5 | 9 => 9 | 20 => 20 | 37 => 48 | 70 => 74 | 72 => 76 | 75 => 83 | 80 => 87 | 127 => 106 | 164 => 111 | n => n, fun | n => n⟩
theorem lays167 : Go.Proofs.Lays.n167 Tryd.prog lays167_ren := {
  mixed := by kernel_rfl
  f167 := Tryd.func61.trans (congrArg some (by kernel_rfl))
  f240 := Tryd.func73.trans (congrArg some (by kernel_rfl))
  f276 := Tryd.func85.trans (congrArg some (by kernel_rfl))
  t0 := Tryd.underlying0
  a0 := Tryd.isAgg0
  z0 := Tryd.sizeOf0
  v0 := Tryd.zeroValue0
  t4 := Tryd.underlying4
  a4 := Tryd.isAgg4
  z4 := Tryd.sizeOf4
  v4 := Tryd.zeroValue4
  t5 := Tryd.underlying5
  a5 := Tryd.isAgg5
  z5 := Tryd.sizeOf5
  v5 := Tryd.zeroValue5
  t9 := Tryd.underlying9
  a9 := Tryd.isAgg9
  z9 := Tryd.sizeOf9
  v9 := Tryd.zeroValue9
  t20 := Tryd.underlying20
  a20 := Tryd.isAgg20
  z20 := Tryd.sizeOf20
  v20 := Tryd.zeroValue20
  t37 := Tryd.underlying48
  a37 := Tryd.isAgg48
  z37 := Tryd.sizeOf48
  v37 := Tryd.zeroValue48
  t70 := Tryd.underlying74
  a70 := Tryd.isAgg74
  z70 := Tryd.sizeOf74
  v70 := Tryd.zeroValue74
  t72 := Tryd.underlying76
  a72 := Tryd.isAgg76
  z72 := Tryd.sizeOf76
  v72 := Tryd.zeroValue76
  t75 := Tryd.underlying83
  a75 := Tryd.isAgg83
  z75 := Tryd.sizeOf83
  v75 := Tryd.zeroValue83
  t164 := Tryd.underlying111
  a164 := Tryd.isAgg111
  z164 := Tryd.sizeOf111
  v164 := Tryd.zeroValue111 }
theorem extra167 : Builder.Extra Tryd.prog lays167_ren := {
  sizeBuilder := by kernel_rfl
  liesBuilder := by kernel_rfl
  t5 := Tryd.underlying5
  a5 := Tryd.isAgg5
  z5 := Tryd.sizeOf5
  v5 := Tryd.zeroValue5
  infoByte := by kernel_rfl
  cellsByte := by kernel_rfl
  sizeByte := by kernel_rfl
  neB5 := by decide }
def lays166_ren : Go.Shelf.Ren := ⟨fun | 166 => 62 | 240 => 73 | 276 => 85 | n => n, fun | 0 => 0 | 3 => 3 | 4 => 4 | 5 => 5 | 9 => 9 | 20 => 20 | 37 => 48 | 70 => 74 | 72 => 76 | 75 => 83 | 80 => 87 | 127 => 106 | 164 => 111 | n => n, fun | n => n⟩
theorem lays166 : Go.Proofs.Lays.n166 Tryd.prog lays166_ren := {
  mixed := by kernel_rfl
  f166 := Tryd.func62.trans (congrArg some (by kernel_rfl))
  f240 := Tryd.func73.trans (congrArg some (by kernel_rfl))
  f276 := Tryd.func85.trans (congrArg some (by kernel_rfl))
  t0 := Tryd.underlying0
  a0 := Tryd.isAgg0
  z0 := Tryd.sizeOf0
  v0 := Tryd.zeroValue0
  t3 := Tryd.underlying3
  a3 := Tryd.isAgg3
  z3 := Tryd.sizeOf3
  v3 := Tryd.zeroValue3
  t4 := Tryd.underlying4
  a4 := Tryd.isAgg4
  z4 := Tryd.sizeOf4
  v4 := Tryd.zeroValue4
  t9 := Tryd.underlying9
  a9 := Tryd.isAgg9
  z9 := Tryd.sizeOf9
  v9 := Tryd.zeroValue9
  t20 := Tryd.underlying20
  a20 := Tryd.isAgg20
  z20 := Tryd.sizeOf20
  v20 := Tryd.zeroValue20
  t37 := Tryd.underlying48
  a37 := Tryd.isAgg48
  z37 := Tryd.sizeOf48
  v37 := Tryd.zeroValue48
  t70 := Tryd.underlying74
  a70 := Tryd.isAgg74
  z70 := Tryd.sizeOf74
  v70 := Tryd.zeroValue74
  t72 := Tryd.underlying76
  a72 := Tryd.isAgg76
  z72 := Tryd.sizeOf76
  v72 := Tryd.zeroValue76
  t75 := Tryd.underlying83
  a75 := Tryd.isAgg83
  z75 := Tryd.sizeOf83
  v75 := Tryd.zeroValue83
  t164 := Tryd.underlying111
  a164 := Tryd.isAgg111
  z164 := Tryd.sizeOf111
  v164 := Tryd.zeroValue111 }
theorem extra166 : Builder.Extra Tryd.prog lays166_ren := {
  sizeBuilder := by kernel_rfl
  liesBuilder := by kernel_rfl
  t5 := Tryd.underlying5
  a5 := Tryd.isAgg5
  z5 := Tryd.sizeOf5
  v5 := Tryd.zeroValue5
  infoByte := by kernel_rfl
  cellsByte := by kernel_rfl
  sizeByte := by kernel_rfl
  neB5 := by decide }
def lays169_ren : Go.Shelf.Ren := ⟨fun | 169 => 60 | n => n, fun | 0 => 0 | 3 => 3 | 4 => 4 | 5 => 5 | 9 => 9 | 20 => 20 | 37 => 48 | 70 => 74 | 72 => 76 | 75 => 83 | 80 => 87 | 127 => 106 | 164 => 111 | n => n, fun | n => n⟩
theorem lays169 : Go.Proofs.Lays.n169 Tryd.prog lays169_ren := {
  mixed := by kernel_rfl
  f169 := Tryd.func60.trans (congrArg some (by kernel_rfl))
  t0 := Tryd.underlying0
  a0 := Tryd.isAgg0
  z0 := Tryd.sizeOf0
  v0 := Tryd.zeroValue0
  t3 := Tryd.underlying3
  a3 := Tryd.isAgg3
  z3 := Tryd.sizeOf3
  v3 := Tryd.zeroValue3
  t9 := Tryd.underlying9
  a9 := Tryd.isAgg9
  z9 := Tryd.sizeOf9
  v9 := Tryd.zeroValue9
  t37 := Tryd.underlying48
  a37 := Tryd.isAgg48
  z37 := Tryd.sizeOf48
  v37 := Tryd.zeroValue48
  t70 := Tryd.underlying74
  a70 := Tryd.isAgg74
  z70 := Tryd.sizeOf74
  v70 := Tryd.zeroValue74
  t72 := Tryd.underlying76
  a72 := Tryd.isAgg76
  z72 := Tryd.sizeOf76
  v72 := Tryd.zeroValue76
  t127 := Tryd.underlying106
  a127 := Tryd.isAgg106
  z127 := Tryd.sizeOf106
  v127 := Tryd.zeroValue106 }
theorem extra169 : Builder.Extra Tryd.prog lays169_ren := {
  sizeBuilder := by kernel_rfl
  liesBuilder := by kernel_rfl
  t5 := Tryd.underlying5
  a5 := Tryd.isAgg5
  z5 := Tryd.sizeOf5
  v5 := Tryd.zeroValue5
  infoByte := by kernel_rfl
  cellsByte := by kernel_rfl
  sizeByte := by kernel_rfl
  neB5 := by decide }
theorem Builder_WriteByte_k (B b : Nat) (bs : List Value) (c : Int) (w : World) (h : Lib.IsBuilderF 76 5 B b bs w) (hlen : bs.length + 1 ≤ 140737488355328) (hBw : B ≤ w.heap.size) :
    Calls Tryd.prog 61 #[.pointer (some ⟨b, 0, none⟩), .int .u8 c] w fun e w' => e = .returned .nilIface ∧ (Lib.BuilderAtF 76 5 B b (.pointer (some ⟨b, 0, none⟩)) (bs ++ [.int .u8 c]) w' ∧ Below B w w' ∧ Lib.OthersKept 5 (some b) w w') := Any.Builder_WriteByte_k lays167 extra167 B b bs c w h hlen hBw
theorem Builder_WriteString_k (B b : Nat) (bs : List Value) (s : ByteArray) (w : World) (h : Lib.IsBuilderF 76 5 B b bs w) (hlen : bs.length + s.size ≤ 140737488355328) (hBw : B ≤ w.heap.size) :
    Calls Tryd.prog 62 #[.pointer (some ⟨b, 0, none⟩), .string s] w fun e w' => e = .returned (.tuple #[.int .i64 s.size, .nilIface]) ∧ (Lib.BuilderAtF 76 5 B b (.pointer (some ⟨b, 0, none⟩)) (bs ++ Lib.strCells s) w' ∧ Below B w w' ∧ Lib.OthersKept 5 (some b) w w') := Any.Builder_WriteString_k lays166 extra166 B b bs s w h hlen hBw
theorem Builder_String_k (B b : Nat) (l : List UInt8) (w : World) (h : Lib.IsBuilderF 76 5 B b (Lib.byteCells l) w) (hBw : B ≤ w.heap.size) :
    Calls Tryd.prog 60 #[.pointer (some ⟨b, 0, none⟩)] w fun e w' => e = .returned (.string ⟨l.toArray⟩) ∧ (Lib.IsBuilderF 76 5 B b (Lib.byteCells l) w' ∧ Below B w w' ∧ Lib.OthersKept 5 (some b) w w') := Any.Builder_String_any_k lays169 extra169 B b l w h hBw
end Go.Proofs.YtahgbbnpbhfaeaaDoor.Qt
