/- append(b, byte), append(b, byte, byte) on a row of one's own. No condition. -/
import Derived.Test.YtdgjegkoncodaaaDoorScTextW
namespace Go.Proofs.YtdgjegkoncodaaaDoor
open Go.RowKit

/-- A row of one's own that has grown: what stood below is as it was. -/
theorem app_belowQ {w w' : World} {B g n : Nat} {e : TypeId} {v : Value} {xs : List Value} (hB : B ≤ w.heap.size) (hv : w.ownsRow B e 1 v n xs) (hat : AppAt w v g w') : Below B w w' := by
  have hg := hat.grown
  exact ⟨hg.os, hg.tape, hg.output, hg.size, fun k hk => hg.block k (Nat.lt_of_lt_of_le hk hB) (fun e => by have := (row_lt hv e.symm).2.1; omega)⟩
/-- 'append(b, byte)' on a row of bytes of one's own. -/
theorem wpList_byte {w : World} {ops : Array Oper} {rest : List Oper} {o : Oper} {a : Act} {Q : Exit → Act → World → Prop} (hgd : o.guard = none) (s x : Operand)
    (ho : o.op = .call { callee := .builtin .append, args := #[s, x], argTypes := #[30, 30] })
    {B : Nat} {v : Value} {ob : List UInt8} {U : Int} {u : UInt8} (hs : a.eval s = v) (hx : a.eval x = .slice (some ⟨w.heap.size, 0, none⟩) 1 1)
    (hB : B ≤ w.heap.size) (hv : Out w B v ob) (hU : U = (u.toNat : Int)) (hl : ob.length ≤ 1000000)
    (hK : ∀ g cap w', Below B w w' → Out w' B (.slice (some ⟨g, 0, none⟩) (ob.length + 1) cap) (ob ++ [u]) → wpList Tryd.prog ops Q rest (a.put o.dst (.slice (some ⟨g, 0, none⟩) (ob.length + 1) cap)) w') :
    wpList Tryd.prog ops Q (o :: rest) a (w.alloc (.cells #[.int .u8 U] 5)) := by
  subst hU
  obtain ⟨i, hi, hz, hsz, hby⟩ := info_parts infoB8
  have hb := (Below.refl w.heap.size w).alloc (Nat.le_refl _) (.cells #[.int .u8 (u.toNat : Int)] 5)
  have h1 := hv.go hb
  refine wpList_app _ hgd s x _ ho B 5 i _ 1 1 Tryd.underlying30 hi hz hsz hby rfl v ob.length (byteC ob) hs h1 ⟨w.heap.size, 0, none⟩ 1 1 [.int .u8 (u.toNat : Int)] hx rfl (World.news_of_block (cs := #[.int .u8 (u.toNat : Int)]) (t := 5) (fr := (0, 0)) (heap_alloc_new _ _)) (by simp [Value.oneCell']) (by omega) (by unfold maxLen; omega) (by omega) (by simp; omega) ?_
  intro g cap w' h2 h3
  refine hK g cap w' ((Below.mono hb hB).trans (app_belowQ (Nat.le_trans hB hb.size) h1 h3)) ?_
  unfold Out
  rw [byteC_push, List.length_append]
  exact h2
/-- 'append(b, byte, byte)' on a row of bytes of one's own. -/
theorem wpList_byte2 {w : World} {ops : Array Oper} {rest : List Oper} {o : Oper} {a : Act} {Q : Exit → Act → World → Prop} (hgd : o.guard = none) (s x : Operand)
    (ho : o.op = .call { callee := .builtin .append, args := #[s, x], argTypes := #[30, 30] })
    {B : Nat} {v : Value} {ob : List UInt8} {U1 U2 : Int} {u1 u2 : UInt8} (hs : a.eval s = v) (hx : a.eval x = .slice (some ⟨w.heap.size, 0, none⟩) 2 2)
    (hB : B ≤ w.heap.size) (hv : Out w B v ob) (hU1 : U1 = (u1.toNat : Int)) (hU2 : U2 = (u2.toNat : Int)) (hl : ob.length ≤ 1000000)
    (hK : ∀ g cap w', Below B w w' → Out w' B (.slice (some ⟨g, 0, none⟩) (ob.length + 2) cap) (ob ++ [u1, u2]) → wpList Tryd.prog ops Q rest (a.put o.dst (.slice (some ⟨g, 0, none⟩) (ob.length + 2) cap)) w') :
    wpList Tryd.prog ops Q (o :: rest) a (w.alloc (.cells #[.int .u8 U1, .int .u8 U2] 5)) := by
  subst hU1
  subst hU2
  obtain ⟨i, hi, hz, hsz, hby⟩ := info_parts infoB8
  have hb := (Below.refl w.heap.size w).alloc (Nat.le_refl _) (.cells #[.int .u8 (u1.toNat : Int), .int .u8 (u2.toNat : Int)] 5)
  have h1 := hv.go hb
  refine wpList_app _ hgd s x _ ho B 5 i _ 1 1 Tryd.underlying30 hi hz hsz hby rfl v ob.length (byteC ob) hs h1 ⟨w.heap.size, 0, none⟩ 2 2 [.int .u8 (u1.toNat : Int), .int .u8 (u2.toNat : Int)] hx rfl (World.news_of_block (cs := #[.int .u8 (u1.toNat : Int), .int .u8 (u2.toNat : Int)]) (t := 5) (fr := (0, 0)) (heap_alloc_new _ _)) (by simp [Value.oneCell']) (by omega) (by unfold maxLen; omega) (by omega) (by simp; omega) ?_
  intro g cap w' h2 h3
  refine hK g cap w' ((Below.mono hb hB).trans (app_belowQ (Nat.le_trans hB hb.size) h1 h3)) ?_
  unfold Out
  rw [show byteC (ob ++ [u1, u2]) = byteC ob ++ [.int .u8 (u1.toNat : Int), .int .u8 (u2.toNat : Int)] from by simp [byteC], List.length_append]
  exact h2
end Go.Proofs.YtdgjegkoncodaaaDoor
