/- Texts that a claim's limit of files puts together: Kit, ExLaw, App, Region, RegP. -/
import Derived.Test.YtahgbbnpbhfaeaaDoorRows
import Derived.WalkKit
import Derived.WalkSpells
import Derived.WalkLawsBesides
import Derived.Lib.Hide
import Derived.Deep.RegionHeld3
import Derived.Deep.QuietTactic
import Derived.BigQuiet
import Derived.BigRegion
import Derived.OrdersHeld
import Derived.StillTail
import Derived.Deep.DeepCutAuto
import Derived.Deep.LoopGhost
import Derived.Deep.AppendLies
import Derived.Maps.RangeWalk
import Derived.Maps.Views
/- Small lemmas for walks: ends of a walk, rows of integers, frames of worlds. No condition. -/
namespace Go.Proofs.YtahgbbnpbhfaeaaDoor
open Go.RowKit

theorem eret {a b : Value} (h : a = b) : Ending.returned a = .returned b := by rw [h]
theorem eret_bool {a b : Bool} (h : a = b) : Ending.returned (.bool a) = .returned (.bool b) := by rw [h]
theorem eret_int {k : IntKind} {a b : Int} (h : a = b) : Ending.returned (.int k a) = .returned (.int k b) := by rw [h]

/-- Where a walk is to stand still. -/
def Hold (p : Prop) : Prop := p
theorem hold {p : Prop} (h : Hold p) : p := h
theorem Hold.mk {p : Prop} (h : p) : Hold p := h

abbrev ints (xs : List Int) : List Value := xs.map (Value.int .i64)

theorem Tryd.info3 : (Tryd.prog.info? 3).map (fun i => (i.zero, i.size, i.bytes)) = some (some (.int .i64 0), 1, 8) := by kernel_rfl

/-- A row of ints that is owned: its cells. -/
theorem ints_cell {w : World} {base : Nat} {e : TypeId} {g n cap : Nat} {xs : List Int} (h : w.ownsRow base e 1 (.slice (some ⟨g, 0, none⟩) n cap) n (ints xs)) (k : Nat) (hk : k < n) :
    w.cell? ⟨g, k, none⟩ = some (.int .i64 (xs.getD k 0)) := by
  have hl : xs.length = n := by have := h.1; simpa using this
  have := h.cells (g := g) rfl k (.int .i64 (xs.getD k 0)) (by simp [List.getD, hl, hk])
  simpa [Addr.add_lit] using this
theorem ints_len {w : World} {base : Nat} {e : TypeId} {v : Value} {n : Nat} {xs : List Int} (h : w.ownsRow base e 1 v n (ints xs)) : xs.length = n := by
  have := h.1; simpa using this
theorem row_base {w : World} {b b' : Nat} {e : TypeId} {s : Nat} {v : Value} {n : Nat} {xs : List Value} (h : w.ownsRow b e s v n xs) (hb : ∀ k, v.ownBlock = some k → b' ≤ k) : w.ownsRow b' e s v n xs := by
  obtain ⟨h1, h2⟩ := h
  refine ⟨h1, ?_⟩
  rcases h2 with h2 | ⟨g, cap, cur, rfl, h3, h4⟩
  · exact .inl h2
  · exact .inr ⟨g, cap, cur, rfl, hb g rfl, h4⟩
theorem row_form {w : World} {b : Nat} {e : TypeId} {s : Nat} {v : Value} {n : Nat} {xs : List Value} (h : w.ownsRow b e s v n xs) : ∃ a cap, v = .slice a n cap := by
  rcases h.2 with ⟨rfl, rfl⟩ | ⟨g, cap, cur, rfl, _⟩
  · exact ⟨none, 0, rfl⟩
  · exact ⟨_, _, rfl⟩
theorem cell_alloc {w : World} {o : Obj} {a : Addr} {v : Value} (h : w.cell? a = some v) : (w.alloc o).cell? a = some v := by
  rw [World.cell?_alloc_lt _ _ _ (World.block_lt_of_cell? _ _ h)]; exact h
theorem row_drew {w : World} {b : Nat} {e : TypeId} {s : Nat} {v : Value} {n : Nat} {xs : List Value} (h : w.ownsRow b e s v n xs) : w.drew.ownsRow b e s v n xs := h
theorem row_zero {w : World} {b : Nat} {e : TypeId} {s : Nat} {v : Value} {n : Nat} {xs : List Value} (h : w.ownsRow b e s v n xs) : w.ownsRow 0 e s v n xs := row_base h (fun _ _ => Nat.zero_le _)


end Go.Proofs.YtahgbbnpbhfaeaaDoor

/- Sizes, word by word, in plain lists: no program is in sight. No condition. -/
namespace Go.Proofs.YtahgbbnpbhfaeaaDoor

/-- What words say, the lowest first. -/
def ofW : List Nat → Nat
  | [] => 0
  | x :: l => x + 4294967296 * ofW l
/-- Without the words 0 at the end. -/
def trimZ : List Nat → List Nat
  | [] => []
  | x :: l => if (trimZ l).isEmpty && x == 0 then [] else x :: trimZ l
def Words (z : List Nat) : Prop := ∀ x ∈ z, x < 4294967296
/-- A size's own words. -/
def canW : Nat → List Nat
  | 0 => []
  | n + 1 => (n + 1) % 4294967296 :: canW ((n + 1) / 4294967296)
decreasing_by exact Nat.div_lt_self (Nat.succ_pos _) (by decide)

theorem Words.nil : Words [] := fun _ h => by simp at h
theorem Words.cons {x : Nat} {l : List Nat} : Words (x :: l) ↔ x < 4294967296 ∧ Words l := by simp [Words]
theorem Words.append {l m : List Nat} : Words (l ++ m) ↔ Words l ∧ Words m := by
  constructor
  · exact fun h => ⟨fun x hx => h x (by simp [hx]), fun x hx => h x (by simp [hx])⟩
  · rintro ⟨h1, h2⟩ x hx
    rcases List.mem_append.1 hx with hx | hx
    · exact h1 x hx
    · exact h2 x hx
theorem Words.take {l : List Nat} (h : Words l) (n : Nat) : Words (l.take n) := fun x hx => h x (List.mem_of_mem_take hx)
theorem Words.get {l : List Nat} (h : Words l) (i : Nat) : l.getD i 0 < 4294967296 := by
  simp only [List.getD]
  cases hi : l[i]? with
  | none => simp
  | some x => simpa using h x (List.mem_of_getElem? hi)

theorem ofW_append : ∀ l m : List Nat, ofW (l ++ m) = ofW l + 4294967296 ^ l.length * ofW m
  | [], m => by simp [ofW]
  | x :: l, m => by
    simp only [List.cons_append, ofW, ofW_append l m, List.length_cons, Nat.pow_succ, Nat.mul_add, Nat.add_assoc]
    rw [show 4294967296 * (4294967296 ^ l.length * ofW m) = 4294967296 ^ l.length * 4294967296 * ofW m by rw [← Nat.mul_assoc, Nat.mul_comm 4294967296]]
theorem ofW_lt : ∀ {l : List Nat}, Words l → ofW l < 4294967296 ^ l.length
  | [], _ => by simp [ofW]
  | x :: l, h => by
    obtain ⟨h1, h2⟩ := Words.cons.1 h
    have := ofW_lt h2
    simp only [ofW, List.length_cons, Nat.pow_succ]
    omega
theorem ofW_trim : ∀ l : List Nat, ofW (trimZ l) = ofW l
  | [] => rfl
  | x :: l => by
    have h := ofW_trim l
    simp only [trimZ]
    split
    · rename_i hc
      simp at hc
      obtain ⟨h1, h2⟩ := hc
      rw [h1] at h
      simp only [ofW] at h ⊢
      omega
    · simp only [ofW, h]
theorem Words.trim : ∀ {l : List Nat}, Words l → Words (trimZ l)
  | [], h => h
  | x :: l, h => by
    obtain ⟨h1, h2⟩ := Words.cons.1 h
    simp only [trimZ]
    split
    · exact Words.nil
    · exact Words.cons.2 ⟨h1, h2.trim⟩
theorem trim_can : ∀ {l : List Nat}, Words l → trimZ l = canW (ofW l)
  | [], _ => by simp [trimZ, ofW, canW]
  | x :: l, h => by
    obtain ⟨h1, h2⟩ := Words.cons.1 h
    have ih := trim_can h2
    simp only [trimZ, ofW]
    split
    · rename_i hc
      simp at hc
      obtain ⟨h3, h4⟩ := hc
      have h5 := ofW_trim l
      rw [h3] at h5
      simp only [ofW] at h5
      rw [h4, ← h5]
      simp [canW]
    · rename_i hc
      have hne : x + 4294967296 * ofW l ≠ 0 := fun e => by
        have hx : x = 0 := by omega
        have hl : ofW l = 0 := by omega
        rw [hl] at ih
        rw [ih] at hc
        simp [canW, hx] at hc
      obtain ⟨m, hm⟩ := Nat.exists_eq_succ_of_ne_zero hne
      rw [hm, Nat.succ_eq_add_one, canW]
      have e1 : (m + 1) % 4294967296 = x := by omega
      have e2 : (m + 1) / 4294967296 = ofW l := by omega
      rw [e1, e2, ih]
theorem canW_words : ∀ n : Nat, Words (canW n) ∧ ofW (canW n) = n := by
  intro n
  induction n using Nat.strongRecOn with
  | _ n ih =>
    cases n with
    | zero => simp [canW, ofW, Words]
    | succ n =>
      obtain ⟨h1, h2⟩ := ih ((n + 1) / 4294967296) (Nat.div_lt_self (Nat.succ_pos _) (by decide))
      rw [canW]
      refine ⟨Words.cons.2 ⟨Nat.mod_lt _ (by decide), h1⟩, ?_⟩
      simp only [ofW, h2]
      omega
theorem canW_nil (n : Nat) : canW n = [] ↔ n = 0 := by
  cases n with
  | zero => simp [canW]
  | succ n => simp [canW]
theorem trim_pre : ∀ l : List Nat, trimZ l = l.take (trimZ l).length
  | [] => rfl
  | x :: l => by
    have h := trim_pre l
    simp only [trimZ]
    split
    · rfl
    · simp only [List.length_cons, List.take_succ_cons]
      rw [← h]
theorem trim_le : ∀ l : List Nat, (trimZ l).length ≤ l.length
  | [] => Nat.le_refl _
  | x :: l => by
    have h := trim_le l
    simp only [trimZ]
    split
    · simp
    · simp; exact h
theorem trim_snoc0 : ∀ l : List Nat, trimZ (l ++ [0]) = trimZ l
  | [] => by simp [trimZ]
  | x :: l => by simp only [List.cons_append, trimZ, trim_snoc0 l]
theorem trim_snoc : ∀ (l : List Nat) (x : Nat), x ≠ 0 → trimZ (l ++ [x]) = l ++ [x]
  | [], x, h => by simp [trimZ, h]
  | y :: l, x, h => by
    simp only [List.cons_append, trimZ, trim_snoc l x h]
    simp
/-- One step of a trimming loop. -/
theorem trim_step (l : List Nat) (n : Nat) (hn : n < l.length) : trimZ (l.take (n + 1)) = if l.getD n 0 = 0 then trimZ (l.take n) else l.take (n + 1) := by
  have e : l.take (n + 1) = l.take n ++ [l.getD n 0] := by
    rw [List.take_add_one, List.getElem?_eq_getElem hn]
    simp [List.getD, hn]
  rw [e]
  split
  · rename_i h
    rw [h, trim_snoc0]
  · rename_i h
    exact trim_snoc _ _ h
theorem trim_nil (l : List Nat) : trimZ l = [] ↔ ofW l = 0 := by
  constructor
  · intro h
    have := ofW_trim l
    rw [h] at this
    simpa [ofW] using this.symm
  · induction l with
    | nil => intro _; rfl
    | cons x l ih =>
      intro h
      simp only [ofW] at h
      have hx : x = 0 := by omega
      have hl : ofW l = 0 := by omega
      simp [trimZ, ih hl, hx]

/-- Below, like, above. -/
def cmpN (a b : Nat) : Int := if a < b then -1 else if a = b then 0 else 1
def cmpI (a b : Int) : Int := if a < b then -1 else if a = b then 0 else 1
/-- The top word of words in form is none of 0. -/
theorem trim_top {l : List Nat} (h : trimZ l = l) (hl : l ≠ []) : 4294967296 ^ (l.length - 1) ≤ ofW l := by
  have hn : 0 < l.length := List.length_pos_iff.2 hl
  have e : l = l.take (l.length - 1) ++ [l.getD (l.length - 1) 0] := by
    have := trim_step l (l.length - 1) (by omega)
    rw [show l.length - 1 + 1 = l.length by omega, List.take_length] at this
    have e : l.take (l.length - 1 + 1) = l.take (l.length - 1) ++ [l.getD (l.length - 1) 0] := by
      rw [List.take_add_one, List.getElem?_eq_getElem (show l.length - 1 < l.length by omega)]
      simp [List.getD, show l.length - 1 < l.length by omega]
    rwa [show l.length - 1 + 1 = l.length by omega, List.take_length] at e
  have h0 : l.getD (l.length - 1) 0 ≠ 0 := fun h0 => by
    have := trim_step l (l.length - 1) (by omega)
    rw [show l.length - 1 + 1 = l.length by omega, List.take_length, if_pos h0, h] at this
    have hl := congrArg List.length this
    have := trim_le (l.take (l.length - 1))
    simp at this
    omega
  have hv : ofW l = ofW (l.take (l.length - 1)) + 4294967296 ^ (l.length - 1) * l.getD (l.length - 1) 0 := by
    have h9 := congrArg ofW e
    rw [ofW_append] at h9
    simp only [ofW, List.length_take, Nat.mul_zero, Nat.add_zero] at h9
    rw [Nat.min_eq_left (by omega)] at h9
    exact h9
  rw [hv]
  have : 4294967296 ^ (l.length - 1) * 1 ≤ 4294967296 ^ (l.length - 1) * l.getD (l.length - 1) 0 := Nat.mul_le_mul_left _ (by omega)
  omega
theorem trim_idem {l : List Nat} : trimZ (trimZ l) = trimZ l := by
  induction l with
  | nil => rfl
  | cons x l ih =>
    simp only [trimZ]
    split
    · rfl
    · rename_i h
      simp only [trimZ, ih]
      rw [if_neg h]
theorem ofW_len_lt {l m : List Nat} (hm : Words l) (h1 : trimZ m = m) (hlt : l.length < m.length) : ofW l < ofW m := by
  have a1 := ofW_lt hm
  have a2 := trim_top h1 (fun e => by subst e; simp at hlt)
  have : 4294967296 ^ l.length ≤ 4294967296 ^ (m.length - 1) := Nat.pow_le_pow_right (by decide) (by omega)
  omega
/-- Held against each other from the top, above i they are alike. -/
theorem ofW_top {l m : List Nat} (hl : Words l) (hm : Words m) (he : l.length = m.length) (i : Nat) (hi : i < l.length) (htop : l.drop (i + 1) = m.drop (i + 1)) (h : l.getD i 0 < m.getD i 0) : ofW l < ofW m := by
  have split : ∀ (q : List Nat), Words q → i < q.length → ofW q = ofW (q.take i) + 4294967296 ^ i * (q.getD i 0 + 4294967296 * ofW (q.drop (i + 1))) ∧ ofW (q.take i) < 4294967296 ^ i := fun q hq hiq => by
    constructor
    · have e : q = q.take i ++ (q.getD i 0 :: q.drop (i + 1)) := by
        have : q.drop i = q.getD i 0 :: q.drop (i + 1) := by
          rw [List.drop_eq_getElem_cons hiq]
          simp [List.getD, hiq]
        rw [← this, List.take_append_drop]
      have h9 := congrArg ofW e
      rw [ofW_append] at h9
      simp only [ofW, List.length_take] at h9
      rw [Nat.min_eq_left (by omega)] at h9
      exact h9
    · have := ofW_lt (hq.take i)
      rw [List.length_take, Nat.min_eq_left (by omega)] at this
      exact this
  obtain ⟨a1, a2⟩ := split l hl hi
  obtain ⟨b1, b2⟩ := split m hm (by omega)
  rw [a1, b1, htop]
  have : 4294967296 ^ i * (l.getD i 0 + 4294967296 * ofW (m.drop (i + 1)) + 1) ≤ 4294967296 ^ i * (m.getD i 0 + 4294967296 * ofW (m.drop (i + 1))) := Nat.mul_le_mul_left _ (by omega)
  rw [Nat.mul_add _ _ 1, Nat.mul_one] at this
  omega
theorem pow_as (B b a k m : Nat) (hB : B = b ^ a) (hm : a * k = m) : B ^ k = b ^ m := by rw [hB, ← hm, Nat.pow_mul]
theorem pow16 : (4294967296 : Nat) ^ 16 = 2 ^ 512 := pow_as 4294967296 2 32 16 512 (by decide) (by decide)
theorem pow17 : (4294967296 : Nat) ^ 17 = 2 ^ 512 * 4294967296 := by rw [Nat.pow_succ, pow16]
theorem pow_mono (b k m : Nat) (hb : 0 < b) (h : k ≤ m) : b ^ k ≤ b ^ m := Nat.pow_le_pow_right hb h
theorem not_le_pow (a k m : Nat) (h : a < 2 ^ k) (hk : k ≤ m) : ¬ 2 ^ m ≤ a := Nat.not_le.2 (Nat.lt_of_lt_of_le h (pow_mono 2 k m (by decide) hk))
theorem lt512 {n : Nat} (h : n < 2 ^ 64) : ¬ 2 ^ 512 ≤ n := not_le_pow n 64 512 h (by decide)
end Go.Proofs.YtahgbbnpbhfaeaaDoor

/- append on a row that is owned, with more said of the world behind it: the row is written in place, or all that was there is as it was. No condition. -/
namespace Go.Proofs.YtahgbbnpbhfaeaaDoor
open Go.RowKit

/-- What an append leaves: the new row lies in block g: in the old one's place, or new (and then nothing that was there has turned). -/
def AppAt (w : World) (v : Value) (g : Nat) (w' : World) : Prop :=
  (v.ownBlock = some g ∧ w.grownBy w' (some g)) ∨ (g = w.heap.size ∧ w.grownBy w' none)

theorem AppAt.grown {w w' : World} {v : Value} {g : Nat} (h : AppAt w v g w') : w.grownBy w' v.ownBlock := by
  rcases h with ⟨h1, h2⟩ | ⟨_, h2⟩
  · rw [h1]; exact h2
  · exact ⟨h2.os, h2.tape, h2.output, h2.size, fun k hk _ => h2.block k hk (by simp)⟩
theorem AppAt.at {w w' : World} {v : Value} {g : Nat} (h : AppAt w v g w') : v.ownBlock = some g ∨ g = w.heap.size := by
  rcases h with ⟨h1, _⟩ | ⟨h1, _⟩
  · exact .inl h1
  · exact .inr h1
/-- The cells that were there already read as they did. -/
theorem AppAt.old {w w' : World} {base base' : Nat} {e : TypeId} {s n m cap c b : Nat} {xs ys : List Value} {g : Nat} (h : AppAt w (.slice (some ⟨b, 0, none⟩) n c) g w')
    (hx : w.ownsRow base e s (.slice (some ⟨b, 0, none⟩) n c) n xs) (hy : w'.ownsRow base' e s (.slice (some ⟨g, 0, none⟩) m cap) m (xs ++ ys)) : ∀ j u, xs[j]? = some u → w'.cell? ⟨b, j, none⟩ = some u := by
  intro j u hj
  rcases h with ⟨h1, _⟩ | ⟨_, h2⟩
  · have : b = g := by simpa [Value.ownBlock] using h1
    subst this
    have hlt : j < xs.length := (List.getElem?_eq_some_iff.1 hj).1
    have := hy.cells (g := b) rfl j u (by rw [List.getElem?_append_left hlt]; exact hj)
    simpa [Addr.add_lit] using this
  · have := hx.cells (g := b) rfl j u hj
    have h3 : w.cell? ⟨b, j, none⟩ = some u := by simpa [Addr.add_lit] using this
    exact h2.cell h3 (by simp)

section
variable {P : Program} (w : World)
theorem run_app (t ty : TypeId) (base : Nat) (e : TypeId) (i : TypeInfo) (z : Value) (size bytes : Nat) (ht : P.underlying t = some (.slice e)) (hi : P.info? e = some i) (hz : i.zero = some z)
    (hsize : i.size = size) (hby : i.bytes = bytes) (hzs : z.cells.size = size)
    (v : Value) (n : Nat) (xs : List Value) (hown : w.ownsRow base e size v n xs)
    (ad : Addr) (m c : Nat) (news : List Value) (hl : news.length = m * size) (hnews : ∀ j u, news[j]? = some u → w.cell? (ad.add j) = some u) (h1 : ∀ u ∈ news, u.oneCell' = true)
    (hm : 0 < m) (h63 : n + m ≤ maxLen) (hbytes : (n + m) * bytes ≤ 140737488355328) (hbase : base ≤ w.heap.size) :
    ∃ g cap w', (Builtin.append_ #[t, t] ty #[v, .slice (some ad) m c]).run P w = .ok (.slice (some ⟨g, 0, none⟩) (n + m) cap) w' ∧
      w'.ownsRow base e size (.slice (some ⟨g, 0, none⟩) (n + m) cap) (n + m) (xs ++ news) ∧ AppAt w v g w' := by
  subst hsize
  subst hby
  have hsmall : n + m ≤ 9223372036854775807 := by simp only [maxLen] at h63; omega
  have hlen : (xs ++ news).length = (n + m) * i.size := by rw [List.length_append, hown.1, hl, Nat.add_mul]
  have grown : ∀ (old : Nat), old < n + m →
      (w.drew.alloc (.cells (xs.toArray ++ news.toArray ++ Builtin.zeroCells z.cells (grownCap w (n + m) old e - (n + m))) e)).ownsRow base e i.size
        (.slice (some ⟨w.heap.size, 0, none⟩) (n + m) (grownCap w (n + m) old e)) (n + m) (xs ++ news) ∧
      w.grownBy (w.drew.alloc (.cells (xs.toArray ++ news.toArray ++ Builtin.zeroCells z.cells (grownCap w (n + m) old e - (n + m))) e)) none := by
    intro old ho
    have hge := grownCap_ge w (n + m) old e
    have hcm : grownCap w (n + m) old e ≤ maxLen := grownCap_le_maxLen w (n + m) old e h63
    refine ⟨⟨hlen, .inr ⟨w.heap.size, _, _, rfl, hbase, heap_alloc_new w.drew _, hge, hcm, ?_, ?_⟩⟩, ⟨rfl, rfl, rfl, by simp, fun k hk _ => Below.heap_alloc w.drew _ k hk⟩⟩
    · simp only [Array.size_append, List.size_toArray, size_zeroCells, hzs, hown.1, hl, ← Nat.add_mul]
      congr 1
      omega
    · simp only [Array.toList_append, List.append_assoc]
      rw [← List.append_assoc, ← hlen]
      exact List.take_left
  rcases hown.2 with ⟨rfl, rfl⟩ | ⟨g, cap, cur, rfl, hbg, hg, hnc, hcm, hcs, htake⟩
  · have hx : xs = [] := List.eq_nil_of_length_eq_zero (by simpa using hown.1)
    subst hx
    have hr := run_append_nil (P := P) w t ty e i z ht hi hz ad m c news hl hnews (by omega) (by omega) (by have hb := hbytes; simp only [Nat.zero_add] at hb; omega)
    have hgr := grown 0 (by omega)
    simp only [Nat.zero_add, List.nil_append, Array.empty_append] at hgr ⊢
    exact ⟨_, _, _, hr, hgr.1, .inr ⟨rfl, hgr.2⟩⟩
  · by_cases hroom : n + m ≤ cap
    · have hfit : n * i.size + news.length ≤ cur.size := by rw [hl, hcs, ← Nat.add_mul]; exact Nat.mul_le_mul_right _ hroom
      have hr := run_append_room (P := P) w t ty e i ht hi g n cap cur hg ad m c news hl hnews h1 hroom hfit
      refine ⟨_, _, _, hr, ⟨hlen, .inr ⟨g, cap, _, rfl, hbg, setRow_heap w g cur _ e _ hg, hroom, hcm, ?_, ?_⟩⟩, .inl ⟨rfl, ⟨rfl, rfl, rfl, by simp, fun k _ hk => setRow_other w g k _ (fun e => hk (by simp [e]))⟩⟩⟩
      · simp only [List.size_toArray, List.length_append, List.length_take, List.length_drop, Array.length_toList]
        omega
      · rw [htake, ← hlen]
        exact List.take_left
    · have holds : ∀ j u, xs[j]? = some u → w.cell? ((⟨g, 0, none⟩ : Addr).add j) = some u := hown.cells (g := g) rfl
      have hr := run_append_grow (P := P) w t ty e i z ht hi hz ⟨g, 0, none⟩ n cap xs hown.1 holds ad m c news hl hnews (by omega) (by omega) (growslice_fits (by omega) hbytes)
      have hgr := grown cap (by omega)
      exact ⟨_, _, _, hr, hgr.1, .inr ⟨rfl, hgr.2⟩⟩

theorem wp_app {o : Oper} {a : Act} {K : Act → World → Prop} {Q : Exit → Act → World → Prop} (s x : Operand) (t : TypeId)
    (ho : o.op = .call { callee := .builtin .append, args := #[s, x], argTypes := #[t, t] })
    (base : Nat) (e : TypeId) (i : TypeInfo) (z : Value) (size bytes : Nat) (ht : P.underlying t = some (.slice e)) (hi : P.info? e = some i) (hz : i.zero = some z)
    (hsize : i.size = size) (hby : i.bytes = bytes) (hzs : z.cells.size = size)
    (v : Value) (n : Nat) (xs : List Value) (hs : a.eval s = v) (hown : w.ownsRow base e size v n xs)
    (ad : Addr) (m c : Nat) (news : List Value) (hx : a.eval x = .slice (some ad) m c) (hl : news.length = m * size) (hnews : ∀ j u, news[j]? = some u → w.cell? (ad.add j) = some u) (h1 : ∀ u ∈ news, u.oneCell' = true)
    (hm : 0 < m) (h63 : n + m ≤ maxLen) (hbytes : (n + m) * bytes ≤ 140737488355328) (hbase : base ≤ w.heap.size)
    (h : ∀ g cap w', w'.ownsRow base e size (.slice (some ⟨g, 0, none⟩) (n + m) cap) (n + m) (xs ++ news) → AppAt w v g w' → K (a.put o.dst (.slice (some ⟨g, 0, none⟩) (n + m) cap)) w') : o.wp P a w K Q := by
  obtain ⟨g, cap, w', hr, h2, h3⟩ := run_app (P := P) w t o.type base e i z size bytes ht hi hz hsize hby hzs v n xs hown ad m c news hl hnews h1 hm h63 hbytes hbase
  unfold Oper.wp execOp
  simp only [ho, resolve, invoke, builtin, Sem.run_bind, Sem.run_pure, Result.andThen_ok, List.map_toArray, List.map_cons, List.map_nil, hs, hx, hr]
  exact h g cap w' h2 h3

/-- At a plain region's list. -/
theorem wpList_app {ops : Array Oper} {rest : List Oper} {o : Oper} {a : Act} {Q : Exit → Act → World → Prop} (hgd : o.guard = none) (s x : Operand) (t : TypeId)
    (ho : o.op = .call { callee := .builtin .append, args := #[s, x], argTypes := #[t, t] })
    (base : Nat) (e : TypeId) (i : TypeInfo) (z : Value) (size bytes : Nat) (ht : P.underlying t = some (.slice e)) (hi : P.info? e = some i) (hz : i.zero = some z)
    (hsize : i.size = size) (hby : i.bytes = bytes) (hzs : z.cells.size = size)
    (v : Value) (n : Nat) (xs : List Value) (hs : a.eval s = v) (hown : w.ownsRow base e size v n xs)
    (ad : Addr) (m c : Nat) (news : List Value) (hx : a.eval x = .slice (some ad) m c) (hl : news.length = m * size) (hnews : ∀ j u, news[j]? = some u → w.cell? (ad.add j) = some u) (h1 : ∀ u ∈ news, u.oneCell' = true)
    (hm : 0 < m) (h63 : n + m ≤ maxLen) (hbytes : (n + m) * bytes ≤ 140737488355328) (hbase : base ≤ w.heap.size)
    (h : ∀ g cap w', w'.ownsRow base e size (.slice (some ⟨g, 0, none⟩) (n + m) cap) (n + m) (xs ++ news) → AppAt w v g w' → wpList P ops Q rest (a.put o.dst (.slice (some ⟨g, 0, none⟩) (n + m) cap)) w') : wpList P ops Q (o :: rest) a w :=
  wpList_plain hgd fun _ hK => wp_app w s x t ho base e i z size bytes ht hi hz hsize hby hzs v n xs hs hown ad m c news hx hl hnews h1 hm h63 hbytes hbase fun g cap w' h2 h3 => hK _ _ (h g cap w' h2 h3)

/-- At a step of a region that draws its order. -/
theorem step_app {ops : Array Oper} {o : Oper} {a : Act} {K : Act → World → Prop} {Q : Exit → Act → World → Prop} {E : Prop} (hgd : o.guard = none) (s x : Operand) (t : TypeId)
    (ho : o.op = .call { callee := .builtin .append, args := #[s, x], argTypes := #[t, t] })
    (base : Nat) (e : TypeId) (i : TypeInfo) (z : Value) (size bytes : Nat) (ht : P.underlying t = some (.slice e)) (hi : P.info? e = some i) (hz : i.zero = some z)
    (hsize : i.size = size) (hby : i.bytes = bytes) (hzs : z.cells.size = size)
    (v : Value) (n : Nat) (xs : List Value) (hs : a.eval s = v) (hown : w.ownsRow base e size v n xs)
    (ad : Addr) (m c : Nat) (news : List Value) (hx : a.eval x = .slice (some ad) m c) (hl : news.length = m * size) (hnews : ∀ j u, news[j]? = some u → w.cell? (ad.add j) = some u) (h1 : ∀ u ∈ news, u.oneCell' = true)
    (hm : 0 < m) (h63 : n + m ≤ maxLen) (hbytes : (n + m) * bytes ≤ 140737488355328) (hbase : base ≤ w.heap.size)
    (h : ∀ g cap w', w'.ownsRow base e size (.slice (some ⟨g, 0, none⟩) (n + m) cap) (n + m) (xs ++ news) → AppAt w v g w' → K (a.put o.dst (.slice (some ⟨g, 0, none⟩) (n + m) cap)) w') :
    if Region.wanted o (yielded ops a.tmps) = true then Oper.wp P o a w K Q else E := by
  have hw : Region.wanted o (yielded ops a.tmps) = true := by simp [Region.wanted, hgd]
  rw [if_pos hw]
  exact wp_app w s x t ho base e i z size bytes ht hi hz hsize hby hzs v n xs hs hown ad m c news hx hl hnews h1 hm h63 hbytes hbase h
end

end Go.Proofs.YtahgbbnpbhfaeaaDoor

/- A law for a region that draws its order: it is walked once, in one order that is checked by the kernel, where what is loaded is held by a condition S until all loads are surely done. No condition beyond those that the law states. -/
namespace Go.Proofs.YtahgbbnpbhfaeaaDoor
open Go.RowKit

section
variable {P : Program} {ops : Array Oper} {Q : Exit → Act → World → Prop} {S Si : World → Prop} {need : Nat → Bool}

/-- Whatever is done has all done that it waits for. -/
def ClosedL (ops : Array Oper) (listed : Array Bool) : Prop :=
  ∀ j oj, ops[j]? = some oj → listed.getD j false = true → ∀ e ∈ oj.after, Region.binds .any e = true → listed.getD e.on false = true

theorem ClosedL.start (ops : Array Oper) : ClosedL ops (Array.replicate ops.size false) := by
  intro j oj _ hl
  rw [getD_replicate_false] at hl
  cases hl

theorem ClosedL.set {listed : Array Bool} {i : Nat} (h : ClosedL ops listed) (hi : i ∈ Region.ready .any ops listed) : ClosedL ops (listed.setIfInBounds i true) := by
  obtain ⟨_, oi, hoi, hall⟩ := mem_ready.1 hi
  intro j oj hj hl e he hb
  by_cases hij : i = j
  · subst hij
    have : oj = oi := Option.some.inj (hj.symm.trans hoi)
    subst this
    exact getD_set_true (hall e he hb)
  · rw [getD_set_ne false hij] at hl
    exact getD_set_true (h j oj hj hl e he hb)

def edgeB (ops : Array Oper) (j i : Nat) : Bool :=
  match ops[j]? with
  | some o => o.after.any fun e => Region.binds .any e && e.on == i
  | none => false
def pathB (ops : Array Oper) : Nat → List Nat → Bool
  | _, [] => true
  | j, i :: r => edgeB ops j i && pathB ops i r

theorem edge_listed {listed : Array Bool} (hc : ClosedL ops listed) {j i : Nat} (he : edgeB ops j i = true) (hj : j ∈ Region.ready .any ops listed ∨ listed.getD j false = true) : listed.getD i false = true := by
  unfold edgeB at he
  split at he
  · rename_i o ho
    obtain ⟨e, hm, hb⟩ := Array.any_eq_true'.1 he
    simp only [Bool.and_eq_true, beq_iff_eq] at hb
    rcases hj with hj | hj
    · obtain ⟨_, o', ho', hall⟩ := mem_ready.1 hj
      have : o' = o := Option.some.inj (ho'.symm.trans ho)
      subst this
      have := hall e hm hb.1
      rwa [hb.2] at this
    · have := hc j o ho hj e hm hb.1
      rwa [hb.2] at this
  · cases he

theorem path_listed {listed : Array Bool} (hc : ClosedL ops listed) : ∀ (p : List Nat) (j : Nat), pathB ops j p = true → p ≠ [] → (j ∈ Region.ready .any ops listed ∨ listed.getD j false = true) → ∀ l, p.getLast? = some l → listed.getD l false = true
  | [], _, _, hne, _, _, _ => absurd rfl hne
  | [i], j, hp, _, hj, l, hl => by
    simp only [pathB, Bool.and_true] at hp
    simp at hl
    subst hl
    exact edge_listed hc hp hj
  | i :: k :: r, j, hp, _, hj, l, hl => by
    rw [pathB, Bool.and_eq_true] at hp
    exact path_listed hc (k :: r) i hp.2 (by simp) (.inr (edge_listed hc hp.1 hj)) l (by simpa using hl)

/-- j comes up only when i is done. -/
def Blocked (ops : Array Oper) (j i : Nat) : Prop := ∀ listed, ClosedL ops listed → j ∈ Region.ready .any ops listed → listed.getD i false = true

/-- Whatever order is picked from here on; behind every operation but those of which 'need' says no, S holds if it held ahead. -/
def wpAnyX (P : Program) (ops : Array Oper) (Q : Exit → Act → World → Prop) (S : World → Prop) (need : Nat → Bool) : Nat → Array Bool → Act → World → Prop
  | 0, listed, a, w => Region.ready .any ops listed = [] ∧ Q .normal a w
  | fuel + 1, listed, a, w =>
    (Region.ready .any ops listed = [] → Q .normal a w) ∧
    ∀ i ∈ Region.ready .any ops listed, wpOp P ops Q i (fun a' w' => (need i = true → S w → S w') ∧ wpAnyX P ops Q S need fuel (listed.setIfInBounds i true) a' w') a w

theorem wpAny_of_X : ∀ (fuel : Nat) (listed : Array Bool) (a : Act) (w : World), wpAnyX P ops Q S need fuel listed a w → wpAny P .any ops Q fuel listed a w
  | 0, _, _, _, h => h
  | fuel + 1, _, _, _, h => ⟨h.1, fun i hi => wpOp_mono (fun a' w' h' => wpAny_of_X fuel _ a' w' h'.2) (h.2 i hi)⟩

theorem wpAnyX_first {i : Nat} {oi : Oper} {v : Value} (hi : ops[i]? = some oi) (hsel : ∀ (j : Nat) (o : Oper) cs b, ops[j]? = some o → o.op ≠ .select cs b)
    (hQ : ∀ c a w, Q (.panic c) (a.put oi.dst v) w → Q (.panic c) a w)
    (hSi : (Si = S ∧ ∀ j, need j = false → Blocked ops j i) ∨ ∀ w, Si w) :
    ∀ (fuel : Nat) (listed : Array Bool) (a : Act) (w : World), ClosedL ops listed →
      (∀ j oj, ops[j]? = some oj → j ≠ i → listed.getD j true = false → (∀ e ∈ oj.after, Region.binds .any e = true → e.on ≠ i) → oi.apart ops oj = true) →
      i ∈ Region.ready .any ops listed → YieldsIf P ops Si oi v a → Si w →
      wpAnyX P ops Q S need fuel (listed.setIfInBounds i true) (a.put oi.dst v) w → wpAnyX P ops Q S need (fuel + 1) listed a w := by
  intro fuel
  induction fuel with
  | zero =>
    intro listed a w _ _ hr hy hS H
    refine ⟨fun h => (by rw [h] at hr; cases hr), fun j hj => ?_⟩
    by_cases hji : j = i
    · subst hji; exact hy.wpOp hi hS ⟨fun _ h => h, H⟩
    · have := ready_mono hj hji
      rw [H.1] at this
      cases this
  | succ fuel ih =>
    intro listed a w hc hfree hr hy hS H
    refine ⟨fun h => (by rw [h] at hr; cases hr), fun j hj => ?_⟩
    by_cases hji : j = i
    · subst hji; exact hy.wpOp hi hS ⟨fun _ h => h, H⟩
    · have h1 := H.2 j (ready_mono hj hji)
      obtain ⟨hjun, oj, hoj, hall⟩ := mem_ready.1 hj
      have hiun : listed.getD i false = false := getD_both (mem_ready.1 hr).1
      have hnot : ∀ e ∈ oj.after, Region.binds .any e = true → e.on ≠ i := fun e he hb heq => by
        have h1 := hall e he hb
        rw [heq, hiun] at h1
        cases h1
      have h2 := wpOp_putIf hoj (hfree j oj hoj hji hjun hnot) (fun cs b => hsel i oi cs b hi) (fun cs b => hsel j oj cs b hoj) hQ hy h1
      have hfree' : ∀ k ok, ops[k]? = some ok → k ≠ i → (listed.setIfInBounds j true).getD k true = false →
          (∀ e ∈ ok.after, Region.binds .any e = true → e.on ≠ i) → oi.apart ops ok = true := fun k ok hk hki hun hno => by
        refine hfree k ok hk hki ?_ hno
        by_cases hjk : j = k
        · subst hjk; exact hjun
        · rw [getD_set_ne true hjk] at hun; exact hun
      refine wpOp_mono (fun a' w' h3 => ⟨h3.2.1, ih (listed.setIfInBounds j true) a' w' (hc.set hj) hfree' (ready_mono hr (Ne.symm hji)) h3.1 ?_ ?_⟩) h2
      · rcases hSi with ⟨rfl, hb⟩ | hS'
        · cases hn : need j with
          | true => exact h3.2.1 hn hS
          | false =>
            have := hb j hn listed hc hj
            rw [hiun] at this
            cases this
        · exact hS' w'
      · rw [Array.setIfInBounds_comm _ _ hji]
        exact h3.2.2

/-- The walk in one order: 0: a load that S holds · 1: what hangs on no world · 2: an effect behind which S still holds · 3: one that no load may follow. -/
def wpPi (P : Program) (ops : Array Oper) (Q : Exit → Act → World → Prop) (S : World → Prop) : List (Nat × Nat) → Act → World → Prop
  | [], a, w => Q .normal a w
  | (i, 0) :: r, a, w => ∃ o v, ops[i]? = some o ∧ YieldsIf P ops S o v a ∧ wpPi P ops Q S r (a.put o.dst v) w
  | (i, 1) :: r, a, w => ∃ o v, ops[i]? = some o ∧ YieldsIf P ops (fun _ => True) o v a ∧ wpPi P ops Q S r (a.put o.dst v) w
  | (i, 2) :: r, a, w => wpOp P ops Q i (fun a' w' => S w' ∧ wpPi P ops Q S r a' w') a w
  | (i, _) :: r, a, w => wpOp P ops Q i (fun a' w' => wpPi P ops Q S r a' w') a w

def piB (ops : Array Oper) : List (Nat × Nat) → Array Bool → Bool → Bool
  | [], listed, _ => (Region.ready .any ops listed).isEmpty
  | (i, 0) :: r, listed, alive => (Region.ready .any ops listed).contains i && Region.free .any ops listed i && alive && piB ops r (listed.setIfInBounds i true) alive
  | (i, 1) :: r, listed, alive => (Region.ready .any ops listed).contains i && Region.free .any ops listed i && piB ops r (listed.setIfInBounds i true) alive
  | (i, 2) :: r, listed, alive => decide (Region.ready .any ops listed = [i]) && alive && piB ops r (listed.setIfInBounds i true) alive
  | (i, _) :: r, listed, _ => decide (Region.ready .any ops listed = [i]) && piB ops r (listed.setIfInBounds i true) false

def needOf (pi : List (Nat × Nat)) (j : Nat) : Bool := !(pi.any fun x => x.1 == j && !(x.2 == 0 || x.2 == 1 || x.2 == 2))

/-- Each operation of kind 3 waits for each load, by a path that is given. -/
def pathsB (ops : Array Oper) (pi : List (Nat × Nat)) (paths : List (Nat × List Nat)) : Bool :=
  pi.all fun x => x.2 == 0 || x.2 == 1 || x.2 == 2 || pi.all fun y => !(y.2 == 0) || paths.any fun p => p.1 == x.1 && (p.2.getLast? == some y.1) && pathB ops p.1 p.2

theorem blocked_of {pi : List (Nat × Nat)} {paths : List (Nat × List Nat)} (h : pathsB ops pi paths = true) {i : Nat} (hi : (i, 0) ∈ pi) : ∀ j, needOf pi j = false → Blocked ops j i := by
  intro j hj
  simp only [needOf, Bool.not_eq_false', List.any_eq_true, Bool.and_eq_true, beq_iff_eq, Bool.not_eq_true', Bool.or_eq_false_iff] at hj
  obtain ⟨x, hx, rfl, hk⟩ := hj
  have h1 := List.all_eq_true.1 h x hx
  simp only [hk.1.1, hk.1.2, hk.2, Bool.false_or] at h1
  have h2 := List.all_eq_true.1 h1 (i, 0) hi
  simp only [BEq.rfl, Bool.not_true, Bool.false_or] at h2
  obtain ⟨p, _, hp⟩ := List.any_eq_true.1 h2
  simp only [Bool.and_eq_true, beq_iff_eq] at hp
  obtain ⟨⟨hp1, hp2⟩, hp3⟩ := hp
  intro listed hc hr
  rw [← hp1] at hr
  exact path_listed hc p.2 p.1 hp3 (by intro e; rw [e] at hp2; cases hp2) (.inl hr) i hp2

theorem wpAnyX_of_pi (hsel : Region.noSelect ops = true) (hQ : ∀ c a d v w, Q (.panic c) (Act.put a d v) w → Q (.panic c) a w) {pi0 : List (Nat × Nat)} {paths : List (Nat × List Nat)} (hp : pathsB ops pi0 paths = true) :
    ∀ (pi : List (Nat × Nat)) (listed : Array Bool) (alive : Bool) (a : Act) (w : World), (∀ x ∈ pi, x ∈ pi0) → piB ops pi listed alive = true → ClosedL ops listed → (alive = true → S w) →
      wpPi P ops Q S pi a w → wpAnyX P ops Q S (needOf pi0) pi.length listed a w
  | [], listed, alive, a, w, _, hB, _, _, h => ⟨by simpa [piB] using hB, h⟩
  | (i, 0) :: r, listed, alive, a, w, hm, hB, hc, hS, h => by
    simp only [piB, Bool.and_eq_true] at hB
    obtain ⟨⟨⟨hr, hf⟩, ha⟩, hB'⟩ := hB
    obtain ⟨o, v, ho, hy, h'⟩ := h
    have hr' : i ∈ Region.ready .any ops listed := by simpa using hr
    exact wpAnyX_first (Si := S) ho (Region.noSelect_spec hsel) (fun c a w => hQ c a o.dst v w) (.inl ⟨rfl, blocked_of hp (hm _ (by simp))⟩) r.length listed a w hc (Region.free_spec ho hf) hr' hy (hS ha)
      (wpAnyX_of_pi hsel hQ hp r _ alive _ w (fun x hx => hm x (by simp [hx])) hB' (hc.set hr') hS h')
  | (i, 1) :: r, listed, alive, a, w, hm, hB, hc, hS, h => by
    simp only [piB, Bool.and_eq_true] at hB
    obtain ⟨⟨hr, hf⟩, hB'⟩ := hB
    obtain ⟨o, v, ho, hy, h'⟩ := h
    have hr' : i ∈ Region.ready .any ops listed := by simpa using hr
    exact wpAnyX_first (Si := fun _ => True) ho (Region.noSelect_spec hsel) (fun c a w => hQ c a o.dst v w) (.inr (fun _ => trivial)) r.length listed a w hc (Region.free_spec ho hf) hr' hy trivial
      (wpAnyX_of_pi hsel hQ hp r _ alive _ w (fun x hx => hm x (by simp [hx])) hB' (hc.set hr') hS h')
  | (i, 2) :: r, listed, alive, a, w, hm, hB, hc, hS, h => by
    simp only [piB, Bool.and_eq_true, decide_eq_true_eq] at hB
    obtain ⟨⟨hr, ha⟩, hB'⟩ := hB
    have hr' : i ∈ Region.ready .any ops listed := by rw [hr]; simp
    refine ⟨fun h0 => (by rw [hr] at h0; cases h0), fun j hj => ?_⟩
    rw [hr] at hj
    have : j = i := by simpa using hj
    subst this
    exact wpOp_mono (fun a' w' h' => ⟨fun _ _ => h'.1, wpAnyX_of_pi hsel hQ hp r _ alive a' w' (fun x hx => hm x (by simp [hx])) hB' (hc.set hr') (fun _ => h'.1) h'.2⟩) h
  | (i, k + 3) :: r, listed, alive, a, w, hm, hB, hc, hS, h => by
    simp only [piB, Bool.and_eq_true, decide_eq_true_eq] at hB
    obtain ⟨hr, hB'⟩ := hB
    have hr' : i ∈ Region.ready .any ops listed := by rw [hr]; simp
    refine ⟨fun h0 => (by rw [hr] at h0; cases h0), fun j hj => ?_⟩
    rw [hr] at hj
    have : j = i := by simpa using hj
    subst this
    have hn : needOf pi0 j = false := by
      have hx := hm (j, k + 3) (by simp)
      simp only [needOf, Bool.not_eq_false', List.any_eq_true]
      exact ⟨_, hx, by simp⟩
    exact wpOp_mono (fun a' w' h' => ⟨fun e => (by rw [hn] at e; cases e), wpAnyX_of_pi hsel hQ hp r _ false a' w' (fun x hx => hm x (by simp [hx])) hB' (hc.set hr') (fun e => by cases e) h'⟩) h

def regionB (ops : Array Oper) (pi : List (Nat × Nat)) (paths : List (Nat × List Nat)) : Bool :=
  Region.noSelect ops && pathsB ops pi paths && piB ops pi (Array.replicate ops.size false) true && decide (pi.length = ops.size)

/-- THE LAW. -/
theorem wp_region_pi {id : Nat} {l : List Oper} {a : Act} {w : World} (S : World → Prop) (pi : List (Nat × Nat)) (paths : List (Nat × List Nat)) (hm : P.follows .mixedOrders = true)
    (hB : regionB l.toArray pi paths = true) (hQ : ∀ c a (t : Tmp) v w, Q (.panic c) (Act.put a (some t) v) w → Q (.panic c) a w) (hS : S w.drew) (h : wpPi P l.toArray Q S pi a w.drew) : (Code.region id l.toArray true).wp P Q a w := by
  simp only [regionB, Bool.and_eq_true, decide_eq_true_eq] at hB
  obtain ⟨⟨⟨hsel, hp⟩, hpi⟩, hl⟩ := hB
  have hQ' : ∀ c a d v w, Q (.panic c) (Act.put a d v) w → Q (.panic c) a w := fun c a d v w h => by
    cases d with
    | none => exact h
    | some t => exact hQ c a t v w h
  refine wp_region_any hm ?_
  have H := wpAny_of_X _ _ _ _ (wpAnyX_of_pi hsel hQ' hp pi _ true a w.drew (fun _ h => h) hpi (ClosedL.start _) (fun _ => hS) h)
  rw [hl] at H
  exact H

/-- Where the walk stands behind an effect. -/
def Stop (J : Act → World → Prop) (a : Act) (w : World) : Prop := J a w

theorem pi_ld {i : Nat} {r : List (Nat × Nat)} {a : Act} {w : World} {o : Oper} {v : Value} (ho : ops[i]? = some o) (hw : Region.wanted o (yielded ops a.tmps) = true) (hy : ∀ ws, S ws → (execOp a.eval o).run P ws = .ok (.value v) ws)
    (h : wpPi P ops Q S r (a.put o.dst v) w) : wpPi P ops Q S ((i, 0) :: r) a w := ⟨o, v, ho, .inl ⟨hw, hy⟩, h⟩
theorem pi_pu {i : Nat} {r : List (Nat × Nat)} {a : Act} {w : World} {o : Oper} {v : Value} (ho : ops[i]? = some o) (hw : Region.wanted o (yielded ops a.tmps) = true) (hy : ∀ ws, (execOp a.eval o).run P ws = .ok (.value v) ws)
    (h : wpPi P ops Q S r (a.put o.dst v) w) : wpPi P ops Q S ((i, 1) :: r) a w := ⟨o, v, ho, .inl ⟨hw, fun ws _ => hy ws⟩, h⟩
theorem pi_ld_skip {i : Nat} {r : List (Nat × Nat)} {a : Act} {w : World} {o : Oper} (ho : ops[i]? = some o) (hw : Region.wanted o (yielded ops a.tmps) = false)
    (h : wpPi P ops Q S r (a.put o.dst undef) w) : wpPi P ops Q S ((i, 0) :: r) a w := ⟨o, undef, ho, .inr ⟨hw, rfl⟩, h⟩
theorem pi_pu_skip {i : Nat} {r : List (Nat × Nat)} {a : Act} {w : World} {o : Oper} (ho : ops[i]? = some o) (hw : Region.wanted o (yielded ops a.tmps) = false)
    (h : wpPi P ops Q S r (a.put o.dst undef) w) : wpPi P ops Q S ((i, 1) :: r) a w := ⟨o, undef, ho, .inr ⟨hw, rfl⟩, h⟩

theorem wpOp_of_list {i : Nat} {a : Act} {w : World} {o : Oper} {K : Act → World → Prop} (ho : ops[i]? = some o) (h : wpList P ops (Exit.then K Q) [o] a w) : wpOp P ops Q i K a w := by
  unfold wpOp
  simp only [ho]
  unfold wpList at h
  split
  · rename_i hw
    rw [if_pos hw] at h
    refine h.imp (fun h1 => ?_) (fun h1 => h1)
    unfold Oper.wp at *
    generalize (execOp a.eval o).run P w = r at *
    cases r with
    | ok n w' =>
      cases n <;> simp only [Oper.upon] at h1 ⊢ <;>
        first
          | exact h1
          | exact Calls.mono h1 (fun e w'' he => by cases e <;> exact he)
          | exact Rows.mono h1 (fun _ _ he => he)
    | halt x w' => cases x <;> simp only [Oper.upon] at h1 ⊢ <;> exact h1
  · rename_i hw
    rw [if_neg hw] at h
    exact h

theorem pi_ke {i : Nat} {r : List (Nat × Nat)} {a : Act} {w : World} {o : Oper} (ho : ops[i]? = some o)
    (h : ∀ J : Act → World → Prop, (∀ a' w', S w' → wpPi P ops Q S r a' w' → J a' w') → wpList P ops (Exit.then (Stop J) Q) [o] a w) : wpPi P ops Q S ((i, 2) :: r) a w :=
  wpOp_of_list ho (h _ (fun _ _ h1 h2 => ⟨h1, h2⟩))
theorem pi_dr {i : Nat} {r : List (Nat × Nat)} {a : Act} {w : World} {o : Oper} (ho : ops[i]? = some o)
    (h : ∀ J : Act → World → Prop, (∀ a' w', wpPi P ops Q S r a' w' → J a' w') → wpList P ops (Exit.then (Stop J) Q) [o] a w) : wpPi P ops Q S ((i, 3) :: r) a w :=
  wpOp_of_list ho (h _ (fun _ _ h1 => h1))

def opsAt (ops : Array Oper) : List (Nat × Nat) → List Oper
  | [] => []
  | x :: r => match ops[x.1]? with
    | some o => o :: opsAt ops r
    | none => opsAt ops r

/-- All that is left is of kind 3: it is a plain list. -/
theorem pi_tail : ∀ {r : List (Nat × Nat)} {a : Act} {w : World}, (r.all fun x => decide (3 ≤ x.2) && decide (x.1 < ops.size)) = true → wpList P ops Q (opsAt ops r) a w → wpPi P ops Q S r a w
  | [], _, _, _, h => h
  | (i, 0) :: r, _, _, hr, _ => by simp at hr
  | (i, 1) :: r, _, _, hr, _ => by simp at hr
  | (i, 2) :: r, _, _, hr, _ => by simp at hr
  | (i, k + 3) :: r, a, w, hr, h => by
    simp only [List.all_cons, Bool.and_eq_true, decide_eq_true_eq] at hr
    have ho : ops[i]? = some ops[i] := Array.getElem?_eq_getElem hr.1.2
    simp only [opsAt, ho] at h
    unfold wpPi wpOp
    simp only [ho]
    unfold wpList at h
    split
    · rename_i hw
      rw [if_pos hw] at h
      exact h.imp (Oper.wp_mono fun a' w' h' => pi_tail hr.2 h') id
    · rename_i hw
      rw [if_neg hw] at h
      exact pi_tail hr.2 h
end

end Go.Proofs.YtahgbbnpbhfaeaaDoor

/- The region's steps with the place that is written named. No condition. -/
namespace Go.Proofs.YtahgbbnpbhfaeaaDoor
open Go.RowKit
section
variable {P : Program} {ops : Array Oper} {Q : Exit → Act → World → Prop} {S : World → Prop}
theorem pd_ld (d : Option Nat) {i : Nat} {r : List (Nat × Nat)} {a : Act} {w : World} {o : Oper} {v : Value} (ho : ops[i]? = some o) (hd : o.dst = d) (hw : Region.wanted o (yielded ops a.tmps) = true) (hy : ∀ ws, S ws → (execOp a.eval o).run P ws = .ok (.value v) ws)
    (h : wpPi P ops Q S r (a.put d v) w) : wpPi P ops Q S ((i, 0) :: r) a w := by subst hd; exact pi_ld ho hw hy h
theorem pd_pu (d : Option Nat) {i : Nat} {r : List (Nat × Nat)} {a : Act} {w : World} {o : Oper} {v : Value} (ho : ops[i]? = some o) (hd : o.dst = d) (hw : Region.wanted o (yielded ops a.tmps) = true) (hy : ∀ ws, (execOp a.eval o).run P ws = .ok (.value v) ws)
    (h : wpPi P ops Q S r (a.put d v) w) : wpPi P ops Q S ((i, 1) :: r) a w := by subst hd; exact pi_pu ho hw hy h
theorem pd_ld_skip (d : Option Nat) {i : Nat} {r : List (Nat × Nat)} {a : Act} {w : World} {o : Oper} (ho : ops[i]? = some o) (hd : o.dst = d) (hw : Region.wanted o (yielded ops a.tmps) = false)
    (h : wpPi P ops Q S r (a.put d undef) w) : wpPi P ops Q S ((i, 0) :: r) a w := by subst hd; exact pi_ld_skip ho hw h
theorem pd_pu_skip (d : Option Nat) {i : Nat} {r : List (Nat × Nat)} {a : Act} {w : World} {o : Oper} (ho : ops[i]? = some o) (hd : o.dst = d) (hw : Region.wanted o (yielded ops a.tmps) = false)
    (h : wpPi P ops Q S r (a.put d undef) w) : wpPi P ops Q S ((i, 1) :: r) a w := by subst hd; exact pi_pu_skip ho hw h
end
end Go.Proofs.YtahgbbnpbhfaeaaDoor
