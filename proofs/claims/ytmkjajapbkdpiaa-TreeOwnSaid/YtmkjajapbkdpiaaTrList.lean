/- The nodes of a tree in their order, as values; what a round of a loop over them keeps. No condition. -/
import Derived.Test.YtmkjajapbkdpiaaTrRSame
namespace Go.Proofs.Ytmkjajapbkdpiaa
open Go.RowKit

/-- What comes: how deep, the node, its value. -/
abbrev Item := Int × Nd × Value
def valOf (k f t : Int) (s : ByteArray) (a : Option Addr) (n cap : Nat) : Value := .agg #[.int .i64 k, .int .i64 f, .int .i64 t, .string s, .slice a n cap]

def flatF : Int → Fo → List (Int × Nd)
  | _, .nil => []
  | d, .cons k f t s c r => (d, ⟨k, f, t, s, c⟩) :: (flatF (d + 1) c ++ flatF d r)
def flatN (d : Int) (n : Nd) : List (Int × Nd) := (d, n) :: flatF (d + 1) n.c

/-- The row a from place i on holds the trees F, below block B; L is what comes of them. -/
def LstF (w : World) (B : Nat) : Int → Option Addr → Nat → Fo → List Item → Prop
  | _, _, _, .nil, L => L = []
  | d, a, i, .cons k f t s c r, L => ∃ ad a' cap L1 L2, a = some ad ∧ ad.block < B ∧ w.cell? (ad.add (i * 5)) = some (.int .i64 k) ∧ w.cell? ⟨(ad.add (i * 5)).block, (ad.add (i * 5)).off + 1, none⟩ = some (.int .i64 f) ∧
      w.cell? ⟨(ad.add (i * 5)).block, (ad.add (i * 5)).off + 2, none⟩ = some (.int .i64 t) ∧ w.cell? ⟨(ad.add (i * 5)).block, (ad.add (i * 5)).off + 3, none⟩ = some (.string s) ∧
      w.cell? ⟨(ad.add (i * 5)).block, (ad.add (i * 5)).off + 4, none⟩ = some (.slice a' c.len cap) ∧ c.len ≤ cap ∧ cap ≤ maxLen ∧
      L = (d, ⟨k, f, t, s, c⟩, valOf k f t s a' c.len cap) :: (L1 ++ L2) ∧ LstF w B (d + 1) a' 0 c L1 ∧ LstF w B d a (i + 1) r L2

/-- A node with all within it. -/
def LstN (w : World) (B : Nat) (d : Int) (n : Nd) (v : Value) (L : List Item) : Prop :=
  ∃ a cap Lk, v = valOf n.k n.f n.t n.s a n.c.len cap ∧ n.c.len ≤ cap ∧ cap ≤ maxLen ∧ L = (d, n, v) :: Lk ∧ LstF w B (d + 1) a 0 n.c Lk

theorem Addr.add_block (a : Addr) (j : Nat) : (a.add j).block = a.block := by unfold Addr.add; split <;> rfl

section
variable {w w' : World} {B : Nat}
theorem LstF.of : ∀ {F : Fo} (d : Int) {a : Option Addr} {i : Nat}, KidsAt w a i F → w.heap.size ≤ B → ∃ L, LstF w B d a i F L ∧ L.map (fun x => (x.1, x.2.1)) = flatF d F ∧ ∀ x ∈ L, NodeV w x.2.1 x.2.2 := by
  intro F
  induction F with
  | nil => intro d a i _ _; exact ⟨[], rfl, rfl, fun _ h => by simp at h⟩
  | cons k f t s c r ihc ihr =>
    rintro d a i ⟨⟨ad, a', cap, h0, h1, h2, h3, h4, h5, h6, h7, h8⟩, hr⟩ hB
    obtain ⟨L1, p1, p2, p3⟩ := ihc (d + 1) h8 hB
    obtain ⟨L2, q1, q2, q3⟩ := ihr d hr hB
    have hb : ad.block < B := by
      have := World.block_lt_of_cell? _ _ h1
      rw [Addr.add_block] at this; omega
    refine ⟨_, ⟨ad, a', cap, L1, L2, h0, hb, h1, h2, h3, h4, h5, h6, h7, rfl, p1, q1⟩, ?_, ?_⟩
    · simp [flatF, p2, q2]
    · intro x hx
      rcases List.mem_cons.1 hx with rfl | hx
      · exact ⟨a', cap, rfl, h6, h7, h8⟩
      · rcases List.mem_append.1 hx with hx | hx
        · exact p3 x hx
        · exact q3 x hx
theorem LstN.of {n : Nd} {v : Value} (d : Int) (h : NodeV w n v) (hB : w.heap.size ≤ B) : ∃ L, LstN w B d n v L ∧ L.map (fun x => (x.1, x.2.1)) = flatN d n ∧ ∀ x ∈ L, NodeV w x.2.1 x.2.2 := by
  obtain ⟨a, cap, e, h1, h2, h3⟩ := h
  obtain ⟨Lk, p1, p2, p3⟩ := LstF.of (d + 1) h3 hB
  refine ⟨(d, n, v) :: Lk, ⟨a, cap, Lk, e, h1, h2, rfl, p1⟩, by simp [flatN, p2], fun x hx => ?_⟩
  rcases List.mem_cons.1 hx with rfl | hx
  · exact ⟨a, cap, e, h1, h2, h3⟩
  · exact p3 x hx

theorem LstF.cells (hc : ∀ p v, p.block < B → w.cell? p = some v → w'.cell? p = some v) : ∀ {F : Fo} {d : Int} {a : Option Addr} {i : Nat} {L : List Item}, LstF w B d a i F L → LstF w' B d a i F L := by
  intro F
  induction F with
  | nil => intro _ _ _ _ h; exact h
  | cons k f t s c r ihc ihr =>
    rintro d a i L ⟨ad, a', cap, L1, L2, h0, hb, h1, h2, h3, h4, h5, h6, h7, h8, h9, h10⟩
    have hb' : (ad.add (i * 5)).block < B := by rw [Addr.add_block]; exact hb
    exact ⟨ad, a', cap, L1, L2, h0, hb, hc _ _ hb' h1, hc _ _ hb' h2, hc _ _ hb' h3, hc _ _ hb' h4, hc _ _ hb' h5, h6, h7, h8, ihc h9, ihr h10⟩
theorem LstN.cells (hc : ∀ p v, p.block < B → w.cell? p = some v → w'.cell? p = some v) {d : Int} {n : Nd} {v : Value} {L : List Item} (h : LstN w B d n v L) : LstN w' B d n v L := by
  obtain ⟨a, cap, Lk, h1, h2, h3, h4, h5⟩ := h
  exact ⟨a, cap, Lk, h1, h2, h3, h4, h5.cells hc⟩
end

/-! ### What a round keeps -/
structure SOk (S : World → Nat → Prop) (V : World → Prop) (B : Nat) : Prop where
  low : ∀ W k, S W k → B ≤ k
  fresh : ∀ W W' k, V W → W.grownBy W' none → W.heap.size ≤ k → ¬ S W' k
  grow : ∀ W W' k, V W → W.grownBy W' none → k < W.heap.size → S W' k → S W k
  valid : ∀ W W', V W → W.grownBy W' none → V W'

/-- What is not the caller's own lies as it lay. -/
def Keep (S : World → Nat → Prop) (V : World → Prop) (W W' : World) : Prop :=
  W.heap.size ≤ W'.heap.size ∧ (V W → V W' ∧ ∀ k, k < W.heap.size → ¬ S W k → ¬ S W' k ∧ ∀ cs t fr, W.heap[k]? = some (.cells cs t fr) → W'.heap[k]? = some (.cells cs t fr))

section
variable {S : World → Nat → Prop} {V : World → Prop} {B : Nat} {W W' W2 : World}
theorem Keep.refl (S : World → Nat → Prop) (V : World → Prop) (W : World) : Keep S V W W := ⟨Nat.le_refl _, fun h => ⟨h, fun _ _ hn => ⟨hn, fun _ _ _ e => e⟩⟩⟩
theorem Keep.trans (h : Keep S V W W') (k : Keep S V W' W2) : Keep S V W W2 := by
  refine ⟨Nat.le_trans h.1 k.1, fun hv => ?_⟩
  obtain ⟨v1, a1⟩ := h.2 hv
  obtain ⟨v2, a2⟩ := k.2 v1
  refine ⟨v2, fun j hj hn => ?_⟩
  obtain ⟨n1, c1⟩ := a1 j hj hn
  obtain ⟨n2, c2⟩ := a2 j (Nat.lt_of_lt_of_le hj h.1) n1
  exact ⟨n2, fun cs t fr e => c2 _ _ _ (c1 _ _ _ e)⟩
theorem Keep.grow (hS : SOk S V B) (hg : W.grownBy W' none) : Keep S V W W' := by
  refine ⟨hg.size, fun hv => ⟨hS.valid _ _ hv hg, fun k hk hn => ⟨fun h => hn (hS.grow _ _ _ hv hg hk h), fun cs t fr e => ?_⟩⟩⟩
  rw [hg.block k hk (by simp)]; exact e

theorem cells_of_cell {p : Addr} {v : Value} (h : W.cell? p = some v) : ∃ cs t fr, W.heap[p.block]? = some (.cells cs t fr) := by
  unfold World.cell? at h
  split at h
  · rename_i cs t fr e; exact ⟨cs, t, fr, e⟩
  · simp at h
theorem cell_same {p : Addr} {v : Value} (hs : ∀ cs t fr, W.heap[p.block]? = some (.cells cs t fr) → W'.heap[p.block]? = some (.cells cs t fr)) (h : W.cell? p = some v) : W'.cell? p = some v := by
  obtain ⟨cs, t, fr, e⟩ := cells_of_cell h
  have := hs _ _ _ e
  unfold World.cell? at h ⊢
  rw [e] at h
  rw [this]
  exact h

/-- A cell that is not the caller's. -/
def Held (S : World → Nat → Prop) (W : World) (b : Nat) (j : Nat) (v : Value) : Prop := W.cell? ⟨b, j, none⟩ = some v ∧ ¬ S W b
theorem Held.keep {b j : Nat} {v : Value} (h : Held S W b j v) (hv : V W) (k : Keep S V W W') : Held S W' b j v := by
  obtain ⟨n, c⟩ := (k.2 hv).2 b (World.block_lt_of_cell? _ _ h.1) h.2
  exact ⟨cell_same c h.1, n⟩
theorem Keep.low (hS : SOk S V B) (hv : V W) (k : Keep S V W W') : ∀ p v, p.block < B → W.cell? p = some v → W'.cell? p = some v := fun p v hp hc =>
  cell_same ((k.2 hv).2 p.block (World.block_lt_of_cell? _ _ hc) (fun h => by have := hS.low _ _ h; omega)).2 hc
theorem Held.new (hS : SOk S V B) (hv : V W) {b j : Nat} {v : Value} (hg : W.grownBy W' none) (hb : W.heap.size ≤ b) (hc : W'.cell? ⟨b, j, none⟩ = some v) : Held S W' b j v := ⟨hc, hS.fresh _ _ _ hv hg hb⟩
end
end Go.Proofs.Ytmkjajapbkdpiaa
