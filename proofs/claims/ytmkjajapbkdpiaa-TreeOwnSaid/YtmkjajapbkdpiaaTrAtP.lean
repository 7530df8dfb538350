/- Lists for tree.At. No condition. -/
import Derived.Test.YtmkjajapbkdpiaaTrAtR
namespace Go.Proofs.Ytmkjajapbkdpiaa
open Go.RowKit

theorem LstF.ofP {w : World} {B : Nat} : ∀ {F : Fo} (d : Int) {a : Option Addr} {i : Nat}, KidsP (· < B) w a i F → ∃ L, LstF w B d a i F L ∧ L.map (fun x => (x.1, x.2.1)) = flatF d F := by
  intro F
  induction F with
  | nil => intro d a i _; exact ⟨[], rfl, rfl⟩
  | cons k f t s c r ihc ihr =>
    rintro d a i ⟨⟨ad, a', cap, h0, hp, h1, h2, h3, h4, h5, h6, h7, h8⟩, hr⟩
    obtain ⟨L1, p1, p2⟩ := ihc (d + 1) h8
    obtain ⟨L2, q1, q2⟩ := ihr d hr
    exact ⟨_, ⟨ad, a', cap, L1, L2, h0, hp, h1, h2, h3, h4, h5, h6, h7, rfl, p1, q1⟩, by simp [flatF, p2, q2]⟩
theorem LstN.ofP {w : World} {B : Nat} {n : Nd} {v : Value} (d : Int) (h : NdV (· < B) w n v) : ∃ L, LstN w B d n v L ∧ L.map (fun x => (x.1, x.2.1)) = flatN d n := by
  obtain ⟨a, cap, e, h1, h2, h3⟩ := h
  obtain ⟨Lk, p1, p2⟩ := LstF.ofP (d + 1) h3
  exact ⟨(d, n, v) :: Lk, ⟨a, cap, Lk, e, h1, h2, rfl, p1⟩, by simp [flatN, p2]⟩
theorem good_of {n : Nd} {L : List Item} (hL : L.map (fun x => (x.1, x.2.1)) = flatN 0 n) (hc : n.c.cnt ≤ 999999) : goodUp 1000000 L [] := by
  unfold flatN at hL
  cases L with
  | nil => simp at hL
  | cons x0 Lk =>
    obtain ⟨x1, x2, x3⟩ := x0
    simp only [List.map_cons, List.cons.injEq, Prod.mk.injEq] at hL
    obtain ⟨⟨rfl, rfl⟩, hk⟩ := hL
    have hk1 : Lk.map (fun x => (x.1, x.2.1)) = flatF ((1 : Nat) : Int) x2.c := hk
    exact ⟨Int.le_refl _, Nat.zero_le _, by omega, (fold_take 1000000 x2.c 1 Lk [(x2, x3)] hk1 (by simp) (by omega)).2.2⟩
theorem atF_len (fa ta : Int) : ∀ F : Fo, (atF fa ta F).length ≤ F.cnt
  | .nil => Nat.le_refl _
  | .cons k f t s c r => by
    have h1 := atF_len fa ta c
    have h2 := atF_len fa ta r
    simp only [atF, Fo.cnt]
    split
    · split
      · simp; omega
      · omega
    · simp; omega
theorem atN_len (fa ta : Int) (n : Nd) : (atN fa ta n).length ≤ n.c.cnt + 1 := by
  have h1 := atF_len fa ta n.c
  unfold atN
  split
  · split <;> simp
  · simp; omega

section
variable {w w' : World} {B : Nat} {v : Value} {L M : List Nv}
theorem cellsL_append (L M : List Nv) : cellsL (L ++ M) = cellsL L ++ cellsL M := by simp [cellsL]
theorem RowL.many {g cap nn m : Nat} (h : RowL w B v L) (hl : L.length = nn) (hm : M.length = m) (hM : ∀ x ∈ M, NdV (· < B) w x.1 x.2)
    (hown : w'.ownsRow B 24 5 (.slice (some ⟨g, 0, none⟩) (nn + m) cap) (nn + m) (cellsL L ++ cellsL M)) (hat : AppAt w v g w') : RowL w' B (.slice (some ⟨g, 0, none⟩) (nn + m) cap) (L ++ M) := by
  refine ⟨?_, fun x hx => ?_⟩
  · rw [cellsL_append, List.length_append, hl, hm]
    exact hown
  · have hgb := hat.grown
    have hc : ∀ (p : Addr) (u : Value), p.block < B → w.cell? p = some u → w'.cell? p = some u := fun p u hp hc =>
      cell_same (fun cs t fr e => (hgb.block p.block (World.block_lt_of_cell? _ _ hc) (fun e => by have := (h.row.lt _ e.symm).1; omega)).trans e) hc
    rcases List.mem_append.1 hx with hx | hx
    · exact (h.low x hx).cells hc
    · exact (hM x hx).cells hc
theorem cells_oneL (h : ∀ x ∈ L, NdV (· < B) w x.1 x.2) : ∀ u ∈ cellsL L, u.oneCell' = true := fun u hu => by
  obtain ⟨x, hx, hu⟩ := List.mem_flatMap.1 hu
  obtain ⟨xa, xc, e, _⟩ := h x hx
  rw [e] at hu
  simp [Value.cells] at hu
  rcases hu with h | h | h | h | h <;> (subst h; rfl)
/-- A node of such a row, cell by cell. -/
theorem RowL.five {g nn cap i : Nat} (h : RowL w B (.slice (some ⟨g, 0, none⟩) nn cap) L) (hl : L.length = nn) {x : Nv} (hx : L[i]? = some x) :
    ∃ a' cap', x.2 = .agg #[.int .i64 x.1.k, .int .i64 x.1.f, .int .i64 x.1.t, .string x.1.s, .slice a' x.1.c.len cap'] ∧ w.cell? ⟨g, i * 5, none⟩ = some (.int .i64 x.1.k) ∧ w.cell? ⟨g, i * 5 + 1, none⟩ = some (.int .i64 x.1.f) ∧ w.cell? ⟨g, i * 5 + 2, none⟩ = some (.int .i64 x.1.t) ∧
      w.cell? ⟨g, i * 5 + 3, none⟩ = some (.string x.1.s) ∧ w.cell? ⟨g, i * 5 + 4, none⟩ = some (.slice a' x.1.c.len cap') := by
  obtain ⟨a', cap', e, _⟩ := h.low x (List.mem_of_getElem? hx)
  have cell : ∀ o u, o < 5 → x.2.cells.toList[o]? = some u → w.cell? ⟨g, i * 5 + o, none⟩ = some u := fun o u ho hu => by
    have := cellsL_get (fun y hy => (h.low y hy).five) hx o ho
    obtain ⟨g', e', hc⟩ := row_cell (row_len h.row hl) (this.trans hu)
    cases e'
    exact hc
  rw [e] at cell
  exact ⟨a', cap', e, cell 0 _ (by omega) rfl, cell 1 _ (by omega) rfl, cell 2 _ (by omega) rfl, cell 3 _ (by omega) rfl, cell 4 _ (by omega) rfl⟩
end

/-- A copy at place i of the row that begins block g. -/
def ElemW (P : Nat → Prop) (w : World) (g i : Nat) (n : Nd) : Prop :=
  ∃ a' cap, w.cell? ⟨g, i * 5, none⟩ = some (.int .i64 n.k) ∧ w.cell? ⟨g, i * 5 + 1, none⟩ = some (.int .i64 n.f) ∧ w.cell? ⟨g, i * 5 + 2, none⟩ = some (.int .i64 n.t) ∧ w.cell? ⟨g, i * 5 + 3, none⟩ = some (.string n.s) ∧
    w.cell? ⟨g, i * 5 + 4, none⟩ = some (.slice a' n.c.len cap) ∧ OwnV P w n (.agg #[.int .i64 n.k, .int .i64 n.f, .int .i64 n.t, .string n.s, .slice a' n.c.len cap])
section
variable {P Q : Nat → Prop} {w w' : World} {g i : Nat} {n : Nd}
theorem ElemW.elemG (h : ElemW P w g i n) : ElemG P w g i n := by
  obtain ⟨a', cap, h1, h2, h3, h4, h5, h6⟩ := h
  obtain ⟨a2, cap2, e, q1, q2, q3⟩ := h6.ndV
  simp at e
  obtain ⟨rfl, rfl⟩ := e
  exact ⟨a', cap, h1, h2, h3, h4, h5, q1, q2, q3⟩
theorem ElemW.mono (hPQ : ∀ k, P k → Q k) (h : ElemW P w g i n) : ElemW Q w g i n := by
  obtain ⟨a', cap, h1, h2, h3, h4, h5, h6⟩ := h
  exact ⟨a', cap, h1, h2, h3, h4, h5, h6.mono hPQ⟩
theorem ElemW.frame (hf : ∀ k, P k → k < w.heap.size → w'.heap[k]? = w.heap[k]?) (hr : ∀ o v, o < 5 → w.cell? ⟨g, i * 5 + o, none⟩ = some v → w'.cell? ⟨g, i * 5 + o, none⟩ = some v) (h : ElemW P w g i n) : ElemW P w' g i n := by
  obtain ⟨a', cap, h1, h2, h3, h4, h5, h6⟩ := h
  exact ⟨a', cap, hr 0 _ (by omega) h1, hr 1 _ (by omega) h2, hr 2 _ (by omega) h3, hr 3 _ (by omega) h4, hr 4 _ (by omega) h5, h6.frame hf⟩
end
/-- The row at round i: what stands ahead is copied, the rest lies below B. -/
def OwnS (B len cap i : Nat) (c : Fo) (g : Nat) (wr : World) : Prop :=
  ∃ cur, wr.heap[g]? = some (.cells cur 24 (0, 0)) ∧ cur.size = cap * 5 ∧ (∀ j, j < i → ElemW (fun k => B ≤ k ∧ k ≠ g) wr g j (c.get j)) ∧ ∀ j, i ≤ j → j < len → ElemG (· < B) wr g j (c.get j)
theorem OwnS.next {B len cap i g : Nat} {c : Fo} {wr w' : World} {nd : Nd} {a'' : Option Addr} {cap'' : Nat} (h : OwnS B len cap i c g wr) (hi : i < len) (hlc : len ≤ cap) (hnd : c.get i = nd) (hB : B ≤ g) (hg : g < wr.heap.size)
    (hb : Below wr.heap.size wr w') (hk : OwnV (wr.heap.size ≤ ·) w' nd (.agg #[.int .i64 nd.k, .int .i64 nd.f, .int .i64 nd.t, .string nd.s, .slice a'' nd.c.len cap''])) :
    OwnS B len cap (i + 1) c g (set5 w' g (i * 5) (.int .i64 nd.k) (.int .i64 nd.f) (.int .i64 nd.t) (.string nd.s) (.slice a'' nd.c.len cap'')) := by
  obtain ⟨cur, q1, q2, q3, q4⟩ := h
  have q1' := (hb.block g hg).trans q1
  have hsz : i * 5 + 4 < cur.size := by rw [q2]; omega
  obtain ⟨z0, z1, z2, z3, z4⟩ := set5_new (.int .i64 nd.k) (.int .i64 nd.f) (.int .i64 nd.t) (.string nd.s) (.slice a'' nd.c.len cap'') q1' hsz
  have near : ∀ j, j ≠ i → ∀ o v, o < 5 → wr.cell? ⟨g, j * 5 + o, none⟩ = some v → (set5 w' g (i * 5) (.int .i64 nd.k) (.int .i64 nd.f) (.int .i64 nd.t) (.string nd.s) (.slice a'' nd.c.len cap'')).cell? ⟨g, j * 5 + o, none⟩ = some v := fun j hj o v ho hc =>
    set5_other (by omega) (cell_below hb rfl hc)
  refine ⟨_, set5_same _ _ _ _ _ _ q1', by simp [q2], fun j hj => ?_, fun j hj hj2 => (q4 j (by omega) hj2).cells (fun p v hp hc => set5_cell (by have hp : p.block < B := hp; omega) (cell_below hb rfl hc)) (near j (by omega))⟩
  by_cases hji : j = i
  · subst hji
    rw [hnd]
    exact ⟨a'', cap'', z0, z1, z2, z3, z4, (hk.frame fun k hk _ => set5_block _ _ _ _ _ _ (by have hk : wr.heap.size ≤ k := hk; omega)).mono fun k hk => by
      have hk : wr.heap.size ≤ k := hk
      exact ⟨by omega, by omega⟩⟩
  · exact (q3 j (by omega)).frame (fun k hk hkl => (set5_block _ _ _ _ _ _ hk.2).trans (hb.block k hkl)) (near j hji)
/-- A list of copies that may be written. -/
def ListW (w : World) (B : Nat) (a : Option Addr) (len cap : Nat) (F : Fo) : Prop :=
  F.len = len ∧ (len = 0 ∨ ∃ g cur, a = some ⟨g, 0, none⟩ ∧ B ≤ g ∧ w.heap[g]? = some (.cells cur 24 (0, 0)) ∧ cur.size = cap * 5 ∧ len ≤ cap ∧ ∀ j, j < len → ElemW (fun k => B ≤ k ∧ k ≠ g) w g j (F.get j))
theorem ListW.kids {w : World} {B : Nat} {a : Option Addr} {len cap : Nat} {F : Fo} (h : ListW w B a len cap F) : KidsAt w a 0 F := by
  obtain ⟨h1, h2⟩ := h
  rcases h2 with h2 | ⟨g, cur, rfl, h3, h4, h5, h6, h7⟩
  · exact (kidsP_empty (P := fun _ => True) (by omega)).at
  · exact (kidsP_of_elems (Q := fun _ => True) (fun _ _ => trivial) trivial F 0 (fun j hj => by rw [Nat.zero_add]; exact (h7 j (by omega)).elemG)).at
theorem RowL.ownS {w : World} {B g nn cap : Nat} {L : List Nv} (h : RowL w B (.slice (some ⟨g, 0, none⟩) nn cap) L) (hl : L.length = nn) : OwnS B nn cap 0 (foOf (L.map (·.1))) g w ∧ nn ≤ cap ∧ cap ≤ maxLen ∧ g < w.heap.size := by
  subst hl
  rcases h.row.2 with ⟨e, _⟩ | ⟨g', cap', cur, e, hB, hc, hn, hm, hz, _⟩
  · cases e
  · cases e
    refine ⟨⟨cur, hc, hz, fun j hj => absurd hj (by omega), fun j _ hj => ?_⟩, hn, hm, (Array.getElem?_eq_some_iff.1 hc).1⟩
    rcases row_elems h.row h.low with rfl | ⟨g', e, he⟩
    · simp at hj
    · cases e
      exact he j hj
end Go.Proofs.Ytmkjajapbkdpiaa
