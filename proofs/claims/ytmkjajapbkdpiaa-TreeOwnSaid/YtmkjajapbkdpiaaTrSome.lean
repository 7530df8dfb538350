/- recastref4.Some, All, Idents. No condition. -/
import Derived.Test.YtmkjajapbkdpiaaTrIdentsG
import Derived.Test.YtmkjajapbkdpiaaTrFlatWalk
namespace Go.Proofs.Ytmkjajapbkdpiaa
open Go.RowKit

set_option maxRecDepth 100000 in
set_option maxHeartbeats 1600000 in
theorem some_any (c : Fo) (ak : Option Addr) (len ck : Nat) (q : Int) (w : World) (hlen : c.len = len) (hlc : len ≤ 1000001) (hK : KidsP (· < w.heap.size) w ak 0 c) :
    Calls Try.prog 39 #[.slice ak len ck, .int .i64 q] w fun e w' => ∃ a1 nn k1, e = .returned (.slice a1 nn k1) ∧ nn = (kidsOf [q] c len).length ∧ KidsAt w' a1 0 (foOf (kidsOf [q] c len)) ∧ Below w.heap.size w w' := by
  obtain ⟨ni, hni, hnz, hns, hnb⟩ := info_parts infoNd5
  have Hlen := Lib.hid hlen
  have HK := Lib.hid hK
  clear hlen hK
  go_enter Try.func39, Try.ntmps39
  go_wp2_with fail
  go_loopg [5, 6] len (fun gg v5 v6 wr => ∃ (i nn : Nat) (a1 : Option Addr) (k1 : Nat), i ≤ len ∧ v6 = .int .i64 i ∧ v5 = .slice a1 nn k1 ∧ gg = len - i ∧ nn ≤ i ∧ Hid (RkR w wr [q] c i a1 nn k1))
  case atStart => exact ⟨0, 0, none, 0, Nat.zero_le _, rfl, rfl, rfl, by omega, Lib.hid ⟨[], rfl, RowL.nil _ _, rfl, Below.refl _ _⟩⟩
  case round =>
    obtain ⟨i, nn, a1, k1, hi, rfl, rfl, hgg, hnn, Hr⟩ := hrel
    by_cases hlt : i < len
    · obtain ⟨L, h1, h2, h3, h4⟩ := Hr.out
      have hKp : KidsP (· < w.heap.size) wr ak 0 c := HK.out.cells (fun p v _ hc => cell_below h4 rfl hc)
      obtain ⟨ad, a', cap', rfl, g0, g1, g2, g3, g4, g5, g6, g7⟩ := hKp.at.get i (by rw [Hlen.out]; exact hlt)
      rw [Nat.zero_add] at g0 g1 g2 g3 g4
      have hnv := nd_of_get hKp i (by rw [Hlen.out]; exact hlt) ad a' cap' rfl g4
      obtain ⟨nd, Hnd⟩ : ∃ nd, Hid (c.get i = nd) := ⟨_, Lib.hid rfl⟩
      rw [Hnd.out] at g0 g1 g2 g3 g4 g5 g7 hnv
      have hk := kidsOf_succ [q] c i
      rw [Hnd.out, show ([q] : List Int).contains nd.k = (nd.k == q) by cases h : (nd.k == q) <;> simp [List.contains, List.elem, h]] at hk
      have hsw : w.heap.size ≤ wr.heap.size := h4.size
      have HL := Lib.hid (And.intro h1 (And.intro h2 (And.intro h3 (And.intro h4 hk))))
      have HNV := Lib.hid hnv
      clear h1 h2 h3 h4 hk hKp g5 g6 g7 hnv Hr
      cases d1 : (nd.k == q) with
      | false =>
        go_wp2_with fail
        go_roundg (len - (i + 1))
        case measure => omega
        case rel =>
          obtain ⟨h1, h2, h3, h4, hk⟩ := HL.out
          exact ⟨i + 1, nn, a1, k1, by omega, by go_num, rfl, rfl, by omega, Lib.hid ⟨L, h1, h2, by rw [hk, d1]; exact h3, h4⟩⟩
      | true =>
        have hn9 : nn ≤ 1000001 := by omega
        go_wp2_with (refine wpList_app _ rfl _ _ _ rfl w.heap.size 24 ni _ 5 64 Try.underlying22 hni hnz hns hnb rfl (.slice a1 nn k1) nn (cellsL L) rfl (by have := HL.out.2.1.row.alloc (.cells #[.int .i64 nd.k, .int .i64 nd.f, .int .i64 nd.t, .string nd.s, .slice a' nd.c.len cap'] 24); rw [HL.out.1] at this; exact this) ⟨wr.heap.size, 0, none⟩ 1 1 [.int .i64 nd.k, .int .i64 nd.f, .int .i64 nd.t, .string nd.s, .slice a' nd.c.len cap'] rfl rfl (World.news_of_block (cs := #[.int .i64 nd.k, .int .i64 nd.f, .int .i64 nd.t, .string nd.s, .slice a' nd.c.len cap']) (t := 24) (fr := (0, 0)) (heap_alloc_new wr _)) (fun u hu => by simp at hu; rcases hu with h | h | h | h | h <;> (subst h; rfl)) (by omega) (by unfold maxLen; omega) (by omega) (by simp; omega) ?_; intro g gc w3 hown hat; have HZ := Lib.hid (And.intro hown hat); clear hown hat)
        go_roundg (len - (i + 1))
        case measure => omega
        case rel =>
          obtain ⟨h1, h2, h3, h4, hk⟩ := HL.out
          obtain ⟨hown, hat⟩ := HZ.out
          have hal2 := (Below.refl _ wr).alloc (Nat.le_refl _) (.cells #[.int .i64 nd.k, .int .i64 nd.f, .int .i64 nd.t, .string nd.s, .slice a' nd.c.len cap'] 24)
          have h2' := h2.below hal2
          have hnv := HNV.out.cells (w' := wr.alloc (.cells #[.int .i64 nd.k, .int .i64 nd.f, .int .i64 nd.t, .string nd.s, .slice a' nd.c.len cap'] 24)) (fun p v _ hc => cell_below hal2 rfl hc)
          subst h1
          have hbel := app_below (h4.trans (Below.mono hal2 h4.size)) (fun k e => (h2.row.lt k e).1) (Nat.le_refl _) hat
          exact ⟨i + 1, L.length + 1, some ⟨g, 0, none⟩, gc, by omega, by go_num, rfl, rfl, by omega, Lib.hid ⟨L ++ [(nd, .agg #[.int .i64 nd.k, .int .i64 nd.f, .int .i64 nd.t, .string nd.s, .slice a' nd.c.len cap'])], by simp,
            h2'.next (n := nd) (nv := .agg #[.int .i64 nd.k, .int .i64 nd.f, .int .i64 nd.t, .string nd.s, .slice a' nd.c.len cap']) hnv hown hat, by rw [hk, d1]; simp [h3], hbel⟩⟩
    · have hge : len ≤ i := by omega
      have hil : i = len := by omega
      have HF := Lib.hid (show RkR w wr [q] c len a1 nn k1 from hil ▸ Hr.out)
      clear hlt hil
      go_wp2_with fail
      go_ret
      obtain ⟨L, h1, h2, h3, h4⟩ := HF.out
      subst h1
      have := (row_kids (Q := fun _ => True) (fun _ _ => trivial) (fun _ _ => trivial) h2.row h2.low).at
      rw [h3] at this
      exact ⟨a1, L.length, k1, rfl, by rw [← h3]; simp, this, h4⟩

section
variable {w : World} {B : Nat}
theorem LstF.ndP : ∀ {F : Fo} {d : Int} {a : Option Addr} {i : Nat} {L : List Item}, LstF w B d a i F L → KidsP (· < B) w a i F ∧ (∀ x ∈ L, NdV (· < B) w x.2.1 x.2.2) ∧ ∀ x ∈ L, x.2.1.c.cnt ≤ F.cnt := by
  intro F
  induction F with
  | nil =>
    intro d a i L h
    have h : L = [] := h
    subst h
    exact ⟨trivial, fun _ h => by simp at h, fun _ h => by simp at h⟩
  | cons k f t s c r ihc ihr =>
    rintro d a i L ⟨ad, a', cap, L1, L2, h0, hb, h1, h2, h3, h4, h5, h6, h7, rfl, h9, h10⟩
    obtain ⟨p1, p2, p3⟩ := ihc h9
    obtain ⟨q1, q2, q3⟩ := ihr h10
    refine ⟨⟨⟨ad, a', cap, h0, hb, h1, h2, h3, h4, h5, h6, h7, p1⟩, q1⟩, fun x hx => ?_, fun x hx => ?_⟩
    · rcases List.mem_cons.1 hx with rfl | hx
      · exact ⟨a', cap, rfl, h6, h7, p1⟩
      · rcases List.mem_append.1 hx with hx | hx
        · exact p2 x hx
        · exact q2 x hx
    · simp only [Fo.cnt]
      rcases List.mem_cons.1 hx with rfl | hx
      · simp only; omega
      · rcases List.mem_append.1 hx with hx | hx
        · have := p3 x hx; omega
        · have := q3 x hx; omega
theorem LstN.ndP {d : Int} {n : Nd} {v : Value} {L : List Item} (h : LstN w B d n v L) : (∀ x ∈ L, NdV (· < B) w x.2.1 x.2.2) ∧ ∀ x ∈ L, x.2.1.c.cnt ≤ n.c.cnt := by
  obtain ⟨a, cap, Lk, hv, h1, h2, rfl, h4⟩ := h
  obtain ⟨p1, p2, p3⟩ := h4.ndP
  refine ⟨fun x hx => ?_, fun x hx => ?_⟩
  · rcases List.mem_cons.1 hx with rfl | hx
    · exact ⟨a, cap, hv, h1, h2, p1⟩
    · exact p2 x hx
  · rcases List.mem_cons.1 hx with rfl | hx
    · exact Nat.le_refl _
    · exact p3 x hx
end
theorem flatC_eq : ∀ L : List Item, flatC L = cellsL (L.map (·.2))
  | [] => rfl
  | x :: L => by
    have := flatC_eq L
    unfold flatC cellsL at this ⊢
    simp only [List.flatMap_cons, List.map_cons, this]
    rfl

theorem RFr.belowNil' {w w' : World} {B : Nat} {lv' av' : Value} (h : RFr w (.slice none 0 0) (.slice none 0 0) w' lv' av') (hB : B ≤ w.heap.size) : Below B w w' :=
  ⟨h.os, h.tape, h.output, h.size, fun k hk => h.block k (by omega) (by simp [Value.ownBlock]) (by simp [Value.ownBlock])⟩

def AllR (w : World) (L : List Item) (w' : World) (a1 : Option Addr) (n c1 : Nat) : Prop := L.length = n ∧ RowL w' w.heap.size (.slice a1 n c1) (L.map (·.2)) ∧ Below w.heap.size w w'
set_option maxHeartbeats 800000 in
theorem rall_any (nd : Nd) (v : Value) (L : List Item) (w : World) (hL : LstN w w.heap.size 0 nd v L) (hc : nd.c.cnt ≤ 1000000) (hlen : L.length ≤ 1000000) :
    Calls Try.prog 31 #[v] w fun e w' => ∃ a1 n c1, e = .returned (.slice a1 n c1) ∧ AllR w L w' a1 n c1 := by
  obtain ⟨a, cap, Lk, hv, -, -, -, -⟩ := id hL
  obtain ⟨k, f, t, s, c⟩ := nd
  unfold valOf at hv
  simp only at hv hc
  obtain ⟨len, Hl⟩ : ∃ len, Hid (c.len = len) := ⟨_, Lib.hid rfl⟩
  rw [Hl.out] at hv
  subst hv
  obtain ⟨w1, Hw1⟩ : ∃ w1, Hid (w1 = w.alloc (.cells #[.int .i64 k, .int .i64 f, .int .i64 t, .string s, .slice a len cap] 24)) := ⟨_, Lib.hid rfl⟩
  have hB : Below w.heap.size w w1 := by
    rw [Hw1.out]
    exact (Below.refl _ w).alloc (Nat.le_refl _) _
  have HL1 := hL.cells (w' := w1) fun p u hp hu => cell_below hB rfl hu
  have HF := Lib.hid (flat_any (c.cnt + 1) ⟨k, f, t, s, c⟩ _ 0 (.slice none 0 0) (.slice none 0 0) 0 w.heap.size [] [] L w1 (Nat.lt_succ_self _) HL1 ⟨World.ownsRow_nil _ _ _ _, World.ownsRow_nil _ _ _ _⟩ hB.size (by omega) (by omega) (by show (0 : Int) + (c.cnt : Int) ≤ _; omega))
  have HLL := Lib.hid (And.intro HL1 hB)
  clear hL hB HL1
  go_enter Try.func31, Try.ntmps31
  go_wp2_with (go_at_call 10; refine hold ?_)
  rw [← Hw1.out]
  refine Hold.mk ?_
  refine HF.out.mono ?_
  rintro e w2 ⟨a1, c1, a2, c2, rfl, h2, hr⟩
  have HQ := Lib.hid (And.intro h2 hr)
  obtain ⟨n, Hn⟩ : ∃ n, Hid (0 + L.length = n) := ⟨_, Lib.hid rfl⟩
  rw [Hn.out] at HQ ⊢
  clear h2 hr
  go_wp2_with fail
  go_ret
  obtain ⟨h2, hr⟩ := HQ.out
  obtain ⟨hL1, hB⟩ := HLL.out
  have hb : Below w.heap.size w1 w2 := hr.belowNil' hB.size
  have hn := Hn.out
  rw [Nat.zero_add] at hn
  refine ⟨a1, n, c1, rfl, hn, ⟨?_, fun x hx => ?_⟩, hB.trans hb⟩
  · have := h2.l
    rw [List.nil_append, flatC_eq] at this
    rw [List.length_map, hn]
    exact this
  · obtain ⟨y, hy, rfl⟩ := List.mem_map.1 hx
    exact (hL1.ndP.1 y hy).cells fun p u hp hu => cell_same (fun cs t fr e => (hb.block p.block hp).trans e) hu
end Go.Proofs.Ytmkjajapbkdpiaa
