/- Boxes that are written, in the laws' state. No condition. -/
import Derived.Test.YtcnakbhogmnddaaDoorExOps
import Derived.Test.YtcnakbhogmnddaaDoorRfMul
import Derived.Test.YtcnakbhogmnddaaDoorRfPlus
namespace Go.Proofs.YtcnakbhogmnddaaDoor
open Go.RowKit

theorem St.old {w W : World} {LB : List (Nat × Bool × Value)} {LN : List (Value × Bool × List Nat)} (h : St w W LB LN) {B : Nat} (hB : B = W.heap.size) : (∀ x ∈ LB, x.1 ≠ B) ∧ w.heap.size ≤ B := by
  subst hB
  exact ⟨fun x hx => Nat.ne_of_lt (Array.getElem?_eq_some_iff.1 (h.boxes x hx)).1, h.below.size⟩
theorem St.store {w W W' : World} {LB : List (Nat × Bool × Value)} {LN : List (Value × Bool × List Nat)} {b n1 c1 : Nat} {a1 : Option Addr} {n n' : Bool} {s' : Value} (h : St w W ((b, n, .slice a1 n1 c1) :: LB) LN) (hne : (∀ x ∈ LB, x.1 ≠ b) ∧ w.heap.size ≤ b)
    (hW : W' = (W.setCell ⟨b, 0, none⟩ (.bool n')).setCell ⟨b, 1, none⟩ s') : St w W' ((b, n', s') :: LB) LN := by
  subst hW
  have q := h.boxes _ (List.mem_cons_self ..)
  refine ⟨(h.below.setCell hne.2 _).setCell hne.2 _, fun x hx => ?_, fun x hx => ?_⟩
  · rcases List.mem_cons.1 hx with rfl | hx
    · exact (setCell_same2 (setCell_same2 q _) _).trans rfl
    · exact (Below.heap_setCell _ _ _ _ (hne.1 x hx)).trans ((Below.heap_setCell _ _ _ _ (hne.1 x hx)).trans (h.boxes x (List.mem_cons_of_mem _ hx)))
  · obtain ⟨a, m, c, e, hw, hr⟩ := h.nums x hx
    exact ⟨a, m, c, e, hw.box q _ _, hr⟩
section
variable {w W : World} {x0 x1 x2 : Nat × Bool × Value} {LB : List (Nat × Bool × Value)} {LN : List (Value × Bool × List Nat)}
theorem St.front1 (h : St w W (x0 :: x1 :: LB) LN) : St w W (x1 :: x0 :: LB) LN := ⟨h.below, fun x hx => h.boxes x (by simp at hx ⊢; rcases hx with hx | hx | hx <;> simp [hx]), h.nums⟩
theorem St.front2 (h : St w W (x0 :: x1 :: x2 :: LB) LN) : St w W (x2 :: x0 :: x1 :: LB) LN := ⟨h.below, fun x hx => h.boxes x (by simp at hx ⊢; rcases hx with hx | hx | hx | hx <;> simp [hx]), h.nums⟩
end
theorem ne_two {x0 : Nat × Bool × Value} {b B : Nat} (hb : B ≤ b) (h0 : x0.1 ≠ b) : (∀ x ∈ [x0], x.1 ≠ b) ∧ B ≤ b := ⟨fun x hx => by simp at hx; rw [hx]; exact h0, hb⟩
theorem ne_three {x0 x1 : Nat × Bool × Value} {b B : Nat} (hb : B ≤ b) (h0 : x0.1 ≠ b) (h1 : x1.1 ≠ b) : (∀ x ∈ [x0, x1], x.1 ≠ b) ∧ B ≤ b := ⟨fun x hx => by simp at hx; rcases hx with hx | hx <;> rw [hx] <;> assumption, hb⟩
theorem IntV.words {w : World} {b g : Bool} {a : Option Addr} {n c : Nat} {z : List Nat} (h : IntV w (.agg #[.bool b, .slice a n c]) g z) : b = g ∧ WordsAt w a n z ∧ n ≤ c ∧ n ≤ 1000000 := by
  obtain ⟨a', n', c', e, h1, h2, h3⟩ := h
  simp only [Value.agg.injEq, Array.mk.injEq, List.cons.injEq, Value.bool.injEq, Value.slice.injEq] at e
  obtain ⟨e1, ⟨e2, e3, e4⟩, _⟩ := e
  subst e1 e2 e3 e4
  exact ⟨rfl, h1, h2, h3⟩
theorem rform_k {g : Bool} {a : Option Addr} {n cap : Nat} {z : List Nat} {w : World} {i : Int} (h : WordsAt w a n z) (hn : n ≤ 1000000) (hc : n ≤ cap) (hi : valI g z = i) :
    Calls Tryd.prog 83 #[.bool g, .slice a n cap] w fun e w' => (∃ (b : Bool) (a : Option Addr) (n c : Nat), e = .returned (.agg #[.bool b, .slice a n c]) ∧ IntC w' (.agg #[.bool b, .slice a n c]) i) ∧ Below w.heap.size w w' := by
  subst hi
  refine (rform_any g a n cap z w h hn hc).mono fun e w' h => ?_
  obtain ⟨v, rfl, hv, hb⟩ := h
  obtain ⟨n, a, k, c, rfl⟩ := hv.agg
  exact ⟨⟨n, a, k, c, rfl, hv⟩, hb⟩
theorem cmpI_signs {x y : Int} : (x < 0 → ¬ y < 0 → cmpI x y = -1) ∧ (¬ x < 0 → y < 0 → cmpI x y = 1) ∧ (x < 0 → y < 0 → cmpN y.natAbs x.natAbs = cmpI x y) ∧ (¬ x < 0 → ¬ y < 0 → cmpN x.natAbs y.natAbs = cmpI x y) := by
  refine ⟨fun h1 h2 => ?_, fun h1 h2 => ?_, fun h1 h2 => ?_, fun h1 h2 => ?_⟩
  · unfold cmpI; rw [if_pos (by omega)]
  · unfold cmpI; rw [if_neg (by omega), if_neg (by omega)]
  · rw [cmpN_I, show ((y.natAbs : Nat) : Int) = -y by omega, show ((x.natAbs : Nat) : Int) = -x by omega, cmpI_neg]
  · rw [cmpN_I, show ((y.natAbs : Nat) : Int) = y by omega, show ((x.natAbs : Nat) : Int) = x by omega]
theorem rsize_k {a1 a2 : Option Addr} {m1 m2 cap1 cap2 : Nat} {N M : Nat} {w : World} (h1 : WordsAt w a1 m1 (canW N)) (h2 : WordsAt w a2 m2 (canW M)) (hm1 : m1 ≤ 1000000) (hm2 : m2 ≤ 1000000) :
    Calls Tryd.prog 87 #[.slice a1 m1 cap1, .slice a2 m2 cap2] w fun e w' => e = .returned (.int .i64 (cmpN N M)) ∧ Below w.heap.size w w' := by
  have h := rsize_any a1 a2 m1 m2 cap1 cap2 (canW N) (canW M) w h1 h2 (can_trim N) (can_trim M) hm1 hm2
  rw [(canW_words N).2, (canW_words M).2] at h
  exact h
theorem rlarge_k {v : Value} {g : Bool} {z : List Nat} {w : World} {x : Int} (h : IntV w v g z) (hx : valI g z = x) : Calls Tryd.prog 82 #[v] w fun e w' => e = .returned (.bool (big x)) ∧ Below w.heap.size w w' := by
  subst hx
  unfold big
  rw [valI_abs]
  exact rlarge_any v g z w h
theorem rend_t {v : Value} {i : Int} {w : World} (h : IntC w v i) : Calls Tryd.prog 97 #[v] w fun e w' => Told w' e (if big i then 2 else 0) (if big i then 0 else i) ∧ Below w.heap.size w w' := by
  refine (rend_k v i w h).mono fun e w' h => ?_
  obtain ⟨⟨v, k, rfl, hk, hv⟩, hb⟩ := h
  obtain ⟨n, a, m, c, rfl⟩ := hv.agg
  exact ⟨⟨n, a, m, c, k, rfl, hk.out, hv⟩, hb⟩
theorem rplus_k {a1 a2 : Option Addr} {n1 n2 cap1 cap2 N M : Nat} {w : World} (h1 : WordsAt w a1 n1 (canW N)) (h2 : WordsAt w a2 n2 (canW M)) (hN : big (N : Int) = false) (hM : big (M : Int) = false) :
    Calls Tryd.prog 85 #[.slice a1 n1 cap1, .slice a2 n2 cap2] w fun e w' => (∃ a n c l, e = .returned (.slice a n c) ∧ Hid (WordsAt w' a n l ∧ n ≤ c ∧ n ≤ 1000000 ∧ ofW l = N + M)) ∧ Below w.heap.size w w' := by
  have hl : ∀ {K : Nat}, big (K : Int) = false → (canW K).length ≤ 16 := fun {K} h => by
    unfold big at h
    have h := of_decide_eq_false h
    rw [Int.natAbs_natCast, ← big_len] at h
    omega
  have l1 := hl hN
  have l2 := hl hM
  have m1 := h1.1
  have m2 := h2.1
  refine (rplus_any a1 a2 n1 n2 cap1 cap2 _ _ w h1 h2 (by omega) (by omega)).mono fun e w' h => ?_
  obtain ⟨a, n, c, l, rfl, q1, q2, q3, q4, q5⟩ := h
  have q6 : max n1 n2 ≤ 16 := Nat.max_le.2 ⟨by omega, by omega⟩
  exact ⟨⟨a, n, c, l, rfl, Lib.hid ⟨q1, q2, by omega, by rw [q4, (canW_words _).2, (canW_words _).2]⟩⟩, q5⟩
theorem rminus_k {a1 a2 : Option Addr} {n1 n2 cap1 cap2 N M : Nat} {w : World} (h1 : WordsAt w a1 n1 (canW N)) (h2 : WordsAt w a2 n2 (canW M)) (hn : n1 ≤ 1000000) (hle : M ≤ N) :
    Calls Tryd.prog 88 #[.slice a1 n1 cap1, .slice a2 n2 cap2] w fun e w' => (∃ a n c l, e = .returned (.slice a n c) ∧ Hid (WordsAt w' a n l ∧ n ≤ c ∧ n ≤ 1000000 ∧ ofW l = N - M)) ∧ Below w.heap.size w w' := by
  have hlen : n2 ≤ n1 := by
    refine Nat.not_lt.1 fun h => ?_
    have := ofW_len_lt (l := canW N) (m := canW M) h1.2.1 (can_trim M) (by rw [h1.1, h2.1]; exact h)
    rw [(canW_words _).2, (canW_words _).2] at this
    omega
  refine (rminus_any a1 a2 n1 n2 cap1 cap2 _ _ w h1 h2 hn hlen (by rw [(canW_words _).2, (canW_words _).2]; exact hle)).mono fun e w' h => ?_
  obtain ⟨a, c, l, rfl, q1, q2, q4, q5⟩ := h
  exact ⟨⟨a, n1, c, l, rfl, Lib.hid ⟨q1, q2, hn, by rw [q4, (canW_words _).2, (canW_words _).2]⟩⟩, q5⟩
theorem valI_t (l : List Nat) : valI true l = -(ofW l : Int) := rfl
theorem valI_f (l : List Nat) : valI false l = (ofW l : Int) := rfl
theorem big_abs (x : Int) : big (x.natAbs : Int) = big x := by unfold big; rw [Int.natAbs_natCast]
theorem addK_fin {x y : Int} (h1 : big x = false) (h2 : big y = false) : addK x y = (if big (x + y) then 2 else 0) ∧ addV x y = (if big (x + y) then 0 else x + y) := by
  unfold addK addV bad1
  rw [h1, h2]
  simp only [Bool.false_or, and_self]
theorem addK_bad {x y : Int} (h : big x = true ∨ big y = true) : addK x y = 2 ∧ addV x y = 0 := by
  have hb : bad1 x y (x + y) = true := by
    unfold bad1
    rcases h with h | h <;> rw [h] <;> simp
  unfold addK addV
  rw [hb]
  exact ⟨rfl, rfl⟩
theorem sub_add (x y : Int) : subK x y = addK x (-y) ∧ subV x y = addV x (-y) := by
  unfold subK subV addK addV bad1
  rw [big_neg, Int.sub_eq_add_neg]
  exact ⟨rfl, rfl⟩
theorem IntV.flip {w : World} {b g : Bool} {a : Option Addr} {n c : Nat} {z : List Nat} (h : IntV w (.agg #[.bool b, .slice a n c]) g z) : IntV w (.agg #[.bool (!b), .slice a n c]) (!g) z := by
  obtain ⟨rfl, h1, h2, h3⟩ := h.words
  exact ⟨a, n, c, rfl, h1, h2, h3⟩
theorem cmpN_ge {N M : Nat} (h : 0 ≤ cmpN N M) : M ≤ N := by
  unfold cmpN at h
  split at h
  · omega
  · split at h <;> omega
theorem cmpN_lt {N M : Nat} (h : cmpN N M < 0) : N ≤ M := by
  unfold cmpN at h
  split at h
  · omega
  · split at h <;> omega
end Go.Proofs.YtcnakbhogmnddaaDoor
