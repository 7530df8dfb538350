/- exact.more. No condition. -/
import Derived.Test.YtcnakbhogmnddaaDoorExTxtLaw
namespace Go.Proofs.YtcnakbhogmnddaaDoor
open Go.RowKit

/-- The first i words are told, C is carried. -/
def MoreR (w wr : World) (base : Nat) (v : Value) (N d i C : Nat) : Prop :=
  ∃ l, RowO wr base v l ∧ l.length = (canW N).length ∧ Words l ∧ ofW (l.take i) + 4294967296 ^ i * C = 10 * ofW ((canW N).take i) + d ∧ l.drop i = (canW N).drop i ∧ Below base w wr
theorem MoreR.start {w : World} {base : Nat} {v : Value} {N d : Nat} (h : RowO w base v (canW N)) : MoreR w w base v N d 0 d :=
  ⟨_, h, rfl, (canW_words N).1, by simp [ofW], rfl, Below.refl _ _⟩
theorem getD_drop {l z : List Nat} {i : Nat} (h : l.drop i = z.drop i) : l.getD i 0 = z.getD i 0 := by
  have := congrArg (fun q => q.getD 0 0) h
  simpa [List.getD] using this
theorem MoreR.at {w wr : World} {base n c : Nat} {a : Option Addr} {N d i C : Nat} (h : MoreR w wr base (.slice a n c) N d i C) (hi : i < (canW N).length) :
    ∃ g, a = some ⟨g, 0, none⟩ ∧ base ≤ g ∧ wr.cell? ⟨g, i, none⟩ = some (.int .u32 (((canW N).getD i 0 : Nat) : Int)) ∧ wr.frozen? ⟨g, i, none⟩ = false := by
  obtain ⟨l, h1, h2, h3, h4, h5, h6⟩ := h
  rcases h1 with ⟨_, e⟩ | ⟨g, cap, e, q1, q2⟩
  · rw [e] at h2
    simp at h2
    omega
  · cases e
    refine ⟨g, rfl, q1, ?_, q2.frozen i⟩
    rw [← getD_drop h5]
    exact q2.cell i (by omega)
theorem MoreR.step {w wr : World} {base g n c : Nat} {N d i C x X : Nat} (h : MoreR w wr base (.slice (some ⟨g, 0, none⟩) n c) N d i C) (hi : i < (canW N).length) (hx : (canW N).getD i 0 = x) (hX : C + x * 10 = X) (hg : base ≤ g) :
    MoreR w (wr.setCell ⟨g, i, none⟩ (.int .u32 ((X % 4294967296 : Nat) : Int))) base (.slice (some ⟨g, 0, none⟩) n c) N d (i + 1) (X / 4294967296) := by
  obtain ⟨l, h1, h2, h3, h4, h5, h6⟩ := h
  rcases h1 with ⟨_, e⟩ | ⟨g', cap, e, q1, q2⟩
  · rw [e] at h2
    simp at h2
    omega
  · cases e
    refine ⟨l.set i (X % 4294967296), .inr ⟨g, c, by simp, q1, q2.set _ _⟩, by simpa using h2, h3.set (Nat.mod_lt _ (by decide)), ?_, ?_, h6.setCell hg _⟩
    · rw [ofW_take, ofW_take (canW N), take_set, getD_set (by omega), hx, Nat.pow_succ]
      have hd := Nat.div_add_mod X 4294967296
      have e : 4294967296 ^ i * X = 4294967296 ^ i * (X % 4294967296) + 4294967296 ^ i * 4294967296 * (X / 4294967296) := by
        rw [Nat.mul_assoc, ← Nat.mul_add]
        congr 1
        omega
      have e2 : 4294967296 ^ i * X = 4294967296 ^ i * C + 10 * (4294967296 ^ i * x) := by
        rw [← hX, Nat.mul_add, ← Nat.mul_assoc, Nat.mul_comm _ 10]
      rw [Nat.mul_add]
      omega
    · have h7 := congrArg (List.drop 1) h5
      rw [List.drop_drop, List.drop_drop] at h7
      rw [← h7]
      apply List.ext_getElem?
      intro j
      simp only [List.getElem?_drop]
      rw [List.getElem?_set_ne (by omega)]
theorem canW_ge (N : Nat) : ∀ m, m < (canW N).length → 4294967296 ^ m ≤ N := by
  intro m hm
  have h1 := trim_top (can_trim N) (fun e => by rw [e] at hm; simp at hm)
  rw [(canW_words N).2] at h1
  exact Nat.le_trans (pow_mono 4294967296 m ((canW N).length - 1) (by decide) (by omega)) h1
theorem MoreR.done {w wr : World} {base : Nat} {v : Value} {N d C : Nat} (h : MoreR w wr base v N d (canW N).length C) :
    ∃ l, RowO wr base v l ∧ l.length = (canW N).length ∧ Below base w wr ∧ (C = 0 → l = canW (10 * N + d)) ∧ (0 < C → C < 4294967296 → l ++ [C] = canW (10 * N + d)) := by
  obtain ⟨l, h1, h2, h3, h4, h5, h6⟩ := h
  rw [List.take_length, (canW_words N).2, ← h2, List.take_length] at h4
  refine ⟨l, h1, h2, h6, fun hC => ?_, fun hC hC9 => ?_⟩
  · subst hC
    rw [Nat.mul_zero, Nat.add_zero] at h4
    rw [← h4, ← trim_can h3]
    symm
    refine trim_of_ge h3 fun hl => ?_
    have := canW_ge N (l.length - 1) (by have := List.length_pos_iff.2 hl; omega)
    omega
  · have hw : Words (l ++ [C]) := fun x hx => by
      rcases List.mem_append.1 hx with hx | hx
      · exact h3 x hx
      · simp at hx
        omega
    have e : ofW (l ++ [C]) = 10 * N + d := by
      rw [ofW_append, ← h4]
      simp [ofW]
    rw [← e, ← trim_can hw]
    symm
    refine trim_of_ge hw fun _ => ?_
    rw [ofW_append, List.length_append, List.length_singleton, Nat.add_sub_cancel]
    simp only [ofW, Nat.mul_zero, Nat.add_zero]
    exact Nat.le_trans (Nat.le_mul_of_pos_right _ hC) (Nat.le_add_left _ _)

set_option maxRecDepth 100000 in
set_option maxHeartbeats 1600000 in
theorem more_any (v : Value) (N d base : Nat) (w : World) (h : RowO w base v (canW N)) (hd : d < 10) (hn : (canW N).length ≤ 1000000) (hb : base ≤ w.heap.size) :
    Calls Tryd.prog 98 #[v, .int .u32 10, .int .u32 d] w fun e w' => ∃ v', e = .returned v' ∧ RowO w' base v' (canW (10 * N + d)) ∧ Below base w w' := by
  obtain ⟨a, c, rfl, hc, _⟩ := h.shape
  obtain ⟨n, Hn⟩ : ∃ n, Hid ((canW N).length = n) := ⟨_, Lib.hid rfl⟩
  rw [Hn.out] at hn hc ⊢
  have HR := Lib.hid (show MoreR w w base (.slice a n c) N d 0 d from by rw [← Hn.out]; exact MoreR.start h)
  have Hbs := Lib.hid hb
  clear h hb
  go_enter Tryd.func98, Tryd.ntmps98
  go_wp2_with fail
  go_loopg [7, 14, 8, 9] n (fun gg v7 v14 v8 v9 wr => ∃ (i C : Nat), i ≤ n ∧ v14 = .int .i64 i ∧ v7 = .int .u64 C ∧ C < 10 ∧ gg = n - i ∧ Hid (MoreR w wr base (.slice a n c) N d i C))
  case atStart => exact ⟨0, d, Nat.zero_le _, rfl, rfl, hd, rfl, HR⟩
  case round =>
    obtain ⟨i, C, hi, rfl, rfl, hC, hgg, Hr⟩ := hrel
    by_cases hlt : i < n
    · have hi2 : i < (canW N).length := by rw [Hn.out]; exact hlt
      obtain ⟨g, rfl, hg, hcell, hfz⟩ := Hr.out.at hi2
      obtain ⟨x, Hx⟩ : ∃ x, Hid ((canW N).getD i 0 = x) := ⟨_, Lib.hid rfl⟩
      have hx9 : x < 4294967296 := by rw [← Hx.out]; exact (canW_words N).1.get i
      rw [Hx.out] at hcell
      obtain ⟨X, HX⟩ : ∃ X, Hid (C + x * 10 = X) := ⟨_, Lib.hid rfl⟩
      have e1 : (C : Int) + (x : Int) * 10 = (X : Int) := by have := HX.out; omega
      have hX9 : X < 42949672960 := by have := HX.out; omega
      have HS := Lib.hid (Hr.out.step hi2 Hx.out HX.out hg)
      have Hi2 := Lib.hid hi2
      clear hi2 Hr
      obtain ⟨C', HC'⟩ : ∃ q, Hid (X / 4294967296 = q) := ⟨_, Lib.hid rfl⟩
      have hC' : C' < 10 := by have := HC'.out; have := HX.out; omega
      rw [HC'.out] at HS
      have e2 : (X : Int) / 4294967296 = (C' : Int) := by have := HC'.out; omega
      go_wp2_with fail
      go_roundg (n - (i + 1))
      case measure => omega
      case rel => exact ⟨i + 1, C', by omega, by go_num, rfl, hC', rfl, by simpa using HS⟩
    · have e : i = n := by omega
      subst e
      obtain ⟨l, h1, h2, h3, h4, h5⟩ := (show MoreR w wr base (.slice a i c) N d (canW N).length C from by rw [Hn.out]; exact Hr.out).done
      have HD := Lib.hid (And.intro h1 (And.intro h2 (And.intro h3 (And.intro h4 h5))))
      have hsz := h3.size
      clear h1 h2 h3 h4 h5
      by_cases hC0 : C = 0
      · subst hC0
        go_wp2_with fail
        go_ret
        refine ⟨_, rfl, ?_, HD.out.2.2.1⟩
        rw [← HD.out.2.2.2.1 trivial]
        exact HD.out.1
      · have hC1 : 0 < C := by omega
        have hw := Lib.hid (show base ≤ wr.heap.size from by have := Hbs.out; omega)
        have hl := Lib.hid (show l.length = i from by rw [HD.out.2.1, Hn.out])
        go_wp2_with first
          | (refine wpList_app1 wr rfl _ _ rfl base (.slice a i c) l _ C rfl rfl HD.out.1 rfl (by rw [hl.out]; omega) hw.out ?_; intro g' cap' w' q1 q2 q3; rw [hl.out]; have HQ := Lib.hid (And.intro q1 (And.intro q2 q3)); clear q1 q2 q3)
          | fail
        go_ret
        refine ⟨_, rfl, ?_, HD.out.2.2.1.trans HQ.out.2.2⟩
        have e := HD.out.2.2.2.2 hC1 (by omega)
        rw [← e]
        exact .inr ⟨g', cap', by rw [List.length_append, hl.out]; rfl, HQ.out.2.1, HQ.out.1⟩
end Go.Proofs.YtcnakbhogmnddaaDoor
