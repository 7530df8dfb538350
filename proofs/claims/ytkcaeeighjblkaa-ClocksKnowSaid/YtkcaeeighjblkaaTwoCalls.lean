/- The calls on the two orders, whoever calls. No condition. -/
import Derived.Test.YtkcaeeighjblkaaTwoRel
namespace Go.Proofs.Ytkcaeeighjblkaa
open Go.RowKit

def TwoStep (w : World) (x : TwoSt) (w' : World) (x' : TwoSt) (N M : Nat) : Prop :=
  TwoMem w' x' N M ∧ Fr x.fp w w' ∧ (∀ k, x'.fp k → x.fp k ∨ w.heap.size ≤ k) ∧ x'.bx = x.bx ∧ x'.st.bo = x.st.bo ∧ x'.rst.po = x.rst.po

section
variable {w w' w2 : World} {x x' y : TwoSt} {N M N' M' : Nat}
theorem TwoStep.refl (h : TwoMem w x N M) : TwoStep w x w x N M := ⟨h, Fr.refl _ _, fun _ h => .inl h, rfl, rfl, rfl⟩
theorem TwoStep.trans (h : TwoStep w x w' x' N M) (k : TwoStep w' x' w2 y N' M') : TwoStep w x w2 y N' M' := by
  refine ⟨k.1, h.2.1.trans k.2.1 (fun _ e => e) h.2.2.1, fun j e => ?_, k.2.2.2.1.trans h.2.2.2.1, k.2.2.2.2.1.trans h.2.2.2.2.1, k.2.2.2.2.2.trans h.2.2.2.2.2⟩
  rcases k.2.2.1 j e with e | e
  · exact h.2.2.1 j e
  · have := h.2.1.size; right; omega
theorem TwoStep.mono (h : TwoStep w x w' x' N M) (hN : N ≤ N') (hN' : N' ≤ 100000) (hM : M ≤ M') (hM' : M' ≤ 100000) : TwoStep w x w' x' N' M' := ⟨h.1.mono hN hN' hM hM', h.2⟩
theorem TwoStep.below (h : TwoStep w x w' x' N M) (hb : Below w'.heap.size w' w2) : TwoStep w x w2 x' N M :=
  h.trans ⟨h.1.of_below hb, Fr.of_below hb, fun _ e => .inl e, rfl, rfl, rfl⟩

theorem wstart (bo : Nat) (a : Int) (w : World) (h : TwoMem w x N M) (hN : N < 100000) (hbo : x.st.bo = bo) :
    Calls Try.prog 17 #[.pointer (some ⟨bo, 0, none⟩), .int .i64 a] w fun e w' => e = .returned (.int .i64 (vStart x.K a)) ∧ ∃ st', TwoStep w x w' (x.setO st' (kStart x.K a) x.P) (N + 1) M := by
  subst hbo
  cases hb : inK x.K a with
  | false =>
    refine (start_bad x.st x.K x.P N a w h.ord (not_inK hb)).mono ?_
    rintro e w' ⟨rfl, rfl⟩
    have e1 : kStart x.K a = x.K := by unfold kStart; rw [hb, if_neg (by decide)]
    have e2 : vStart x.K a = -1 := by unfold vStart; rw [hb, if_neg (by decide)]
    rw [e1, e2]
    exact ⟨rfl, x.st, (TwoStep.refl h).mono (by omega) (by omega) (Nat.le_refl _) h.rord.small⟩
  | true =>
    obtain ⟨n, rfl, hn⟩ := inK_nat hb
    refine (start_any x.st x.K x.P N n w h.ord hn hN).mono ?_
    rintro e w' ⟨st', rfl, hbo, hO, hf, hfp⟩
    have e1 : kStart x.K n = x.K ++ [x.K.getD n []] := by unfold kStart; rw [hb, if_pos rfl]; simp
    have e2 : vStart x.K n = (x.K.length : Int) := by unfold vStart; rw [hb, if_pos rfl]
    rw [e1, e2]
    have := h.setO hO (by omega) hbo hf hfp
    exact ⟨rfl, st', this.1, this.2.1, this.2.2, rfl, hbo, rfl⟩

theorem wrstart (po : Nat) (a : Int) (w : World) (h : TwoMem w x N M) (hM : M < 100000) (hpo : x.rst.po = po) :
    Calls Try.prog 32 #[.pointer (some ⟨po, 0, none⟩), .int .i64 a] w fun e w' => e = .returned (.int .i64 (vStart x.KR a)) ∧ ∃ st', TwoStep w x w' (x.setR st' (rStart x.KR a) x.A) N (M + 1) := by
  cases hb : inK x.KR a with
  | false =>
    refine (rstart_bad po x.rst x.KR x.A M a w hpo h.rord (not_inK hb)).mono ?_
    rintro e w' ⟨rfl, rfl⟩
    have e1 : rStart x.KR a = x.KR := by unfold rStart; rw [hb, if_neg (by decide)]
    have e2 : vStart x.KR a = -1 := by unfold vStart; rw [hb, if_neg (by decide)]
    rw [e1, e2]
    exact ⟨rfl, x.rst, (TwoStep.refl h).mono (Nat.le_refl _) h.ord.small (by omega) (by omega)⟩
  | true =>
    obtain ⟨n, rfl, hn⟩ := inK_nat hb
    refine (rstart_any po x.rst x.KR x.A M n w hpo h.rord hn hM).mono ?_
    rintro e w' ⟨st', rfl, hbo, hO, hf, hfp⟩
    have e1 : rStart x.KR n = x.KR ++ [padTo (x.KR.getD n []) (x.KR.length + 1)] := by unfold rStart; rw [hb, if_pos rfl]; simp
    have e2 : vStart x.KR n = (x.KR.length : Int) := by unfold vStart; rw [hb, if_pos rfl]
    rw [e1, e2]
    have := h.setR hO (by omega) hbo hf (fun k hk => hfp k (by simpa using hk))
    exact ⟨rfl, st', this.1, this.2.1, this.2.2, rfl, rfl, hbo⟩

/-- Read and Write, of the program's order. -/
theorem wacc (bo : Nat) (a cell : Int) (write : Bool) (w : World) (h : TwoMem w x N M) (hN : N + 3 ≤ 100000) (hbo : x.st.bo = bo) (hc : wfi cell) :
    Calls Try.prog 28 #[.pointer (some ⟨bo, 0, none⟩), .int .i64 a, .int .i64 cell, .bool write] w fun e w' => ∃ ok : Bool, e = .returned (.bool ok) ∧
      (inK x.K a = true → (ok = true ↔ ∀ k : Int, wfi k → k = a ∨ needOf' (x.P cell k) write ≤ (bump (x.K.getD a.toNat []) a.toNat).getD k.toNat 0)) ∧ (inK x.K a = false → ok = true) ∧
      ∃ st', TwoStep w x w' (x.setO st' (kAcc x.K a) (pAcc x.P x.K a cell write)) (N + 3) M := by
  subst hbo
  cases hb : inK x.K a with
  | false =>
    refine (access_bad x.st x.K x.P N a cell write w h.ord (not_inK hb)).mono ?_
    rintro e w' ⟨rfl, rfl⟩
    have e1 : kAcc x.K a = x.K := by unfold kAcc; rw [hb, if_neg (by decide)]
    have e2 : pAcc x.P x.K a cell write = x.P := by unfold pAcc; rw [hb, if_neg (by decide)]
    rw [e1, e2]
    exact ⟨true, rfl, fun h => (by cases h), fun _ => rfl, x.st, (TwoStep.refl h).mono (by omega) (by omega) (Nat.le_refl _) h.rord.small⟩
  | true =>
    obtain ⟨n, rfl, hn⟩ := inK_nat hb
    refine (access_any x.st x.K x.P N n cell write w h.ord hn hN hc).mono ?_
    rintro e w' ⟨st', ok, rfl, hbo, hO, hf, hfp, hok⟩
    have e1 : kAcc x.K n = x.K.set n (bump (x.K.getD n []) n) := by unfold kAcc; rw [hb, if_pos rfl]; simp
    have e2 : pAcc x.P x.K n cell write = AccNew x.P cell n write ((bump (x.K.getD n []) n).getD n 0) := by unfold pAcc; rw [hb, if_pos rfl]; simp
    rw [e1, e2]
    have := h.setO hO (by omega) hbo hf hfp
    exact ⟨ok, rfl, fun _ => by rw [Int.toNat_natCast]; exact hok, fun h => (by cases h), st', this.1, this.2.1, this.2.2, rfl, hbo, rfl⟩

theorem wracc (po : Nat) (a cell : Int) (write : Bool) (w : World) (h : TwoMem w x N M) (hM : M + 2 ≤ 100000) (hpo : x.rst.po = po) :
    Calls Try.prog 46 #[.pointer (some ⟨po, 0, none⟩), .int .i64 a, .int .i64 cell, .bool write] w fun e w' => e = .returned (.bool (vAcc x.KR x.A a cell write)) ∧
      ∃ st', TwoStep w x w' (x.setR st' (kAcc x.KR a) (aAcc x.A x.KR a cell write)) N (M + 2) := by
  cases hb : inK x.KR a with
  | false =>
    refine (raccess_bad po x.rst x.KR x.A M a cell write w hpo h.rord (not_inK hb)).mono ?_
    rintro e w' ⟨rfl, rfl⟩
    have e1 : kAcc x.KR a = x.KR := by unfold kAcc; rw [hb, if_neg (by decide)]
    have e2 : aAcc x.A x.KR a cell write = x.A := by unfold aAcc; rw [hb, if_neg (by decide)]
    have e3 : vAcc x.KR x.A a cell write = true := by unfold vAcc; rw [hb, if_neg (by decide)]
    rw [e1, e2, e3]
    exact ⟨rfl, x.rst, (TwoStep.refl h).mono (Nat.le_refl _) h.ord.small (by omega) (by omega)⟩
  | true =>
    obtain ⟨n, rfl, hn⟩ := inK_nat hb
    refine (raccess_any po x.rst x.KR x.A M n cell write w hpo h.rord hn hM).mono ?_
    rintro e w' ⟨st', rfl, hR⟩
    have e1 : kAcc x.KR n = x.KR.set n (bump (x.KR.getD n []) n) := by unfold kAcc; rw [hb, if_pos rfl]; simp
    have e2 : aAcc x.A x.KR n cell write = x.A ++ [(n, (bump (x.KR.getD n []) n).getD n 0, write, cell)] := by unfold aAcc; rw [hb, if_pos rfl]; simp
    have e3 : vAcc x.KR x.A n cell write = refOk (x.KR.getD n []) x.A n cell write := by unfold vAcc; rw [hb, if_pos rfl]; simp
    rw [e1, e2, e3]
    have := h.setR hR.ord (by omega) hR.po hR.fr (fun k hk => hR.fp k (by rw [hR.len] at hk; exact hk))
    exact ⟨rfl, st', this.1, this.2.1, this.2.2, rfl, rfl, hR.po⟩

/-- What a Send tells: a clock of its own, or none. -/
theorem wsend (bo : Nat) (a : Int) (w : World) (h : TwoMem w x N M) (hbo : x.st.bo = bo) :
    Calls Try.prog 19 #[.pointer (some ⟨bo, 0, none⟩), .int .i64 a] w fun e w' => ∃ o : Option (Nat × Value), e = .returned (ptrOf (o, vSend x.K a)) ∧ Below w.heap.size w w' ∧ (o = none → vSend x.K a = []) ∧ (o = none ↔ inK x.K a = false) ∧
      ∀ b v, o = some (b, v) → w.heap.size ≤ b ∧ w'.heap[b]? = some (.cells #[v] 57 (0, 0)) ∧ w'.ownsRow w.heap.size 3 1 v (vSend x.K a).length (ints (vSend x.K a)) := by
  cases hb : inK x.K a with
  | false =>
    refine (send_bad bo x.st x.K x.P N a w hbo h.ord (not_inK hb)).mono ?_
    rintro e w' ⟨rfl, rfl⟩
    exact ⟨none, rfl, Below.refl _ _, fun _ => by unfold vSend; rw [hb, if_neg (by decide)], by simp, fun _ _ h => (by cases h)⟩
  | true =>
    obtain ⟨n, rfl, hn⟩ := inK_nat hb
    refine (send_any bo x.st x.K x.P N n w hbo h.ord hn).mono ?_
    rintro e w' ⟨bc, rfl, ⟨ac, cap, h1, h2, h3⟩, hbel⟩
    have e1 : vSend x.K n = x.K.getD n [] := by unfold vSend; rw [hb, if_pos rfl]; simp
    rw [e1]
    exact ⟨some (bc, .slice ac (x.K.getD n []).length cap), rfl, hbel, fun h => (by cases h), by simp, fun b v e => by cases e; exact ⟨h1, h2, h3⟩⟩

theorem wrsend (po : Nat) (a : Int) (w : World) (h : TwoMem w x N M) (hpo : x.rst.po = po) :
    Calls Try.prog 35 #[.pointer (some ⟨po, 0, none⟩), .int .i64 a] w fun e w' => ∃ g cap, e = .returned (.slice g (vSend x.KR a).length cap) ∧ Below w.heap.size w w' ∧
      w'.ownsRow w.heap.size 3 1 (.slice g (vSend x.KR a).length cap) (vSend x.KR a).length (ints (vSend x.KR a)) := by
  cases hb : inK x.KR a with
  | false =>
    refine (rsend_bad po x.rst x.KR x.A M a w hpo h.rord (not_inK hb)).mono ?_
    rintro e w' ⟨rfl, rfl⟩
    have e1 : vSend x.KR a = [] := by unfold vSend; rw [hb, if_neg (by decide)]
    rw [e1]
    exact ⟨none, 0, rfl, Below.refl _ _, World.ownsRow_nil _ _ _ _⟩
  | true =>
    obtain ⟨n, rfl, hn⟩ := inK_nat hb
    refine (rsend_any po x.rst x.KR x.A M n w hpo h.rord hn).mono ?_
    rintro e w' ⟨g, cap, rfl, h1, h2⟩
    have e1 : vSend x.KR n = x.KR.getD n [] := by unfold vSend; rw [hb, if_pos rfl]; simp
    rw [e1]
    exact ⟨some ⟨g, 0, none⟩, cap, rfl, h2, h1⟩

theorem wrecv (bo : Nat) (a : Int) (c : Clk) (w : World) (h : TwoMem w x N M) (hbo : x.st.bo = bo) (hc : c ∈ x.Cs) :
    Calls Try.prog 18 #[.pointer (some ⟨bo, 0, none⟩), .int .i64 a, ptrOf c] w fun e w' => e = .returned (.tuple #[]) ∧ ∃ st', TwoStep w x w' (x.setO st' (kRecv x.K a c.2) x.P) N M := by
  have hno : ∀ w', w = w' → kRecv x.K a c.2 = x.K → ∃ st', TwoStep w x w' (x.setO st' (kRecv x.K a c.2) x.P) N M := fun w' e e1 => by
    subst e; rw [e1]; exact ⟨x.st, TwoStep.refl h⟩
  cases hb : inK x.K a with
  | false =>
    refine (receive_bad bo x.st x.K x.P N a (ptrOf c) w hbo h.ord (not_inK hb)).mono ?_
    rintro e w' ⟨rfl, e2⟩
    exact ⟨rfl, hno w' e2 (by unfold kRecv; rw [hb, if_neg (by decide)])⟩
  | true =>
    obtain ⟨n, rfl, hn⟩ := inK_nat hb
    obtain ⟨o, r⟩ := c
    cases o with
    | none =>
      have hr : r = [] := h.cs.non _ hc rfl
      subst hr
      refine (receive_none bo x.st x.K x.P N n w hbo h.ord).mono ?_
      rintro e w' ⟨rfl, e2⟩
      refine ⟨rfl, hno w' e2 ?_⟩
      unfold kRecv
      rw [hb, if_pos rfl, Int.toNat_natCast, maxL_take_nil _ (fun j => (h.ord.rval n j).1)]
      exact set_self _ _ _ hn
    | some bv =>
      obtain ⟨b, v⟩ := bv
      obtain ⟨h1, h2⟩ := h.cs.at_ _ hc b v rfl
      have h2 : w.ownsRow 0 3 1 v r.length (ints r) := h2
      obtain ⟨ac, cap, ev⟩ := row_form h2
      rw [ev] at h1 h2
      refine (receive_any bo b 0 x.st x.K x.P N n r w hbo h.ord hn ⟨ac, cap, Nat.zero_le _, h1, h2⟩ (h.cs.len _ hc) (h.cs.val _ hc)).mono ?_
      rintro e w' ⟨st', rfl, hb', hO, hf, hfp⟩
      have e1 : kRecv x.K n r = x.K.set n (maxL (x.K.getD n []) r) := by unfold kRecv; rw [hb, if_pos rfl]; simp
      have := h.setO hO (Nat.le_refl _) hb' hf hfp
      refine ⟨rfl, st', ?_⟩
      rw [e1]
      exact ⟨this.1, this.2.1, this.2.2, rfl, hb', rfl⟩

theorem wrrecv (po : Nat) (a : Int) (i : Nat) (w : World) (h : TwoMem w x N M) (hpo : x.rst.po = po) (hi : i < x.D.length) :
    Calls Try.prog 37 #[.pointer (some ⟨po, 0, none⟩), .int .i64 a, x.dr.getD i undef] w fun e w' => e = .returned (.tuple #[]) ∧ ∃ st', TwoStep w x w' (x.setR st' (kRecv x.KR a (x.D.getD i [])) x.A) N M := by
  cases hb : inK x.KR a with
  | false =>
    refine (rrecv_bad po x.rst x.KR x.A M a _ w hpo h.rord (not_inK hb)).mono ?_
    rintro e w' ⟨rfl, rfl⟩
    have e1 : kRecv x.KR a (x.D.getD i []) = x.KR := by unfold kRecv; rw [hb, if_neg (by decide)]
    rw [e1]
    exact ⟨rfl, x.rst, TwoStep.refl h⟩
  | true =>
    obtain ⟨n, rfl, hn⟩ := inK_nat hb
    have hrl := h.ds.rowsLen
    refine (rrecv_any po x.rst x.KR x.A M n (x.D.getD i []) _ w hpo h.rord hn (h.ds.row i hi) (fun k e e2 => ?_) (h.dl i) (h.dval i)).mono ?_
    · have : (3 : Nat) = 1 := h.ap 3 1 k (.inr ⟨i, by omega, e⟩) e2
      exact absurd this (by decide)
    · rintro e w' ⟨rfl, st', hR⟩
      rw [List.take_length] at hR
      have e1 : kRecv x.KR n (x.D.getD i []) = x.KR.set n (maxL (x.KR.getD n []) (x.D.getD i [])) := by unfold kRecv; rw [hb, if_pos rfl]; simp
      rw [e1]
      have := h.setR hR.ord (Nat.le_refl _) hR.po hR.fr (fun k hk => hR.fp k (by rw [hR.len] at hk; exact hk))
      exact ⟨rfl, st', this.1, this.2.1, this.2.2, rfl, rfl, hR.po⟩
end
end Go.Proofs.Ytkcaeeighjblkaa
