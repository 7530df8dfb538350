/- The two orders beside one another: what they know is alike; plain law, no memory in sight. No condition. -/
import Derived.Test.YtkcaeeighjblkaaTwoInv
namespace Go.Proofs.Ytkcaeeighjblkaa
open Go.RowKit

theorem needOf'_nonpos {P : Int × Int} {write : Bool} (h1 : P.1 ≤ 0) (h2 : P.2 ≤ 0) : needOf' P write ≤ 0 := by unfold needOf'; cases write <;> simp <;> omega

structure AccRel (P : Acc) (A : Acs) (KR : List (List Int)) : Prop where
  who : ∀ a ∈ A, wfi (a.1 : Int)
  hi : ∀ a ∈ A, a.2.1 ≤ (KR.getD a.1 []).getD a.1 0
  upW : ∀ a ∈ A, a.2.2.1 = true → a.2.1 ≤ (P a.2.2.2 a.1).2
  upR : ∀ a ∈ A, a.2.2.1 = false → a.2.1 ≤ (P a.2.2.2 a.1).1
  dnR : ∀ cell k, (P cell k).1 ≤ 0 ∨ ∃ a ∈ A, (a.1 : Int) = k ∧ a.2.2.2 = cell ∧ a.2.2.1 = false ∧ a.2.1 = (P cell k).1
  dnW : ∀ cell k, (P cell k).2 ≤ 0 ∨ ∃ a ∈ A, (a.1 : Int) = k ∧ a.2.2.2 = cell ∧ a.2.2.1 = true ∧ a.2.1 = (P cell k).2

theorem AccRel.start (KR : List (List Int)) : AccRel acc0 [] KR :=
  ⟨fun _ h => by simp at h, fun _ h => by simp at h, fun _ h => by simp at h, fun _ h => by simp at h, fun _ _ => .inl (Int.le_refl _), fun _ _ => .inl (Int.le_refl _)⟩

theorem AccRel.mono {P : Acc} {A : Acs} {KR KR' : List (List Int)} (h : AccRel P A KR) (hk : ∀ i j, (KR.getD i []).getD j 0 ≤ (KR'.getD i []).getD j 0) : AccRel P A KR' :=
  ⟨h.who, fun a ha => Int.le_trans (h.hi a ha) (hk _ _), h.upW, h.upR, h.dnR, h.dnW⟩

/-- An access is told for ordered by both alike. -/
theorem AccRel.ok {P : Acc} {A : Acs} {KR : List (List Int)} {r r' : List Int} {who : Nat} {cell : Int} {write : Bool} (h : AccRel P A KR) (hr : ∀ j, r'.getD j 0 = r.getD j 0) (hp : ∀ j, 0 ≤ r.getD j 0) :
    (∀ k : Int, wfi k → k = who ∨ needOf' (P cell k) write ≤ (bump r who).getD k.toNat 0) ↔ refOk r' A who cell write = true := by
  unfold refOk
  rw [List.all_eq_true]
  constructor
  · intro hk a ha
    have hw := hk (a.1 : Int) (h.who a ha)
    rw [Int.toNat_natCast, bump_getD] at hw
    unfold refBad
    rw [hr]
    by_cases e1 : a.2.2.2 = cell
    · by_cases e2 : (a.1 : Int) = (who : Int)
      · simp [e2]
      · have hne : ¬ who = a.1 := by omega
        rw [if_neg hne] at hw
        rcases hw with hw | hw
        · exact absurd hw e2
        · have h1 := h.upW a ha
          have h2 := h.upR a ha
          rw [e1] at h1 h2
          unfold needOf' at hw
          cases hb : a.2.2.1 with
          | true =>
            have := h1 hb
            have : ¬ r.getD a.1 0 < a.2.1 := by split at hw <;> omega
            rw [decide_eq_false this]; simp
          | false =>
            cases write with
            | true =>
              have := h2 hb
              have : ¬ r.getD a.1 0 < a.2.1 := by rw [if_pos rfl] at hw; omega
              rw [decide_eq_false this]; simp
            | false => simp
    · simp [e1]
  · intro hA k _
    by_cases e : k = (who : Int)
    · exact .inl e
    right
    rw [bump_getD]
    have hge : r.getD k.toNat 0 ≤ (if who = k.toNat then r.getD k.toNat 0 + 1 else r.getD k.toNat 0) := by split <;> omega
    refine Int.le_trans ?_ hge
    have key : ∀ n : Int, (n ≤ 0 ∨ ∃ a ∈ A, (a.1 : Int) = k ∧ a.2.2.2 = cell ∧ (a.2.2.1 || write) = true ∧ a.2.1 = n) → n ≤ r.getD k.toNat 0 := by
      intro n hn
      rcases hn with hn | ⟨a, ha, ea, ec, ew, en⟩
      · have := hp k.toNat; omega
      · have := hA a ha
        unfold refBad at this
        rw [hr] at this
        subst ea
        rw [Int.toNat_natCast]
        simp only [ec, ew, decide_true, Bool.true_and, Bool.and_true] at this
        have e' : decide ((a.1 : Int) = (who : Int)) = false := by simpa using e
        rw [e'] at this
        simp at this
        rw [← en]
        simpa using this
    have kW : (P cell k).2 ≤ r.getD k.toNat 0 := key _ (by
      rcases h.dnW cell k with h0 | ⟨a, h1, h2, h3, h4, h5⟩
      · exact .inl h0
      · exact .inr ⟨a, h1, h2, h3, by simp [h4], h5⟩)
    unfold needOf'
    cases write with
    | false => exact kW
    | true =>
      have kR : (P cell k).1 ≤ r.getD k.toNat 0 := key _ (by
        rcases h.dnR cell k with h0 | ⟨a, h1, h2, h3, h4, h5⟩
        · exact .inl h0
        · exact .inr ⟨a, h1, h2, h3, by simp, h5⟩)
      rw [if_pos rfl]
      omega

theorem AccRel.next {P : Acc} {A : Acs} {KR : List (List Int)} {who : Nat} {cell n : Int} {write : Bool} (h : AccRel P A KR) (hw : who < KR.length) (hwf : wfi (who : Int)) (hn : n = (KR.getD who []).getD who 0 + 1) :
    AccRel (AccNew P cell who write n) (A ++ [(who, n, write, cell)]) (KR.set who (bump (KR.getD who []) who)) := by
  have hK : ∀ i j, (KR.getD i []).getD j 0 ≤ ((KR.set who (bump (KR.getD who []) who)).getD i []).getD j 0 := by
    intro i j
    rw [getD_set_cases _ _ _ _ _ hw]
    split
    · rename_i e
      subst e
      rw [bump_getD]; split <;> omega
    · exact Int.le_refl _
  have hnew : n = ((KR.set who (bump (KR.getD who []) who)).getD who []).getD who 0 := by
    rw [getD_set_eq hw, bump_getD, if_pos rfl, hn]
  have hold : ∀ a ∈ A, a.1 = who → a.2.1 ≤ n := fun a ha e => by
    have := h.hi a ha
    rw [e] at this; omega
  refine ⟨fun a ha => ?_, fun a ha => ?_, fun a ha hb => ?_, fun a ha hb => ?_, fun c k => ?_, fun c k => ?_⟩
  · rcases List.mem_append.1 ha with ha | ha
    · exact h.who a ha
    · have : a = (who, n, write, cell) := by simpa using ha
      subst this; exact hwf
  · rcases List.mem_append.1 ha with ha | ha
    · exact Int.le_trans (h.hi a ha) (hK _ _)
    · have : a = (who, n, write, cell) := by simpa using ha
      subst this; exact Int.le_of_eq hnew
  · rcases List.mem_append.1 ha with ha | ha
    · have := h.upW a ha hb
      unfold AccNew
      split
      · rename_i e
        have h1 := hold a ha (by omega)
        split
        · exact h1
        · exact this
      · exact this
    · have : a = (who, n, write, cell) := by simpa using ha
      subst this
      have hb : write = true := hb
      subst hb
      simp [AccNew]
  · rcases List.mem_append.1 ha with ha | ha
    · have := h.upR a ha hb
      unfold AccNew
      split
      · rename_i e
        have h1 := hold a ha (by omega)
        split
        · exact this
        · exact h1
      · exact this
    · have : a = (who, n, write, cell) := by simpa using ha
      subst this
      have hb : write = false := hb
      subst hb
      simp [AccNew]
  · have hO := h.dnR c k
    have hO' : (P c k).1 ≤ 0 ∨ ∃ a ∈ A ++ [(who, n, write, cell)], (a.1 : Int) = k ∧ a.2.2.2 = c ∧ a.2.2.1 = false ∧ a.2.1 = (P c k).1 := by
      rcases hO with h0 | ⟨a, h1, h2⟩
      · exact .inl h0
      · exact .inr ⟨a, List.mem_append.2 (.inl h1), h2⟩
    unfold AccNew
    by_cases e : c = cell ∧ k = who
    · rw [if_pos e]
      cases write with
      | true => exact hO'
      | false => exact .inr ⟨(who, n, false, cell), by simp, e.2.symm, e.1.symm, rfl, rfl⟩
    · rw [if_neg e]; exact hO'
  · have hO := h.dnW c k
    have hO' : (P c k).2 ≤ 0 ∨ ∃ a ∈ A ++ [(who, n, write, cell)], (a.1 : Int) = k ∧ a.2.2.2 = c ∧ a.2.2.1 = true ∧ a.2.1 = (P c k).2 := by
      rcases hO with h0 | ⟨a, h1, h2⟩
      · exact .inl h0
      · exact .inr ⟨a, List.mem_append.2 (.inl h1), h2⟩
    unfold AccNew
    by_cases e : c = cell ∧ k = who
    · rw [if_pos e]
      cases write with
      | true => exact .inr ⟨(who, n, true, cell), by simp, e.2.symm, e.1.symm, rfl, rfl⟩
      | false => exact hO'
    · rw [if_neg e]; exact hO'

/-- Nothing is known less. -/
def Kle (K K' : List (List Int)) : Prop := K.length ≤ K'.length ∧ ∀ i j, (K.getD i []).getD j 0 ≤ (K'.getD i []).getD j 0
theorem Kle.refl (K : List (List Int)) : Kle K K := ⟨Nat.le_refl _, fun _ _ => Int.le_refl _⟩
theorem Kle.trans {A B C : List (List Int)} (h : Kle A B) (k : Kle B C) : Kle A C := ⟨Nat.le_trans h.1 k.1, fun i j => Int.le_trans (h.2 i j) (k.2 i j)⟩
theorem Kle.set {K : List (List Int)} {who : Nat} {r : List Int} (hr : ∀ j, (K.getD who []).getD j 0 ≤ r.getD j 0) : Kle K (K.set who r) := by
  refine ⟨by simp, fun i j => ?_⟩
  by_cases hw : who < K.length
  · rw [getD_set_cases _ _ _ _ _ hw]
    split
    · rename_i e; subst e; exact hr j
    · exact Int.le_refl _
  · rw [List.set_eq_of_length_le (by omega)]; exact Int.le_refl _
theorem Kle.snoc {K : List (List Int)} {r : List Int} (hr : ∀ j, 0 ≤ r.getD j 0) : Kle K (K ++ [r]) := by
  refine ⟨by simp, fun i j => ?_⟩
  by_cases hi : i < K.length
  · rw [getD_snoc_lt hi]; exact Int.le_refl _
  · have e : K.getD i [] = [] := by simp [List.getD, show K.length ≤ i by omega]
    rw [e]
    by_cases hi' : i = K.length
    · rw [getD_snoc_eq hi']; exact hr j
    · have e2 : (K ++ [r]).getD i [] = [] := by simp [List.getD, show K.length + 1 ≤ i by omega]
      rw [e2]; exact Int.le_refl _

structure TwoRel (x : TwoSt) (N : Nat) : Prop where
  kl : x.KR.length = x.K.length
  kr : ∀ i j, (x.KR.getD i []).getD j 0 = (x.K.getD i []).getD j 0
  cl : x.D.length = x.Cs.length
  cd : ∀ i j, (x.D.getD i []).getD j 0 = (x.Cs.getD i (none, [])).2.getD j 0
  cn : x.Cs.length ≤ N
  acc : AccRel x.P x.A x.KR

/-! ### What the calls make of what is known, whoever calls -/
def inK (K : List (List Int)) (a : Int) : Bool := decide (0 ≤ a) && decide (a < (K.length : Int))
def kStart (K : List (List Int)) (a : Int) : List (List Int) := if inK K a = true then K ++ [K.getD a.toNat []] else K
def rStart (K : List (List Int)) (a : Int) : List (List Int) := if inK K a = true then K ++ [padTo (K.getD a.toNat []) (K.length + 1)] else K
def vStart (K : List (List Int)) (a : Int) : Int := if inK K a = true then (K.length : Int) else -1
def kAcc (K : List (List Int)) (a : Int) : List (List Int) := if inK K a = true then K.set a.toNat (bump (K.getD a.toNat []) a.toNat) else K
def pAcc (P : Acc) (K : List (List Int)) (a cell : Int) (write : Bool) : Acc := if inK K a = true then AccNew P cell a.toNat write ((bump (K.getD a.toNat []) a.toNat).getD a.toNat 0) else P
def aAcc (A : Acs) (K : List (List Int)) (a cell : Int) (write : Bool) : Acs := if inK K a = true then A ++ [(a.toNat, (bump (K.getD a.toNat []) a.toNat).getD a.toNat 0, write, cell)] else A
def vAcc (K : List (List Int)) (A : Acs) (a cell : Int) (write : Bool) : Bool := if inK K a = true then refOk (K.getD a.toNat []) A a.toNat cell write else true
def kRecv (K : List (List Int)) (a : Int) (c : List Int) : List (List Int) := if inK K a = true then K.set a.toNat (maxL (K.getD a.toNat []) c) else K
def vSend (K : List (List Int)) (a : Int) : List Int := if inK K a = true then K.getD a.toNat [] else []

section
variable {x : TwoSt} {N : Nat} {st : OSt} {rst : RSt}
theorem TwoRel.inK (h : TwoRel x N) (a : Int) : inK x.KR a = inK x.K a := by unfold Proofs.Ytkcaeeighjblkaa.inK; rw [h.kl]
theorem inK_nat {K : List (List Int)} {a : Int} (h : inK K a = true) : ∃ n : Nat, a = n ∧ n < K.length := by
  unfold inK at h
  simp at h
  exact ⟨a.toNat, by omega, by omega⟩
theorem not_inK {K : List (List Int)} {a : Int} (h : inK K a = false) : a < 0 ∨ (K.length : Int) ≤ a := by
  unfold inK at h
  simp at h
  omega

theorem TwoRel.mono {M : Nat} (h : TwoRel x N) (hm : N ≤ M) : TwoRel x M := ⟨h.kl, h.kr, h.cl, h.cd, Nat.le_trans h.cn hm, h.acc⟩

theorem TwoRel.vStart (h : TwoRel x N) (a : Int) : vStart x.KR a = vStart x.K a := by unfold Proofs.Ytkcaeeighjblkaa.vStart; rw [h.inK, h.kl]

theorem TwoRel.start (h : TwoRel x N) (hv : ∀ i j, 0 ≤ (x.K.getD i []).getD j 0) (a : Int) : TwoRel ((x.setO st (kStart x.K a) x.P).setR rst (rStart x.KR a) x.A) N ∧ Kle x.K (kStart x.K a) := by
  cases hb : Proofs.Ytkcaeeighjblkaa.inK x.K a with
  | false =>
    have e1 : kStart x.K a = x.K := by unfold kStart; rw [hb, if_neg (by decide)]
    have e2 : rStart x.KR a = x.KR := by unfold rStart; rw [h.inK, hb, if_neg (by decide)]
    rw [e1, e2]
    exact ⟨⟨h.kl, h.kr, h.cl, h.cd, h.cn, h.acc⟩, Kle.refl _⟩
  | true =>
    have e1 : kStart x.K a = x.K ++ [x.K.getD a.toNat []] := by unfold kStart; rw [hb, if_pos rfl]
    have e2 : rStart x.KR a = x.KR ++ [padTo (x.KR.getD a.toNat []) (x.KR.length + 1)] := by unfold rStart; rw [h.inK, hb, if_pos rfl]
    rw [e1, e2]
    have hle : Kle x.KR (x.KR ++ [padTo (x.KR.getD a.toNat []) (x.KR.length + 1)]) := Kle.snoc (fun j => by rw [padTo_getD, h.kr]; exact hv _ _)
    refine ⟨⟨by show (x.KR ++ _).length = (x.K ++ _).length; simp [h.kl], fun i j => ?_, h.cl, h.cd, h.cn, h.acc.mono hle.2⟩, Kle.snoc (fun j => hv _ _)⟩
    show ((x.KR ++ _).getD i []).getD j 0 = ((x.K ++ _).getD i []).getD j 0
    have hk := h.kl
    by_cases hi : i < x.K.length
    · rw [getD_snoc_lt hi, getD_snoc_lt (by omega)]; exact h.kr i j
    · by_cases hi' : i = x.K.length
      · rw [getD_snoc_eq hi', getD_snoc_eq (by omega), padTo_getD]; exact h.kr _ j
      · have e3 : ∀ (K : List (List Int)) (r : List Int), K.length = x.K.length → (K ++ [r]).getD i [] = [] := fun K r e => by simp [List.getD, show K.length + 1 ≤ i by omega]
        rw [e3 _ _ h.kl, e3 _ _ rfl]

theorem TwoRel.bump_eq (h : TwoRel x N) (i j : Nat) : (bump (x.KR.getD i []) i).getD j 0 = (bump (x.K.getD i []) i).getD j 0 := by rw [bump_getD, bump_getD, h.kr]

theorem TwoRel.access (h : TwoRel x N) (hwf : ∀ n : Nat, n < x.K.length → wfi (n : Int)) (a cell : Int) (write : Bool) :
    TwoRel ((x.setO st (kAcc x.K a) (pAcc x.P x.K a cell write)).setR rst (kAcc x.KR a) (aAcc x.A x.KR a cell write)) N ∧ Kle x.K (kAcc x.K a) := by
  cases hb : Proofs.Ytkcaeeighjblkaa.inK x.K a with
  | false =>
    have e1 : kAcc x.K a = x.K := by unfold kAcc; rw [hb, if_neg (by decide)]
    have e2 : kAcc x.KR a = x.KR := by unfold kAcc; rw [h.inK, hb, if_neg (by decide)]
    have e3 : pAcc x.P x.K a cell write = x.P := by unfold pAcc; rw [hb, if_neg (by decide)]
    have e4 : aAcc x.A x.KR a cell write = x.A := by unfold aAcc; rw [h.inK, hb, if_neg (by decide)]
    rw [e1, e2, e3, e4]
    exact ⟨⟨h.kl, h.kr, h.cl, h.cd, h.cn, h.acc⟩, Kle.refl _⟩
  | true =>
    have hbR : Proofs.Ytkcaeeighjblkaa.inK x.KR a = true := by rw [h.inK, hb]
    obtain ⟨n, rfl, hn⟩ := inK_nat hb
    have e1 : kAcc x.K n = x.K.set n (bump (x.K.getD n []) n) := by unfold kAcc; rw [hb, if_pos rfl]; simp
    have e2 : kAcc x.KR n = x.KR.set n (bump (x.KR.getD n []) n) := by unfold kAcc; rw [hbR, if_pos rfl]; simp
    have e3 : pAcc x.P x.K n cell write = AccNew x.P cell n write ((bump (x.K.getD n []) n).getD n 0) := by unfold pAcc; rw [hb, if_pos rfl]; simp
    have e4 : aAcc x.A x.KR n cell write = x.A ++ [(n, (bump (x.K.getD n []) n).getD n 0, write, cell)] := by unfold aAcc; rw [hbR, if_pos rfl, Int.toNat_natCast, h.bump_eq]
    rw [e1, e2, e3, e4]
    have hk := h.kl
    have hn' : n < x.KR.length := by omega
    refine ⟨⟨by show (x.KR.set _ _).length = (x.K.set _ _).length; simp [h.kl], fun i j => ?_, h.cl, h.cd, h.cn, ?_⟩, Kle.set (fun j => by rw [bump_getD]; split <;> omega)⟩
    · show ((x.KR.set _ _).getD i []).getD j 0 = ((x.K.set _ _).getD i []).getD j 0
      rw [getD_set_cases _ _ _ _ _ hn, getD_set_cases _ _ _ _ _ hn']
      split
      · exact h.bump_eq n j
      · exact h.kr i j
    · exact h.acc.next hn' (hwf n hn) (by rw [bump_getD, if_pos rfl, h.kr])

theorem TwoRel.vAcc (h : TwoRel x N) (hv : ∀ i j, 0 ≤ (x.K.getD i []).getD j 0) (a cell : Int) (write ok : Bool)
    (hok : Proofs.Ytkcaeeighjblkaa.inK x.K a = true → (ok = true ↔ ∀ k : Int, wfi k → k = a ∨ needOf' (x.P cell k) write ≤ (bump (x.K.getD a.toNat []) a.toNat).getD k.toNat 0)) (hno : Proofs.Ytkcaeeighjblkaa.inK x.K a = false → ok = true) :
    ok = vAcc x.KR x.A a cell write := by
  unfold Proofs.Ytkcaeeighjblkaa.vAcc
  cases hb : Proofs.Ytkcaeeighjblkaa.inK x.K a with
  | false => rw [h.inK, hb, hno hb, if_neg (by decide)]
  | true =>
    have h1 := hok hb
    rw [h.inK, hb, if_pos rfl]
    obtain ⟨n, rfl, hn⟩ := inK_nat hb
    rw [Int.toNat_natCast] at h1 ⊢
    rw [h.acc.ok (r' := x.KR.getD n []) (fun j => h.kr n j) (hv n)] at h1
    exact Bool.eq_iff_iff.2 h1

theorem TwoRel.recv (h : TwoRel x N) {c d : List Int} (hcd : ∀ j, d.getD j 0 = c.getD j 0) (a : Int) :
    TwoRel ((x.setO st (kRecv x.K a c) x.P).setR rst (kRecv x.KR a d) x.A) N ∧ Kle x.K (kRecv x.K a c) := by
  cases hb : Proofs.Ytkcaeeighjblkaa.inK x.K a with
  | false =>
    have e1 : kRecv x.K a c = x.K := by unfold kRecv; rw [hb, if_neg (by decide)]
    have e2 : kRecv x.KR a d = x.KR := by unfold kRecv; rw [h.inK, hb, if_neg (by decide)]
    rw [e1, e2]
    exact ⟨⟨h.kl, h.kr, h.cl, h.cd, h.cn, h.acc⟩, Kle.refl _⟩
  | true =>
    have hbR : Proofs.Ytkcaeeighjblkaa.inK x.KR a = true := by rw [h.inK, hb]
    obtain ⟨n, rfl, hn⟩ := inK_nat hb
    have e1 : kRecv x.K n c = x.K.set n (maxL (x.K.getD n []) c) := by unfold kRecv; rw [hb, if_pos rfl]; simp
    have e2 : kRecv x.KR n d = x.KR.set n (maxL (x.KR.getD n []) d) := by unfold kRecv; rw [hbR, if_pos rfl]; simp
    rw [e1, e2]
    have hk := h.kl
    have hn' : n < x.KR.length := by omega
    have hle : ∀ (K : List (List Int)) (c : List Int), Kle K (K.set n (maxL (K.getD n []) c)) := fun K c => Kle.set (fun j => by rw [maxL_getD]; omega)
    refine ⟨⟨by show (x.KR.set _ _).length = (x.K.set _ _).length; simp [h.kl], fun i j => ?_, h.cl, h.cd, h.cn, h.acc.mono (hle _ _).2⟩, hle _ _⟩
    show ((x.KR.set _ _).getD i []).getD j 0 = ((x.K.set _ _).getD i []).getD j 0
    rw [getD_set_cases _ _ _ _ _ hn, getD_set_cases _ _ _ _ _ hn']
    split
    · rw [maxL_getD, maxL_getD, h.kr, hcd]
    · exact h.kr i j

theorem TwoRel.send (h : TwoRel x N) {cv dv : Value} {dr : List Value} {o : Option (Nat × Value)} (a : Int) : TwoRel ((x.setC cv (x.Cs ++ [(o, vSend x.K a)])).setD dv dr (x.D ++ [vSend x.KR a])) (N + 1) := by
  have hcl := h.cl
  have hs : ∀ j, (vSend x.KR a).getD j 0 = (vSend x.K a).getD j 0 := fun j => by
    unfold vSend
    rw [h.inK]
    split
    · exact h.kr _ j
    · rfl
  have hcn := h.cn
  refine ⟨h.kl, h.kr, by show (x.D ++ _).length = (x.Cs ++ _).length; simp [hcl], fun i j => ?_, by show (x.Cs ++ _).length ≤ _; simp; omega, h.acc⟩
  show ((x.D ++ _).getD i []).getD j 0 = ((x.Cs ++ _).getD i (none, [])).2.getD j 0
  by_cases hi : i < x.Cs.length
  · rw [getD_snoc_lt hi, getD_snoc_lt (by omega)]; exact h.cd i j
  · by_cases hi' : i = x.Cs.length
    · rw [getD_snoc_eq hi', getD_snoc_eq (by omega)]; exact hs j
    · have e1 : (x.D ++ [vSend x.KR a]).getD i [] = [] := by simp [List.getD, show x.D.length + 1 ≤ i by omega]
      have e2 : (x.Cs ++ [(o, vSend x.K a)]).getD i (none, []) = (none, []) := by simp [List.getD, show x.Cs.length + 1 ≤ i by omega]
      rw [e1, e2]
end
end Go.Proofs.Ytkcaeeighjblkaa
