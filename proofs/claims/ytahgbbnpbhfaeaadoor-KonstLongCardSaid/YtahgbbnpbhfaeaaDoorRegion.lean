/- A law for a region that draws its order: it is walked once, in one order that is checked by the kernel, where what is loaded is held by a condition S until all loads are surely done. No condition beyond those that the law states. -/
import Derived.Test.YtahgbbnpbhfaeaaDoorApp
namespace Go.Proofs.YtahgbbnpbhfaeaaDoor
open Go.RowKit

section
variable {P : Program} {ops : Array Oper} {Q : Exit → Act → World → Prop} {S Si : World → Prop} {need : Nat → Bool}

/-- Whatever is done has all done that it waits for. -/
def ClosedL (ops : Array Oper) (listed : Array Bool) : Prop :=
  ∀ j oj, ops[j]? = some oj → listed.getD j false = true → ∀ e ∈ oj.after, Region.binds .any e = true → listed.getD e.on false = true

theorem ClosedL.start (ops : Array Oper) : ClosedL ops (Array.replicate ops.size false) := by
  intro j oj _ hl
  rw [getD_replicate_false] at hl
  cases hl

theorem ClosedL.set {listed : Array Bool} {i : Nat} (h : ClosedL ops listed) (hi : i ∈ Region.ready .any ops listed) : ClosedL ops (listed.setIfInBounds i true) := by
  obtain ⟨_, oi, hoi, hall⟩ := mem_ready.1 hi
  intro j oj hj hl e he hb
  by_cases hij : i = j
  · subst hij
    have : oj = oi := Option.some.inj (hj.symm.trans hoi)
    subst this
    exact getD_set_true (hall e he hb)
  · rw [getD_set_ne false hij] at hl
    exact getD_set_true (h j oj hj hl e he hb)

def edgeB (ops : Array Oper) (j i : Nat) : Bool :=
  match ops[j]? with
  | some o => o.after.any fun e => Region.binds .any e && e.on == i
  | none => false
def pathB (ops : Array Oper) : Nat → List Nat → Bool
  | _, [] => true
  | j, i :: r => edgeB ops j i && pathB ops i r

theorem edge_listed {listed : Array Bool} (hc : ClosedL ops listed) {j i : Nat} (he : edgeB ops j i = true) (hj : j ∈ Region.ready .any ops listed ∨ listed.getD j false = true) : listed.getD i false = true := by
  unfold edgeB at he
  split at he
  · rename_i o ho
    obtain ⟨e, hm, hb⟩ := Array.any_eq_true'.1 he
    simp only [Bool.and_eq_true, beq_iff_eq] at hb
    rcases hj with hj | hj
    · obtain ⟨_, o', ho', hall⟩ := mem_ready.1 hj
      have : o' = o := Option.some.inj (ho'.symm.trans ho)
      subst this
      have := hall e hm hb.1
      rwa [hb.2] at this
    · have := hc j o ho hj e hm hb.1
      rwa [hb.2] at this
  · cases he

theorem path_listed {listed : Array Bool} (hc : ClosedL ops listed) : ∀ (p : List Nat) (j : Nat), pathB ops j p = true → p ≠ [] → (j ∈ Region.ready .any ops listed ∨ listed.getD j false = true) → ∀ l, p.getLast? = some l → listed.getD l false = true
  | [], _, _, hne, _, _, _ => absurd rfl hne
  | [i], j, hp, _, hj, l, hl => by
    simp only [pathB, Bool.and_true] at hp
    simp at hl
    subst hl
    exact edge_listed hc hp hj
  | i :: k :: r, j, hp, _, hj, l, hl => by
    rw [pathB, Bool.and_eq_true] at hp
    exact path_listed hc (k :: r) i hp.2 (by simp) (.inr (edge_listed hc hp.1 hj)) l (by simpa using hl)

/-- j comes up only when i is done. -/
def Blocked (ops : Array Oper) (j i : Nat) : Prop := ∀ listed, ClosedL ops listed → j ∈ Region.ready .any ops listed → listed.getD i false = true

/-- Whatever order is picked from here on; behind every operation but those of which 'need' says no, S holds if it held ahead. -/
def wpAnyX (P : Program) (ops : Array Oper) (Q : Exit → Act → World → Prop) (S : World → Prop) (need : Nat → Bool) : Nat → Array Bool → Act → World → Prop
  | 0, listed, a, w => Region.ready .any ops listed = [] ∧ Q .normal a w
  | fuel + 1, listed, a, w =>
    (Region.ready .any ops listed = [] → Q .normal a w) ∧
    ∀ i ∈ Region.ready .any ops listed, wpOp P ops Q i (fun a' w' => (need i = true → S w → S w') ∧ wpAnyX P ops Q S need fuel (listed.setIfInBounds i true) a' w') a w

theorem wpAny_of_X : ∀ (fuel : Nat) (listed : Array Bool) (a : Act) (w : World), wpAnyX P ops Q S need fuel listed a w → wpAny P .any ops Q fuel listed a w
  | 0, _, _, _, h => h
  | fuel + 1, _, _, _, h => ⟨h.1, fun i hi => wpOp_mono (fun a' w' h' => wpAny_of_X fuel _ a' w' h'.2) (h.2 i hi)⟩

theorem wpAnyX_first {i : Nat} {oi : Oper} {v : Value} (hi : ops[i]? = some oi) (hsel : ∀ (j : Nat) (o : Oper) cs b, ops[j]? = some o → o.op ≠ .select cs b)
    (hQ : ∀ c a w, Q (.panic c) (a.put oi.dst v) w → Q (.panic c) a w)
    (hSi : (Si = S ∧ ∀ j, need j = false → Blocked ops j i) ∨ ∀ w, Si w) :
    ∀ (fuel : Nat) (listed : Array Bool) (a : Act) (w : World), ClosedL ops listed →
      (∀ j oj, ops[j]? = some oj → j ≠ i → listed.getD j true = false → (∀ e ∈ oj.after, Region.binds .any e = true → e.on ≠ i) → oi.apart ops oj = true) →
      i ∈ Region.ready .any ops listed → YieldsIf P ops Si oi v a → Si w →
      wpAnyX P ops Q S need fuel (listed.setIfInBounds i true) (a.put oi.dst v) w → wpAnyX P ops Q S need (fuel + 1) listed a w := by
  intro fuel
  induction fuel with
  | zero =>
    intro listed a w _ _ hr hy hS H
    refine ⟨fun h => (by rw [h] at hr; cases hr), fun j hj => ?_⟩
    by_cases hji : j = i
    · subst hji; exact hy.wpOp hi hS ⟨fun _ h => h, H⟩
    · have := ready_mono hj hji
      rw [H.1] at this
      cases this
  | succ fuel ih =>
    intro listed a w hc hfree hr hy hS H
    refine ⟨fun h => (by rw [h] at hr; cases hr), fun j hj => ?_⟩
    by_cases hji : j = i
    · subst hji; exact hy.wpOp hi hS ⟨fun _ h => h, H⟩
    · have h1 := H.2 j (ready_mono hj hji)
      obtain ⟨hjun, oj, hoj, hall⟩ := mem_ready.1 hj
      have hiun : listed.getD i false = false := getD_both (mem_ready.1 hr).1
      have hnot : ∀ e ∈ oj.after, Region.binds .any e = true → e.on ≠ i := fun e he hb heq => by
        have h1 := hall e he hb
        rw [heq, hiun] at h1
        cases h1
      have h2 := wpOp_putIf hoj (hfree j oj hoj hji hjun hnot) (fun cs b => hsel i oi cs b hi) (fun cs b => hsel j oj cs b hoj) hQ hy h1
      have hfree' : ∀ k ok, ops[k]? = some ok → k ≠ i → (listed.setIfInBounds j true).getD k true = false →
          (∀ e ∈ ok.after, Region.binds .any e = true → e.on ≠ i) → oi.apart ops ok = true := fun k ok hk hki hun hno => by
        refine hfree k ok hk hki ?_ hno
        by_cases hjk : j = k
        · subst hjk; exact hjun
        · rw [getD_set_ne true hjk] at hun; exact hun
      refine wpOp_mono (fun a' w' h3 => ⟨h3.2.1, ih (listed.setIfInBounds j true) a' w' (hc.set hj) hfree' (ready_mono hr (Ne.symm hji)) h3.1 ?_ ?_⟩) h2
      · rcases hSi with ⟨rfl, hb⟩ | hS'
        · cases hn : need j with
          | true => exact h3.2.1 hn hS
          | false =>
            have := hb j hn listed hc hj
            rw [hiun] at this
            cases this
        · exact hS' w'
      · rw [Array.setIfInBounds_comm _ _ hji]
        exact h3.2.2

/-- The walk in one order: 0: a load that S holds · 1: what hangs on no world · 2: an effect behind which S still holds · 3: one that no load may follow. -/
def wpPi (P : Program) (ops : Array Oper) (Q : Exit → Act → World → Prop) (S : World → Prop) : List (Nat × Nat) → Act → World → Prop
  | [], a, w => Q .normal a w
  | (i, 0) :: r, a, w => ∃ o v, ops[i]? = some o ∧ YieldsIf P ops S o v a ∧ wpPi P ops Q S r (a.put o.dst v) w
  | (i, 1) :: r, a, w => ∃ o v, ops[i]? = some o ∧ YieldsIf P ops (fun _ => True) o v a ∧ wpPi P ops Q S r (a.put o.dst v) w
  | (i, 2) :: r, a, w => wpOp P ops Q i (fun a' w' => S w' ∧ wpPi P ops Q S r a' w') a w
  | (i, _) :: r, a, w => wpOp P ops Q i (fun a' w' => wpPi P ops Q S r a' w') a w

def piB (ops : Array Oper) : List (Nat × Nat) → Array Bool → Bool → Bool
  | [], listed, _ => (Region.ready .any ops listed).isEmpty
  | (i, 0) :: r, listed, alive => (Region.ready .any ops listed).contains i && Region.free .any ops listed i && alive && piB ops r (listed.setIfInBounds i true) alive
  | (i, 1) :: r, listed, alive => (Region.ready .any ops listed).contains i && Region.free .any ops listed i && piB ops r (listed.setIfInBounds i true) alive
  | (i, 2) :: r, listed, alive => decide (Region.ready .any ops listed = [i]) && alive && piB ops r (listed.setIfInBounds i true) alive
  | (i, _) :: r, listed, _ => decide (Region.ready .any ops listed = [i]) && piB ops r (listed.setIfInBounds i true) false

def needOf (pi : List (Nat × Nat)) (j : Nat) : Bool := !(pi.any fun x => x.1 == j && !(x.2 == 0 || x.2 == 1 || x.2 == 2))

/-- Each operation of kind 3 waits for each load, by a path that is given. -/
def pathsB (ops : Array Oper) (pi : List (Nat × Nat)) (paths : List (Nat × List Nat)) : Bool :=
  pi.all fun x => x.2 == 0 || x.2 == 1 || x.2 == 2 || pi.all fun y => !(y.2 == 0) || paths.any fun p => p.1 == x.1 && (p.2.getLast? == some y.1) && pathB ops p.1 p.2

theorem blocked_of {pi : List (Nat × Nat)} {paths : List (Nat × List Nat)} (h : pathsB ops pi paths = true) {i : Nat} (hi : (i, 0) ∈ pi) : ∀ j, needOf pi j = false → Blocked ops j i := by
  intro j hj
  simp only [needOf, Bool.not_eq_false', List.any_eq_true, Bool.and_eq_true, beq_iff_eq, Bool.not_eq_true', Bool.or_eq_false_iff] at hj
  obtain ⟨x, hx, rfl, hk⟩ := hj
  have h1 := List.all_eq_true.1 h x hx
  simp only [hk.1.1, hk.1.2, hk.2, Bool.false_or] at h1
  have h2 := List.all_eq_true.1 h1 (i, 0) hi
  simp only [BEq.rfl, Bool.not_true, Bool.false_or] at h2
  obtain ⟨p, _, hp⟩ := List.any_eq_true.1 h2
  simp only [Bool.and_eq_true, beq_iff_eq] at hp
  obtain ⟨⟨hp1, hp2⟩, hp3⟩ := hp
  intro listed hc hr
  rw [← hp1] at hr
  exact path_listed hc p.2 p.1 hp3 (by intro e; rw [e] at hp2; cases hp2) (.inl hr) i hp2

theorem wpAnyX_of_pi (hsel : Region.noSelect ops = true) (hQ : ∀ c a d v w, Q (.panic c) (Act.put a d v) w → Q (.panic c) a w) {pi0 : List (Nat × Nat)} {paths : List (Nat × List Nat)} (hp : pathsB ops pi0 paths = true) :
    ∀ (pi : List (Nat × Nat)) (listed : Array Bool) (alive : Bool) (a : Act) (w : World), (∀ x ∈ pi, x ∈ pi0) → piB ops pi listed alive = true → ClosedL ops listed → (alive = true → S w) →
      wpPi P ops Q S pi a w → wpAnyX P ops Q S (needOf pi0) pi.length listed a w
  | [], listed, alive, a, w, _, hB, _, _, h => ⟨by simpa [piB] using hB, h⟩
  | (i, 0) :: r, listed, alive, a, w, hm, hB, hc, hS, h => by
    simp only [piB, Bool.and_eq_true] at hB
    obtain ⟨⟨⟨hr, hf⟩, ha⟩, hB'⟩ := hB
    obtain ⟨o, v, ho, hy, h'⟩ := h
    have hr' : i ∈ Region.ready .any ops listed := by simpa using hr
    exact wpAnyX_first (Si := S) ho (Region.noSelect_spec hsel) (fun c a w => hQ c a o.dst v w) (.inl ⟨rfl, blocked_of hp (hm _ (by simp))⟩) r.length listed a w hc (Region.free_spec ho hf) hr' hy (hS ha)
      (wpAnyX_of_pi hsel hQ hp r _ alive _ w (fun x hx => hm x (by simp [hx])) hB' (hc.set hr') hS h')
  | (i, 1) :: r, listed, alive, a, w, hm, hB, hc, hS, h => by
    simp only [piB, Bool.and_eq_true] at hB
    obtain ⟨⟨hr, hf⟩, hB'⟩ := hB
    obtain ⟨o, v, ho, hy, h'⟩ := h
    have hr' : i ∈ Region.ready .any ops listed := by simpa using hr
    exact wpAnyX_first (Si := fun _ => True) ho (Region.noSelect_spec hsel) (fun c a w => hQ c a o.dst v w) (.inr (fun _ => trivial)) r.length listed a w hc (Region.free_spec ho hf) hr' hy trivial
      (wpAnyX_of_pi hsel hQ hp r _ alive _ w (fun x hx => hm x (by simp [hx])) hB' (hc.set hr') hS h')
  | (i, 2) :: r, listed, alive, a, w, hm, hB, hc, hS, h => by
    simp only [piB, Bool.and_eq_true, decide_eq_true_eq] at hB
    obtain ⟨⟨hr, ha⟩, hB'⟩ := hB
    have hr' : i ∈ Region.ready .any ops listed := by rw [hr]; simp
    refine ⟨fun h0 => (by rw [hr] at h0; cases h0), fun j hj => ?_⟩
    rw [hr] at hj
    have : j = i := by simpa using hj
    subst this
    exact wpOp_mono (fun a' w' h' => ⟨fun _ _ => h'.1, wpAnyX_of_pi hsel hQ hp r _ alive a' w' (fun x hx => hm x (by simp [hx])) hB' (hc.set hr') (fun _ => h'.1) h'.2⟩) h
  | (i, k + 3) :: r, listed, alive, a, w, hm, hB, hc, hS, h => by
    simp only [piB, Bool.and_eq_true, decide_eq_true_eq] at hB
    obtain ⟨hr, hB'⟩ := hB
    have hr' : i ∈ Region.ready .any ops listed := by rw [hr]; simp
    refine ⟨fun h0 => (by rw [hr] at h0; cases h0), fun j hj => ?_⟩
    rw [hr] at hj
    have : j = i := by simpa using hj
    subst this
    have hn : needOf pi0 j = false := by
      have hx := hm (j, k + 3) (by simp)
      simp only [needOf, Bool.not_eq_false', List.any_eq_true]
      exact ⟨_, hx, by simp⟩
    exact wpOp_mono (fun a' w' h' => ⟨fun e => (by rw [hn] at e; cases e), wpAnyX_of_pi hsel hQ hp r _ false a' w' (fun x hx => hm x (by simp [hx])) hB' (hc.set hr') (fun e => by cases e) h'⟩) h

def regionB (ops : Array Oper) (pi : List (Nat × Nat)) (paths : List (Nat × List Nat)) : Bool :=
  Region.noSelect ops && pathsB ops pi paths && piB ops pi (Array.replicate ops.size false) true && decide (pi.length = ops.size)

/-- THE LAW. -/
theorem wp_region_pi {id : Nat} {l : List Oper} {a : Act} {w : World} (S : World → Prop) (pi : List (Nat × Nat)) (paths : List (Nat × List Nat)) (hm : P.follows .mixedOrders = true)
    (hB : regionB l.toArray pi paths = true) (hQ : ∀ c a (t : Tmp) v w, Q (.panic c) (Act.put a (some t) v) w → Q (.panic c) a w) (hS : S w.drew) (h : wpPi P l.toArray Q S pi a w.drew) : (Code.region id l.toArray true).wp P Q a w := by
  simp only [regionB, Bool.and_eq_true, decide_eq_true_eq] at hB
  obtain ⟨⟨⟨hsel, hp⟩, hpi⟩, hl⟩ := hB
  have hQ' : ∀ c a d v w, Q (.panic c) (Act.put a d v) w → Q (.panic c) a w := fun c a d v w h => by
    cases d with
    | none => exact h
    | some t => exact hQ c a t v w h
  refine wp_region_any hm ?_
  have H := wpAny_of_X _ _ _ _ (wpAnyX_of_pi hsel hQ' hp pi _ true a w.drew (fun _ h => h) hpi (ClosedL.start _) (fun _ => hS) h)
  rw [hl] at H
  exact H

/-- Where the walk stands behind an effect. -/
def Stop (J : Act → World → Prop) (a : Act) (w : World) : Prop := J a w

theorem pi_ld {i : Nat} {r : List (Nat × Nat)} {a : Act} {w : World} {o : Oper} {v : Value} (ho : ops[i]? = some o) (hw : Region.wanted o (yielded ops a.tmps) = true) (hy : ∀ ws, S ws → (execOp a.eval o).run P ws = .ok (.value v) ws)
    (h : wpPi P ops Q S r (a.put o.dst v) w) : wpPi P ops Q S ((i, 0) :: r) a w := ⟨o, v, ho, .inl ⟨hw, hy⟩, h⟩
theorem pi_pu {i : Nat} {r : List (Nat × Nat)} {a : Act} {w : World} {o : Oper} {v : Value} (ho : ops[i]? = some o) (hw : Region.wanted o (yielded ops a.tmps) = true) (hy : ∀ ws, (execOp a.eval o).run P ws = .ok (.value v) ws)
    (h : wpPi P ops Q S r (a.put o.dst v) w) : wpPi P ops Q S ((i, 1) :: r) a w := ⟨o, v, ho, .inl ⟨hw, fun ws _ => hy ws⟩, h⟩
theorem pi_ld_skip {i : Nat} {r : List (Nat × Nat)} {a : Act} {w : World} {o : Oper} (ho : ops[i]? = some o) (hw : Region.wanted o (yielded ops a.tmps) = false)
    (h : wpPi P ops Q S r (a.put o.dst undef) w) : wpPi P ops Q S ((i, 0) :: r) a w := ⟨o, undef, ho, .inr ⟨hw, rfl⟩, h⟩
theorem pi_pu_skip {i : Nat} {r : List (Nat × Nat)} {a : Act} {w : World} {o : Oper} (ho : ops[i]? = some o) (hw : Region.wanted o (yielded ops a.tmps) = false)
    (h : wpPi P ops Q S r (a.put o.dst undef) w) : wpPi P ops Q S ((i, 1) :: r) a w := ⟨o, undef, ho, .inr ⟨hw, rfl⟩, h⟩

theorem wpOp_of_list {i : Nat} {a : Act} {w : World} {o : Oper} {K : Act → World → Prop} (ho : ops[i]? = some o) (h : wpList P ops (Exit.then K Q) [o] a w) : wpOp P ops Q i K a w := by
  unfold wpOp
  simp only [ho]
  unfold wpList at h
  split
  · rename_i hw
    rw [if_pos hw] at h
    refine h.imp (fun h1 => ?_) (fun h1 => h1)
    unfold Oper.wp at *
    generalize (execOp a.eval o).run P w = r at *
    cases r with
    | ok n w' =>
      cases n <;> simp only [Oper.upon] at h1 ⊢ <;>
        first
          | exact h1
          | exact Calls.mono h1 (fun e w'' he => by cases e <;> exact he)
          | exact Rows.mono h1 (fun _ _ he => he)
    | halt x w' => cases x <;> simp only [Oper.upon] at h1 ⊢ <;> exact h1
  · rename_i hw
    rw [if_neg hw] at h
    exact h

theorem pi_ke {i : Nat} {r : List (Nat × Nat)} {a : Act} {w : World} {o : Oper} (ho : ops[i]? = some o)
    (h : ∀ J : Act → World → Prop, (∀ a' w', S w' → wpPi P ops Q S r a' w' → J a' w') → wpList P ops (Exit.then (Stop J) Q) [o] a w) : wpPi P ops Q S ((i, 2) :: r) a w :=
  wpOp_of_list ho (h _ (fun _ _ h1 h2 => ⟨h1, h2⟩))
theorem pi_dr {i : Nat} {r : List (Nat × Nat)} {a : Act} {w : World} {o : Oper} (ho : ops[i]? = some o)
    (h : ∀ J : Act → World → Prop, (∀ a' w', wpPi P ops Q S r a' w' → J a' w') → wpList P ops (Exit.then (Stop J) Q) [o] a w) : wpPi P ops Q S ((i, 3) :: r) a w :=
  wpOp_of_list ho (h _ (fun _ _ h1 => h1))

def opsAt (ops : Array Oper) : List (Nat × Nat) → List Oper
  | [] => []
  | x :: r => match ops[x.1]? with
    | some o => o :: opsAt ops r
    | none => opsAt ops r

/-- All that is left is of kind 3: it is a plain list. -/
theorem pi_tail : ∀ {r : List (Nat × Nat)} {a : Act} {w : World}, (r.all fun x => decide (3 ≤ x.2) && decide (x.1 < ops.size)) = true → wpList P ops Q (opsAt ops r) a w → wpPi P ops Q S r a w
  | [], _, _, _, h => h
  | (i, 0) :: r, _, _, hr, _ => by simp at hr
  | (i, 1) :: r, _, _, hr, _ => by simp at hr
  | (i, 2) :: r, _, _, hr, _ => by simp at hr
  | (i, k + 3) :: r, a, w, hr, h => by
    simp only [List.all_cons, Bool.and_eq_true, decide_eq_true_eq] at hr
    have ho : ops[i]? = some ops[i] := Array.getElem?_eq_getElem hr.1.2
    simp only [opsAt, ho] at h
    unfold wpPi wpOp
    simp only [ho]
    unfold wpList at h
    split
    · rename_i hw
      rw [if_pos hw] at h
      exact h.imp (Oper.wp_mono fun a' w' h' => pi_tail hr.2 h') id
    · rename_i hw
      rw [if_neg hw] at h
      exact pi_tail hr.2 h
end

end Go.Proofs.YtahgbbnpbhfaeaaDoor
