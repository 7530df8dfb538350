/- konst.Binary, sign by sign. No condition. -/
import Derived.Test.YtahgbbnpbhfaeaaDoorKnBin2
namespace Go.Proofs.YtahgbbnpbhfaeaaDoor
open Go.RowKit

/-- Are two of one kind, a known one? -/
def okE (k1 k2 : Int) : Bool := (k1 == k2) && knownB k1
def okL (k1 k2 : Int) : Bool := okE k1 k2 && (k1 != 3)
def kE (b : Bool) : Int := if b then 3 else 0
def fE (b : Bool) : Int := if b then 0 else 6
theorem b_add {w : World} {k1 : Int} {g1 : Bool} {a1 : Option Addr} {n1 c1 : Nat} {s1 : ByteArray} {t1 : Bool} {z1 : List Nat} {x1 : Int} {k2 : Int} {g2 : Bool} {a2 : Option Addr} {n2 c2 : Nat} {s2 : ByteArray} {t2 : Bool} {z2 : List Nat} {x2 : Int} (h1 : IntV w (.agg #[.bool g1, .slice a1 n1 c1]) g1 z1) (hx1 : valI g1 z1 = x1) (h2 : IntV w (.agg #[.bool g2, .slice a2 n2 c2]) g2 z2) (hx2 : valI g2 z2 = x2) (hk1 : k1 = 1) (hk2 : k2 = 1) :
    Calls Tryd.prog 23 #[.string ⟨#[43]⟩, .agg #[.int .i64 k1, .bool g1, .slice a1 n1 c1, .string s1, .bool t1], .agg #[.int .i64 k2, .bool g2, .slice a2 n2 c2, .string s2, .bool t2]] w fun e w' => Kon2 w' e (kindK (addK x1 x2)) (addV x1 x2) ⟨#[]⟩ false (addK x1 x2) ∧ Below w.heap.size w w' := by
  subst hk1
  subst hk2
  exact bin_a ⟨#[43]⟩ h1 hx1 h2 hx2 rfl rfl (fun W hW => reckon_add (h1.below hW) hx1 (h2.below hW) hx2 rfl)
theorem b_sub {w : World} {k1 : Int} {g1 : Bool} {a1 : Option Addr} {n1 c1 : Nat} {s1 : ByteArray} {t1 : Bool} {z1 : List Nat} {x1 : Int} {k2 : Int} {g2 : Bool} {a2 : Option Addr} {n2 c2 : Nat} {s2 : ByteArray} {t2 : Bool} {z2 : List Nat} {x2 : Int} (h1 : IntV w (.agg #[.bool g1, .slice a1 n1 c1]) g1 z1) (hx1 : valI g1 z1 = x1) (h2 : IntV w (.agg #[.bool g2, .slice a2 n2 c2]) g2 z2) (hx2 : valI g2 z2 = x2) (hk1 : k1 = 1) (hk2 : k2 = 1) :
    Calls Tryd.prog 23 #[.string ⟨#[45]⟩, .agg #[.int .i64 k1, .bool g1, .slice a1 n1 c1, .string s1, .bool t1], .agg #[.int .i64 k2, .bool g2, .slice a2 n2 c2, .string s2, .bool t2]] w fun e w' => Kon2 w' e (kindK (subK x1 x2)) (subV x1 x2) ⟨#[]⟩ false (subK x1 x2) ∧ Below w.heap.size w w' := by
  subst hk1
  subst hk2
  exact bin_a ⟨#[45]⟩ h1 hx1 h2 hx2 rfl rfl (fun W hW => reckon_sub (h1.below hW) hx1 (h2.below hW) hx2 rfl)
theorem b_mul {w : World} {k1 : Int} {g1 : Bool} {a1 : Option Addr} {n1 c1 : Nat} {s1 : ByteArray} {t1 : Bool} {z1 : List Nat} {x1 : Int} {k2 : Int} {g2 : Bool} {a2 : Option Addr} {n2 c2 : Nat} {s2 : ByteArray} {t2 : Bool} {z2 : List Nat} {x2 : Int} (h1 : IntV w (.agg #[.bool g1, .slice a1 n1 c1]) g1 z1) (hx1 : valI g1 z1 = x1) (h2 : IntV w (.agg #[.bool g2, .slice a2 n2 c2]) g2 z2) (hx2 : valI g2 z2 = x2) (hk1 : k1 = 1) (hk2 : k2 = 1) :
    Calls Tryd.prog 23 #[.string ⟨#[42]⟩, .agg #[.int .i64 k1, .bool g1, .slice a1 n1 c1, .string s1, .bool t1], .agg #[.int .i64 k2, .bool g2, .slice a2 n2 c2, .string s2, .bool t2]] w fun e w' => Kon2 w' e (kindK (mulK x1 x2)) (mulV x1 x2) ⟨#[]⟩ false (mulK x1 x2) ∧ Below w.heap.size w w' := by
  subst hk1
  subst hk2
  exact bin_a ⟨#[42]⟩ h1 hx1 h2 hx2 rfl rfl (fun W hW => reckon_mul (h1.below hW) hx1 (h2.below hW) hx2 rfl)
theorem b_quo {w : World} {k1 : Int} {g1 : Bool} {a1 : Option Addr} {n1 c1 : Nat} {s1 : ByteArray} {t1 : Bool} {z1 : List Nat} {x1 : Int} {k2 : Int} {g2 : Bool} {a2 : Option Addr} {n2 c2 : Nat} {s2 : ByteArray} {t2 : Bool} {z2 : List Nat} {x2 : Int} (h1 : IntV w (.agg #[.bool g1, .slice a1 n1 c1]) g1 z1) (hx1 : valI g1 z1 = x1) (h2 : IntV w (.agg #[.bool g2, .slice a2 n2 c2]) g2 z2) (hx2 : valI g2 z2 = x2) (hk1 : k1 = 1) (hk2 : k2 = 1) :
    Calls Tryd.prog 23 #[.string ⟨#[47]⟩, .agg #[.int .i64 k1, .bool g1, .slice a1 n1 c1, .string s1, .bool t1], .agg #[.int .i64 k2, .bool g2, .slice a2 n2 c2, .string s2, .bool t2]] w fun e w' => Kon2 w' e (kindK (quoK x1 x2)) (quoV x1 x2) ⟨#[]⟩ false (quoK x1 x2) ∧ Below w.heap.size w w' := by
  subst hk1
  subst hk2
  exact bin_a ⟨#[47]⟩ h1 hx1 h2 hx2 rfl rfl (fun W hW => reckon_quo (h1.below hW) hx1 (h2.below hW) hx2 rfl)
theorem b_rem {w : World} {k1 : Int} {g1 : Bool} {a1 : Option Addr} {n1 c1 : Nat} {s1 : ByteArray} {t1 : Bool} {z1 : List Nat} {x1 : Int} {k2 : Int} {g2 : Bool} {a2 : Option Addr} {n2 c2 : Nat} {s2 : ByteArray} {t2 : Bool} {z2 : List Nat} {x2 : Int} (h1 : IntV w (.agg #[.bool g1, .slice a1 n1 c1]) g1 z1) (hx1 : valI g1 z1 = x1) (h2 : IntV w (.agg #[.bool g2, .slice a2 n2 c2]) g2 z2) (hx2 : valI g2 z2 = x2) (hk1 : k1 = 1) (hk2 : k2 = 1) :
    Calls Tryd.prog 23 #[.string ⟨#[37]⟩, .agg #[.int .i64 k1, .bool g1, .slice a1 n1 c1, .string s1, .bool t1], .agg #[.int .i64 k2, .bool g2, .slice a2 n2 c2, .string s2, .bool t2]] w fun e w' => Kon2 w' e (kindK (quoK x1 x2)) (remV x1 x2) ⟨#[]⟩ false (quoK x1 x2) ∧ Below w.heap.size w w' := by
  subst hk1
  subst hk2
  exact bin_a ⟨#[37]⟩ h1 hx1 h2 hx2 rfl rfl (fun W hW => reckon_rem (h1.below hW) hx1 (h2.below hW) hx2 rfl)
theorem b_eq {w : World} {k1 : Int} {g1 : Bool} {a1 : Option Addr} {n1 c1 : Nat} {s1 : ByteArray} {t1 : Bool} {z1 : List Nat} {x1 : Int} {k2 : Int} {g2 : Bool} {a2 : Option Addr} {n2 c2 : Nat} {s2 : ByteArray} {t2 : Bool} {z2 : List Nat} {x2 : Int} (h1 : IntV w (.agg #[.bool g1, .slice a1 n1 c1]) g1 z1) (hx1 : valI g1 z1 = x1) (h2 : IntV w (.agg #[.bool g2, .slice a2 n2 c2]) g2 z2) (hx2 : valI g2 z2 = x2)  :
    Calls Tryd.prog 23 #[.string ⟨#[61, 61]⟩, .agg #[.int .i64 k1, .bool g1, .slice a1 n1 c1, .string s1, .bool t1], .agg #[.int .i64 k2, .bool g2, .slice a2 n2 c2, .string s2, .bool t2]] w fun e w' => Kon2 w' e (kE (okE k1 k2)) 0 ⟨#[]⟩ (okE k1 k2 && (ordK k1 x1 x2 s1 s2 t1 t2 == 0)) (fE (okE k1 k2)) ∧ Below w.heap.size w w' := by
  by_cases hk : k1 = k2
  · subst hk
    cases hn : knownB k1 with
    | false =>
      have e1 : okE k1 k1 = false := by unfold  okE; rw [hn]; simp
      rw [e1]
      exact bin_unknown ⟨#[61, 61]⟩ h1 hx1 h2 hx2 rfl hn
    | true =>
      have e1 : okE k1 k1 = true := by unfold okE; rw [hn]; simp
      rw [e1, Bool.true_and]
      exact bin_c ⟨#[61, 61]⟩ h1 hx1 h2 hx2 rfl hn (fun W hW => if hk1 : k1 = 1 then reckon_eq (h1.below hW) hx1 (h2.below hW) hx2 hk1 else reckon_no1 ⟨#[61, 61]⟩ (h1.below hW) hx1 (h2.below hW) hx2 hk1) (fun W hW => other_eq (h1.below hW) hx1 (h2.below hW) hx2) (fun W hW => compare_eq (h1.below hW) hx1 (h2.below hW) hx2)
  · have e1 : okE k1 k2 = false := by unfold  okE; simp [hk]
    rw [e1]
    exact bin_other ⟨#[61, 61]⟩ h1 hx1 h2 hx2 hk
theorem b_ne {w : World} {k1 : Int} {g1 : Bool} {a1 : Option Addr} {n1 c1 : Nat} {s1 : ByteArray} {t1 : Bool} {z1 : List Nat} {x1 : Int} {k2 : Int} {g2 : Bool} {a2 : Option Addr} {n2 c2 : Nat} {s2 : ByteArray} {t2 : Bool} {z2 : List Nat} {x2 : Int} (h1 : IntV w (.agg #[.bool g1, .slice a1 n1 c1]) g1 z1) (hx1 : valI g1 z1 = x1) (h2 : IntV w (.agg #[.bool g2, .slice a2 n2 c2]) g2 z2) (hx2 : valI g2 z2 = x2)  :
    Calls Tryd.prog 23 #[.string ⟨#[33, 61]⟩, .agg #[.int .i64 k1, .bool g1, .slice a1 n1 c1, .string s1, .bool t1], .agg #[.int .i64 k2, .bool g2, .slice a2 n2 c2, .string s2, .bool t2]] w fun e w' => Kon2 w' e (kE (okE k1 k2)) 0 ⟨#[]⟩ (okE k1 k2 && (ordK k1 x1 x2 s1 s2 t1 t2 != 0)) (fE (okE k1 k2)) ∧ Below w.heap.size w w' := by
  by_cases hk : k1 = k2
  · subst hk
    cases hn : knownB k1 with
    | false =>
      have e1 : okE k1 k1 = false := by unfold  okE; rw [hn]; simp
      rw [e1]
      exact bin_unknown ⟨#[33, 61]⟩ h1 hx1 h2 hx2 rfl hn
    | true =>
      have e1 : okE k1 k1 = true := by unfold okE; rw [hn]; simp
      rw [e1, Bool.true_and]
      exact bin_c ⟨#[33, 61]⟩ h1 hx1 h2 hx2 rfl hn (fun W hW => if hk1 : k1 = 1 then reckon_ne (h1.below hW) hx1 (h2.below hW) hx2 hk1 else reckon_no1 ⟨#[33, 61]⟩ (h1.below hW) hx1 (h2.below hW) hx2 hk1) (fun W hW => other_ne (h1.below hW) hx1 (h2.below hW) hx2) (fun W hW => compare_ne (h1.below hW) hx1 (h2.below hW) hx2)
  · have e1 : okE k1 k2 = false := by unfold  okE; simp [hk]
    rw [e1]
    exact bin_other ⟨#[33, 61]⟩ h1 hx1 h2 hx2 hk
theorem b_lt {w : World} {k1 : Int} {g1 : Bool} {a1 : Option Addr} {n1 c1 : Nat} {s1 : ByteArray} {t1 : Bool} {z1 : List Nat} {x1 : Int} {k2 : Int} {g2 : Bool} {a2 : Option Addr} {n2 c2 : Nat} {s2 : ByteArray} {t2 : Bool} {z2 : List Nat} {x2 : Int} (h1 : IntV w (.agg #[.bool g1, .slice a1 n1 c1]) g1 z1) (hx1 : valI g1 z1 = x1) (h2 : IntV w (.agg #[.bool g2, .slice a2 n2 c2]) g2 z2) (hx2 : valI g2 z2 = x2)  :
    Calls Tryd.prog 23 #[.string ⟨#[60]⟩, .agg #[.int .i64 k1, .bool g1, .slice a1 n1 c1, .string s1, .bool t1], .agg #[.int .i64 k2, .bool g2, .slice a2 n2 c2, .string s2, .bool t2]] w fun e w' => Kon2 w' e (kE (okL k1 k2)) 0 ⟨#[]⟩ (okL k1 k2 && decide (ordK k1 x1 x2 s1 s2 t1 t2 < 0)) (fE (okL k1 k2)) ∧ Below w.heap.size w w' := by
  by_cases hk : k1 = k2
  · subst hk
    cases hn : knownB k1 with
    | false =>
      have e1 : okL k1 k1 = false := by unfold okL okE; rw [hn]; simp
      rw [e1]
      exact bin_unknown ⟨#[60]⟩ h1 hx1 h2 hx2 rfl hn
    | true =>
      by_cases hk3 : k1 = 3
      · have e1 : okL k1 k1 = false := by unfold okL; rw [hk3]; simp
        rw [e1]
        exact bin_none ⟨#[60]⟩ h1 hx1 h2 hx2 rfl hn (fun W hW => if hk1 : k1 = 1 then reckon_lt (h1.below hW) hx1 (h2.below hW) hx2 hk1 else reckon_no1 ⟨#[60]⟩ (h1.below hW) hx1 (h2.below hW) hx2 hk1) (fun W hW => other_lt (h1.below hW) hx1 (h2.below hW) hx2) (fun W hW => compare_lt_no (h1.below hW) hx1 (h2.below hW) hx2 hk3)
      · have e1 : okL k1 k1 = true := by unfold okL okE; rw [hn]; simp [hk3]
        rw [e1, Bool.true_and]
        exact bin_c ⟨#[60]⟩ h1 hx1 h2 hx2 rfl hn (fun W hW => if hk1 : k1 = 1 then reckon_lt (h1.below hW) hx1 (h2.below hW) hx2 hk1 else reckon_no1 ⟨#[60]⟩ (h1.below hW) hx1 (h2.below hW) hx2 hk1) (fun W hW => other_lt (h1.below hW) hx1 (h2.below hW) hx2) (fun W hW => compare_lt (h1.below hW) hx1 (h2.below hW) hx2 hk3)
  · have e1 : okL k1 k2 = false := by unfold okL okE; simp [hk]
    rw [e1]
    exact bin_other ⟨#[60]⟩ h1 hx1 h2 hx2 hk
theorem b_gt {w : World} {k1 : Int} {g1 : Bool} {a1 : Option Addr} {n1 c1 : Nat} {s1 : ByteArray} {t1 : Bool} {z1 : List Nat} {x1 : Int} {k2 : Int} {g2 : Bool} {a2 : Option Addr} {n2 c2 : Nat} {s2 : ByteArray} {t2 : Bool} {z2 : List Nat} {x2 : Int} (h1 : IntV w (.agg #[.bool g1, .slice a1 n1 c1]) g1 z1) (hx1 : valI g1 z1 = x1) (h2 : IntV w (.agg #[.bool g2, .slice a2 n2 c2]) g2 z2) (hx2 : valI g2 z2 = x2)  :
    Calls Tryd.prog 23 #[.string ⟨#[62]⟩, .agg #[.int .i64 k1, .bool g1, .slice a1 n1 c1, .string s1, .bool t1], .agg #[.int .i64 k2, .bool g2, .slice a2 n2 c2, .string s2, .bool t2]] w fun e w' => Kon2 w' e (kE (okL k1 k2)) 0 ⟨#[]⟩ (okL k1 k2 && decide (0 < ordK k1 x1 x2 s1 s2 t1 t2)) (fE (okL k1 k2)) ∧ Below w.heap.size w w' := by
  by_cases hk : k1 = k2
  · subst hk
    cases hn : knownB k1 with
    | false =>
      have e1 : okL k1 k1 = false := by unfold okL okE; rw [hn]; simp
      rw [e1]
      exact bin_unknown ⟨#[62]⟩ h1 hx1 h2 hx2 rfl hn
    | true =>
      by_cases hk3 : k1 = 3
      · have e1 : okL k1 k1 = false := by unfold okL; rw [hk3]; simp
        rw [e1]
        exact bin_none ⟨#[62]⟩ h1 hx1 h2 hx2 rfl hn (fun W hW => if hk1 : k1 = 1 then reckon_gt (h1.below hW) hx1 (h2.below hW) hx2 hk1 else reckon_no1 ⟨#[62]⟩ (h1.below hW) hx1 (h2.below hW) hx2 hk1) (fun W hW => other_gt (h1.below hW) hx1 (h2.below hW) hx2) (fun W hW => compare_gt_no (h1.below hW) hx1 (h2.below hW) hx2 hk3)
      · have e1 : okL k1 k1 = true := by unfold okL okE; rw [hn]; simp [hk3]
        rw [e1, Bool.true_and]
        exact bin_c ⟨#[62]⟩ h1 hx1 h2 hx2 rfl hn (fun W hW => if hk1 : k1 = 1 then reckon_gt (h1.below hW) hx1 (h2.below hW) hx2 hk1 else reckon_no1 ⟨#[62]⟩ (h1.below hW) hx1 (h2.below hW) hx2 hk1) (fun W hW => other_gt (h1.below hW) hx1 (h2.below hW) hx2) (fun W hW => compare_gt (h1.below hW) hx1 (h2.below hW) hx2 hk3)
  · have e1 : okL k1 k2 = false := by unfold okL okE; simp [hk]
    rw [e1]
    exact bin_other ⟨#[62]⟩ h1 hx1 h2 hx2 hk
theorem b_join {w : World} {k1 : Int} {g1 : Bool} {a1 : Option Addr} {n1 c1 : Nat} {s1 : ByteArray} {t1 : Bool} {z1 : List Nat} {x1 : Int} {k2 : Int} {g2 : Bool} {a2 : Option Addr} {n2 c2 : Nat} {s2 : ByteArray} {t2 : Bool} {z2 : List Nat} {x2 : Int} (h1 : IntV w (.agg #[.bool g1, .slice a1 n1 c1]) g1 z1) (hx1 : valI g1 z1 = x1) (h2 : IntV w (.agg #[.bool g2, .slice a2 n2 c2]) g2 z2) (hx2 : valI g2 z2 = x2) (hk1 : k1 = 2) (hk2 : k2 = 2) (hl : s1.size + s2.size ≤ 65536) :
    Calls Tryd.prog 23 #[.string ⟨#[43]⟩, .agg #[.int .i64 k1, .bool g1, .slice a1 n1 c1, .string s1, .bool t1], .agg #[.int .i64 k2, .bool g2, .slice a2 n2 c2, .string s2, .bool t2]] w fun e w' => Kon2 w' e 2 0 (s1 ++ s2) false 0 ∧ Below w.heap.size w w' := by
  subst hk1
  subst hk2
  exact bin_b ⟨#[43]⟩ h1 hx1 h2 hx2 rfl rfl (fun W hW => reckon_no1 ⟨#[43]⟩ (h1.below hW) hx1 (h2.below hW) hx2 (by decide)) (fun W hW => other_join (h1.below hW) hx1 (h2.below hW) hx2 rfl hl)
theorem b_big {w : World} {k1 : Int} {g1 : Bool} {a1 : Option Addr} {n1 c1 : Nat} {s1 : ByteArray} {t1 : Bool} {z1 : List Nat} {x1 : Int} {k2 : Int} {g2 : Bool} {a2 : Option Addr} {n2 c2 : Nat} {s2 : ByteArray} {t2 : Bool} {z2 : List Nat} {x2 : Int} (h1 : IntV w (.agg #[.bool g1, .slice a1 n1 c1]) g1 z1) (hx1 : valI g1 z1 = x1) (h2 : IntV w (.agg #[.bool g2, .slice a2 n2 c2]) g2 z2) (hx2 : valI g2 z2 = x2) (hk1 : k1 = 2) (hk2 : k2 = 2) (hl : 65536 < s1.size + s2.size) (h9 : s1.size + s2.size ≤ 1000000) :
    Calls Tryd.prog 23 #[.string ⟨#[43]⟩, .agg #[.int .i64 k1, .bool g1, .slice a1 n1 c1, .string s1, .bool t1], .agg #[.int .i64 k2, .bool g2, .slice a2 n2 c2, .string s2, .bool t2]] w fun e w' => Kon2 w' e 0 0 ⟨#[]⟩ false 2 ∧ Below w.heap.size w w' := by
  subst hk1
  subst hk2
  exact bin_b ⟨#[43]⟩ h1 hx1 h2 hx2 rfl rfl (fun W hW => reckon_no1 ⟨#[43]⟩ (h1.below hW) hx1 (h2.below hW) hx2 (by decide)) (fun W hW => other_big (h1.below hW) hx1 (h2.below hW) hx2 rfl hl h9)
end Go.Proofs.YtahgbbnpbhfaeaaDoor
