/- strings.TrimLeft at "0". No condition. -/
import Derived.Test.YtahgbbnpbhfaeaaDoorExBuild
import Derived.Lib.TrimByte
import Derived.Laws.Strings3
namespace Go.Proofs.YtahgbbnpbhfaeaaDoor
open Go.RowKit

def strL (l : List UInt8) : ByteArray := ⟨l.toArray⟩
theorem strL_size (l : List UInt8) : (strL l).size = l.length := by simp [strL, ByteArray.size]
theorem strL_get (x : UInt8) (l : List UInt8) : ∀ h, (strL (x :: l))[0]'h = x := fun _ => rfl
theorem strL_cut (x : UInt8) (l : List UInt8) : (strL (x :: l)).extract 1 (l.length + 1) = strL l := by
  unfold strL
  rw [Lib.extract_mk]
  congr 2
  simp

set_option maxHeartbeats 2000000 in
set_option maxRecDepth 100000 in
theorem trimLB_any (l : List UInt8) (c : UInt8) (w : World) :
    Calls Tryd.prog 74 #[.string (strL l), .int .u8 c.toNat] w fun e w' => e = .returned (.string (strL (l.dropWhile (· == c)))) ∧ w = w' := by
  go_enter Tryd.func74, Tryd.ntmps74
  go_wp2_with fail
  go_loopg [0] l.length (fun g v0 wr => ∃ m : List UInt8, v0 = .string (strL m) ∧ g = m.length ∧ wr = w ∧ Hid (m.dropWhile (· == c) = l.dropWhile (· == c)))
  case atStart => exact ⟨l, rfl, rfl, rfl, Lib.hid rfl⟩
  case round =>
    obtain ⟨m, rfl, hg, rfl, Hr⟩ := hrel
    cases m with
    | nil =>
      obtain ⟨t, Ht⟩ : ∃ t, Hid (strL [] = t) := ⟨_, Lib.hid rfl⟩
      have hs : t.size = 0 := by rw [← Ht.out]; rfl
      rw [Ht.out]
      go_wp2_with fail
      go_ret
      refine ⟨?_, rfl⟩
      rw [← Hr.out]
      simp only [List.dropWhile_nil]
      rw [Ht.out]
      rfl
    | cons x m =>
      obtain ⟨t, Ht⟩ : ∃ t, Hid (strL (x :: m) = t) := ⟨_, Lib.hid rfl⟩
      have hs : t.size = m.length + 1 := by rw [← Ht.out, strL_size]; rfl
      have hx : ∀ h, t[0]'h = x := by rw [← Ht.out]; exact strL_get x m
      have hcut : t.extract 1 (m.length + 1) = strL m := by rw [← Ht.out]; exact strL_cut x m
      rw [Ht.out]
      have h0 : 0 < t.size := by omega
      by_cases hxc : x = c
      · have hbq : ((x.toNat : Int) == (c.toNat : Int)) = true := by rw [hxc]; simp
        have Hxc := Lib.hid hxc
        clear hxc
        go_wp2_with fail
        go_roundg m.length
        case measure => omega
        case rel =>
          refine ⟨m, rfl, rfl, rfl, Lib.hid ?_⟩
          rw [← Hr.out, List.dropWhile_cons, if_pos (by rw [Hxc.out]; simp)]
      · have hbq : ((x.toNat : Int) == (c.toNat : Int)) = false := by
          simp only [beq_eq_false_iff_ne, ne_eq]
          intro e
          exact hxc (UInt8.toNat_inj.1 (by omega))
        have Hxc := Lib.hid hxc
        clear hxc
        go_wp2_with fail
        go_ret
        refine ⟨?_, rfl⟩
        rw [← Hr.out, List.dropWhile_cons, if_neg (by simpa using Hxc.out), Ht.out]
        rfl

set_option maxHeartbeats 2000000 in
set_option maxRecDepth 100000 in
theorem trimL_any (l : List UInt8) (c : UInt8) (w : World) (hc : c.toNat < 128) (hl : l ≠ []) :
    Calls Tryd.prog 59 #[.string (strL l), .string ⟨#[c]⟩] w fun e w' => e = .returned (.string (strL (l.dropWhile (· == c)))) ∧ w = w' := by
  have HT := Lib.hid (trimLB_any l c w)
  obtain ⟨t, Ht⟩ : ∃ t, Hid (strL l = t) := ⟨_, Lib.hid rfl⟩
  have hne : t.toList.isEmpty = false := by
    rw [← Ht.out, Lib.toList_data]
    simpa [strL] using hl
  have hc1 : ((c.toNat : Int) < 128) := by omega
  have Hl := Lib.hid hl
  clear hl hc
  rw [Ht.out] at HT ⊢
  obtain ⟨sc, Hsc⟩ : ∃ sc, Hid ((⟨#[c]⟩ : ByteArray) = sc) := ⟨_, Lib.hid rfl⟩
  have hsc1 : sc.size = 1 := by rw [← Hsc.out]; rfl
  have hsc2 : ∀ h, sc[0]'h = c := by rw [← Hsc.out]; exact fun _ => rfl
  have hsc3 : sc.toList.isEmpty = false := by
    rw [← Hsc.out, Lib.toList_data]
    rfl
  rw [Hsc.out]
  go_enter Tryd.func59, Tryd.ntmps59
  go_wp2_with (go_at_call 74; refine hold ?_)
  refine Hold.mk ?_
  refine HT.out.mono ?_
  rintro e w2 ⟨rfl, rfl⟩
  go_wp2_with fail
  go_ret
  exact ⟨rfl, rfl⟩
end Go.Proofs.YtahgbbnpbhfaeaaDoor
