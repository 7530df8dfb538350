/- clocks.join: the greater of what two rows hold. -/
import Derived.Test.YtkcaeeighjblkaaClkRW
namespace Go.Proofs.Ytkcaeeighjblkaa
open Go.RowKit

def maxL (a b : List Int) : List Int := (List.range (max a.length b.length)).map fun i => max (a.getD i 0) (b.getD i 0)
theorem maxL_len (a b : List Int) : (maxL a b).length = max a.length b.length := by simp [maxL]
theorem getD_beyond {l : List Int} {i : Nat} (h : l.length ≤ i) : l.getD i 0 = 0 := by simp [List.getD, h]
theorem maxL_getD (a b : List Int) (i : Nat) : (maxL a b).getD i 0 = max (a.getD i 0) (b.getD i 0) := by
  by_cases h : i < max a.length b.length
  · simp [maxL, List.getD, h]
  · rw [getD_beyond (by rw [maxL_len]; omega), getD_beyond (l := a) (by omega), getD_beyond (l := b) (by omega)]; rfl
theorem list_ext_getD {a b : List Int} (hl : a.length = b.length) (h : ∀ i, i < a.length → a.getD i 0 = b.getD i 0) : a = b := by
  apply List.ext_getElem hl
  intro i h1 h2
  have := h i h1
  simpa [List.getD, h1, h2] using this
theorem maxL_nil (b : List Int) (h : ∀ j, 0 ≤ b.getD j 0) : maxL [] b = b := by
  apply list_ext_getD
  · rw [maxL_len]; simp
  · intro i _
    rw [maxL_getD]
    have := h i
    simp only [List.getD_nil]
    omega
theorem maxL_take_nil (a : List Int) (h : ∀ j, 0 ≤ a.getD j 0) : maxL a [] = a := by
  apply list_ext_getD
  · rw [maxL_len]; simp
  · intro i _
    rw [maxL_getD]
    have := h i
    simp only [List.getD_nil]
    omega
theorem take_getD (k : List Int) (n i : Nat) : (k.take n).getD i 0 = if i < n then k.getD i 0 else 0 := by
  split
  · rename_i h; simp [List.getD, List.getElem?_take, h]
  · rename_i h; simp [List.getD, List.getElem?_take, h]
/-- One step of the inner loop, where the row is long enough. -/
theorem maxL_step_set {o k : List Int} {i : Nat} (hi : i < k.length) (hlen : i < (maxL o (k.take i)).length) (ho : ∀ j, 0 ≤ o.getD j 0) :
    maxL o (k.take (i + 1)) = (maxL o (k.take i)).set i (max ((maxL o (k.take i)).getD i 0) (k.getD i 0)) := by
  have hl0 := hlen
  rw [maxL_len] at hl0
  apply list_ext_getD
  · rw [maxL_len, List.length_set, maxL_len, List.length_take, List.length_take]; simp at hl0; omega
  · intro j _
    rw [maxL_getD, getD_set_cases _ _ _ _ _ hlen, maxL_getD, maxL_getD, take_getD, take_getD, take_getD]
    have := ho i
    have := ho j
    by_cases e : i = j
    · subst e
      rw [if_pos (by omega), if_pos rfl, if_neg (by omega)]; omega
    · rw [if_neg e]
      by_cases h1 : j < i
      · rw [if_pos (by omega), if_pos h1]
      · rw [if_neg (by omega), if_neg h1]
/-- .. and where it must be made longer. -/
theorem maxL_step_app {o k : List Int} {i : Nat} (hi : i < k.length) (hlen : (maxL o (k.take i)).length = i) (ho : ∀ j, 0 ≤ o.getD j 0) (hk : ∀ j, 0 ≤ k.getD j 0) :
    maxL o (k.take (i + 1)) = (maxL o (k.take i) ++ [0]).set i (max 0 (k.getD i 0)) := by
  have hl0 := hlen
  rw [maxL_len] at hl0
  apply list_ext_getD
  · rw [maxL_len, List.length_set, List.length_append, maxL_len, List.length_take, List.length_take]; simp at hl0 ⊢; omega
  · intro j _
    rw [maxL_getD, getD_set_cases _ _ _ _ _ (by simp; omega), take_getD]
    have e0 := getD_append_rep (maxL o (k.take i)) 1 j
    rw [show List.replicate 1 (0 : Int) = [0] from rfl] at e0
    rw [e0, maxL_getD, take_getD]
    have := ho j
    have := hk j
    by_cases e : i = j
    · subst e
      have h2 : o.length ≤ i := by simp at hl0; omega
      rw [if_pos (by omega), if_pos rfl, getD_beyond h2]
    · rw [if_neg e]
      by_cases h1 : j < i
      · rw [if_pos (by omega), if_pos h1]
      · rw [if_neg (by omega), if_neg h1]

/-- What has been gathered, of rows before the one at hand, and of i numbers of it. -/
def JoinRel (B : Nat) (o k : List Int) (w : World) (i : Nat) (v : Value) (wr : World) : Prop :=
  wr.ownsRow B 3 1 v (maxL o (k.take i)).length (ints (maxL o (k.take i))) ∧ Below B w wr
def oOf (k1 k2 : List Int) : Nat → List Int
  | 0 => []
  | 1 => k1
  | _ => maxL k1 k2

theorem join_store {B gg cap cur i : Nat} {o k : List Int} {w wr : World} {x : Int} {xs : List Int} (hB : Below B w wr) (hxs : xs.set i x = maxL o (k.take (i + 1))) (hlen : xs.length = cur) (hi : i < cur)
    (hown : wr.ownsRow B 3 1 (.slice (some ⟨gg, 0, none⟩) cur cap) cur (ints xs)) : JoinRel B o k w (i + 1) (.slice (some ⟨gg, 0, none⟩) cur cap) (wr.setCell ⟨gg, i, none⟩ (.int .i64 x)) := by
  have h := row_setCell (x := .int .i64 x) hown hi
  have e : (ints xs).set i (.int .i64 x) = ints (maxL o (k.take (i + 1))) := by rw [← hxs]; simp [List.map_set]
  have e2 : (maxL o (k.take (i + 1))).length = cur := by rw [← hxs, List.length_set, hlen]
  rw [e] at h
  refine ⟨by rw [e2]; exact h, hB.setCell (hown.lt gg rfl).1 _⟩

set_option maxHeartbeats 1600000 in
theorem join_any (bl c : Nat) (v1 v2 : Value) (k1 k2 : List Int) (w : World) (h1 : w.ownsRow 0 3 1 v1 k1.length (ints k1)) (h2 : w.ownsRow 0 3 1 v2 k2.length (ints k2))
    (hb1 : w.cell? ⟨bl, 0, none⟩ = some v1) (hb2 : w.cell? ⟨bl, 1, none⟩ = some v2) (hl1 : k1.length ≤ 200000) (hl2 : k2.length ≤ 200000) (hp1 : ∀ j, 0 ≤ k1.getD j 0) (hp2 : ∀ j, 0 ≤ k2.getD j 0) :
    Calls Try.prog 31 #[.slice (some ⟨bl, 0, none⟩) 2 c] w fun e w' => ∃ a cap, e = .returned (.slice a (maxL k1 k2).length cap) ∧ w'.ownsRow w.heap.size 3 1 (.slice a (maxL k1 k2).length cap) (maxL k1 k2).length (ints (maxL k1 k2)) ∧ Below w.heap.size w w' := by
  obtain ⟨i0, hi, hz0, hz1, hz2⟩ := info_parts Try.info3
  have Hp1 := Lib.hid hp1
  have Hp2 := Lib.hid hp2
  clear hp1 hp2
  go_enter Try.func31, Try.ntmps31
  go_wp2_with fail
  go_loopg [3, 10] 2 (fun g v3 v10 wr => ∃ k : Nat, k ≤ 2 ∧ g = 2 - k ∧ v10 = .int .i64 k ∧ wr.ownsRow w.heap.size 3 1 v3 (oOf k1 k2 k).length (ints (oOf k1 k2 k)) ∧ Below w.heap.size w wr)
  case atStart => exact ⟨0, by omega, rfl, rfl, World.ownsRow_nil _ _ _ _, Below.refl _ _⟩
  case round =>
    obtain ⟨k, hk2, hg, rfl, hown, hbel⟩ := hrel
    by_cases hlt : k < 2
    · have HV := Lib.hid (show ∃ v kk, w.cell? ⟨bl, k, none⟩ = some v ∧ w.ownsRow 0 3 1 v kk.length (ints kk) ∧ kk.length ≤ 200000 ∧ (∀ j, 0 ≤ kk.getD j 0) ∧ maxL (oOf k1 k2 k) kk = oOf k1 k2 (k + 1) ∧ (∀ j, 0 ≤ (oOf k1 k2 k).getD j 0) ∧ (oOf k1 k2 k).length ≤ 200000 from by
        match k, hlt with
        | 0, _ => exact ⟨v1, k1, hb1, h1, hl1, Hp1.out, maxL_nil k1 Hp1.out, fun j => by simp [oOf], by simp [oOf]⟩
        | 1, _ => exact ⟨v2, k2, hb2, h2, hl2, Hp2.out, rfl, Hp1.out, hl1⟩)
      obtain ⟨v, kk, hcv, hrow, hlk, hpk, hoo, hpo, hlo⟩ := HV.out
      obtain ⟨o, Ho⟩ : ∃ o, Hid (oOf k1 k2 k = o) := ⟨_, Lib.hid rfl⟩
      obtain ⟨o', Ho'⟩ : ∃ o', Hid (oOf k1 k2 (k + 1) = o') := ⟨_, Lib.hid rfl⟩
      rw [Ho.out] at hoo hown hpo hlo
      rw [Ho'.out] at hoo
      have hcr := cell_below hbel rfl hcv
      have hrowr : ∀ wy, Below w.heap.size w wy → wy.ownsRow 0 3 1 v kk.length (ints kk) := fun wy hy => row_same hrow (fun k e => hy.block k (hrow.lt k e).2)
      obtain ⟨a, cc, rfl⟩ := row_form hrow
      have HH := Lib.hid (And.intro hoo (And.intro hpo (And.intro hpk hrowr)))
      clear hoo hpo hpk hrowr hrow HV hcv hb1 hb2 h1 h2
      have Hst := Lib.hid (show JoinRel w.heap.size o kk w 0 u3 wr from by
        unfold JoinRel
        rw [List.take_zero, maxL_take_nil o HH.out.2.1]
        exact ⟨hown, hbel⟩)
      clear hown hbel
      have hkd : decide ((k : Int) < 2) = true := by simp; omega
      go_wp2_with fail
      go_loopg [3, 16] kk.length (fun g v3 v16 wr => ∃ i : Nat, i ≤ kk.length ∧ g = kk.length - i ∧ v16 = .int .i64 i ∧ JoinRel w.heap.size o kk w i v3 wr)
      case atStart => exact ⟨0, Nat.zero_le _, rfl, rfl, Hst.out⟩
      case round =>
        clear Hst
        obtain ⟨i, hik, hgi, rfl, hown, hbel⟩ := hrel
        by_cases hlt2 : i < kk.length
        · have hsrc := HH.out.2.2.2 _ hbel
          obtain ⟨gs, cs, es, _, _⟩ := hsrc.form (by omega)
          cases es
          have hn := ints_cell hsrc i hlt2
          obtain ⟨n, Hn⟩ : ∃ n, Hid (kk.getD i 0 = n) := ⟨_, Lib.hid rfl⟩
          rw [Hn.out] at hn
          obtain ⟨L, HL⟩ : ∃ L, Hid (maxL o (kk.take i) = L) := ⟨_, Lib.hid rfl⟩
          have hL1 : i ≤ L.length := by rw [← HL.out, maxL_len, List.length_take]; omega
          have hL2 : L.length ≤ 400000 := by rw [← HL.out, maxL_len, List.length_take]; omega
          rw [HL.out] at hown
          by_cases hlen : i < L.length
          · obtain ⟨gg, cap, e3, _, hgg⟩ := hown.form (by omega)
            cases e3
            have hx := ints_cell hown i hlen
            have hfz : wr.frozen? ⟨gg, i, none⟩ = false := by
              obtain ⟨cur, e⟩ := row_at hown (k := gg) rfl
              simp [World.frozen?, e]
            obtain ⟨x, Hx⟩ : ∃ x, Hid (L.getD i 0 = x) := ⟨_, Lib.hid rfl⟩
            rw [Hx.out] at hx
            have HN := Lib.hid (show JoinRel w.heap.size o kk w (i + 1) (.slice (some ⟨gg, 0, none⟩) L.length cap) (wr.setCell ⟨gg, i, none⟩ (.int .i64 (max x n))) from
              join_store hbel (by rw [maxL_step_set hlt2 (by rw [HL.out]; exact hlen) HH.out.2.1, HL.out, Hx.out, Hn.out]) rfl hlen hown)
            have hgi' : kk.length - i ≤ gk := by omega
            clear hsrc hown hbel hgi
            by_cases hxn : x < n
            · rw [show max x n = n from Int.max_eq_right (by omega)] at HN
              go_wp2
              all_goals
                go_roundg (kk.length - (i + 1))
                case measure => omega
                case rel => exact ⟨i + 1, by omega, rfl, by go_num, HN.out⟩
            · rw [show max x n = x from Int.max_eq_left (by omega)] at HN
              by_cases hxe : n < x
              · go_wp2
                all_goals
                  go_roundg (kk.length - (i + 1))
                  case measure => omega
                  case rel => exact ⟨i + 1, by omega, rfl, by go_num, HN.out⟩
              · obtain rfl : n = x := by omega
                go_wp2
                all_goals
                  go_roundg (kk.length - (i + 1))
                  case measure => omega
                  case rel => exact ⟨i + 1, by omega, rfl, by go_num, HN.out⟩
          · have hLi : L.length = i := by omega
            have hn0 : 0 ≤ n := by rw [← Hn.out]; exact HH.out.2.2.1 i
            have hgi' : kk.length - i ≤ gk := by omega
            have HLi := Lib.hid hLi
            clear hgi hLi
            have hdr : w.heap.size ≤ wr.heap.size := hbel.size
            obtain ⟨a3, c3, rfl⟩ := row_form hown
            go_wp2_with (at_builtin; refine wpList_app _ rfl _ _ _ rfl w.heap.size 3 i0 _ 1 8 Try.underlying46 hi hz0 hz1 hz2 rfl (.slice a3 L.length c3) L.length (ints L) rfl (hown.alloc _) ⟨wr.heap.size, 0, none⟩ 1 1 [.int .i64 0] rfl rfl (World.news_of_block (cs := #[.int .i64 0]) (t := 3) (fr := (0, 0)) (heap_alloc_new wr _)) ?c1 (by omega) (by unfold maxLen; omega) (by omega) (by simp; omega) (fun gg cap w2 hown2 hat => hold ?_))
            case c1 => intro u hu; simp at hu; subst hu; rfl
            have hown3 : w2.ownsRow w.heap.size 3 1 (.slice (some ⟨gg, 0, none⟩) (L.length + 1) cap) (L.length + 1) (ints (L ++ [0])) := by simpa using hown2
            have hbel2 : Below w.heap.size w w2 := (hbel.alloc hbel.size _).grown hat.grown (by simp; omega) (fun k e => (hown.lt k e).1)
            have hx := ints_cell hown3 i (by omega)
            have hx0 : (L ++ [0]).getD i 0 = 0 := getD_snoc_eq HLi.out.symm
            rw [hx0] at hx
            have hfz : w2.frozen? ⟨gg, i, none⟩ = false := by
              obtain ⟨cur, e⟩ := row_at hown3 (k := gg) rfl
              simp [World.frozen?, e]
            have HN := Lib.hid (show JoinRel w.heap.size o kk w (i + 1) (.slice (some ⟨gg, 0, none⟩) (L.length + 1) cap) (w2.setCell ⟨gg, i, none⟩ (.int .i64 n)) from
              join_store hbel2 (by rw [maxL_step_app hlt2 (by rw [HL.out]; exact HLi.out) HH.out.2.1 HH.out.2.2.1, HL.out, Hn.out, show max 0 n = n from Int.max_eq_right hn0]) (by simp) (by omega) hown3)
            clear hat hown3 hbel2 hx0 hown2 hown hbel hsrc
            have hil : (i : Int) < (L.length : Int) + 1 := by omega
            by_cases hn1 : 0 < n
            · refine Hold.mk ?_
              go_wp2
              all_goals
                go_roundg (kk.length - (i + 1))
                case measure => omega
                case rel => exact ⟨i + 1, by omega, rfl, by go_num, HN.out⟩
            · obtain rfl : n = 0 := by omega
              refine Hold.mk ?_
              go_wp2
              all_goals
                go_roundg (kk.length - (i + 1))
                case measure => omega
                case rel => exact ⟨i + 1, by omega, rfl, by go_num, HN.out⟩
        · have hie : i = kk.length := by omega
          subst hie
          have HN := Lib.hid (show k + 1 ≤ 2 ∧ wr.ownsRow w.heap.size 3 1 u3 (oOf k1 k2 (k + 1)).length (ints (oOf k1 k2 (k + 1))) ∧ Below w.heap.size w wr from by
            rw [Ho'.out, ← HH.out.1]
            rw [List.take_length] at hown
            exact ⟨by omega, hown, hbel⟩)
          clear hown hbel hgi
          go_wp2
          go_roundg (2 - (k + 1))
          case measure => omega
          case rel => exact ⟨k + 1, HN.out.1, rfl, by go_num, HN.out.2.1, HN.out.2.2⟩
    · obtain rfl : k = 2 := by omega
      clear hg
      obtain ⟨a3, c3, rfl⟩ := row_form hown
      have HN := Lib.hid (And.intro hown hbel)
      clear hown hbel
      go_wp2
      go_ret
      exact ⟨a3, c3, rfl, HN.out.1, HN.out.2⟩

end Go.Proofs.Ytkcaeeighjblkaa
