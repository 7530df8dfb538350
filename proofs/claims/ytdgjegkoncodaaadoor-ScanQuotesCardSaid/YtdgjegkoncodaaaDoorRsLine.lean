/- The reference's line. Condition: no more than a million tokens. -/
import Derived.Test.YtdgjegkoncodaaaDoorRsAdd
import Derived.Test.YtdgjegkoncodaaaDoorScLine
namespace Go.Proofs.YtdgjegkoncodaaaDoor
open Go.RowKit

theorem Rs.tvForm2 {w0 W : World} {p a : Nat} {src : ByteArray} {l : List Tok} {c : List (Nat × Nat)} {fk fa : Int} {tv rv : Value} (h : Rs w0 W p src a l c fk fa tv rv) : ∃ ad cap, tv = .slice ad l.length cap := h.tvForm
def strE (s : ByteArray) (l : List UInt8) (v : Bool) : Prop := (s == strB l) = v
theorem endsB_lit {k : Int} {x : List UInt8} {s : ByteArray} (hs : strB x = s) {b1 b2 b3 b4 b5 : Bool} {c1 c2 c3 d1 d2 d3 d4 d5 : Bool} (h1 : (k == 1) = b1) (h2 : (k == 2) = b2) (h3 : (k == 3) = b3) (h4 : (k == 4) = b4) (h5 : (k == 5) = b5)
    (e1 : (s.toList == [98, 114, 101, 97, 107]) = c1) (e2 : (s.toList == [99, 111, 110, 116, 105, 110, 117, 101]) = c2) (e3 : (s.toList == [114, 101, 116, 117, 114, 110]) = c3)
    (f1 : (s.toList == [43, 43]) = d1) (f2 : (s.toList == [45, 45]) = d2) (f3 : (s.toList == [41]) = d3) (f4 : (s.toList == [93]) = d4) (f5 : (s.toList == [125]) = d5) :
    endsB k x = ((b1 || b2 || b3) || (b4 && (c1 || c2 || c3)) || (b5 && (d1 || d2 || d3 || d4 || d5))) := by
  have hx : s.toList = x := by rw [← hs, toList_strB]
  rw [hx] at e1 e2 e3 f1 f2 f3 f4 f5
  unfold endsB
  rw [← h1, ← h2, ← h3, ← h4, ← h5, ← e1, ← e2, ← e3, ← f1, ← f2, ← f3, ← f4, ← f5]
set_option maxRecDepth 100000 in
set_option maxHeartbeats 3200000 in
theorem rline_any {w0 W : World} {p a : Nat} {src : ByteArray} {l : List Tok} {c : List (Nat × Nat)} {fk fa : Int} (h : RsE w0 W p src a l c fk fa) (hn : l.length ≤ 1000000) (b : Nat) :
    Calls Tryd.prog 37 #[.pointer (some ⟨p, 0, none⟩), .int .i64 (b : Int)] W fun e W' => e = .returned (.tuple #[]) ∧ RsE w0 W' p src a (lineT l b) c fk fa := by
  obtain ⟨tv, rv, h⟩ := h
  by_cases hl : l = []
  · subst hl
    obtain ⟨ad, cap, rfl⟩ := h.tvForm
    have HT := Lib.hid h
    obtain ⟨_, _, c2, _⟩ := h.cells
    clear h
    go_enter Tryd.func37, Tryd.ntmps37
    go_wp2_with fail
    refine bodyPost_ret (results_none rfl _ _ _) rfl ?_
    exact ⟨rfl, _, _, HT.out⟩
  · obtain ⟨l', t, rfl⟩ := list_last l hl
    obtain ⟨m, Hm⟩ : ∃ m, Hid (l'.length = m) := ⟨_, Lib.hid rfl⟩
    have hlen : (l' ++ [t]).length = m + 1 := by rw [List.length_append, Hm.out]; rfl
    have hm : m < 1000000 := by rw [hlen] at hn; omega
    obtain ⟨g, cap, hg, rfl⟩ : ∃ g cap, p + 1 ≤ g ∧ tv = .slice (some ⟨g, 0, none⟩) (m + 1) cap := by
      rcases h.toks.2 with ⟨_, e⟩ | ⟨g, cap, cur, e, hg, _⟩
      · rw [hlen] at e; omega
      · exact ⟨g, cap, hg, by rw [e, hlen]⟩
    have HT := Lib.hid h
    have HL := Lib.hid hlen
    obtain ⟨_, _, c2, _⟩ := h.cells
    have htk := h.toks
    rw [hlen] at htk
    have d0 := tok_cell (w := W) htk 0 _ rfl
    have d1 := tok_cell (w := W) htk 1 _ rfl
    have d2 := tok_cell (w := W) htk 2 _ rfl
    have d3 := tok_cell (w := W) htk 3 _ rfl
    rw [Hm.out] at d0 d1 d2 d3
    rw [Nat.add_zero] at d0
    obtain ⟨k, f, o, x⟩ := t
    simp only at d0 d1 d2 d3
    obtain ⟨s, Hs⟩ : ∃ s, Hid (strB x = s) := ⟨_, Lib.hid rfl⟩
    rw [Hs.out] at d3
    clear h hlen hn hl hg htk
    have hw : IntKind.i64.wrap (((m + 1 : Nat) : Int) - 1) = (m : Int) := by rw [IntKind.wrap_i64]; omega
    have hw2 : IntKind.i64.wrap ((m : Int) + 1 - 1) = (m : Int) := by rw [IntKind.wrap_i64]; omega
    have hw3 : IntKind.i64.wrap (m : Int) = (m : Int) := by rw [IntKind.wrap_i64]; omega
    have hmI : (m : Int) < (m : Int) + 1 := by omega
    obtain ⟨u, Hu⟩ : ∃ u, Hid (endsB k x = u) := ⟨_, Lib.hid rfl⟩
    have HQ := Lib.hid (show lineT (l' ++ [⟨k, f, o, x⟩]) b = if u then (l' ++ [⟨k, f, o, x⟩]) ++ [⟨6, b, b, [10]⟩] else l' ++ [⟨k, f, o, x⟩] from by rw [lineT_push, ← Hu.out])
    go_enter Tryd.func37, Tryd.ntmps37
    go_upto_region 1 with fail
    have HS : (fun w' : World => w'.cell? ⟨p, 2, none⟩ = some (.slice (some ⟨g, 0, none⟩) (m + 1) cap) ∧ w'.cell? ⟨g, m * 4, none⟩ = some (.int .i64 k) ∧ w'.cell? ⟨g, m * 4 + 1, none⟩ = some (.int .i64 (f : Int)) ∧ w'.cell? ⟨g, m * 4 + 2, none⟩ = some (.int .i64 (o : Int)) ∧ w'.cell? ⟨g, m * 4 + 3, none⟩ = some (.string s)) W.drew := ⟨c2, d0, d1, d2, d3⟩
    clear c2 d0 d1 d2 d3
    refine wp_region_pi (fun w' : World => w'.cell? ⟨p, 2, none⟩ = some (.slice (some ⟨g, 0, none⟩) (m + 1) cap) ∧ w'.cell? ⟨g, m * 4, none⟩ = some (.int .i64 k) ∧ w'.cell? ⟨g, m * 4 + 1, none⟩ = some (.int .i64 (f : Int)) ∧ w'.cell? ⟨g, m * 4 + 2, none⟩ = some (.int .i64 (o : Int)) ∧ w'.cell? ⟨g, m * 4 + 3, none⟩ = some (.string s)) [(0, 1), (1, 1), (2, 1), (3, 0), (4, 1), (5, 1), (6, 1), (7, 0), (8, 1), (9, 1), (10, 1), (11, 0), (12, 2), (13, 3)] [(13, [3]), (13, [7]), (13, [11])] (by kernel_rfl) (by kernel_rfl) (fun _ _ _ _ _ h => h) (HS) ?_
    refine pq_pu (some 12) rfl rfl (by rfl) (fun ws => by go_simp; try with_reducible rfl) ?_; go_frame   -- 0 Op.move (Operand.tmp 0)
    refine pq_pu (some 13) rfl rfl (by rfl) (fun ws => by go_simp; try with_reducible rfl) ?_; go_frame   -- 1 Op.nilCheck (Operand.tmp 12)
    refine pq_pu (some 14) rfl rfl (by rfl) (fun ws => by go_simp; try with_reducible rfl) ?_; go_frame   -- 2 Op.fieldAddr 52 (Operand.tmp 13) 2
    refine pq_ld (some 15) rfl rfl (by rfl) (fun ws HS => by go_split_ands; go_simp; try with_reducible rfl) ?_; go_frame   -- 3 Op.load 23 (Operand.tmp 14)
    refine pq_pu (some 16) rfl rfl (by rfl) (fun ws => by go_simp; try with_reducible rfl) ?_; go_frame   -- 4 Op.move (Operand.tmp 0)
    refine pq_pu (some 17) rfl rfl (by rfl) (fun ws => by go_simp; try with_reducible rfl) ?_; go_frame   -- 5 Op.nilCheck (Operand.tmp 16)
    refine pq_pu (some 18) rfl rfl (by rfl) (fun ws => by go_simp; try with_reducible rfl) ?_; go_frame   -- 6 Op.fieldAddr 52 (Operand.tmp 17) 2
    refine pq_ld (some 19) rfl rfl (by rfl) (fun ws HS => by go_split_ands; go_simp; try with_reducible rfl) ?_; go_frame   -- 7 Op.load 23 (Operand.tmp 18)
    refine pq_pu (some 20) rfl rfl (by rfl) (fun ws => by go_simp; try with_reducible rfl) ?_; go_frame   -- 8 Op.call { callee := Callee.builtin Builtin.len, args := #[Operand.tmp 19], argTypes := #[23] }
    refine pq_pu (some 21) rfl rfl (by rfl) (fun ws => by go_simp; try with_reducible rfl) ?_; go_frame   -- 9 Op.binOp BinOp.sub 3 (Operand.tmp 20) (Operand.const (Value.int IntKind.i64 1)) 3
    refine pq_pu (some 22) rfl rfl (by rfl) (fun ws => by go_simp; try with_reducible rfl) ?_; go_frame   -- 10 Op.indexAddr 23 (Operand.tmp 15) (Operand.tmp 21)
    refine pq_ld (some 23) rfl rfl (by rfl) (fun ws HS => by go_split_ands; go_simp; try with_reducible rfl) ?_; go_frame   -- 11 Op.load 35 (Operand.tmp 22)
    refine pk_ke rfl (fun J hJ => ?_)   -- pi_ke 12 Op.alloc 35
    go_wp2
    refine hJ _ _ ⟨cell_alloc HS.1, cell_alloc HS.2.1, cell_alloc HS.2.2.1, cell_alloc HS.2.2.2.1, cell_alloc HS.2.2.2.2⟩ ?_
    refine pi_tail (by rfl) ?_; simp only [opsAt, List.getElem?_toArray, List.getElem?_cons_zero, List.getElem?_cons_succ]   -- [(13, 'Op.store 35 (Operand.tmp 4) (Operand.tmp 23)')]
    go_upto_region 2 with fail
    clear HS
    obtain ⟨wA, HwA⟩ : ∃ wA, Hid ((W.alloc (.cells #[.int .i64 k, .int .i64 (f : Int), .int .i64 (o : Int), .string s] 35)).drew = wA) := ⟨_, Lib.hid rfl⟩
    obtain ⟨b4, Hb4⟩ : ∃ b, Hid (W.heap.size = b) := ⟨_, Lib.hid rfl⟩
    have G4 : wA.heap[b4]? = some (.cells #[.int .i64 k, .int .i64 (f : Int), .int .i64 (o : Int), .string s] 35 (0, 0)) := by rw [← HwA.out, ← Hb4.out]; exact heap_alloc_new W _
    have g0 : wA.cell? ⟨b4, 0, none⟩ = some (.int .i64 k) := by simp only [World.cell?, G4]; rfl
    have g3 : wA.cell? ⟨b4, 3, none⟩ = some (.string s) := by simp only [World.cell?, G4]; rfl
    have H1 := Lib.hid (show Rs w0 wA p src a (l' ++ [⟨k, f, o, x⟩]) c fk fa (.slice (some ⟨g, 0, none⟩) (m + 1) cap) rv from by rw [← HwA.out]; exact HT.out.go (((Below.refl _ W).alloc (Nat.le_refl _) _).drew))
    rw [HwA.out, Hb4.out]
    clear G4
    cases kb1 : (k == 1) with
    | true =>
      have kb4 : (k == 4) = false := by rw [show k = 1 from by simpa using kb1]; rfl
      have kb5 : (k == 5) = false := by rw [show k = 1 from by simpa using kb1]; rfl
      have hu : u = true := by rw [← Hu.out, endsB_lit Hs.out kb1 rfl rfl kb4 kb5 rfl rfl rfl rfl rfl rfl rfl rfl]; simp
      subst hu
      obtain ⟨_, _, c2, _⟩ := H1.out.cells
      obtain ⟨j0, hj, hy0, hy1, hy2⟩ := info_parts Tryd.infoTok
      have HG := Lib.hid (H1.out.go ((Below.refl _ wA).alloc (Nat.le_refl _) (.cells #[.int .i64 6, .int .i64 (b : Int), .int .i64 (b : Int), .string ⟨#[10]⟩] 35)))
      have hrow := HG.out.toks
      have hp1 := H1.out.lt
      rw [HL.out] at hrow
      go_wp2_with (at_builtin; refine hold ?_)
      refine Hold.mk ?_
      refine wpList_app _ rfl _ _ _ rfl (p + 1) 35 j0 _ 4 40 Tryd.underlying23 hj hy0 hy1 hy2 rfl (.slice (some ⟨g, 0, none⟩) (m + 1) cap) (m + 1) (tokCells (l' ++ [⟨k, f, o, x⟩])) rfl hrow ⟨wA.heap.size, 0, none⟩ 1 1 [.int .i64 6, .int .i64 (b : Int), .int .i64 (b : Int), .string ⟨#[10]⟩] rfl rfl (World.news_of_block (cs := #[.int .i64 6, .int .i64 (b : Int), .int .i64 (b : Int), .string ⟨#[10]⟩]) (t := 35) (fr := (0, 0)) (heap_alloc_new _ _)) ?cc1 (by omega) (by unfold maxLen; omega) (by omega) (by simp; omega) ?_
      case cc1 => intro u hu; simp at hu; rcases hu with h | h | h <;> (subst h; rfl)
      intro gg cap2 w2 hown2 hat
      have HA := Lib.hid (HG.out.app hat)
      have HP := Lib.hid (Rs.pushT (t := ⟨6, b, b, [10]⟩) HG.out hat (by rw [HL.out]; exact hown2))
      rw [HL.out] at HP
      have c2 : w2.cell? ⟨p, 2, none⟩ = some (.slice (some ⟨g, 0, none⟩) (m + 1) cap) := by have h := HA.out.2.1; simp only [World.cell?, h]; rfl
      have f2 : w2.frozen? ⟨p, 2, none⟩ = false := by have h := HA.out.2.1; simp only [World.frozen?, h]; simp
      clear hat hown2 hrow hp1
      go_wp2
      first
        | go_end0
        | refine bodyPost_ret (results_none rfl _ _ _) rfl ?_
      exact ⟨rfl, _, _, by rw [HQ.out]; exact HP.out⟩
    | false =>
      cases kb2 : (k == 2) with
      | true =>
        have kb4 : (k == 4) = false := by rw [show k = 2 from by simpa using kb2]; rfl
        have kb5 : (k == 5) = false := by rw [show k = 2 from by simpa using kb2]; rfl
        have hu : u = true := by rw [← Hu.out, endsB_lit Hs.out kb1 kb2 rfl kb4 kb5 rfl rfl rfl rfl rfl rfl rfl rfl]; simp
        subst hu
        obtain ⟨_, _, c2, _⟩ := H1.out.cells
        obtain ⟨j0, hj, hy0, hy1, hy2⟩ := info_parts Tryd.infoTok
        have HG := Lib.hid (H1.out.go ((Below.refl _ wA).alloc (Nat.le_refl _) (.cells #[.int .i64 6, .int .i64 (b : Int), .int .i64 (b : Int), .string ⟨#[10]⟩] 35)))
        have hrow := HG.out.toks
        have hp1 := H1.out.lt
        rw [HL.out] at hrow
        go_wp2_with (at_builtin; refine hold ?_)
        refine Hold.mk ?_
        refine wpList_app _ rfl _ _ _ rfl (p + 1) 35 j0 _ 4 40 Tryd.underlying23 hj hy0 hy1 hy2 rfl (.slice (some ⟨g, 0, none⟩) (m + 1) cap) (m + 1) (tokCells (l' ++ [⟨k, f, o, x⟩])) rfl hrow ⟨wA.heap.size, 0, none⟩ 1 1 [.int .i64 6, .int .i64 (b : Int), .int .i64 (b : Int), .string ⟨#[10]⟩] rfl rfl (World.news_of_block (cs := #[.int .i64 6, .int .i64 (b : Int), .int .i64 (b : Int), .string ⟨#[10]⟩]) (t := 35) (fr := (0, 0)) (heap_alloc_new _ _)) ?cc2 (by omega) (by unfold maxLen; omega) (by omega) (by simp; omega) ?_
        case cc2 => intro u hu; simp at hu; rcases hu with h | h | h <;> (subst h; rfl)
        intro gg cap2 w2 hown2 hat
        have HA := Lib.hid (HG.out.app hat)
        have HP := Lib.hid (Rs.pushT (t := ⟨6, b, b, [10]⟩) HG.out hat (by rw [HL.out]; exact hown2))
        rw [HL.out] at HP
        have c2 : w2.cell? ⟨p, 2, none⟩ = some (.slice (some ⟨g, 0, none⟩) (m + 1) cap) := by have h := HA.out.2.1; simp only [World.cell?, h]; rfl
        have f2 : w2.frozen? ⟨p, 2, none⟩ = false := by have h := HA.out.2.1; simp only [World.frozen?, h]; simp
        clear hat hown2 hrow hp1
        go_wp2
        first
          | go_end0
          | refine bodyPost_ret (results_none rfl _ _ _) rfl ?_
        exact ⟨rfl, _, _, by rw [HQ.out]; exact HP.out⟩
      | false =>
        cases kb3 : (k == 3) with
        | true =>
          have kb4 : (k == 4) = false := by rw [show k = 3 from by simpa using kb3]; rfl
          have kb5 : (k == 5) = false := by rw [show k = 3 from by simpa using kb3]; rfl
          have hu : u = true := by rw [← Hu.out, endsB_lit Hs.out kb1 kb2 kb3 kb4 kb5 rfl rfl rfl rfl rfl rfl rfl rfl]; simp
          subst hu
          obtain ⟨_, _, c2, _⟩ := H1.out.cells
          obtain ⟨j0, hj, hy0, hy1, hy2⟩ := info_parts Tryd.infoTok
          have HG := Lib.hid (H1.out.go ((Below.refl _ wA).alloc (Nat.le_refl _) (.cells #[.int .i64 6, .int .i64 (b : Int), .int .i64 (b : Int), .string ⟨#[10]⟩] 35)))
          have hrow := HG.out.toks
          have hp1 := H1.out.lt
          rw [HL.out] at hrow
          go_wp2_with (at_builtin; refine hold ?_)
          refine Hold.mk ?_
          refine wpList_app _ rfl _ _ _ rfl (p + 1) 35 j0 _ 4 40 Tryd.underlying23 hj hy0 hy1 hy2 rfl (.slice (some ⟨g, 0, none⟩) (m + 1) cap) (m + 1) (tokCells (l' ++ [⟨k, f, o, x⟩])) rfl hrow ⟨wA.heap.size, 0, none⟩ 1 1 [.int .i64 6, .int .i64 (b : Int), .int .i64 (b : Int), .string ⟨#[10]⟩] rfl rfl (World.news_of_block (cs := #[.int .i64 6, .int .i64 (b : Int), .int .i64 (b : Int), .string ⟨#[10]⟩]) (t := 35) (fr := (0, 0)) (heap_alloc_new _ _)) ?cc3 (by omega) (by unfold maxLen; omega) (by omega) (by simp; omega) ?_
          case cc3 => intro u hu; simp at hu; rcases hu with h | h | h <;> (subst h; rfl)
          intro gg cap2 w2 hown2 hat
          have HA := Lib.hid (HG.out.app hat)
          have HP := Lib.hid (Rs.pushT (t := ⟨6, b, b, [10]⟩) HG.out hat (by rw [HL.out]; exact hown2))
          rw [HL.out] at HP
          have c2 : w2.cell? ⟨p, 2, none⟩ = some (.slice (some ⟨g, 0, none⟩) (m + 1) cap) := by have h := HA.out.2.1; simp only [World.cell?, h]; rfl
          have f2 : w2.frozen? ⟨p, 2, none⟩ = false := by have h := HA.out.2.1; simp only [World.frozen?, h]; simp
          clear hat hown2 hrow hp1
          go_wp2
          first
            | go_end0
            | refine bodyPost_ret (results_none rfl _ _ _) rfl ?_
          exact ⟨rfl, _, _, by rw [HQ.out]; exact HP.out⟩
        | false =>
          cases kb4 : (k == 4) with
          | true =>
            have kb5 : (k == 5) = false := by rw [show k = 4 from by simpa using kb4]; rfl
            cases te1 : (s.toList == [98, 114, 101, 97, 107]) with
            | true =>
              have tpe1 : s.toList = [98, 114, 101, 97, 107] := eq_of_beq te1
              have hu : u = true := by rw [← Hu.out, endsB_lit Hs.out kb1 kb2 kb3 kb4 kb5 te1 rfl rfl rfl rfl rfl rfl rfl]; simp
              subst hu
              obtain ⟨_, _, c2, _⟩ := H1.out.cells
              obtain ⟨j0, hj, hy0, hy1, hy2⟩ := info_parts Tryd.infoTok
              have HG := Lib.hid (H1.out.go ((Below.refl _ wA).alloc (Nat.le_refl _) (.cells #[.int .i64 6, .int .i64 (b : Int), .int .i64 (b : Int), .string ⟨#[10]⟩] 35)))
              have hrow := HG.out.toks
              have hp1 := H1.out.lt
              rw [HL.out] at hrow
              go_wp2_with (at_builtin; refine hold ?_)
              refine Hold.mk ?_
              refine wpList_app _ rfl _ _ _ rfl (p + 1) 35 j0 _ 4 40 Tryd.underlying23 hj hy0 hy1 hy2 rfl (.slice (some ⟨g, 0, none⟩) (m + 1) cap) (m + 1) (tokCells (l' ++ [⟨k, f, o, x⟩])) rfl hrow ⟨wA.heap.size, 0, none⟩ 1 1 [.int .i64 6, .int .i64 (b : Int), .int .i64 (b : Int), .string ⟨#[10]⟩] rfl rfl (World.news_of_block (cs := #[.int .i64 6, .int .i64 (b : Int), .int .i64 (b : Int), .string ⟨#[10]⟩]) (t := 35) (fr := (0, 0)) (heap_alloc_new _ _)) ?cc4 (by omega) (by unfold maxLen; omega) (by omega) (by simp; omega) ?_
              case cc4 => intro u hu; simp at hu; rcases hu with h | h | h <;> (subst h; rfl)
              intro gg cap2 w2 hown2 hat
              have HA := Lib.hid (HG.out.app hat)
              have HP := Lib.hid (Rs.pushT (t := ⟨6, b, b, [10]⟩) HG.out hat (by rw [HL.out]; exact hown2))
              rw [HL.out] at HP
              have c2 : w2.cell? ⟨p, 2, none⟩ = some (.slice (some ⟨g, 0, none⟩) (m + 1) cap) := by have h := HA.out.2.1; simp only [World.cell?, h]; rfl
              have f2 : w2.frozen? ⟨p, 2, none⟩ = false := by have h := HA.out.2.1; simp only [World.frozen?, h]; simp
              clear hat hown2 hrow hp1
              go_wp2
              first
                | go_end0
                | refine bodyPost_ret (results_none rfl _ _ _) rfl ?_
              exact ⟨rfl, _, _, by rw [HQ.out]; exact HP.out⟩
            | false =>
              have tpe1 : ¬ s.toList = [98, 114, 101, 97, 107] := fun h => by rw [h] at te1; simp at te1
              cases te2 : (s.toList == [99, 111, 110, 116, 105, 110, 117, 101]) with
              | true =>
                have tpe2 : s.toList = [99, 111, 110, 116, 105, 110, 117, 101] := eq_of_beq te2
                have hu : u = true := by rw [← Hu.out, endsB_lit Hs.out kb1 kb2 kb3 kb4 kb5 te1 te2 rfl rfl rfl rfl rfl rfl]; simp
                subst hu
                obtain ⟨_, _, c2, _⟩ := H1.out.cells
                obtain ⟨j0, hj, hy0, hy1, hy2⟩ := info_parts Tryd.infoTok
                have HG := Lib.hid (H1.out.go ((Below.refl _ wA).alloc (Nat.le_refl _) (.cells #[.int .i64 6, .int .i64 (b : Int), .int .i64 (b : Int), .string ⟨#[10]⟩] 35)))
                have hrow := HG.out.toks
                have hp1 := H1.out.lt
                rw [HL.out] at hrow
                go_wp2_with (at_builtin; refine hold ?_)
                refine Hold.mk ?_
                refine wpList_app _ rfl _ _ _ rfl (p + 1) 35 j0 _ 4 40 Tryd.underlying23 hj hy0 hy1 hy2 rfl (.slice (some ⟨g, 0, none⟩) (m + 1) cap) (m + 1) (tokCells (l' ++ [⟨k, f, o, x⟩])) rfl hrow ⟨wA.heap.size, 0, none⟩ 1 1 [.int .i64 6, .int .i64 (b : Int), .int .i64 (b : Int), .string ⟨#[10]⟩] rfl rfl (World.news_of_block (cs := #[.int .i64 6, .int .i64 (b : Int), .int .i64 (b : Int), .string ⟨#[10]⟩]) (t := 35) (fr := (0, 0)) (heap_alloc_new _ _)) ?cc5 (by omega) (by unfold maxLen; omega) (by omega) (by simp; omega) ?_
                case cc5 => intro u hu; simp at hu; rcases hu with h | h | h <;> (subst h; rfl)
                intro gg cap2 w2 hown2 hat
                have HA := Lib.hid (HG.out.app hat)
                have HP := Lib.hid (Rs.pushT (t := ⟨6, b, b, [10]⟩) HG.out hat (by rw [HL.out]; exact hown2))
                rw [HL.out] at HP
                have c2 : w2.cell? ⟨p, 2, none⟩ = some (.slice (some ⟨g, 0, none⟩) (m + 1) cap) := by have h := HA.out.2.1; simp only [World.cell?, h]; rfl
                have f2 : w2.frozen? ⟨p, 2, none⟩ = false := by have h := HA.out.2.1; simp only [World.frozen?, h]; simp
                clear hat hown2 hrow hp1
                go_wp2
                first
                  | go_end0
                  | refine bodyPost_ret (results_none rfl _ _ _) rfl ?_
                exact ⟨rfl, _, _, by rw [HQ.out]; exact HP.out⟩
              | false =>
                have tpe2 : ¬ s.toList = [99, 111, 110, 116, 105, 110, 117, 101] := fun h => by rw [h] at te2; simp at te2
                cases te3 : (s.toList == [114, 101, 116, 117, 114, 110]) with
                | true =>
                  have tpe3 : s.toList = [114, 101, 116, 117, 114, 110] := eq_of_beq te3
                  have hu : u = true := by rw [← Hu.out, endsB_lit Hs.out kb1 kb2 kb3 kb4 kb5 te1 te2 te3 rfl rfl rfl rfl rfl]; simp
                  subst hu
                  obtain ⟨_, _, c2, _⟩ := H1.out.cells
                  obtain ⟨j0, hj, hy0, hy1, hy2⟩ := info_parts Tryd.infoTok
                  have HG := Lib.hid (H1.out.go ((Below.refl _ wA).alloc (Nat.le_refl _) (.cells #[.int .i64 6, .int .i64 (b : Int), .int .i64 (b : Int), .string ⟨#[10]⟩] 35)))
                  have hrow := HG.out.toks
                  have hp1 := H1.out.lt
                  rw [HL.out] at hrow
                  go_wp2_with (at_builtin; refine hold ?_)
                  refine Hold.mk ?_
                  refine wpList_app _ rfl _ _ _ rfl (p + 1) 35 j0 _ 4 40 Tryd.underlying23 hj hy0 hy1 hy2 rfl (.slice (some ⟨g, 0, none⟩) (m + 1) cap) (m + 1) (tokCells (l' ++ [⟨k, f, o, x⟩])) rfl hrow ⟨wA.heap.size, 0, none⟩ 1 1 [.int .i64 6, .int .i64 (b : Int), .int .i64 (b : Int), .string ⟨#[10]⟩] rfl rfl (World.news_of_block (cs := #[.int .i64 6, .int .i64 (b : Int), .int .i64 (b : Int), .string ⟨#[10]⟩]) (t := 35) (fr := (0, 0)) (heap_alloc_new _ _)) ?cc6 (by omega) (by unfold maxLen; omega) (by omega) (by simp; omega) ?_
                  case cc6 => intro u hu; simp at hu; rcases hu with h | h | h <;> (subst h; rfl)
                  intro gg cap2 w2 hown2 hat
                  have HA := Lib.hid (HG.out.app hat)
                  have HP := Lib.hid (Rs.pushT (t := ⟨6, b, b, [10]⟩) HG.out hat (by rw [HL.out]; exact hown2))
                  rw [HL.out] at HP
                  have c2 : w2.cell? ⟨p, 2, none⟩ = some (.slice (some ⟨g, 0, none⟩) (m + 1) cap) := by have h := HA.out.2.1; simp only [World.cell?, h]; rfl
                  have f2 : w2.frozen? ⟨p, 2, none⟩ = false := by have h := HA.out.2.1; simp only [World.frozen?, h]; simp
                  clear hat hown2 hrow hp1
                  go_wp2
                  first
                    | go_end0
                    | refine bodyPost_ret (results_none rfl _ _ _) rfl ?_
                  exact ⟨rfl, _, _, by rw [HQ.out]; exact HP.out⟩
                | false =>
                  have tpe3 : ¬ s.toList = [114, 101, 116, 117, 114, 110] := fun h => by rw [h] at te3; simp at te3
                  have hu : u = false := by rw [← Hu.out, endsB_lit Hs.out kb1 kb2 kb3 kb4 kb5 te1 te2 te3 rfl rfl rfl rfl rfl]; simp
                  subst hu
                  go_wp2_with fail
                  first
                    | go_end0
                    | refine bodyPost_ret (results_none rfl _ _ _) rfl ?_
                  exact ⟨rfl, _, _, by rw [HQ.out]; exact H1.out⟩
          | false =>
            cases kb5 : (k == 5) with
            | true =>
              cases tf1 : (s.toList == [43, 43]) with
              | true =>
                have tpf1 : s.toList = [43, 43] := eq_of_beq tf1
                have hu : u = true := by rw [← Hu.out, endsB_lit Hs.out kb1 kb2 kb3 kb4 kb5 rfl rfl rfl tf1 rfl rfl rfl rfl]; simp
                subst hu
                obtain ⟨_, _, c2, _⟩ := H1.out.cells
                obtain ⟨j0, hj, hy0, hy1, hy2⟩ := info_parts Tryd.infoTok
                have HG := Lib.hid (H1.out.go ((Below.refl _ wA).alloc (Nat.le_refl _) (.cells #[.int .i64 6, .int .i64 (b : Int), .int .i64 (b : Int), .string ⟨#[10]⟩] 35)))
                have hrow := HG.out.toks
                have hp1 := H1.out.lt
                rw [HL.out] at hrow
                go_wp2_with (at_builtin; refine hold ?_)
                refine Hold.mk ?_
                refine wpList_app _ rfl _ _ _ rfl (p + 1) 35 j0 _ 4 40 Tryd.underlying23 hj hy0 hy1 hy2 rfl (.slice (some ⟨g, 0, none⟩) (m + 1) cap) (m + 1) (tokCells (l' ++ [⟨k, f, o, x⟩])) rfl hrow ⟨wA.heap.size, 0, none⟩ 1 1 [.int .i64 6, .int .i64 (b : Int), .int .i64 (b : Int), .string ⟨#[10]⟩] rfl rfl (World.news_of_block (cs := #[.int .i64 6, .int .i64 (b : Int), .int .i64 (b : Int), .string ⟨#[10]⟩]) (t := 35) (fr := (0, 0)) (heap_alloc_new _ _)) ?cc7 (by omega) (by unfold maxLen; omega) (by omega) (by simp; omega) ?_
                case cc7 => intro u hu; simp at hu; rcases hu with h | h | h <;> (subst h; rfl)
                intro gg cap2 w2 hown2 hat
                have HA := Lib.hid (HG.out.app hat)
                have HP := Lib.hid (Rs.pushT (t := ⟨6, b, b, [10]⟩) HG.out hat (by rw [HL.out]; exact hown2))
                rw [HL.out] at HP
                have c2 : w2.cell? ⟨p, 2, none⟩ = some (.slice (some ⟨g, 0, none⟩) (m + 1) cap) := by have h := HA.out.2.1; simp only [World.cell?, h]; rfl
                have f2 : w2.frozen? ⟨p, 2, none⟩ = false := by have h := HA.out.2.1; simp only [World.frozen?, h]; simp
                clear hat hown2 hrow hp1
                go_wp2
                first
                  | go_end0
                  | refine bodyPost_ret (results_none rfl _ _ _) rfl ?_
                exact ⟨rfl, _, _, by rw [HQ.out]; exact HP.out⟩
              | false =>
                have tpf1 : ¬ s.toList = [43, 43] := fun h => by rw [h] at tf1; simp at tf1
                cases tf2 : (s.toList == [45, 45]) with
                | true =>
                  have tpf2 : s.toList = [45, 45] := eq_of_beq tf2
                  have hu : u = true := by rw [← Hu.out, endsB_lit Hs.out kb1 kb2 kb3 kb4 kb5 rfl rfl rfl tf1 tf2 rfl rfl rfl]; simp
                  subst hu
                  obtain ⟨_, _, c2, _⟩ := H1.out.cells
                  obtain ⟨j0, hj, hy0, hy1, hy2⟩ := info_parts Tryd.infoTok
                  have HG := Lib.hid (H1.out.go ((Below.refl _ wA).alloc (Nat.le_refl _) (.cells #[.int .i64 6, .int .i64 (b : Int), .int .i64 (b : Int), .string ⟨#[10]⟩] 35)))
                  have hrow := HG.out.toks
                  have hp1 := H1.out.lt
                  rw [HL.out] at hrow
                  go_wp2_with (at_builtin; refine hold ?_)
                  refine Hold.mk ?_
                  refine wpList_app _ rfl _ _ _ rfl (p + 1) 35 j0 _ 4 40 Tryd.underlying23 hj hy0 hy1 hy2 rfl (.slice (some ⟨g, 0, none⟩) (m + 1) cap) (m + 1) (tokCells (l' ++ [⟨k, f, o, x⟩])) rfl hrow ⟨wA.heap.size, 0, none⟩ 1 1 [.int .i64 6, .int .i64 (b : Int), .int .i64 (b : Int), .string ⟨#[10]⟩] rfl rfl (World.news_of_block (cs := #[.int .i64 6, .int .i64 (b : Int), .int .i64 (b : Int), .string ⟨#[10]⟩]) (t := 35) (fr := (0, 0)) (heap_alloc_new _ _)) ?cc8 (by omega) (by unfold maxLen; omega) (by omega) (by simp; omega) ?_
                  case cc8 => intro u hu; simp at hu; rcases hu with h | h | h <;> (subst h; rfl)
                  intro gg cap2 w2 hown2 hat
                  have HA := Lib.hid (HG.out.app hat)
                  have HP := Lib.hid (Rs.pushT (t := ⟨6, b, b, [10]⟩) HG.out hat (by rw [HL.out]; exact hown2))
                  rw [HL.out] at HP
                  have c2 : w2.cell? ⟨p, 2, none⟩ = some (.slice (some ⟨g, 0, none⟩) (m + 1) cap) := by have h := HA.out.2.1; simp only [World.cell?, h]; rfl
                  have f2 : w2.frozen? ⟨p, 2, none⟩ = false := by have h := HA.out.2.1; simp only [World.frozen?, h]; simp
                  clear hat hown2 hrow hp1
                  go_wp2
                  first
                    | go_end0
                    | refine bodyPost_ret (results_none rfl _ _ _) rfl ?_
                  exact ⟨rfl, _, _, by rw [HQ.out]; exact HP.out⟩
                | false =>
                  have tpf2 : ¬ s.toList = [45, 45] := fun h => by rw [h] at tf2; simp at tf2
                  cases tf3 : (s.toList == [41]) with
                  | true =>
                    have tpf3 : s.toList = [41] := eq_of_beq tf3
                    have hu : u = true := by rw [← Hu.out, endsB_lit Hs.out kb1 kb2 kb3 kb4 kb5 rfl rfl rfl tf1 tf2 tf3 rfl rfl]; simp
                    subst hu
                    obtain ⟨_, _, c2, _⟩ := H1.out.cells
                    obtain ⟨j0, hj, hy0, hy1, hy2⟩ := info_parts Tryd.infoTok
                    have HG := Lib.hid (H1.out.go ((Below.refl _ wA).alloc (Nat.le_refl _) (.cells #[.int .i64 6, .int .i64 (b : Int), .int .i64 (b : Int), .string ⟨#[10]⟩] 35)))
                    have hrow := HG.out.toks
                    have hp1 := H1.out.lt
                    rw [HL.out] at hrow
                    go_wp2_with (at_builtin; refine hold ?_)
                    refine Hold.mk ?_
                    refine wpList_app _ rfl _ _ _ rfl (p + 1) 35 j0 _ 4 40 Tryd.underlying23 hj hy0 hy1 hy2 rfl (.slice (some ⟨g, 0, none⟩) (m + 1) cap) (m + 1) (tokCells (l' ++ [⟨k, f, o, x⟩])) rfl hrow ⟨wA.heap.size, 0, none⟩ 1 1 [.int .i64 6, .int .i64 (b : Int), .int .i64 (b : Int), .string ⟨#[10]⟩] rfl rfl (World.news_of_block (cs := #[.int .i64 6, .int .i64 (b : Int), .int .i64 (b : Int), .string ⟨#[10]⟩]) (t := 35) (fr := (0, 0)) (heap_alloc_new _ _)) ?cc9 (by omega) (by unfold maxLen; omega) (by omega) (by simp; omega) ?_
                    case cc9 => intro u hu; simp at hu; rcases hu with h | h | h <;> (subst h; rfl)
                    intro gg cap2 w2 hown2 hat
                    have HA := Lib.hid (HG.out.app hat)
                    have HP := Lib.hid (Rs.pushT (t := ⟨6, b, b, [10]⟩) HG.out hat (by rw [HL.out]; exact hown2))
                    rw [HL.out] at HP
                    have c2 : w2.cell? ⟨p, 2, none⟩ = some (.slice (some ⟨g, 0, none⟩) (m + 1) cap) := by have h := HA.out.2.1; simp only [World.cell?, h]; rfl
                    have f2 : w2.frozen? ⟨p, 2, none⟩ = false := by have h := HA.out.2.1; simp only [World.frozen?, h]; simp
                    clear hat hown2 hrow hp1
                    go_wp2
                    first
                      | go_end0
                      | refine bodyPost_ret (results_none rfl _ _ _) rfl ?_
                    exact ⟨rfl, _, _, by rw [HQ.out]; exact HP.out⟩
                  | false =>
                    have tpf3 : ¬ s.toList = [41] := fun h => by rw [h] at tf3; simp at tf3
                    cases tf4 : (s.toList == [93]) with
                    | true =>
                      have tpf4 : s.toList = [93] := eq_of_beq tf4
                      have hu : u = true := by rw [← Hu.out, endsB_lit Hs.out kb1 kb2 kb3 kb4 kb5 rfl rfl rfl tf1 tf2 tf3 tf4 rfl]; simp
                      subst hu
                      obtain ⟨_, _, c2, _⟩ := H1.out.cells
                      obtain ⟨j0, hj, hy0, hy1, hy2⟩ := info_parts Tryd.infoTok
                      have HG := Lib.hid (H1.out.go ((Below.refl _ wA).alloc (Nat.le_refl _) (.cells #[.int .i64 6, .int .i64 (b : Int), .int .i64 (b : Int), .string ⟨#[10]⟩] 35)))
                      have hrow := HG.out.toks
                      have hp1 := H1.out.lt
                      rw [HL.out] at hrow
                      go_wp2_with (at_builtin; refine hold ?_)
                      refine Hold.mk ?_
                      refine wpList_app _ rfl _ _ _ rfl (p + 1) 35 j0 _ 4 40 Tryd.underlying23 hj hy0 hy1 hy2 rfl (.slice (some ⟨g, 0, none⟩) (m + 1) cap) (m + 1) (tokCells (l' ++ [⟨k, f, o, x⟩])) rfl hrow ⟨wA.heap.size, 0, none⟩ 1 1 [.int .i64 6, .int .i64 (b : Int), .int .i64 (b : Int), .string ⟨#[10]⟩] rfl rfl (World.news_of_block (cs := #[.int .i64 6, .int .i64 (b : Int), .int .i64 (b : Int), .string ⟨#[10]⟩]) (t := 35) (fr := (0, 0)) (heap_alloc_new _ _)) ?cc10 (by omega) (by unfold maxLen; omega) (by omega) (by simp; omega) ?_
                      case cc10 => intro u hu; simp at hu; rcases hu with h | h | h <;> (subst h; rfl)
                      intro gg cap2 w2 hown2 hat
                      have HA := Lib.hid (HG.out.app hat)
                      have HP := Lib.hid (Rs.pushT (t := ⟨6, b, b, [10]⟩) HG.out hat (by rw [HL.out]; exact hown2))
                      rw [HL.out] at HP
                      have c2 : w2.cell? ⟨p, 2, none⟩ = some (.slice (some ⟨g, 0, none⟩) (m + 1) cap) := by have h := HA.out.2.1; simp only [World.cell?, h]; rfl
                      have f2 : w2.frozen? ⟨p, 2, none⟩ = false := by have h := HA.out.2.1; simp only [World.frozen?, h]; simp
                      clear hat hown2 hrow hp1
                      go_wp2
                      first
                        | go_end0
                        | refine bodyPost_ret (results_none rfl _ _ _) rfl ?_
                      exact ⟨rfl, _, _, by rw [HQ.out]; exact HP.out⟩
                    | false =>
                      have tpf4 : ¬ s.toList = [93] := fun h => by rw [h] at tf4; simp at tf4
                      cases tf5 : (s.toList == [125]) with
                      | true =>
                        have tpf5 : s.toList = [125] := eq_of_beq tf5
                        have hu : u = true := by rw [← Hu.out, endsB_lit Hs.out kb1 kb2 kb3 kb4 kb5 rfl rfl rfl tf1 tf2 tf3 tf4 tf5]; simp
                        subst hu
                        obtain ⟨_, _, c2, _⟩ := H1.out.cells
                        obtain ⟨j0, hj, hy0, hy1, hy2⟩ := info_parts Tryd.infoTok
                        have HG := Lib.hid (H1.out.go ((Below.refl _ wA).alloc (Nat.le_refl _) (.cells #[.int .i64 6, .int .i64 (b : Int), .int .i64 (b : Int), .string ⟨#[10]⟩] 35)))
                        have hrow := HG.out.toks
                        have hp1 := H1.out.lt
                        rw [HL.out] at hrow
                        go_wp2_with (at_builtin; refine hold ?_)
                        refine Hold.mk ?_
                        refine wpList_app _ rfl _ _ _ rfl (p + 1) 35 j0 _ 4 40 Tryd.underlying23 hj hy0 hy1 hy2 rfl (.slice (some ⟨g, 0, none⟩) (m + 1) cap) (m + 1) (tokCells (l' ++ [⟨k, f, o, x⟩])) rfl hrow ⟨wA.heap.size, 0, none⟩ 1 1 [.int .i64 6, .int .i64 (b : Int), .int .i64 (b : Int), .string ⟨#[10]⟩] rfl rfl (World.news_of_block (cs := #[.int .i64 6, .int .i64 (b : Int), .int .i64 (b : Int), .string ⟨#[10]⟩]) (t := 35) (fr := (0, 0)) (heap_alloc_new _ _)) ?cc11 (by omega) (by unfold maxLen; omega) (by omega) (by simp; omega) ?_
                        case cc11 => intro u hu; simp at hu; rcases hu with h | h | h <;> (subst h; rfl)
                        intro gg cap2 w2 hown2 hat
                        have HA := Lib.hid (HG.out.app hat)
                        have HP := Lib.hid (Rs.pushT (t := ⟨6, b, b, [10]⟩) HG.out hat (by rw [HL.out]; exact hown2))
                        rw [HL.out] at HP
                        have c2 : w2.cell? ⟨p, 2, none⟩ = some (.slice (some ⟨g, 0, none⟩) (m + 1) cap) := by have h := HA.out.2.1; simp only [World.cell?, h]; rfl
                        have f2 : w2.frozen? ⟨p, 2, none⟩ = false := by have h := HA.out.2.1; simp only [World.frozen?, h]; simp
                        clear hat hown2 hrow hp1
                        go_wp2
                        first
                          | go_end0
                          | refine bodyPost_ret (results_none rfl _ _ _) rfl ?_
                        exact ⟨rfl, _, _, by rw [HQ.out]; exact HP.out⟩
                      | false =>
                        have tpf5 : ¬ s.toList = [125] := fun h => by rw [h] at tf5; simp at tf5
                        have hu : u = false := by rw [← Hu.out, endsB_lit Hs.out kb1 kb2 kb3 kb4 kb5 rfl rfl rfl tf1 tf2 tf3 tf4 tf5]; simp
                        subst hu
                        go_wp2_with fail
                        first
                          | go_end0
                          | refine bodyPost_ret (results_none rfl _ _ _) rfl ?_
                        exact ⟨rfl, _, _, by rw [HQ.out]; exact H1.out⟩
            | false =>
              have hu : u = false := by rw [← Hu.out, endsB_lit Hs.out kb1 kb2 kb3 kb4 kb5 rfl rfl rfl rfl rfl rfl rfl rfl]; simp
              subst hu
              go_wp2_with fail
              first
                | go_end0
                | refine bodyPost_ret (results_none rfl _ _ _) rfl ?_
              exact ⟨rfl, _, _, by rw [HQ.out]; exact H1.out⟩
end Go.Proofs.YtdgjegkoncodaaaDoor
