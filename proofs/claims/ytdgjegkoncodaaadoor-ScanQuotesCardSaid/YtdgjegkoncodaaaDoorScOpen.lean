/- What the library's variables hold, out of the row. No condition. -/
import Derived.Test.YtdgjegkoncodaaaDoorScAwake
import Derived.Lib.LaidU8T
namespace Go.Proofs.YtdgjegkoncodaaaDoor
open Go.RowKit

theorem lay_of {W : World} (hL : laidMet Tryd.prog [("unicode/utf8.acceptRanges", Rows.laid_unicode_utf8_acceptRanges), ("unicode/utf8.first", Rows.laid_unicode_utf8_first)] W) (hsh : W.ShapedOpen Tryd.prog) : Lay W := by
  refine ⟨?_, Tryd.laysM143.s1_3 W hsh⟩
  have e1 : Lib.firstData = Rows.laid_unicode_utf8_first := by kernel_rfl
  have e2 : Lib.acceptData = Rows.laid_unicode_utf8_acceptRanges := by kernel_rfl
  have h := utf8Tabs_of_readsT (U8Types.of260 Tryd.lays260) ⟨by kernel_rfl, by kernel_rfl, by kernel_rfl, by kernel_rfl, by kernel_rfl, by kernel_rfl, by kernel_rfl⟩ (Lib.laidMet.reads hL (by rw [e1]; exact .tail _ (.head _))) (Lib.laidMet.reads hL (by rw [e2]; exact .head _))
  exact h
end Go.Proofs.YtdgjegkoncodaaaDoor
