/-
  What the laid tables tell of a world: the table of powers of ten reads as the text lays it. Conditions: none.
-/
import Derived.Test.YtbmlglkdlialgaaDoorHtC
import Derived.Test.YtbmlglkdlialgaaDoorRows
import Derived.Test.YtbmlglkdlialgaaDoorTie
import Derived.Lib.LaidTab
import Derived.LaidMore
import Derived.Lay
import Derived.LaidOnce
import Derived.SevenTiedAt
import Derived.Stop.Joined
namespace Go.Proofs.YtbmlglkdlialgaaDoor
open Go.RowKit

theorem tab_of_laid {W : World} (h : laidMetH Tryd.prog [("math/bits.deBruijn32tab", Rows.laid_math_bits_deBruijn32tab), ("math/bits.deBruijn64tab", Rows.laid_math_bits_deBruijn64tab), ("internal/strconv.uint64pow10", Rows.laid_internal_strconv_uint64pow10)] W) :
    Lib.TabIs Tryd.prog W "internal/strconv.uint64pow10" .u64 Lib.pow10Tab := by
  rw [MakeChecks.laidMetH_plain _ _ _ (by kernel_rfl)] at h
  obtain ⟨ps, ⟨g1, t1, cs1, fu1, p1, q1, -, -, -, -, ⟨g2, t2, cs2, fu2, p2, q2, -, -, -, -, ⟨g', t', cs, fuel, p, q, hg', ht', hvar, hd, -, -⟩, -⟩, -⟩, -⟩ := h
  have hg : Tryd.prog.globalNamed "internal/strconv.uint64pow10" = some 0 := by kernel_rfl
  obtain rfl := Option.some.inj (hg.symm.trans hg')
  have hty : (Tryd.prog.globals[0]?).map (·.type) = some 99 := by kernel_rfl
  obtain rfl := Option.some.inj (hty.symm.trans ht')
  unfold Lib.TabIs
  rw [hvar, ← Lib.cells_of_tab (k := .u64) (zs := Lib.pow10Tab) Tryd.underlying99 Tryd.underlying57 (by kernel_rfl) (by kernel_rfl) hd]
end Go.Proofs.YtbmlglkdlialgaaDoor
