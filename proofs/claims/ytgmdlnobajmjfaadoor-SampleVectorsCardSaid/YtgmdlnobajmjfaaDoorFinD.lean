/- A 'door' seat: the table of powers out of what the row lists; the given ties and cards. -/
import Derived.Test.YtgmdlnobajmjfaaDoorSmb
import Derived.Test.YtgmdlnobajmjfaaDoorCards
import Derived.Test.YtgmdlnobajmjfaaDoorTie
import Derived.ProofKit
import Derived.Lib.LaidTab
import Derived.Stop.LaidErr
import Derived.MakeChecks
import Derived.SevenTiedAt
import Derived.Lay
namespace Go.Proofs.YtgmdlnobajmjfaaDoor
open Go.ChangeShapes Go.WideShapes Go.ChangeAt Go.RowKit
theorem gPow : Tryd.prog.globalNamed "internal/strconv.uint64pow10" = some 0 := by kernel_rfl
theorem tPow : (Tryd.prog.globals[0]?).map (·.type) = some 113 := by kernel_rfl
theorem cPow : Tryd.prog.cellsOf 113 = 20 := by kernel_rfl
theorem cU64 : Tryd.prog.cellsOf 92 = 1 := by kernel_rfl
abbrev pow10D : DataW Unit := Rows.laid_internal_strconv_uint64pow10
theorem pow10D_eq : pow10D = Lib.tabData .u64 Lib.pow10Tab := by rfl
/-- The table of powers, out of the row's list. -/
theorem tb_of_laid {W : World} (h : laidMetH Tryd.prog [("math/bits.deBruijn32tab", Rows.laid_math_bits_deBruijn32tab), ("math/bits.deBruijn64tab", Rows.laid_math_bits_deBruijn64tab), ("internal/strconv.uint64pow10", Rows.laid_internal_strconv_uint64pow10)] W) : TB W.heap.size W := by
  rw [MakeChecks.laidMetH_plain _ _ _ (by kernel_rfl)] at h
  have h3 : laidMet Tryd.prog [("internal/strconv.uint64pow10", Rows.laid_internal_strconv_uint64pow10)] W := h.tail.tail
  rw [show Rows.laid_internal_strconv_uint64pow10 = Lib.tabData .u64 Lib.pow10Tab from pow10D_eq] at h3
  exact Lib.tabBelow_of_tabIs (Lib.tabIs_of_head (rest := []) gPow tPow Tryd.underlying113 Tryd.underlying92 cU64 cPow h3)
end Go.Proofs.YtgmdlnobajmjfaaDoor
