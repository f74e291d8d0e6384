/-
  What the rows' lists of variables give the walks: the library's table of powers of ten. No condition.
-/
import Derived.Test.YteklomkncfjdlaaDoorBase
import Derived.Lib.LaidTab
import Derived.Lib.ItoaNum
import Derived.Stop.LaidErr
import Derived.MakeChecks
namespace Go.Proofs.YteklomkncfjdlaaDoor
open Go.ChangeShapes Go.RowKit
theorem pow_eq : (Rows.laid_internal_strconv_uint64pow10 : DataW Unit) = Lib.tabData .u64 Lib.pow10Tab := by rfl
theorem tab_of_laid {W : World} {rest : List (String × DataW Unit)} (h : laidMet Tryd.prog (("internal/strconv.uint64pow10", Rows.laid_internal_strconv_uint64pow10) :: rest) W) : Lib.TabIs Tryd.prog W "internal/strconv.uint64pow10" .u64 Lib.pow10Tab := by
  rw [pow_eq] at h
  exact Lib.tabIs_of_head (t := 121) (e := 100) rfl (by kernel_rfl) Tryd.underlying121 Tryd.underlying100 (by kernel_rfl) (by kernel_rfl) h
end Go.Proofs.YteklomkncfjdlaaDoor
