/-
  What a row's condition on the listed variables gives: every world of the run holds the table of powers of ten. No condition.
-/
import Derived.Test.YtahienmgcfgclaaDoorSVi0
import Derived.Test.YtahienmgcfgclaaDoorRows
import Derived.Stop.LaidErr
import Derived.KernelRfl
namespace Go.Vi
open Go.Proofs Go.Proofs.YtahienmgcfgclaaDoor
theorem pow_data : (Rows.laid_internal_strconv_uint64pow10 : DataW Unit) = Lib.tabData .u64 Lib.pow10Tab := by kernel_rfl
theorem tab_named : Tryd.prog.globalNamed tabN = some 0 := by kernel_rfl
theorem good_of {W : World} (h : laidMet Tryd.prog Rows.fnExactStrategyLinesRow.laid W) : GoodW W := by
 have h3 := laidMet.tail (laidMet.tail h)
 have h4 : laidMet Tryd.prog ((tabN,Rows.laid_internal_strconv_uint64pow10) :: []) W := h3
 rw [pow_data] at h4
 exact ⟨Lib.tabIs_of_head (g := 0) (t := 100) (e := 87) (n := 20) tab_named (by kernel_rfl) (by kernel_rfl) (by kernel_rfl) (by kernel_rfl) (by kernel_rfl) h4,trivial⟩
end Go.Vi
