/-
What a row's condition on the listed variables gives. No condition.
-/
import Derived.Test.YtjaofdfehibjhaaGreatDoorSVi0
import Derived.Test.YtjaofdfehibjhaaGreatDoorRows
import Derived.Stop.LaidErr
import Derived.KernelRfl
namespace Go.Vi
set_option linter.all false
open Go.Proofs Go.Proofs.YtjaofdfehibjhaaGreatDoor
theorem E0k:(Rows.laid_internal_strconv_uint64pow10:DataW Unit)=Lib.tabData .u64 Lib.pow10Tab:=by kernel_rfl
theorem D63:Tryz.prog.globalNamed E1d=some 0:=by kernel_rfl
theorem good_of{W:World}(h:laidMet Tryz.prog Rows.fnStrategiesRow.laid W):GoodW W:=by
 have h3:=laidMet.tail (laidMet.tail h)
 have h4:laidMet Tryz.prog ((E1d,Rows.laid_internal_strconv_uint64pow10):: []) W:=h3
 rw[E0k] at h4
 exact⟨Lib.tabIs_of_head (g:=0) (t:=253) (e:=222) (n:=20) D63 (by kernel_rfl) (by kernel_rfl) (by kernel_rfl) (by kernel_rfl) (by kernel_rfl) h4,⟨⟩⟩
end Go.Vi
