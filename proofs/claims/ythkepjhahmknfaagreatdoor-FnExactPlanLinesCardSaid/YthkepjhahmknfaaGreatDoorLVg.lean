/-
What a row's condition on the listed variables gives. No condition.
-/
import Derived.Test.YthkepjhahmknfaaGreatDoorLVi0
import Derived.Test.YthkepjhahmknfaaGreatDoorRows
import Derived.Stop.LaidErr
import Derived.KernelRfl
namespace Go.Vi
set_option linter.all false
open Go.Proofs Go.Proofs.YthkepjhahmknfaaGreatDoor
theorem A37:(Rows.laid_internal_strconv_uint64pow10:DataW Unit)=Lib.tabData .u64 Lib.pow10Tab:=by kernel_rfl
theorem A7i:Tryz.prog.globalNamed XK=some 1:=by kernel_rfl
theorem good_of{W:World}(h:laidMet Tryz.prog Rows.fnExactPlanLinesRow.laid W):GoodW W:=by
 have h3:=laidMet.tail (laidMet.tail h);have h4:laidMet Tryz.prog ((XK,Rows.laid_internal_strconv_uint64pow10):: []) W:=h3;rw[A37] at h4
 exact⟨Lib.tabIs_of_head (g:=1) (t:=308) (e:=266) (n:=20) A7i (by kernel_rfl) (by kernel_rfl) (by kernel_rfl) (by kernel_rfl) (by kernel_rfl) h4,⟨⟩⟩
end Go.Vi
