/-
What a row's condition on the listed variables gives. No condition.
-/
import Derived.Test.YthneeiblhklckaaGreatDoorPVi0
import Derived.Test.YthneeiblhklckaaGreatDoorRows
import Derived.Stop.LaidErr
import Derived.KernelRfl
namespace Go.Vi
set_option linter.all false
open Go.Proofs Go.Proofs.YthneeiblhklckaaGreatDoor
theorem nP:(Rows.laid_internal_strconv_uint64pow10:DataW Unit)=Lib.tabData .u64 Lib.pow10Tab:=by kernel_rfl
theorem pt:Tryz.prog.globalNamed Qc=some 1:=by kernel_rfl
theorem good_of{W:World}(h:laidMet Tryz.prog Rows.fnReportsRow.laid W):GoodW W:=by
 have h3:=laidMet.tail (laidMet.tail h);have h4:laidMet Tryz.prog ((Qc,Rows.laid_internal_strconv_uint64pow10):: []) W:=h3;rw[nP] at h4
 exact⟨Lib.tabIs_of_head (g:=1) (t:=249) (e:=241) (n:=20) pt (by kernel_rfl) (by kernel_rfl) (by kernel_rfl) (by kernel_rfl) (by kernel_rfl) h4,⟨⟩⟩
end Go.Vi
