/-
What a row's condition on the listed variables gives. No condition.
-/
import Derived.Test.YtpfcgapakfcllaaGreatDoorCVi0
import Derived.Test.YtpfcgapakfcllaaGreatDoorRows
import Derived.Stop.LaidErr
import Derived.KernelRfl
namespace Go.Vi
set_option linter.all false
open Go.Proofs Go.Proofs.YtpfcgapakfcllaaGreatDoor
theorem jq:(Rows.laid_internal_strconv_uint64pow10:DataW Unit)=Lib.tabData .u64 Lib.pow10Tab:=by kernel_rfl
theorem mX:Tryz.prog.globalNamed OB=some 0:=by kernel_rfl
theorem T6 : "*" ++ "errors.errorString" = "*errors.errorString" := by decide
theorem SR (u : TypeId) (h : Tryz.prog.typeName? 3 u = some "*errors.errorString") : u = 301 :=
 typeName_ptr_named (nm := "errors.errorString") (by rw [T6]; kernel_rfl) (by kernel_rfl) (by decide) u (by rw [T6]; exact h)
theorem good_of{W:World}(h:laidMet Tryz.prog Rows.fnConfirmsRow.laid W):GoodW W:=by
 have h3:=laidMet.tail (laidMet.tail h);have h4 : laidMet Tryz.prog ((OB,Rows.laid_internal_strconv_uint64pow10) :: [("strconv.ErrRange",Rows.laid_strconv_ErrRange),("strconv.ErrSyntax",Rows.laid_strconv_ErrSyntax)]) W := h3;have h5:=laidMet.tail h4;have h6:=laidMet.tail h5;rw[jq] at h4
 obtain ⟨a0,s0,hv0,-,-,-⟩ := laid_sentinel (n := "strconv.ErrRange") (g := 5) (ti := 144) (tp := 301) (te := 303) (ts := 9) h5 (by kernel_rfl) (by kernel_rfl) Tryz.underlying144 SR Tryz.underlying301 Tryz.underlying303 rfl rfl Tryz.underlying9 (by kernel_rfl) (by kernel_rfl);obtain ⟨a1,s1,hv1,-,-,-⟩ := laid_sentinel (n := "strconv.ErrSyntax") (g := 4) (ti := 144) (tp := 301) (te := 303) (ts := 9) h6 (by kernel_rfl) (by kernel_rfl) Tryz.underlying144 SR Tryz.underlying301 Tryz.underlying303 rfl rfl Tryz.underlying9 (by kernel_rfl) (by kernel_rfl);exact⟨Lib.tabIs_of_head (g:=0) (t:=175) (e:=131) (n:=20) mX (by kernel_rfl) (by kernel_rfl) (by kernel_rfl) (by kernel_rfl) (by kernel_rfl) h4,⟨_,_,hv1⟩,⟨_,_,hv0⟩⟩
end Go.Vi
