/-
What a row's condition on the listed variables gives. No condition.
-/
import Derived.Test.YtfmhammmkkbonaaGreatDoorCVi0
import Derived.Test.YtfmhammmkkbonaaGreatDoorRows
import Derived.Stop.LaidErr
import Derived.KernelRfl
namespace Go.Vi
set_option linter.all false
open Go.Proofs Go.Proofs.YtfmhammmkkbonaaGreatDoor
theorem uR:(Rows.laid_internal_strconv_uint64pow10:DataW Unit)=Lib.tabData .u64 Lib.pow10Tab:=by kernel_rfl
theorem wn:Tryz.prog.globalNamed Sk=some 3:=by kernel_rfl
theorem Ya : "*" ++ "errors.errorString" = "*errors.errorString" := by decide
theorem XL (u : TypeId) (h : Tryz.prog.typeName? 3 u = some "*errors.errorString") : u = 297 :=
 typeName_ptr_named (nm := "errors.errorString") (by rw [Ya]; kernel_rfl) (by kernel_rfl) (by decide) u (by rw [Ya]; exact h)
theorem good_of{W:World}(h:laidMet Tryz.prog Rows.fnConsoleRow.laid W):GoodW W:=by
 have h3:=laidMet.tail (laidMet.tail h);have h4 : laidMet Tryz.prog ((Sk,Rows.laid_internal_strconv_uint64pow10) :: [("strconv.ErrRange",Rows.laid_strconv_ErrRange),("strconv.ErrSyntax",Rows.laid_strconv_ErrSyntax)]) W := h3;have h5:=laidMet.tail h4;have h6:=laidMet.tail h5;rw[uR] at h4
 obtain ⟨a0,s0,hv0,-,-,-⟩ := laid_sentinel (n := "strconv.ErrRange") (g := 2) (ti := 84) (tp := 297) (te := 299) (ts := 9) h5 (by kernel_rfl) (by kernel_rfl) Tryz.underlying84 XL Tryz.underlying297 Tryz.underlying299 rfl rfl Tryz.underlying9 (by kernel_rfl) (by kernel_rfl);obtain ⟨a1,s1,hv1,-,-,-⟩ := laid_sentinel (n := "strconv.ErrSyntax") (g := 1) (ti := 84) (tp := 297) (te := 299) (ts := 9) h6 (by kernel_rfl) (by kernel_rfl) Tryz.underlying84 XL Tryz.underlying297 Tryz.underlying299 rfl rfl Tryz.underlying9 (by kernel_rfl) (by kernel_rfl);exact⟨Lib.tabIs_of_head (g:=3) (t:=301) (e:=272) (n:=20) wn (by kernel_rfl) (by kernel_rfl) (by kernel_rfl) (by kernel_rfl) (by kernel_rfl) h4,⟨_,_,hv1⟩,⟨_,_,hv0⟩⟩
end Go.Vi
