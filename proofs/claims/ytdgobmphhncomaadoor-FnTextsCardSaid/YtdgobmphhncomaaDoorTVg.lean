/-
  What a row's condition on the listed variables gives: every world of the run holds the table of powers of ten and the two errors. No condition.
-/
import Derived.Test.YtdgobmphhncomaaDoorTVi0
import Derived.Test.YtdgobmphhncomaaDoorRows
import Derived.Stop.LaidErr
import Derived.KernelRfl
namespace Go.Vi
open Go.Proofs Go.Proofs.YtdgobmphhncomaaDoor

theorem pow_data : (Rows.laid_internal_strconv_uint64pow10 : DataW Unit) = Lib.tabData .u64 Lib.pow10Tab := by kernel_rfl
theorem tab_named : Tryd.prog.globalNamed tabN = some 2 := by kernel_rfl
theorem star : "*" ++ "errors.errorString" = "*errors.errorString" := by decide
theorem row237 (u : TypeId) (h : Tryd.prog.typeName? 3 u = some "*errors.errorString") : u = 237 :=
  typeName_ptr_named (nm := "errors.errorString") (by rw [star]; kernel_rfl) (by kernel_rfl) (by decide) u (by rw [star]; exact h)
theorem good_of {W : World} (h : laidMet Tryd.prog Rows.fnTextsRow.laid W) : GoodW W := by
  have h3 := laidMet.tail (laidMet.tail h)
  have h4 : laidMet Tryd.prog ((tabN, Rows.laid_internal_strconv_uint64pow10) :: [("strconv.ErrRange", Rows.laid_strconv_ErrRange), ("strconv.ErrSyntax", Rows.laid_strconv_ErrSyntax)]) W := h3
  have h5 := laidMet.tail h4
  have h6 := laidMet.tail h5
  rw [pow_data] at h4
  obtain ⟨a0, s0, hv0, -, -, -⟩ := laid_sentinel (n := "strconv.ErrRange") (g := 4) (ti := 108) (tp := 237) (te := 239) (ts := 9) h5 (by kernel_rfl) (by kernel_rfl) Tryd.underlying108 row237 Tryd.underlying237 Tryd.underlying239 rfl rfl Tryd.underlying9 (by kernel_rfl) (by kernel_rfl)
  obtain ⟨a1, s1, hv1, -, -, -⟩ := laid_sentinel (n := "strconv.ErrSyntax") (g := 3) (ti := 108) (tp := 237) (te := 239) (ts := 9) h6 (by kernel_rfl) (by kernel_rfl) Tryd.underlying108 row237 Tryd.underlying237 Tryd.underlying239 rfl rfl Tryd.underlying9 (by kernel_rfl) (by kernel_rfl)
  exact ⟨Lib.tabIs_of_head (g := 2) (t := 222) (e := 204) (n := 20) tab_named (by kernel_rfl) (by kernel_rfl) (by kernel_rfl) (by kernel_rfl) (by kernel_rfl) h4, ⟨_, _, hv1⟩, ⟨_, _, hv0⟩⟩
end Go.Vi
