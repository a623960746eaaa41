/-
  What a row's condition on the listed variables gives: every world of the run holds the table of powers of ten the two errors, and the handle of the type of errors. No condition.
-/
import Derived.Test.YtdgobmphhncomaaGreatDoorKVi0
import Derived.Test.YtdgobmphhncomaaGreatDoorRows
import Derived.Stop.LaidErr
import Derived.KernelRfl
import Derived.LaidHandle
import Derived.LaidLaws
namespace Go.Vi
open Go.Proofs Go.Proofs.YtdgobmphhncomaaGreatDoor

theorem pow_data : (Rows.laid_internal_strconv_uint64pow10 : DataW Unit) = Lib.tabData .u64 Lib.pow10Tab := by kernel_rfl
theorem tab_named : Tryz.prog.globalNamed tabN = some 4 := by kernel_rfl
theorem star : "*" ++ "errors.errorString" = "*errors.errorString" := by decide
theorem row153 (u : TypeId) (h : Tryz.prog.typeName? 3 u = some "*errors.errorString") : u = 153 :=
  typeName_ptr_named (nm := "errors.errorString") (by rw [star]; kernel_rfl) (by kernel_rfl) (by decide) u (by rw [star]; exact h)
theorem et : Tryz.prog.globalNamed "errors.errorType" = some 0 := by kernel_rfl
theorem rt : (Tryz.prog.cutTypes.find? (·.1 == "internal/reflectlite.rtype")).map (·.2) = some 112 := by kernel_rfl
theorem psize : Tryz.prog.types.size = 186 := by kernel_rfl
theorem oneRow : ((List.range 186).filter fun t => Tryz.prog.rowNamed t [101, 114, 114, 111, 114]) = [80] := by kernel_rfl
theorem etype_of {W : World} (h : handlesMet Tryz.prog [("errors.errorType", Rows.laid_errors_errorType)] W) : EType W := by
  obtain ⟨name, u, ty, e1, e2, e3, e4, e5⟩ := h _ (List.mem_singleton.2 rfl)
  have en : name = [101, 114, 114, 111, 114] := (Option.some.inj e1).symm
  subst en
  obtain rfl := Option.some.inj (rt.symm.trans e2)
  have hm : ty ∈ (List.range 186).filter fun t => Tryz.prog.rowNamed t [101, 114, 114, 111, 114] := List.mem_filter.2 ⟨List.mem_range.2 (by rw [← psize]; exact e3), e4⟩
  rw [oneRow] at hm
  obtain rfl := List.mem_singleton.1 hm
  have hh : typeHandle Tryz.prog 80 = .pointer (some ⟨7, 80, none⟩) := by kernel_rfl
  rw [hh] at e5
  simpa [EType] using World.var?_cell et e5 0
/-- The data among the listed variables. -/
def laidD : List (String × DataW Unit) := Rows.fnDesksRow.laid.filter fun x => x.2.handleName?.isNone
theorem good_of {W : World} (hH : laidMetH Tryz.prog Rows.fnDesksRow.laid W) : GoodW W := by
  have hH' : laidMet Tryz.prog laidD W ∧ handlesMet Tryz.prog [("errors.errorType", Rows.laid_errors_errorType)] W := hH
  have h := hH'.1
  have h3 := laidMet.tail (laidMet.tail h)
  have h4 : laidMet Tryz.prog ((tabN, Rows.laid_internal_strconv_uint64pow10) :: [("strconv.ErrRange", Rows.laid_strconv_ErrRange), ("strconv.ErrSyntax", Rows.laid_strconv_ErrSyntax)]) W := h3
  have h5 := laidMet.tail h4
  have h6 := laidMet.tail h5
  rw [pow_data] at h4
  obtain ⟨a0, s0, hv0, -, -, -⟩ := laid_sentinel (n := "strconv.ErrRange") (g := 3) (ti := 80) (tp := 153) (te := 155) (ts := 9) h5 (by kernel_rfl) (by kernel_rfl) Tryz.underlying80 row153 Tryz.underlying153 Tryz.underlying155 rfl rfl Tryz.underlying9 (by kernel_rfl) (by kernel_rfl)
  obtain ⟨a1, s1, hv1, -, -, -⟩ := laid_sentinel (n := "strconv.ErrSyntax") (g := 2) (ti := 80) (tp := 153) (te := 155) (ts := 9) h6 (by kernel_rfl) (by kernel_rfl) Tryz.underlying80 row153 Tryz.underlying153 Tryz.underlying155 rfl rfl Tryz.underlying9 (by kernel_rfl) (by kernel_rfl)
  exact ⟨Lib.tabIs_of_head (g := 4) (t := 147) (e := 134) (n := 20) tab_named (by kernel_rfl) (by kernel_rfl) (by kernel_rfl) (by kernel_rfl) (by kernel_rfl) h4, ⟨⟨_, _, hv1⟩, ⟨_, _, hv0⟩⟩, etype_of hH'.2⟩
end Go.Vi
