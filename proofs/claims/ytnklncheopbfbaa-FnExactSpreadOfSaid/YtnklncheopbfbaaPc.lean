/-
  Plain laws: SpreadOf. No condition.
-/
import Derived.Test.YtnklncheopbfbaaPb
namespace Go.Vi
set_option linter.unusedSimpArgs false
set_option linter.unusedVariables false
theorem ite_min {a b : Int} : (if a < b then a else b) = min a b := by rw [Int.min_def]; split <;> split <;> omega
theorem ite_max {a b : Int} : (if a < b then b else a) = max a b := by rw [Int.max_def]; split <;> split <;> omega
set_option maxHeartbeats 2000000 in
theorem spread_eq (a : XAccount) : ∃ r, f_spec_SpreadOf a = some r ∧ f_impl_SpreadOf a = some r := by
  obtain ⟨m, hm⟩ := big5
  cases h : accOk a with
  | false => exact ⟨0, by simp [f_spec_SpreadOf, f_spec_WorstLine, spec_AccountOk_eq, h], by simp [f_impl_SpreadOf, means_bad h]⟩
  | true =>
    obtain ⟨w0, w1, w2, w3, c0, c1, c2, c3, rfl, g0, g1, g2, g3, _⟩ := acc_four h
    have key : (f_spec_SpreadOf ⟨[w0, w1, w2, w3], [c0, c1, c2, c3]⟩).isSome = true ∧ f_impl_SpreadOf ⟨[w0, w1, w2, w3], [c0, c1, c2, c3]⟩ = f_spec_SpreadOf ⟨[w0, w1, w2, w3], [c0, c1, c2, c3]⟩ := by
      have q0 := fun p : 0 < c0 => quo_in g0.1 g0.2 p
      have q1 := fun p : 0 < c1 => quo_in g1.1 g1.2 p
      have q2 := fun p : 0 < c2 => quo_in g2.1 g2.2 p
      have q3 := fun p : 0 < c3 => quo_in g3.1 g3.2 p
      have z0 : 0 < c0 → ¬ c0 = 0 := by omega
      have z1 : 0 < c1 → ¬ c1 = 0 := by omega
      have z2 : 0 < c2 → ¬ c2 = 0 := by omega
      have z3 : 0 < c3 → ¬ c3 = 0 := by omega
      simp only [f_impl_SpreadOf, means_eq h g0 g1 g2 g3, Option.bind_some]
      have s0 : 0 < c0 → IntKind.i64.wrap (w0.tdiv c0) = w0.tdiv c0 := fun p => (q0 p).1
      have s1 : 0 < c1 → IntKind.i64.wrap (w1.tdiv c1) = w1.tdiv c1 := fun p => (q1 p).1
      have s2 : 0 < c2 → IntKind.i64.wrap (w2.tdiv c2) = w2.tdiv c2 := fun p => (q2 p).1
      have s3 : 0 < c3 → IntKind.i64.wrap (w3.tdiv c3) = w3.tdiv c3 := fun p => (q3 p).1
      clear q0 q1 q2 q3
      by_cases p0 : 0 < c0 <;> by_cases p1 : 0 < c1 <;> by_cases p2 : 0 < c2 <;> by_cases p3 : 0 < c3 <;>
        simp [f_spec_SpreadOf, f_spec_WorstLine, spec_AccountOk_eq, h, hm, f_spec_WorstLine_1, f_spec_WorstLine_2, f_spec_SpreadOf_1, f_impl_SpreadOf_1, meansOf, ix, wr1, wr2, wr3, wr4, p0, p1, p2, p3, s0, s1, s2, s3, z0, z1, z2, z3, ite_min, ite_max]
      all_goals (repeat' split)
      all_goals (try simp [p0, p1, p2, p3, s0, s1, s2, s3, z0, z1, z2, z3])
      all_goals (congr 1; omega)
    obtain ⟨k1, k2⟩ := key
    obtain ⟨r, e⟩ := Option.isSome_iff_exists.1 k1
    exact ⟨r, e, k2.trans e⟩
theorem law_FnExactSpreadOf (a : XAccount) (ok : DsOk [.ag (XAccount.row a)]) : f_laws_FnExactSpreadOf a = some true := by
  unfold f_laws_FnExactSpreadOf
  obtain ⟨m1, m2⟩ := acc_ok ok
  obtain ⟨r, e, h⟩ := szAccount_of (l := 1048576) (by omega) (by omega) m1 m2
  by_cases hr : r < 0
  · simp [e, hr]
  · obtain ⟨_, k1, k2⟩ := h (by omega)
    obtain ⟨v, e1, e2⟩ := spread_eq a
    simp [e, hr, toAccount_eq k1 k2, e1, e2, eqAccount_eq m1 m2]
end Go.Vi
