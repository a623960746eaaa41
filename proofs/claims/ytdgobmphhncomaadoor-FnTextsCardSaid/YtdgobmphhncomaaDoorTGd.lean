/-
  Plain law: a drawn chart is good. No condition.
-/
import Derived.Test.YtdgobmphhncomaaDoorTGc
namespace Go.Vi
open Go.Lib
set_option linter.unusedSimpArgs false
set_option linter.unusedVariables false
theorem sg_ok {A B d m : Int} {b : Bool} (h1 : 0 ≤ d ∧ d ≤ 3000) (h2 : 1 ≤ m ∧ m ≤ 240) : sgOk ⟨A, B, d, m, b⟩ = true := by
  simp only [sgOk, Bool.and_eq_true, decide_eq_true_eq]
  exact ⟨h1, h2⟩
theorem chart_ok {a : List Int} (ha : a.length ≤ maxLen) : ∃ c, f_spec_MakeChart a (1 : Int) = some c ∧ chartOk c = true := by
  unfold f_spec_MakeChart f_spec_l05Draw
  obtain ⟨c, e, hc⟩ := skip_ok (k := 1) (by omega) ha
  have e' : f_spec_l28New a (1 : Int) = some c := e
  obtain ⟨w1, c1, e1, h1⟩ := once_ok (n := 2) hc (by omega)
  obtain ⟨v2, c2, e2, h2, p2, q2, _⟩ := below_ok (n := 300) h1 (by omega)
  obtain ⟨v3, c3, e3, h3, p3, q3, _⟩ := below_ok (n := 40) h2 (by omega)
  obtain ⟨v4, c4, e4, h4, p4, q4, _⟩ := below_ok (n := 300) h3 (by omega)
  obtain ⟨v5, c5, e5, h5, p5, q5, _⟩ := below_ok (n := 30) h4 (by omega)
  obtain ⟨w6, c6, e6, h6⟩ := once_ok (n := 2) h5 (by omega)
  obtain ⟨v7, c7, e7, h7, p7, q7, _⟩ := below_ok (n := 200) h6 (by omega)
  obtain ⟨v8, c8, e8, h8, p8, q8, _⟩ := below_ok (n := 20) h7 (by omega)
  obtain ⟨w9, c9, e9, h9⟩ := once_ok (n := 3) h8 (by omega)
  have q2 := q2 (by omega); have q3 := q3 (by omega); have q4 := q4 (by omega); have q5 := q5 (by omega); have q7 := q7 (by omega); have q8 := q8 (by omega)
  simp only [e', e1, e2, e3, e4, e5, e6, e7, e8, e9, Option.bind_some]
  rw [wrap64 (n := 900 + v2) (by omega) (by omega), wrap64 (n := 10 + v3) (by omega) (by omega), wrap64 (n := 800 + v4) (by omega) (by omega), wrap64 (n := 10 + v5) (by omega) (by omega), wrap64 (n := 900 + v7) (by omega) (by omega), wrap64 (n := 5 + v8) (by omega) (by omega)]
  cases w9 with
  | true =>
    obtain ⟨v10, c10, e10, h10, p10, q10, _⟩ := below_ok (n := 300) h9 (by omega)
    obtain ⟨v11, c11, e11, h11, p11, q11, _⟩ := below_ok (n := 30) h10 (by omega)
    obtain ⟨w12, c12, e12, h12⟩ := once_ok (n := 3) h11 (by omega)
    have e12' : f_spec_l01Once ⟨c11.b, c11.i, c11.h⟩ 3 = some (w12, c12) := e12
    obtain ⟨v13, c13, e13, h13, p13, q13, _⟩ := below_ok (n := 300) h12 (by omega)
    have q10 := q10 (by omega); have q11 := q11 (by omega); have q13 := q13 (by omega)
    simp only [if_true, e10, e11, Option.bind_some]
    rw [ifa (by simp) (by omega), wrap64 (n := 700 + v10) (by omega) (by omega), wrap64 (n := 20 + v11) (by omega) (by omega)]
    simp only [f_spec_l05Draw_1, e12', Option.bind_some]
    cases w12 with
    | true =>
      simp only [if_true]
      rw [ifa (by simp) (by omega)]
      simp only [e13, Option.bind_some]
      rw [ifa (by simp) (by omega), wrap64 (n := 800 + v13) (by omega) (by omega)]
      refine ⟨_, rfl, chart_bare (by cases w1 <;> cases w6 <;> kernel_rfl) fun s hs => ?_⟩
      simp only [List.cons_append, List.nil_append, List.mem_cons, List.not_mem_nil, or_false] at hs
      rcases hs with rfl | rfl | rfl | rfl | rfl <;> exact sg_ok (by omega) (by omega)
    | false =>
      simp only [Bool.false_eq_true, if_false, Option.bind_some]
      refine ⟨_, rfl, chart_bare (by cases w1 <;> cases w6 <;> kernel_rfl) fun s hs => ?_⟩
      simp only [List.cons_append, List.nil_append, List.mem_cons, List.not_mem_nil, or_false] at hs
      rcases hs with rfl | rfl | rfl | rfl <;> exact sg_ok (by omega) (by omega)
  | false =>
    obtain ⟨w12, c12, e12, h12⟩ := once_ok (n := 3) h9 (by omega)
    have e12' : f_spec_l01Once ⟨c9.b, c9.i, c9.h⟩ 3 = some (w12, c12) := e12
    obtain ⟨v13, c13, e13, h13, p13, q13, _⟩ := below_ok (n := 300) h12 (by omega)
    have q13 := q13 (by omega)
    simp only [Bool.false_eq_true, if_false, f_spec_l05Draw_1, e12', Option.bind_some]
    cases w12 with
    | true =>
      simp only [if_true]
      rw [ifa (by simp) (by omega)]
      simp only [e13, Option.bind_some]
      rw [ifa (by simp) (by omega), wrap64 (n := 800 + v13) (by omega) (by omega)]
      refine ⟨_, rfl, chart_bare (by cases w1 <;> cases w6 <;> kernel_rfl) fun s hs => ?_⟩
      simp only [List.cons_append, List.nil_append, List.mem_cons, List.not_mem_nil, or_false] at hs
      rcases hs with rfl | rfl | rfl | rfl <;> exact sg_ok (by omega) (by omega)
    | false =>
      simp only [Bool.false_eq_true, if_false, Option.bind_some]
      refine ⟨_, rfl, chart_bare (by cases w1 <;> cases w6 <;> kernel_rfl) fun s hs => ?_⟩
      simp only [List.mem_cons, List.not_mem_nil, or_false] at hs
      rcases hs with rfl | rfl | rfl <;> exact sg_ok (by omega) (by omega)
end Go.Vi
