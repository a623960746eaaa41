/-
  Plain laws: what is drawn (a ship, windows) is good, and is read back from its text. No condition.
-/
import Derived.Test.YtdgobmphhncomaaDoorTGa
import Derived.KernelRfl
namespace Go.Vi
open Go.Lib
set_option linter.unusedSimpArgs false
set_option linter.unusedVariables false

theorem once_ok {c : Xl01Cur} {n : Int} (h : CurOk c) (hn : n ≤ 1000000) : ∃ b c', f_spec_l01Once c n = some (b, c') ∧ CurOk c' := by
  obtain ⟨v, c', e, h1, _⟩ := below_ok h hn
  refine ⟨_, c', by simp only [f_spec_l01Once, e, Option.bind_some]; rfl, h1⟩
theorem ship_ok {a : List Int} (ha : a.length ≤ maxLen) : ∃ s, f_spec_MakeShip a (60 : Int) = some s ∧ shipOk s = true := by
  unfold f_spec_MakeShip f_spec_l06Ship
  obtain ⟨c, e, hc⟩ := skip_ok (k := 60) (by omega) ha
  have e' : f_spec_l28New a (60 : Int) = some c := e
  obtain ⟨v1, c1, e1, a1, a2, a3, _⟩ := below_ok (n := 200) hc (by omega)
  obtain ⟨v2, c2, e2, b1, b2, b3, _⟩ := below_ok (n := 500) a1 (by omega)
  obtain ⟨v3, c3, e3, d1, d2, d3, _⟩ := below_ok (n := 4) b1 (by omega)
  obtain ⟨v4, c4, e4, g1, g2, g3, _⟩ := below_ok (n := 3) d1 (by omega)
  obtain ⟨v5, c5, e5, h1⟩ := once_ok (n := 4) g1 (by omega)
  have f0 : f_spec_FormatInt 0 = some [48] := by kernel_rfl
  have a3' := a3 (by omega); have b3' := b3 (by omega); have d3' := d3 (by omega); have g3' := g3 (by omega)
  have e2' : f_spec_l01Below ⟨c1.b, c1.i, c1.h⟩ 500 = some (v2, c2) := e2
  have e3' : f_spec_l01Below ⟨c2.b, c2.i, c2.h⟩ 4 = some (v3, c3) := e3
  have e4' : f_spec_l01Below ⟨c3.b, c3.i, c3.h⟩ 3 = some (v4, c4) := e4
  have e5' : f_spec_l01Once ⟨c4.b, c4.i, c4.h⟩ 4 = some (v5, c5) := e5
  simp only [e', f0, e1, e2, e3, e4, e5, e2', e3', e4', e5', Option.bind_some]
  rw [ifc (by simp)]
  simp only [Option.bind_some]
  rw [wrap64 (n := 40 + v1) (by omega) (by omega), wrap64 (n := 600 + v2) (by omega) (by omega)]
  refine ⟨_, rfl, ?_⟩
  have hn : isName ([115] ++ [48]) = true := by kernel_rfl
  simp only [shipOk, hn, Bool.true_and, Bool.and_eq_true, decide_eq_true_eq]
  omega
theorem windows_loop : ∀ (k n : Nat) (c : Xl01Cur) (at_ : Int) (l : List XWindow), k < n → k ≤ 3 → CurOk c → l.length + k ≤ 3 → 0 ≤ at_ → at_ ≤ 60 + 501 * (l.length : Int) →
    (∀ i (h : i < l.length), 0 ≤ l[i].From ∧ l[i].From ≤ l[i].To ∧ l[i].To + 2 ≤ at_ ∧ (∀ h0 : 0 < i, (l[i - 1]'(by omega)).To + 2 ≤ l[i].From)) →
    ∃ l' c', f_spec_l04Draw_1 n at_ (k : Int) c.b c.i c.h l = some (l', c') ∧ windowsOk l' = true ∧ l'.length ≤ 3 := by
  intro k
  induction k with
  | zero =>
    intro n c at_ l hn _ hc hlen h0 h1 hl
    obtain ⟨m, rfl⟩ : ∃ m, n = m + 1 := ⟨n - 1, by omega⟩
    refine ⟨l, c, by rw [f_spec_l04Draw_1]; rfl, ?_, by omega⟩
    simp only [windowsOk, List.all_eq_true, List.mem_range]
    intro i hi
    obtain ⟨q1, q2, q3, q4⟩ := hl i hi
    simp only [winAt, List.getElem?_eq_getElem hi, Bool.and_eq_true, decide_eq_true_eq]
    refine ⟨q1, q2, by omega, ?_⟩
    have h2 : i - 1 < l.length := by omega
    rw [List.getElem?_eq_getElem h2]
    by_cases hz : i = 0
    · simp [hz]
    · have q5 := q4 (by omega)
      obtain ⟨p1, p2, p3, _⟩ := hl (i - 1) h2
      show (decide (i = 0) || !decide (l[i].From ≤ IntKind.i64.wrap (l[i - 1].To + 1))) = true
      rw [wrap64 (n := l[i - 1].To + 1) (by omega) (by omega)]
      simp only [hz, decide_false, Bool.false_or, Bool.not_eq_true', decide_eq_false_iff_not]
      omega
  | succ k ih =>
    intro n c at_ l hn hk hc hlen h0 h1 hl
    obtain ⟨m, rfl⟩ : ∃ m, n = m + 1 := ⟨n - 1, by omega⟩
    obtain ⟨v1, c1, e1, a1, a2, a3, _⟩ := below_ok (n := 300) hc (by omega)
    obtain ⟨v2, c2, e2, b1, b2, b3, _⟩ := below_ok (n := 200) a1 (by omega)
    have a3' := a3 (by omega); have b3' := b3 (by omega)
    have e1' : f_spec_l01Below ⟨c.b, c.i, c.h⟩ 300 = some (v1, c1) := e1
    have hpos : (0 : Int) < ((k + 1 : Nat) : Int) := by omega
    have hw : IntKind.i64.wrap (((k + 1 : Nat) : Int) - 1) = (k : Int) := by rw [wrap64 (by omega) (by omega)]; omega
    rw [f_spec_l04Draw_1]
    simp only [hpos, decide_true, if_true, e1', Option.bind_some]
    rw [ifa (by simp; omega) (by omega)]
    simp only [e2, Option.bind_some, hw]
    rw [wrap64 (n := at_ + v1) (by omega) (by omega), wrap64 (n := at_ + v1 + 2) (by omega) (by omega), wrap64 (n := at_ + v1 + 2 + v2) (by omega) (by omega)]
    refine ih m c2 _ _ (by omega) (by omega) b1 (by simp; omega) (by omega) (by simp; omega) fun i hi => ?_
    simp only [List.length_append, List.length_cons, List.length_nil] at hi
    by_cases hlt : i < l.length
    · obtain ⟨q1, q2, q3, q4⟩ := hl i hlt
      rw [List.getElem_append_left hlt]
      refine ⟨q1, q2, by omega, fun h0 => ?_⟩
      rw [List.getElem_append_left (by omega)]
      exact q4 h0
    · have hi2 : i = l.length := by omega
      subst hi2
      rw [List.getElem_append_right (Nat.le_refl _)]
      simp only [Nat.sub_self, List.getElem_cons_zero]
      refine ⟨h0, by omega, by omega, fun h0 => ?_⟩
      rw [List.getElem_append_left (by omega)]
      obtain ⟨_, _, q3, _⟩ := hl (l.length - 1) (by omega)
      exact q3
theorem windows_ok {a : List Int} (ha : a.length ≤ maxLen) : ∃ l, f_spec_MakeWindows a (80 : Int) = some l ∧ windowsOk l = true ∧ l.length ≤ 3 := by
  unfold f_spec_MakeWindows
  obtain ⟨c, e, hc⟩ := skip_ok (k := 80) (by omega) ha
  have e' : f_spec_l28New a (80 : Int) = some c := e
  obtain ⟨v1, c1, e1, a1, a2, a3, _⟩ := below_ok (n := 60) hc (by omega)
  obtain ⟨v2, c2, e2, b1, b2, b3, _⟩ := below_ok (n := 4) a1 (by omega)
  have a3' := a3 (by omega); have b3' := b3 (by omega)
  obtain ⟨k, rfl⟩ : ∃ k : Nat, v2 = (k : Int) := ⟨v2.toNat, by omega⟩
  obtain ⟨l, c3, e3, h1, h2⟩ := windows_loop k bigN c2 v1 [] (by rw [bigN_val]; omega) (by omega) b1 (by simp; omega) a2 (by simp; omega) (fun i hi => by simp at hi)
  obtain ⟨N, hN⟩ : ∃ N, bigN = N := ⟨_, rfl⟩
  have hd : f_spec_l04Draw c = some (l, c3) := by
    unfold f_spec_l04Draw
    rw [hN] at e3 ⊢
    simp only [e1, e2, Option.bind_some]
    exact e3
  refine ⟨l, ?_, h1, h2⟩
  simp only [e', hd, Option.bind_some]
end Go.Vi
