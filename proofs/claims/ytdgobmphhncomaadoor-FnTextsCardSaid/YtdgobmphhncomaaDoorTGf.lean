/-
  Plain law: FnTexts. No condition.
-/
import Derived.Test.YtdgobmphhncomaaDoorTGe
namespace Go.Vi
open Go.Lib
set_option linter.unusedSimpArgs false
set_option linter.unusedVariables false
theorem fmtChart_len {c : XChart} (h : chartOk c = true) : (fmtChart c).length ≤ 20000 := by
  unfold fmtChart
  rw [if_pos h, List.length_append]
  have h1 := pts_len h
  have h2 := flat_len (n := c.Segments.length) (B := 100) (piece := segPiece c) (segPiece_len h)
  have h3 := (chart_facts h).2.1
  omega
theorem fmtShip_len {s : XShip} (h : shipOk s = true) : (fmtShip s).length ≤ 1000 := by
  obtain ⟨h0, h1, h2, h3, h4⟩ := ship_facts h
  have a := (name_len h0).2
  have b := itoa_len h1; have c := itoa_len h2; have d := itoa_len h3; have e := itoa_len h4
  unfold fmtShip
  rw [if_pos h]
  cases s.Slow <;> simp [shipWords, join_cons, joinTail, slowW] <;> omega
theorem fmtWin_len {l : List XWindow} (h : windowsOk l = true) (h3 : l.length ≤ 3) : (fmtWindows l).length ≤ 1000 := by
  have hf := win_facts h
  unfold fmtWindows
  rw [if_pos h]
  split
  · simp
  · have := join_len_le (l := l.map winText) (sep := [32]) (B := 50) (fun x hx => by
      obtain ⟨y, hy, rfl⟩ := List.mem_map.1 hx
      have a := itoa_len (hf y hy).1; have b := itoa_len (hf y hy).2
      simp only [winText, List.length_append, List.length_cons, List.length_nil]
      omega)
    simp only [List.length_map, List.length_cons, List.length_nil] at this
    omega
theorem loop3 {c : XChart} {s : XShip} (h1 : chartOk c = true) (h2 : shipOk s = true) : f_laws_FnTexts_3 c s (c, true) bigN 0 = some true := by
  obtain ⟨q1, q2, q3, _⟩ := chart_facts h1
  have hn : ∀ x ∈ c.Points, x.Name.length ≤ maxLen := fun x hx => by have := q3 x hx; rw [maxLen_val]; omega
  have hsn : s.Name.length ≤ maxLen := by have := (name_len (ship_facts h2).1).2; rw [maxLen_val]; omega
  have := all_loopK (L := f_laws_FnTexts_3 c s (c, true)) c.Segments.length (fun _ => true) (some true) (by rw [maxLen_val]; omega) (fun n i hi => by
    rw [f_laws_FnTexts_3]
    simp only [dec_nn, hi, decide_true, if_true, ix_at hi, Option.bind_some, beq_self_eq_true, Bool.and_self]) (fun n => by
    rw [f_laws_FnTexts_3]
    simp only [Int.lt_irrefl, decide_false, Bool.false_eq_true, if_false, impl_ChartOk_eq hn, h1, impl_ShipOk_eq hsn, h2, Option.bind_some, if_true])
  simpa using this
theorem loop2 {c : XChart} {s : XShip} (h1 : chartOk c = true) (h2 : shipOk s = true) : f_laws_FnTexts_2 c s (c, true) bigN 0 = some true := by
  obtain ⟨q1, q2, q3, _⟩ := chart_facts h1
  have H := loop3 h1 h2
  have := all_loopK (L := f_laws_FnTexts_2 c s (c, true)) c.Points.length (fun _ => true) (some true) (by rw [maxLen_val]; omega) (fun n i hi => by
    rw [f_laws_FnTexts_2]
    simp only [dec_nn, hi, decide_true, if_true, ix_at hi, Option.bind_some, beq_self_eq_true, Bool.and_self]) (fun n => by
    rw [f_laws_FnTexts_2]
    simp only [Int.lt_irrefl, decide_false, Bool.false_eq_true, if_false, H])
  simpa using this
theorem loop1 {c : XChart} {s : XShip} {l : List XWindow} (h1 : chartOk c = true) (h2 : shipOk s = true) (h3 : l.length ≤ 3) : f_laws_FnTexts_1 l c s (c, true) (l, true) bigN 0 = some true := by
  have H := loop2 h1 h2
  have := all_loopK (L := f_laws_FnTexts_1 l c s (c, true) (l, true)) l.length (fun _ => true) (some true) (by rw [maxLen_val]; omega) (fun n i hi => by
    rw [f_laws_FnTexts_1]
    simp only [dec_nn, hi, decide_true, if_true, ix_at hi, Option.bind_some, beq_self_eq_true, Bool.and_self]) (fun n => by
    rw [f_laws_FnTexts_1]
    simp only [Int.lt_irrefl, decide_false, Bool.false_eq_true, if_false, H])
  simpa using this
theorem law_FnTexts (a : List Int) (ok : DsOk [.sc (.sl (List.map r8 a))]) : f_laws_FnTexts a = some true := by
  unfold f_laws_FnTexts
  by_cases h0 : (1048576 : Int) < a.length
  · simp [h0]
  have ha : a.length ≤ maxLen := by rw [maxLen_val]; omega
  obtain ⟨c, e1, hc⟩ := chart_ok ha
  obtain ⟨s, e2, hs⟩ := ship_ok ha
  obtain ⟨l, e3, hl, h3⟩ := windows_ok ha
  obtain ⟨q1, q2, q3, _⟩ := chart_facts hc
  have hn : ∀ x ∈ c.Points, x.Name.length ≤ maxLen := fun x hx => by have := q3 x hx; rw [maxLen_val]; omega
  have hsn : s.Name.length ≤ maxLen := by have := (name_len (ship_facts hs).1).2; rw [maxLen_val]; omega
  have l1 := fmtChart_len hc; have l2 := fmtShip_len hs; have l3 := fmtWin_len hl h3
  have H := loop1 hc hs h3
  obtain ⟨N, hN⟩ : ∃ N, bigN = N := ⟨_, rfl⟩
  rw [hN] at H ⊢
  simp only [h0, decide_false, Bool.false_eq_true, if_false, e1, e2, e3, Option.bind_some, impl_FormatChart_eq hn, chart_back hc (by omega), impl_FormatShip_eq hsn, impl_ParseShip_eq (s := fmtShip s) (by omega), ship_back hs, impl_FormatWindows_eq (l := l) (by omega), impl_ParseWindows_eq (s := fmtWindows l) (by omega), windows_back hl, if_true, beq_self_eq_true, Bool.and_self, bne_self_eq_false, H]
end Go.Vi
