/-
  Plain laws: a good chart's text is read as it was written (ParseChart). No condition.
-/
import Derived.Test.YtldjoojbhbbhdaaDoorWh
namespace Go.Vi
open Go.Lib
set_option linter.unusedSimpArgs false
set_option linter.unusedVariables false

theorem name_nl {s : List UInt8} (h : isName s = true) : ∀ b ∈ s, b ≠ 10 := by
  intro b hb e
  subst e
  obtain ⟨i, hi, hb⟩ := List.getElem_of_mem hb
  simp only [isName, Bool.and_eq_true, List.all_eq_true, List.mem_range] at h
  have := h.2 i hi
  simp only [nmOk, List.getElem?_eq_getElem hi, hb, Bool.or_eq_true, Bool.and_eq_true, decide_eq_true_eq] at this
  have e : (((10 : UInt8).toNat : Nat) : Int) = 10 := rfl
  rw [e] at this
  omega
theorem itoa_nl (n : Int) : ∀ b ∈ itoa n, b ≠ 10 := by
  have hd : ∀ u, ∀ b ∈ decDigits u, b ≠ 10 := fun u b hb e => by
    have := decDigits_dig u b hb
    subst e
    simp [isDig] at this
  intro b hb
  unfold itoa at hb
  split at hb
  · rcases List.mem_cons.1 hb with rfl | hb
    · decide
    · exact hd _ b hb
  · exact hd _ b hb
theorem join_mem : ∀ {ws : List (List UInt8)} {b : UInt8}, b ∈ join ws [32] → b = 32 ∨ ∃ w ∈ ws, b ∈ w
  | [], b, h => by simp [join, List.intercalate] at h
  | w :: r, b, h => by
    rw [join_cons] at h
    rcases List.mem_append.1 h with h | h
    · exact .inr ⟨w, by simp, h⟩
    · unfold joinTail at h
      simp only [List.mem_flatten, List.mem_map] at h
      obtain ⟨l, ⟨v, hv, rfl⟩, hb⟩ := h
      rcases List.mem_append.1 hb with hb | hb
      · simp at hb; exact .inl hb
      · exact .inr ⟨v, by simp [hv], hb⟩
theorem const_nl {w : List UInt8} (h : w.all (fun b => b != 10) = true) {b : UInt8} (hb : b ∈ w) : b ≠ 10 := by
  simpa using List.all_eq_true.1 h b hb
theorem pt_nl {x : XPoint} (h : isName x.Name = true) : ∀ b ∈ ptLine x, b ≠ 10 := by
  intro b hb
  rcases join_mem hb with rfl | ⟨w, hw, hb⟩
  · decide
  · unfold ptWords at hw
    rcases List.mem_append.1 hw with hw | hw
    · simp only [List.mem_cons, List.not_mem_nil, or_false] at hw
      rcases hw with rfl | rfl
      · exact const_nl (w := pW) (by decide) hb
      · exact name_nl h b hb
    · split at hw
      · simp only [List.mem_singleton] at hw; subst hw; exact const_nl (w := waitW) (by decide) hb
      · simp at hw
theorem seg_nl {c : XChart} {x : XSegment} (ha : isName (ptName c x.A) = true) (hb : isName (ptName c x.B) = true) : ∀ b ∈ segLine c x, b ≠ 10 := by
  intro b hb2
  rcases join_mem hb2 with rfl | ⟨w, hw, hb2⟩
  · decide
  · unfold segWords at hw
    rcases List.mem_append.1 hw with hw | hw
    · simp only [List.mem_cons, List.not_mem_nil, or_false] at hw
      rcases hw with rfl | rfl | rfl | rfl | rfl
      · exact const_nl (w := cW) (by decide) hb2
      · exact name_nl ha b hb2
      · exact name_nl hb b hb2
      · exact itoa_nl _ b hb2
      · exact itoa_nl _ b hb2
    · split at hw
      · simp only [List.mem_singleton] at hw; subst hw; exact const_nl (w := meetW) (by decide) hb2
      · simp at hw
theorem fmt_lines {c : XChart} (hc : chartOk c = true) : lines (fmtChart c) = c.Points.map ptLine ++ c.Segments.map (segLine c) := by
  have hp : (List.range c.Points.length).map (ptPiece c) = c.Points.map ptText := by
    have := range_map (c.Points.map ptText) [] c.Points.length (by simp)
    rw [← this]
    exact List.map_congr_left fun i _ => by simp [ptPiece]
  have hs : (List.range c.Segments.length).map (segPiece c) = c.Segments.map (segText c) := by
    have := range_map (c.Segments.map (segText c)) [] c.Segments.length (by simp)
    rw [← this]
    exact List.map_congr_left fun i _ => by simp [segPiece]
  have e : fmtChart c = ((c.Points.map ptLine ++ c.Segments.map (segLine c)).map (· ++ [10])).flatten := by
    rw [fmtChart, if_pos hc, hp, hs, List.map_append, List.flatten_append, List.map_map, List.map_map]
    congr 2
    · exact List.map_congr_left fun x _ => ptText_eq x
    · exact List.map_congr_left fun x _ => segText_eq c x
  rw [e]
  refine lines_flat fun w hw => ?_
  rcases List.mem_append.1 hw with hw | hw
  · obtain ⟨x, hx, rfl⟩ := List.mem_map.1 hw
    obtain ⟨i, hi, rfl⟩ := List.getElem_of_mem hx
    simp only [chartOk, Bool.and_eq_true, List.all_eq_true, List.mem_range] at hc
    have := hc.2.2.1 i hi
    simp only [ptOk, List.getElem?_eq_getElem hi, Bool.and_eq_true] at this
    exact pt_nl this.1
  · obtain ⟨x, hx, rfl⟩ := List.mem_map.1 hw
    obtain ⟨_, _, _, hs⟩ := chart_facts hc
    obtain ⟨fa, fb, _, _⟩ := hs x hx
    exact seg_nl (pt_at hc fa).1 (pt_at hc fb).1
theorem rd_pts {step : List UInt8 → List XPoint × List XSegment → Option (List XPoint × List XSegment)} (hs : ∀ x : XPoint, isName x.Name = true → ∀ b g, b.length < 8 → step (ptLine x) (b, g) = some (b ++ [x], g)) :
    ∀ (ys xs : List XPoint) (g : List XSegment), (∀ x ∈ ys, isName x.Name = true) → xs.length + ys.length ≤ 8 → rd step (ys.map ptLine) (xs, g) = some (xs ++ ys, g)
  | [], xs, g, _, _ => by simp [rd]
  | y :: ys, xs, g, h, hl => by
    simp at hl
    rw [List.map_cons, rd, hs y (h y (by simp)) xs g (by omega), Option.bind_some, rd_pts hs ys (xs ++ [y]) g (fun x hx => h x (by simp [hx])) (by simp; omega)]
    simp
theorem rd_segs {step : List UInt8 → List XPoint × List XSegment → Option (List XPoint × List XSegment)} {c : XChart} (hs : ∀ x ∈ c.Segments, ∀ g, g.length < 10 → step (segLine c x) (c.Points, g) = some (c.Points, g ++ [x])) :
    ∀ (ys gs : List XSegment), (∀ x ∈ ys, x ∈ c.Segments) → gs.length + ys.length ≤ 10 → rd step (ys.map (segLine c)) (c.Points, gs) = some (c.Points, gs ++ ys)
  | [], gs, _, _ => by simp [rd]
  | y :: ys, gs, h, hl => by
    simp at hl
    rw [List.map_cons, rd, hs y (h y (by simp)) gs (by omega), Option.bind_some, rd_segs hs ys (gs ++ [y]) (fun x hx => h x (by simp [hx])) (by simp; omega)]
    simp
theorem round_trip {step : List UInt8 → List XPoint × List XSegment → Option (List XPoint × List XSegment)} {c : XChart} (hc : chartOk c = true) (hp : ∀ x : XPoint, isName x.Name = true → ∀ b g, b.length < 8 → step (ptLine x) (b, g) = some (b ++ [x], g))
    (hs : ∀ x ∈ c.Segments, ∀ g, g.length < 10 → step (segLine c x) (c.Points, g) = some (c.Points, g ++ [x])) : rd step (lines (fmtChart c)) ([], []) = some (c.Points, c.Segments) := by
  have hc' := hc
  simp only [chartOk, Bool.and_eq_true, decide_eq_true_eq, List.all_eq_true, List.mem_range] at hc'
  obtain ⟨h1, h2, h3, _⟩ := hc'
  have hn : ∀ x ∈ c.Points, isName x.Name = true := fun x hx => by
    obtain ⟨i, hi, rfl⟩ := List.getElem_of_mem hx
    have := h3 i hi
    simp only [ptOk, List.getElem?_eq_getElem hi, Bool.and_eq_true] at this
    exact this.1
  rw [fmt_lines hc, rd_append, rd_pts hp c.Points [] [] hn (by simpa using h1)]
  simp only [List.nil_append, Option.bind_some]
  rw [rd_segs hs c.Segments [] (fun _ h => h) (by simpa using h2)]
  simp
theorem parse_same {s : List UInt8} (hl : s.length ≤ 1048576) : ∃ r : XChart × Bool, f_spec_ParseChart s = some r ∧ f_impl_ParseChart s = some r ∧ r.1.Points.length ≤ 8 ∧ r.1.Segments.length ≤ 10 := by
  rw [spec_read hl, impl_read hl]
  by_cases h : ∃ c, chartOk c = true ∧ fmtChart c = s
  · obtain ⟨c, hc, rfl⟩ := h
    have e : finC (fmtChart c) (c.Points, c.Segments) = (c, true) := by simp [finC, hc]
    obtain ⟨h1, h2, _⟩ := chart_facts hc
    refine ⟨(c, true), ?_, ?_, h1, h2⟩
    · rw [round_trip (step := fun x => stepW (split 32 x)) hc (fun x hx b g h8 => pt_stepW hx h8) (fun x hx g h10 => seg_stepW hc hx h10)]
      simp only [e]
    · rw [round_trip (step := fun x => stepJ (split 32 x)) hc (fun x hx b g h8 => pt_stepJ hx h8) (fun x hx g h10 => seg_stepJ hc hx h10)]
      simp only [e]
  · have hno : ∀ c, finC s c = (⟨[], []⟩, false) := fun c => by
      unfold finC
      rw [if_neg fun h2 => h ⟨_, h2.1, h2.2⟩]
    refine ⟨(⟨[], []⟩, false), ?_, ?_, by simp, by simp⟩
    · cases rd (fun x => stepW (split 32 x)) (lines s) ([], []) <;> simp [hno]
    · cases rd (fun x => stepJ (split 32 x)) (lines s) ([], []) <;> simp [hno]
end Go.Vi
