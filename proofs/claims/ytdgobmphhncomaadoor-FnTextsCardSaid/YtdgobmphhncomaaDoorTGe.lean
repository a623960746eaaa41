/-
  Plain law: FnTexts. No condition.
-/
import Derived.Test.YtdgobmphhncomaaDoorTGd
namespace Go.Vi
open Go.Lib
set_option linter.unusedSimpArgs false
set_option linter.unusedVariables false
theorem ship_back {x : XShip} (h : shipOk x = true) : readShip (fmtShip x) = (x, true) := by
  obtain ⟨h0, h1, h2, h3, h4⟩ := ship_facts h
  have n1 := parseN_itoa h1; have n2 := parseN_itoa h2; have n3 := parseN_itoa h3; have n4 := parseN_itoa h4
  have hw : shipOf (split 32 (fmtShip x)) = x := by
    rw [ship_parts h]
    obtain ⟨nm, l, d, li, t, s⟩ := x
    cases s <;> simp [shipOf, shipWords, numOf, n1, n2, n3, n4] <;> simp_all
  have hl : (split 32 (fmtShip x)).length = 5 ∨ (split 32 (fmtShip x)).length = 6 := by
    rw [ship_parts h]
    cases x.Slow <;> simp [shipWords]
  have hn : (((split 32 (fmtShip x)).drop 1).take 4).all numOk = true := by
    rw [ship_parts h]
    cases x.Slow <;> simp [shipWords, numOk, n1, n2, n3, n4]
  unfold readShip
  rw [hw, if_pos ⟨hl, hn, h, rfl⟩]
theorem chart_back {c : XChart} (hc : chartOk c = true) (hl : (fmtChart c).length ≤ 1048576) : f_impl_ParseChart (fmtChart c) = some (c, true) := by
  have e : finC (fmtChart c) (c.Points, c.Segments) = (c, true) := by simp [finC, hc]
  rw [impl_read hl, round_trip (step := fun x => stepJ (split 32 x)) hc (fun x hx b g h8 => pt_stepJ hx h8) (fun x hx g h10 => seg_stepJ hc hx h10)]
  simp only [e]
theorem win_split {x : XWindow} (h : 0 ≤ x.From ∧ x.From ≤ x.To ∧ x.To ≤ 2880) : split 45 (winText x) = [itoa x.From, itoa x.To] := by
  obtain ⟨u, hu⟩ : ∃ u : Nat, x.From = (u : Int) := ⟨x.From.toNat, by omega⟩
  obtain ⟨v, hv⟩ : ∃ v : Nat, x.To = (v : Int) := ⟨x.To.toNat, by omega⟩
  have hd : ∀ u : Nat, ∀ b ∈ decDigits u, b ≠ 45 := fun u b hb => by
    have := digs_dec u
    simp only [digs, Bool.and_eq_true, List.all_eq_true] at this
    have h2 := this.1 b hb
    simp only [isDig, decide_eq_true_eq] at h2
    rintro rfl
    simp at h2
  have : winText x = join [itoa x.From, itoa x.To] [45] := by simp [winText, join_cons, joinTail]
  rw [this]
  refine split_join 45 _ (by simp) fun w hw b hb => ?_
  simp only [List.mem_cons, List.not_mem_nil, or_false] at hw
  rcases hw with rfl | rfl
  · rw [hu, itoa_nn] at hb; exact hd u b hb
  · rw [hv, itoa_nn] at hb; exact hd v b hb
theorem win_at {l : List XWindow} (h : windowsOk l = true) : ∀ x ∈ l, 0 ≤ x.From ∧ x.From ≤ x.To ∧ x.To ≤ 2880 := by
  intro x hx
  obtain ⟨i, hi, rfl⟩ := List.getElem_of_mem hx
  simp only [windowsOk, List.all_eq_true, List.mem_range] at h
  have := h i hi
  simp only [winAt, List.getElem?_eq_getElem hi, Bool.and_eq_true, decide_eq_true_eq] at this
  exact ⟨this.1, this.2.1, this.2.2.1⟩
theorem windows_back {l : List XWindow} (h : windowsOk l = true) : readWindows (fmtWindows l) = (l, true) := by
  by_cases hl : l = []
  · subst hl; rfl
  have hx := win_at h
  have hp : ∀ x ∈ l, pairOk (winText x) = true ∧ pairOf (winText x) = x := fun x hm => by
    obtain ⟨a, b, c⟩ := hx x hm
    have n1 := parseN_itoa (n := x.From) ⟨by omega, by omega⟩
    have n2 := parseN_itoa (n := x.To) ⟨by omega, by omega⟩
    simp [pairOk, pairOf, win_split ⟨a, b, c⟩, numOk, numOf, n1, n2]
  have hd : ∀ u : Nat, ∀ b ∈ decDigits u, b ≠ 32 := fun u b hb => by
    have := digs_dec u
    simp only [digs, Bool.and_eq_true, List.all_eq_true] at this
    have h2 := this.1 b hb
    simp only [isDig, decide_eq_true_eq] at h2
    rintro rfl
    simp at h2
  have hs : split 32 (join (l.map winText) [32]) = l.map winText := by
    refine split_join 32 _ (by simpa using hl) fun w hw b hb => ?_
    obtain ⟨x, hm, rfl⟩ := List.mem_map.1 hw
    obtain ⟨a, b2, c⟩ := hx x hm
    obtain ⟨u, hu⟩ : ∃ u : Nat, x.From = (u : Int) := ⟨x.From.toNat, by omega⟩
    obtain ⟨v, hv⟩ : ∃ v : Nat, x.To = (v : Int) := ⟨x.To.toNat, by omega⟩
    simp only [winText, List.mem_append, List.mem_cons, List.not_mem_nil, or_false] at hb
    rcases hb with (hb | hb) | hb
    · rw [hu, itoa_nn] at hb; exact hd u b hb
    · subst hb; decide
    · rw [hv, itoa_nn] at hb; exact hd v b hb
  have hf : fmtWindows l = join (l.map winText) [32] := by unfold fmtWindows; rw [if_pos h, if_neg hl]
  have hm : (l.map winText).map pairOf = l := by
    rw [List.map_map]
    exact (List.map_congr_left fun x hm => (hp x hm).2).trans (List.map_id l)
  have hall : (l.map winText).all pairOk = true := by
    rw [List.all_map, List.all_eq_true]
    exact fun x hm => (hp x hm).1
  have hne : ¬ fmtWindows l = [110, 111, 110, 101] := fun e => by
    have h1 : split 32 (fmtWindows l) = [[110, 111, 110, 101]] := by rw [e]; rfl
    rw [hf, hs] at h1
    rw [h1] at hall
    have : pairOk [110, 111, 110, 101] = false := by kernel_rfl
    simp [this] at hall
  unfold readWindows
  rw [if_neg hne, hf, hs, hm, if_pos ⟨hall, h, hf⟩]
end Go.Vi
