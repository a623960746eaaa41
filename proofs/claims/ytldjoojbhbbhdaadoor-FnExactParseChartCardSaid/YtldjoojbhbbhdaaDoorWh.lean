/-
  Plain laws: the lines of a good chart's text are read as they were written (ParseChart). No condition.
-/
import Derived.Test.YtldjoojbhbbhdaaDoorWg
namespace Go.Vi
open Go.Lib
set_option linter.unusedSimpArgs false
set_option linter.unusedVariables false

def ptWords (x : XPoint) : List (List UInt8) := [pW, x.Name] ++ (if x.Wait = true then [waitW] else [])
def ptLine (x : XPoint) : List UInt8 := join (ptWords x) [32]
theorem ptText_eq (x : XPoint) : ptText x = ptLine x ++ [10] := by
  unfold ptText ptLine ptWords
  cases x.Wait <;> simp [join_cons, joinTail, pW, waitW]
theorem pt_split {x : XPoint} (h : isName x.Name = true) : split 32 (ptLine x) = ptWords x := by
  refine split_join 32 _ (by simp [ptWords]) fun w hw => ?_
  unfold ptWords at hw
  rcases List.mem_append.1 hw with hw | hw
  · simp only [List.mem_cons, List.not_mem_nil, or_false] at hw
    rcases hw with rfl | rfl
    · decide
    · exact name_sp h
  · split at hw
    · simp only [List.mem_singleton] at hw; subst hw; decide
    · simp at hw
theorem pt_stepW {x : XPoint} (h : isName x.Name = true) {b : List XPoint} {g : List XSegment} (h8 : b.length < 8) : stepW (split 32 (ptLine x)) (b, g) = some (b ++ [x], g) := by
  rw [pt_split h]
  obtain ⟨nm, wt⟩ := x
  cases wt <;> simp [stepW, ptWords, h8]
theorem pt_stepJ {x : XPoint} (h : isName x.Name = true) {b : List XPoint} {g : List XSegment} (h8 : b.length < 8) : stepJ (split 32 (ptLine x)) (b, g) = some (b ++ [x], g) := by
  rw [pt_split h]
  obtain ⟨nm, wt⟩ := x
  cases wt <;> simp [stepJ, isPt, ptWords, h8]

def segWords (c : XChart) (x : XSegment) : List (List UInt8) := [cW, ptName c x.A, ptName c x.B, itoa x.Depth, itoa x.Minutes] ++ (if x.Meet = true then [meetW] else [])
def segLine (c : XChart) (x : XSegment) : List UInt8 := join (segWords c x) [32]
theorem segText_eq (c : XChart) (x : XSegment) : segText c x = segLine c x ++ [10] := by
  unfold segText segLine segWords
  cases x.Meet <;> simp [join_cons, joinTail, cW, meetW]
theorem pt_at {c : XChart} (hc : chartOk c = true) {a : Int} (ha : idx a c.Points.length = true) : isName (ptName c a) = true ∧ ptNamed c.Points (ptName c a) = a := by
  simp only [idx, Bool.and_eq_true, decide_eq_true_eq] at ha
  obtain ⟨k, rfl⟩ : ∃ k : Nat, a = (k : Int) := ⟨a.toNat, by omega⟩
  have hk : k < c.Points.length := by omega
  simp only [chartOk, Bool.and_eq_true, List.all_eq_true, List.mem_range] at hc
  have := hc.2.2.1 k hk
  simp only [ptOk, List.getElem?_eq_getElem hk, Bool.and_eq_true, decide_eq_true_eq] at this
  simpa [ptName, hk] using this
theorem seg_split {c : XChart} {x : XSegment} (ha : isName (ptName c x.A) = true) (hb : isName (ptName c x.B) = true) : split 32 (segLine c x) = segWords c x := by
  refine split_join 32 _ (by simp [segWords]) fun w hw => ?_
  unfold segWords at hw
  rcases List.mem_append.1 hw with hw | hw
  · simp only [List.mem_cons, List.not_mem_nil, or_false] at hw
    rcases hw with rfl | rfl | rfl | rfl | rfl
    · decide
    · exact name_sp ha
    · exact name_sp hb
    · exact itoa_sp _
    · exact itoa_sp _
  · split at hw
    · simp only [List.mem_singleton] at hw; subst hw; decide
    · simp at hw
theorem seg_stepW {c : XChart} (hc : chartOk c = true) {x : XSegment} (hx : x ∈ c.Segments) {g : List XSegment} (h10 : g.length < 10) : stepW (split 32 (segLine c x)) (c.Points, g) = some (c.Points, g ++ [x]) := by
  obtain ⟨_, _, _, hs⟩ := chart_facts hc
  obtain ⟨fa, fb, fd, fm⟩ := hs x hx
  obtain ⟨na, ea⟩ := pt_at hc fa
  obtain ⟨nb, eb⟩ := pt_at hc fb
  rw [seg_split na nb]
  have hne : ¬ cW = pW := by decide
  cases hm : x.Meet <;> simp [stepW, segWords, segOf, hm, hne, h10, ea, eb, numOk, numOf, parseN_itoa fd, parseN_itoa fm] <;> rw [← hm]
theorem seg_stepJ {c : XChart} (hc : chartOk c = true) {x : XSegment} (hx : x ∈ c.Segments) {g : List XSegment} (h10 : g.length < 10) : stepJ (split 32 (segLine c x)) (c.Points, g) = some (c.Points, g ++ [x]) := by
  obtain ⟨_, _, _, hs⟩ := chart_facts hc
  obtain ⟨fa, fb, fd, fm⟩ := hs x hx
  obtain ⟨na, ea⟩ := pt_at hc fa
  obtain ⟨nb, eb⟩ := pt_at hc fb
  rw [seg_split na nb]
  have hne : ¬ cW = pW := by decide
  cases hm : x.Meet <;> simp [stepJ, isPt, isSeg, segWords, segOf, hm, hne, h10, ea, eb, numOk, numOf, parseN_itoa fd, parseN_itoa fm] <;> rw [← hm]
end Go.Vi
