/-
  Plain laws: the program's reading of a chart, line by line (ParseChart). No condition.
-/
import Derived.Test.YtldjoojbhbbhdaaDoorWc
namespace Go.Vi
open Go.Lib
set_option linter.unusedSimpArgs false
set_option linter.unusedVariables false

def waitW : List UInt8 := [119, 97, 105, 116]
def meetW : List UInt8 := [109, 101, 101, 116]
def isPt (w : List (List UInt8)) : Bool := (w.getD 0 [] == pW) && (w.length == 2 || (w.length == 3 && w.getD 2 [] == waitW))
def isSeg (w : List (List UInt8)) : Bool := (w.getD 0 [] == cW) && ((w.length == 5 || (w.length == 6 && w.getD 5 [] == meetW)) && (numOk (w.getD 3 []) && numOk (w.getD 4 [])))
theorem pointOf_eq (w : List (List UInt8)) : f_impl_pointOf w = some (if isPt w = true then (⟨w.getD 1 [], w.length == 3⟩, true) else (⟨[], false⟩, false)) := by
  have e3 : ((w.length : Int) == 3) = (w.length == 3) := int_len w 3
  unfold f_impl_pointOf isPt pW waitW
  by_cases h2 : w.length < 2
  · have : (w.length : Int) < 2 := by omega
    have l2 : (w.length == 2) = false := by simp; omega
    have l3 : (w.length == 3) = false := by simp; omega
    simp [this, f_impl_pointOf_1, l2, l3]
  · have h2' : ¬ (w.length : Int) < 2 := by omega
    by_cases h3 : 3 < w.length
    · have : (3 : Int) < (w.length : Int) := by omega
      have l2 : (w.length == 2) = false := by simp; omega
      have l3 : (w.length == 3) = false := by simp; omega
      simp [h2', this, f_impl_pointOf_1, l2, l3]
    · have h3' : ¬ (3 : Int) < (w.length : Int) := by omega
      have i0 : ix w 0 = some (w.getD 0 []) := ix_getD (i := 0) (by omega)
      have i1 : ix w 1 = some (w.getD 1 []) := ix_getD (i := 1) (by omega)
      simp only [h2', h3', decide_false, Bool.false_eq_true, if_false, i0, Option.bind_some, e3, f_impl_pointOf_1, i1]
      by_cases l3 : w.length = 3
      · have i2 : ix w 2 = some (w.getD 2 []) := ix_getD (i := 2) (by omega)
        simp only [i2, Option.bind_some]
        generalize w.getD 0 [] = w0
        generalize w.getD 1 [] = w1
        generalize w.getD 2 [] = w2
        by_cases c0 : w0 = [112, 111, 105, 110, 116] <;> by_cases c2 : w2 = [119, 97, 105, 116] <;> simp [c0, c2, l3]
      · have l2 : w.length = 2 := by omega
        generalize w.getD 0 [] = w0
        generalize w.getD 1 [] = w1
        by_cases c0 : w0 = [112, 111, 105, 110, 116] <;> simp [c0, l2]
theorem segmentOf_eq {w : List (List UInt8)} {ps : List XPoint} {ss : List XSegment} (hp : ∀ x ∈ w, x.length ≤ 1048576) (hl : ps.length ≤ 8) :
    ∃ z, f_impl_segmentOf ⟨ps, ss⟩ w = some (if isSeg w = true then (segOf w ps, true) else (z, false)) := by
  have e6 : ((w.length : Int) == 6) = (w.length == 6) := int_len w 6
  refine ⟨⟨0, 0, 0, 0, false⟩, ?_⟩
  unfold f_impl_segmentOf isSeg cW meetW
  by_cases h5 : w.length < 5
  · have : (w.length : Int) < 5 := by omega
    have l5 : (w.length == 5) = false := by simp; omega
    have l6 : (w.length == 6) = false := by simp; omega
    simp [this, f_impl_segmentOf_1, l5, l6]
  · have h5' : ¬ (w.length : Int) < 5 := by omega
    by_cases h6 : 6 < w.length
    · have : (6 : Int) < (w.length : Int) := by omega
      have l5 : (w.length == 5) = false := by simp; omega
      have l6 : (w.length == 6) = false := by simp; omega
      simp [h5', this, f_impl_segmentOf_1, l5, l6]
    · have h6' : ¬ (6 : Int) < (w.length : Int) := by omega
      have g : ∀ i, i < w.length → (w.getD i []).length ≤ 1048576 := fun i hi => hp _ (by simp [List.getD_eq_getElem?_getD, hi])
      have i0 : ix w 0 = some (w.getD 0 []) := ix_getD (i := 0) (by omega)
      have i1 : ix w 1 = some (w.getD 1 []) := ix_getD (i := 1) (by omega)
      have i2 : ix w 2 = some (w.getD 2 []) := ix_getD (i := 2) (by omega)
      have hb : bnd (5 : Int) (5 : Int) (3 : Int) w.length = some (3, 5) := by
        unfold bnd
        rw [if_pos ⟨by omega, by omega, by omega, by omega⟩]
        rfl
      have hd : (w.drop 3).take (5 - 3) = [w.getD 3 [], w.getD 4 []] := by
        match w, h5 with
        | [], h => simp at h
        | [_], h => simp at h
        | [_, _], h => simp at h
        | [_, _, _], h => simp at h
        | [_, _, _, _], h => simp at h
        | a :: b :: c :: d :: e :: r, _ => rfl
      have hm : ps.length ≤ maxLen := le_max (by omega)
      have hn := impl_parseNumbers_eq (l := [w.getD 3 [], w.getD 4 []]) (by simp) (fun x hx => by simp at hx; rcases hx with rfl | rfl; exact g 3 (by omega); exact g 4 (by omega))
      simp only [h5', h6', decide_false, Bool.false_eq_true, if_false, i0, Option.bind_some, e6, f_impl_segmentOf_1, hb, hd, hn, i1, i2, impl_PointNamed_eq (c := ⟨ps, ss⟩) hm, segOf, List.all_cons, List.all_nil, Bool.and_true, List.map_cons, List.map_nil]
      by_cases l6 : w.length = 6
      · have i5 : ix w 5 = some (w.getD 5 []) := ix_getD (i := 5) (by omega)
        simp only [i5, Option.bind_some]
        generalize w.getD 0 [] = w0
        generalize w.getD 3 [] = w3
        generalize w.getD 4 [] = w4
        generalize w.getD 5 [] = w5
        by_cases c0 : w0 = [99, 104, 97, 110, 110, 101, 108] <;> by_cases c5 : w5 = [109, 101, 101, 116] <;> cases c3 : numOk w3 <;> cases c4 : numOk w4 <;> simp [c0, c5, l6, ix]
      · have l5 : w.length = 5 := by omega
        generalize w.getD 0 [] = w0
        generalize w.getD 3 [] = w3
        generalize w.getD 4 [] = w4
        by_cases c0 : w0 = [99, 104, 97, 110, 110, 101, 108] <;> cases c3 : numOk w3 <;> cases c4 : numOk w4 <;> simp [c0, l5, ix]
end Go.Vi
