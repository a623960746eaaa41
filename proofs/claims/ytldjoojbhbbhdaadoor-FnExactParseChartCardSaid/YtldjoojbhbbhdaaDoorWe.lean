/-
  Plain laws: the program's reading of a chart, one line; both readings as a whole (ParseChart). No condition.
-/
import Derived.Test.YtldjoojbhbbhdaaDoorWd
namespace Go.Vi
open Go.Lib
set_option linter.unusedSimpArgs false
set_option linter.unusedVariables false

def stepJ (w : List (List UInt8)) (c : List XPoint × List XSegment) : Option (List XPoint × List XSegment) :=
  if isPt w = true then (if c.1.length < 8 then some (c.1 ++ [⟨w.getD 1 [], w.length == 3⟩], c.2) else none)
  else if isSeg w = true then (if c.2.length < 10 then some (c.1, c.2 ++ [segOf w c.1]) else none) else none
theorem impl_step {s : List UInt8} {L : List (List UInt8)} {n i : Nat} {b : List XPoint} {g : List XSegment} (hi : i < L.length) (hx : L[i].length ≤ 1048576) (hb : b.length ≤ 8) (hg : g.length ≤ 10) :
    f_impl_ParseChart_1 s L (n + 1) (i : Int) b g = match stepJ (split 32 L[i]) (b, g) with | some p => f_impl_ParseChart_1 s L n (IntKind.i64.wrap ((i : Int) + 1)) p.1 p.2 | none => some (⟨[], []⟩, false) := by
  rw [f_impl_ParseChart_1]
  simp only [dec_nn, hi, decide_true, if_true, ix_at hi, Option.bind_some, impl_SplitAny_eq hx]
  obtain ⟨w, hw⟩ : ∃ w, split 32 L[i] = w := ⟨_, rfl⟩
  have hp := (piece_len (c := 32) hx).2
  rw [hw] at hp
  simp only [hw]
  obtain ⟨z, hz⟩ := segmentOf_eq (ss := g) (ps := b) hp hb
  have a1 : ∀ y : XPoint, appB b.length ([y] : List XPoint).length 24 = true := fun y => appB_of (by simp; omega) (by omega)
  have a2 : ∀ y : XSegment, appB g.length ([y] : List XSegment).length 40 = true := fun y => appB_of (by simp; omega) (by omega)
  have d1 : ¬ (8 : Int) < (b.length : Int) := by omega
  have d2 : ¬ (10 : Int) < (g.length : Int) := by omega
  simp only [pointOf_eq, hz, Option.bind_some, stepJ]
  cases hpt : isPt w with
  | true =>
    simp only [if_true, a1, f_impl_ParseChart_2, f_impl_ParseChart_3]
    by_cases h8 : b.length < 8
    · have e : ¬ (8 : Int) < ((b ++ [(⟨w.getD 1 [], w.length == 3⟩ : XPoint)]).length : Int) := by simp; omega
      simp only [e, d2, decide_false, Bool.false_eq_true, if_false, h8, if_true]
    · have e : (8 : Int) < ((b ++ [(⟨w.getD 1 [], w.length == 3⟩ : XPoint)]).length : Int) := by simp; omega
      simp only [e, decide_true, if_true, h8, if_false]
  | false =>
    simp only [Bool.false_eq_true, if_false]
    cases hsg : isSeg w with
    | true =>
      simp only [if_true, a2, f_impl_ParseChart_2, f_impl_ParseChart_3, d1, decide_false, Bool.false_eq_true, if_false]
      by_cases h10 : g.length < 10
      · have e : ¬ (10 : Int) < ((g ++ [segOf w b]).length : Int) := by simp; omega
        simp only [segOf] at e
        simp only [segOf, e, decide_false, Bool.false_eq_true, if_false, h10, if_true]
      · have e : (10 : Int) < ((g ++ [segOf w b]).length : Int) := by simp; omega
        simp only [segOf] at e
        simp only [segOf, e, decide_true, if_true, h10, if_false]
    | false => simp only [Bool.false_eq_true, if_false]
end Go.Vi
