/-
  Plain laws: the reference's reading of a chart, line by line (ParseChart). No condition.
-/
import Derived.Test.YtldjoojbhbbhdaaDoorWb
namespace Go.Vi
open Go.Lib
set_option linter.unusedSimpArgs false
set_option linter.unusedVariables false

theorem foldr_first {R : Type} (p : Nat → Bool) (f : Nat → R) (z : R) : ∀ (k i : Nat), (List.range' i k).foldr (fun i r => if p i = true then some (f i) else r) (some z) = some ((List.range' i k).foldr (fun i r => if p i = true then f i else r) z)
  | 0, i => by simp
  | k + 1, i => by
    rw [List.range'_succ, List.foldr_cons, foldr_first p f z k (i + 1), List.foldr_cons]
    cases p i <;> simp
def ptIs (xs : List XPoint) (s : List UInt8) (i : Nat) : Bool := match xs[i]? with
  | some x => decide (x.Name = s)
  | none => false
def ptNamed (xs : List XPoint) (s : List UInt8) : Int := (List.range' 0 xs.length).foldr (fun i r => if ptIs xs s i = true then (i : Int) else r) (-1)
theorem spec_PointNamed_eq {c : XChart} {s : List UInt8} (h : c.Points.length ≤ maxLen) : f_spec_PointNamed c s = some (ptNamed c.Points s) := by
  unfold f_spec_PointNamed
  exact (range_loop (f_spec_PointNamed_1 s c) c.Points.length h (fun i r => if ptIs c.Points s i = true then some (i : Int) else r) (some (-1)) (fun n i hi => by simp [f_spec_PointNamed_1, ix_nn, hi, ptIs]) (fun n => by simp [f_spec_PointNamed_1]) c.Points.length 0 bigN (by omega) (lt_bigN h)).trans (foldr_first _ _ _ _ _)
theorem impl_PointNamed_eq {c : XChart} {s : List UInt8} (h : c.Points.length ≤ maxLen) : f_impl_PointNamed c s = some (ptNamed c.Points s) := by
  unfold f_impl_PointNamed
  exact (range_loop (f_impl_PointNamed_1 s c) c.Points.length h (fun i r => if ptIs c.Points s i = true then some (i : Int) else r) (some (-1)) (fun n i hi => by simp [f_impl_PointNamed_1, ix_nn, hi, ptIs]) (fun n => by simp [f_impl_PointNamed_1]) c.Points.length 0 bigN (by omega) (lt_bigN h)).trans (foldr_first _ _ _ _ _)
def pW : List UInt8 := [112, 111, 105, 110, 116]
def cW : List UInt8 := [99, 104, 97, 110, 110, 101, 108]
def segOf (w : List (List UInt8)) (ps : List XPoint) : XSegment := ⟨ptNamed ps (w.getD 1 []), ptNamed ps (w.getD 2 []), numOf (w.getD 3 []), numOf (w.getD 4 []), w.length == 6⟩
def stepW (w : List (List UInt8)) (c : List XPoint × List XSegment) : Option (List XPoint × List XSegment) :=
  if w.getD 0 [] = pW ∧ (w.length = 2 ∨ w.length = 3) ∧ c.1.length < 8 then some (c.1 ++ [⟨w.getD 1 [], w.length == 3⟩], c.2)
  else if w.getD 0 [] = cW ∧ (w.length = 5 ∨ w.length = 6) ∧ c.2.length < 10 ∧ numOk (w.getD 3 []) = true ∧ numOk (w.getD 4 []) = true then some (c.1, c.2 ++ [segOf w c.1])
  else none
theorem ix_getD {w : List (List UInt8)} {i : Nat} (h : i < w.length) : ix w (i : Int) = some (w.getD i []) := by
  rw [ix_at h]; simp [List.getD_eq_getElem?_getD, h]
theorem spec_l25_eq {w : List (List UInt8)} {ps : List XPoint} {ss : List XSegment} (h5 : w.length = 5 ∨ w.length = 6) (hp : ∀ x ∈ w, x.length ≤ 1048576) (hl : ps.length ≤ 8) :
    f_spec_l25Segment ⟨ps, ss⟩ w = some (segOf w ps, numOk (w.getD 3 []) && numOk (w.getD 4 [])) := by
  have g : ∀ i, i < w.length → (w.getD i []).length ≤ 1048576 := fun i hi => hp _ (by simp [List.getD_eq_getElem?_getD, hi])
  have i1 : ix w 1 = some (w.getD 1 []) := ix_getD (i := 1) (by omega)
  have i2 : ix w 2 = some (w.getD 2 []) := ix_getD (i := 2) (by omega)
  have i3 : ix w 3 = some (w.getD 3 []) := ix_getD (i := 3) (by omega)
  have i4 : ix w 4 = some (w.getD 4 []) := ix_getD (i := 4) (by omega)
  have hm : ps.length ≤ maxLen := le_max (by omega)
  have e6 : ((w.length : Int) == 6) = (w.length == 6) := by rw [Bool.eq_iff_iff]; simp; omega
  simp only [f_spec_l25Segment, i1, i2, i3, i4, Option.bind_some, spec_ParseInt_eq (g 3 (by omega)), spec_ParseInt_eq (g 4 (by omega)), spec_PointNamed_eq (c := ⟨ps, ss⟩) hm, segOf, numOk, numOf, e6]
  cases (parseN (w.getD 3 [])).2 <;> simp
theorem lines_mem {s x : List UInt8} (hl : s.length ≤ 1048576) (h : x ∈ lines s) : x.length ≤ 1048576 := by
  refine (piece_len (c := 10) hl).2 x ?_
  unfold lines at h
  split at h
  · exact List.mem_of_mem_take h
  · exact h
theorem lines_len {s : List UInt8} (hl : s.length ≤ 1048576) : (lines s).length ≤ 1100000 := by
  have := (piece_len (c := 10) hl).1
  unfold lines
  split
  · simp; omega
  · exact this
theorem int_len (w : List (List UInt8)) (n : Nat) : ((w.length : Int) == (n : Int)) = (w.length == n) := by rw [Bool.eq_iff_iff]; simp; omega
theorem spec_step {s : List UInt8} {L : List (List UInt8)} {n i : Nat} {b : List XPoint} {g : List XSegment} (hi : i < L.length) (hx : L[i].length ≤ 1048576) (hb : b.length ≤ 8) (hg : g.length ≤ 10) :
    f_spec_ParseChart_1 s L (n + 1) (i : Int) b g = match stepW (split 32 L[i]) (b, g) with | some p => f_spec_ParseChart_1 s L n (IntKind.i64.wrap ((i : Int) + 1)) p.1 p.2 | none => some (⟨[], []⟩, false) := by
  rw [f_spec_ParseChart_1]
  simp only [dec_nn, hi, decide_true, if_true, ix_at hi, Option.bind_some, spec_SplitAny_eq hx]
  obtain ⟨w, hw⟩ : ∃ w, split 32 L[i] = w := ⟨_, rfl⟩
  have hp := (piece_len (c := 32) hx).2
  have hne := spl_ne 32 L[i] []
  rw [show spl 32 [] L[i] = w from hw] at hne
  rw [hw] at hp
  simp only [hw]
  have hpos : 0 < w.length := List.length_pos_iff.2 hne
  have i0 : ix w 0 = some (w.getD 0 []) := ix_getD (i := 0) hpos
  have e2 : ((w.length : Int) == 2) = (w.length == 2) := int_len w 2
  have e3 : ((w.length : Int) == 3) = (w.length == 3) := int_len w 3
  have e5 : ((w.length : Int) == 5) = (w.length == 5) := int_len w 5
  have e6 : ((w.length : Int) == 6) = (w.length == 6) := int_len w 6
  have e8 : decide ((b.length : Int) < 8) = decide (b.length < 8) := by simp; omega
  have e10 : decide ((g.length : Int) < 10) = decide (g.length < 10) := by simp; omega
  have hs := fun h56 => spec_l25_eq (ss := g) (w := w) (ps := b) h56 hp hb
  have i1 : 2 ≤ w.length → ix w 1 = some (w.getD 1 []) := fun h => ix_getD (i := 1) (by omega)
  have a1 : ∀ y : XPoint, appB b.length ([y] : List XPoint).length 24 = true := fun y => appB_of (by simp; omega) (by omega)
  have a2 : ∀ y : XSegment, appB g.length ([y] : List XSegment).length 40 = true := fun y => appB_of (by simp; omega) (by omega)
  simp only [segOf] at hs
  simp only [i0, Option.bind_some, e2, e3, e8, f_spec_ParseChart_2, f_spec_ParseChart_3, e5, e6, e10, stepW, segOf, pW, cW, a1, a2, if_true]
  generalize w.getD 0 [] = w0
  generalize w.getD 1 [] = w1 at hs i1 ⊢
  generalize w.getD 2 [] = w2 at hs ⊢
  generalize w.getD 3 [] = w3 at hs ⊢
  generalize w.getD 4 [] = w4 at hs ⊢
  by_cases hpw : w0 = [112, 111, 105, 110, 116]
  · subst hpw
    by_cases h8 : b.length < 8 <;> by_cases l2 : w.length = 2 <;> by_cases l3 : w.length = 3 <;> simp [h8, l2, l3, i1] <;> omega
  · by_cases hcw : w0 = [99, 104, 97, 110, 110, 101, 108]
    · subst hcw
      by_cases h10 : g.length < 10
      · by_cases l5 : w.length = 5
        · have := hs (.inl l5)
          cases c3 : numOk w3 <;> cases c4 : numOk w4 <;> simp [h10, l5, this, c3, c4]
        · by_cases l6 : w.length = 6
          · have := hs (.inr l6)
            cases c3 : numOk w3 <;> cases c4 : numOk w4 <;> simp [h10, l6, this, c3, c4]
          · simp [h10, l5, l6]
      · by_cases l5 : w.length = 5 <;> by_cases l6 : w.length = 6 <;> simp [h10, l5, l6]
    · simp [hpw, hcw]
end Go.Vi
