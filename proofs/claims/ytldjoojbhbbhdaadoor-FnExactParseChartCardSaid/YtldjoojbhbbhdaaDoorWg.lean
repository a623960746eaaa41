/-
  Plain laws: both readings of a chart as a whole (ParseChart). No condition.
-/
import Derived.Test.YtldjoojbhbbhdaaDoorWf
namespace Go.Vi
open Go.Lib
set_option linter.unusedSimpArgs false
set_option linter.unusedVariables false

def finC (s : List UInt8) (c : List XPoint × List XSegment) : XChart × Bool := if chartOk ⟨c.1, c.2⟩ = true ∧ fmtChart ⟨c.1, c.2⟩ = s then (⟨c.1, c.2⟩, true) else (⟨[], []⟩, false)
def InvC (b : List XPoint) (g : List XSegment) : Prop := b.length ≤ 8 ∧ g.length ≤ 10 ∧ ∀ x ∈ b, x.Name.length ≤ 1048576
theorem word_len {line : List UInt8} (hl : line.length ≤ 1048576) (i : Nat) : ((split 32 line).getD i []).length ≤ 1048576 := by
  by_cases hi : i < (split 32 line).length
  · exact (piece_len (c := 32) hl).2 _ (by simp [List.getD_eq_getElem?_getD, hi])
  · simp [List.getD_eq_getElem?_getD, List.getElem?_eq_none (Nat.le_of_not_lt hi)]
theorem inv_pt {b : List XPoint} {g : List XSegment} {y : XPoint} (h : InvC b g) (h8 : b.length < 8) (hy : y.Name.length ≤ 1048576) : InvC (b ++ [y]) g := by
  refine ⟨by simp; omega, h.2.1, fun x hx => ?_⟩
  rcases List.mem_append.1 hx with hx | hx
  · exact h.2.2 x hx
  · simp only [List.mem_singleton] at hx; subst hx; exact hy
theorem inv_seg {b : List XPoint} {g : List XSegment} {y : XSegment} (h : InvC b g) (h10 : g.length < 10) : InvC b (g ++ [y]) := ⟨h.1, by simp; omega, h.2.2⟩
theorem stepW_inv {line : List UInt8} (hl : line.length ≤ 1048576) {b : List XPoint} {g : List XSegment} {p : List XPoint × List XSegment} (h : InvC b g) (hs : stepW (split 32 line) (b, g) = some p) : InvC p.1 p.2 := by
  unfold stepW at hs
  split at hs
  · rename_i c; cases hs; exact inv_pt h c.2.2 (word_len hl 1)
  · split at hs
    · rename_i c; cases hs; exact inv_seg h c.2.2.1
    · cases hs
theorem stepJ_inv {line : List UInt8} (hl : line.length ≤ 1048576) {b : List XPoint} {g : List XSegment} {p : List XPoint × List XSegment} (h : InvC b g) (hs : stepJ (split 32 line) (b, g) = some p) : InvC p.1 p.2 := by
  unfold stepJ at hs
  split at hs
  · split at hs
    · rename_i c; cases hs; exact inv_pt h c (word_len hl 1)
    · cases hs
  · split at hs
    · split at hs
      · rename_i c; cases hs; exact inv_seg h c
      · cases hs
    · cases hs
theorem spec_read {s : List UInt8} (hl : s.length ≤ 1048576) : f_spec_ParseChart s = some (match rd (fun x => stepW (split 32 x)) (lines s) ([], []) with | some c => finC s c | none => (⟨[], []⟩, false)) := by
  unfold f_spec_ParseChart
  rw [spec_SplitLines_eq hl]
  simp only [Option.bind_some]
  have hm := fun x (h : x ∈ lines s) => lines_mem hl h
  rw [rd_loop (L := f_spec_ParseChart_1 s (lines s)) (lines s) (fun x => stepW (split 32 x)) (fun c => some (finC s c)) (some (⟨[], []⟩, false)) InvC (lines_len hl) (fun n i b g hi h => by
    rw [spec_step hi (hm _ (List.getElem_mem hi)) h.1 h.2.1]
    cases stepW (split 32 (lines s)[i]) (b, g) <;> rfl)
    (fun x hx b g p h hs => stepW_inv (hm x hx) h hs) (fun n b g h => ?_) [] [] ⟨by simp, by simp, by simp⟩]
  · cases rd (fun x => stepW (split 32 x)) (lines s) ([], []) <;> rfl
  · have hn : ∀ x ∈ (⟨b, g⟩ : XChart).Points, x.Name.length ≤ maxLen := fun x hx => le_max (h.2.2 x hx)
    rw [f_spec_ParseChart_1]
    simp only [Int.lt_irrefl, decide_false, Bool.false_eq_true, if_false, spec_ChartOk_eq hn, Option.bind_some, finC, spec_FormatChart_eq hn, f_spec_ParseChart_4]
    by_cases c1 : chartOk ⟨b, g⟩ = true <;> by_cases c2 : fmtChart ⟨b, g⟩ = s <;> simp [c1, c2]
theorem impl_read {s : List UInt8} (hl : s.length ≤ 1048576) : f_impl_ParseChart s = some (match rd (fun x => stepJ (split 32 x)) (lines s) ([], []) with | some c => finC s c | none => (⟨[], []⟩, false)) := by
  unfold f_impl_ParseChart
  rw [impl_SplitLines_eq hl]
  simp only [Option.bind_some]
  have hm := fun x (h : x ∈ lines s) => lines_mem hl h
  rw [rd_loop (L := f_impl_ParseChart_1 s (lines s)) (lines s) (fun x => stepJ (split 32 x)) (fun c => some (finC s c)) (some (⟨[], []⟩, false)) InvC (lines_len hl) (fun n i b g hi h => by
    rw [impl_step hi (hm _ (List.getElem_mem hi)) h.1 h.2.1]
    cases stepJ (split 32 (lines s)[i]) (b, g) <;> rfl)
    (fun x hx b g p h hs => stepJ_inv (hm x hx) h hs) (fun n b g h => ?_) [] [] ⟨by simp, by simp, by simp⟩]
  · cases rd (fun x => stepJ (split 32 x)) (lines s) ([], []) <;> rfl
  · have hn : ∀ x ∈ (⟨b, g⟩ : XChart).Points, x.Name.length ≤ maxLen := fun x hx => le_max (h.2.2 x hx)
    rw [f_impl_ParseChart_1]
    simp only [Int.lt_irrefl, decide_false, Bool.false_eq_true, if_false, impl_ChartOk_eq hn, Option.bind_some, finC, impl_FormatChart_eq hn, f_impl_ParseChart_4]
    by_cases c1 : chartOk ⟨b, g⟩ = true <;> by_cases c2 : fmtChart ⟨b, g⟩ = s <;> simp [c1, c2]
end Go.Vi
