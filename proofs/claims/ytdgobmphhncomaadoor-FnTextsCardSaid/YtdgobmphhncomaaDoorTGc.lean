/-
  Plain laws: a drawn chart is good. No condition.
-/
import Derived.Test.YtdgobmphhncomaaDoorTGb
import Derived.KernelRfl
namespace Go.Vi
open Go.Lib
set_option linter.unusedSimpArgs false
set_option linter.unusedVariables false
def sgOk (s : XSegment) : Bool := (decide (0 ≤ s.Depth) && decide (s.Depth ≤ 3000)) && (decide (1 ≤ s.Minutes) && decide (s.Minutes ≤ 240))
def bareS (s : XSegment) : XSegment := ⟨s.A, s.B, 0, 1, s.Meet⟩
/-- A chart without its depths and minutes. -/
def bare (c : XChart) : XChart := ⟨c.Points, c.Segments.map bareS⟩
theorem seg_bare {c : XChart} {i : Nat} (hi : i < c.Segments.length) (h : segOk (bare c) i = true) (hs : sgOk c.Segments[i] = true) : segOk c i = true := by
  have e : ∀ (A B : Int), ((List.range i).any fun j => match (c.Segments.map bareS)[j]? with | some y => jn y A B | none => false) = ((List.range i).any fun j => match c.Segments[j]? with | some y => jn y A B | none => false) := by
    intro A B
    congr 1
    funext j
    rw [List.getElem?_map]
    cases c.Segments[j]? <;> rfl
  have hb : (bare c).Segments[i]? = some (bareS c.Segments[i]) := by
    show (c.Segments.map bareS)[i]? = _
    rw [List.getElem?_map, List.getElem?_eq_getElem hi]
    rfl
  unfold segOk at h ⊢
  rw [hb] at h
  rw [List.getElem?_eq_getElem hi]
  simp only [Bool.and_eq_true] at h ⊢
  obtain ⟨h1, h2, h3, _, _, h6⟩ := h
  simp only [sgOk, Bool.and_eq_true] at hs
  refine ⟨h1, h2, h3, hs.1, hs.2, ?_⟩
  have h6' : (!((List.range i).any fun j => match (c.Segments.map bareS)[j]? with | some y => jn y c.Segments[i].A c.Segments[i].B | none => false)) = true := h6
  rw [e] at h6'
  exact h6'
theorem chart_bare {c : XChart} (h1 : chartOk (bare c) = true) (h2 : ∀ s ∈ c.Segments, sgOk s = true) : chartOk c = true := by
  unfold chartOk at h1 ⊢
  simp only [Bool.and_eq_true] at h1 ⊢
  obtain ⟨a1, a2, a3, a4⟩ := h1
  refine ⟨a1, ?_, a3, ?_⟩
  · have : (bare c).Segments.length = c.Segments.length := by simp [bare]
    rw [this] at a2
    exact a2
  · rw [List.all_eq_true] at a4 ⊢
    intro i hi
    have hlt : i < c.Segments.length := List.mem_range.1 hi
    exact seg_bare hlt (a4 i (by rw [List.mem_range]; simpa [bare] using hlt)) (h2 _ (List.getElem_mem hlt))
end Go.Vi
