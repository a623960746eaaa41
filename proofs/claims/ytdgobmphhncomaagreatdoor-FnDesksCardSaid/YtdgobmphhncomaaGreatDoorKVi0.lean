/-
  The value level: what every world of a run holds that a contract may ask for: the table of powers of ten, the two errors of the reading of numbers, and the handle of the type of errors. No condition.
-/
import Derived.Below
import Derived.Lib.AppendIntMem
import Derived.Test.YtdgobmphhncomaaGreatDoorRows
namespace Go.Vi

/-- The table's name. -/
def tabN : String := (Go.Proofs.YtdgobmphhncomaaGreatDoor.Rows.fnDesksRow.named.drop 0).headD ""
/-- A variable that holds an error. -/
def ErrIs (w : World) (n : String) : Prop := ∃ tp p, w.var? Go.Proofs.Tryz.prog n = some #[.iface tp p]
/-- The variable that holds the handle of the type of errors. -/
def EType (w : World) : Prop := w.cell? ⟨0, 0, none⟩ = some (.iface 112 (.agg #[.pointer (some ⟨7, 80, none⟩)]))
/-- What is known of every world that a run meets. -/
def GoodW (w : World) : Prop := Go.Lib.TabIs Go.Proofs.Tryz.prog w tabN .u64 Go.Lib.pow10Tab ∧ (ErrIs w "strconv.ErrSyntax" ∧ ErrIs w "strconv.ErrRange") ∧ EType w
theorem var_below {P : Program} {w w' : World} {n : String} {cs : Array Value} (h : w.var? P n = some cs) (hb : RowKit.Below w.heap.size w w') : w'.var? P n = some cs := by
  unfold World.var? at *
  cases hg : P.globalNamed n with
  | none => simp [hg] at h
  | some g =>
    simp only [hg, Option.bind_some] at h ⊢
    have hlt : g < w.heap.size := by
      rcases Nat.lt_or_ge g w.heap.size with h' | h'
      · exact h'
      · rw [Array.getElem?_eq_none h'] at h; simp at h
    rw [hb.block g hlt]
    exact h
theorem ErrIs.below {w w' : World} {n : String} (h : ErrIs w n) (b : RowKit.Below w.heap.size w w') : ErrIs w' n := by
  obtain ⟨tp, p, h⟩ := h
  exact ⟨tp, p, var_below h b⟩
theorem EType.below {w w' : World} (h : EType w) (b : RowKit.Below w.heap.size w w') : EType w' := by
  unfold EType World.cell? at *
  have hlt : 0 < w.heap.size := by
    rcases Nat.eq_zero_or_pos w.heap.size with h0 | h1
    · simp [h0] at h
    · exact h1
  rw [show w'.heap[(⟨0, 0, none⟩ : Addr).block]? = w.heap[(⟨0, 0, none⟩ : Addr).block]? from b.block 0 hlt]
  exact h
theorem GoodW.below {w w' : World} (h : GoodW w) (b : RowKit.Below w.heap.size w w') : GoodW w' := ⟨Go.Lib.tabBelow_of_tabIs h.1 w' b, ⟨h.2.1.1.below b, h.2.1.2.below b⟩, h.2.2.below b⟩

end Go.Vi
