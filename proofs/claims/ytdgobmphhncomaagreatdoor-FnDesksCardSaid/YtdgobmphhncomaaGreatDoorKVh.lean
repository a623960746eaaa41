/-
  A world that meets the row's condition on the listed variables: the data laid, the handle's cell laid ahead of them. No condition.
-/
import Derived.Test.YtdgobmphhncomaaGreatDoorKVg
import Derived.Lay
import Derived.LaidOnce
import Derived.KernelRfl
namespace Go.Vi
open Go.Proofs Go.Proofs.YtdgobmphhncomaaGreatDoor

noncomputable def baseW (os : Os) : World :=
  let w0 := World.holding Tryz.prog os ⟨#[], #[], []⟩
  { w0 with heap := w0.heap.modify 0 fun
      | .cells _ t frozen => .cells #[.iface 112 (.agg #[.pointer (some ⟨7, 80, none⟩)])] t frozen
      | o => o }
noncomputable def lw (os : Os) : World := (baseW os).layVars Tryz.prog laidD
theorem lw_os (os : Os) : (lw os).os = os := (World.layVars_os _ _ _).trans rfl
theorem lw_data {os : Os} (hf : (baseW os).layFits Tryz.prog laidD [] = true) (hi : (baseW os).layIfaces Tryz.prog laidD (lw os) = true) (args : Array Value) : laidMet Tryz.prog laidD ((lw os).forCall (fun _ _ => 0) ⟨#[], args, []⟩).memory := by
  have e1 : (laidD.filter fun x => (laidD.map (·.1)).contains x.1) = laidD := List.filter_eq_self.2 fun x hx => List.contains_iff_mem.2 (List.mem_map.2 ⟨x, hx, rfl⟩)
  have e2 : (laidD.filter fun x => !(laidD.map (·.1)).contains x.1) = [] := List.filter_eq_nil_iff.2 fun x hx => by rw [List.contains_iff_mem.2 (List.mem_map.2 ⟨x, hx, rfl⟩)]; simp
  have h : laidMet Tryz.prog laidD (lw os) := laidMet_layVars (w0 := baseW os) (laidD.map (·.1)) [] (by rw [e1]; rfl) (by rw [e1]; exact hf) (by rw [e1]; exact hi) (by rw [e2]; exact LaidIn.none)
  exact h.of_heap (by simp [World.memory, World.forCall, Input.heap])
theorem lw_met (os : Os) (args : Array Value) : laidMetH Tryz.prog Rows.fnDesksRow.laid ((lw os).forCall (fun _ _ => 0) ⟨#[], args, []⟩).memory :=
  laidMetH_of_parts (lw_data (by kernel_rfl) (by kernel_rfl) args) (by kernel_rfl)
end Go.Vi
