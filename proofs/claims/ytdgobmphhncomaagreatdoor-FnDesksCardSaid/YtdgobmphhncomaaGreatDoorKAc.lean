/-
  errors.As at the value level: no error, or a line's, at a variable in memory. No condition.
-/
import Derived.Test.YtdgobmphhncomaaGreatDoorKAs
namespace Go.Vi
open Go.Proofs Go.RowKit

theorem hold (w : World) (o : Obj) (i : Nat) (h : i < w.heap.size) : (w.alloc o).heap[i]? = w.heap[i]? := by
  simp only [World.alloc]
  rw [Array.getElem?_push_lt h, Array.getElem?_eq_getElem h]
theorem VsRel.one {X : Cx} {x : AV} {vs : List Value} (h : VsRel X [x] vs) : ∃ v, vs = [v] ∧ VRel X x v := by
  obtain ⟨hl, H⟩ := h
  match vs, hl with
  | [v], _ => exact ⟨v, rfl, H 0 x v rfl rfl⟩
theorem VsRel.two {X : Cx} {x y : AV} {vs : List Value} (h : VsRel X [x, y] vs) : ∃ v u, vs = [v, u] ∧ VRel X x v ∧ VRel X y u := by
  obtain ⟨hl, H⟩ := h
  match vs, hl with
  | [v, u], _ => exact ⟨v, u, rfl, H 0 x v rfl rfl, H 1 y u rfl rfl⟩
theorem as_callN {y : AV} {σ : St} : CallC Tryz.prog 45 [.v (.sc (.dat .noi)), y] σ σ (.v (.sc (.dat (.bool false)))) := by
  intro A B w0 w nm tmps vs R hv
  obtain ⟨v, u, rfl, h1, _⟩ := hv.two
  have hc := h1.inv_sc
  cases hc with | dat hc =>
  cases hc with | noi =>
  refine (as_nil u w).mono fun e w' h => ?_
  obtain ⟨rfl, rfl⟩ := h
  exact ⟨_, nm, rfl, R, .v (.sc (.dat .bool))⟩
theorem as_callH {σ : St} {ds : List D} {id : Nat} {c : AC} (hb : find σ.bx id = some [c]) :
    CallC Tryz.prog 45 [.v (.sc (.dat (.ifc 83 (.pd ds)))), .v (.sc (.ipb 85 id))] σ { σ with bx := put σ.bx id [.dat (.pd ds)] } (.v (.sc (.dat (.bool true)))) := by
  intro A B w0 w nm tmps vs R hv
  obtain ⟨v, u, rfl, h1, h2⟩ := hv.two
  have hc := h1.inv_sc
  cases hc with | dat hc =>
  cases hc with | ifc hc =>
  have hpd := hc
  cases hc with | @pd cs b C off hh hr =>
  have hd := h2.inv_sc
  cases hd with | @ipb t id b' hn =>
  obtain ⟨b2, C2, t2, q1, q2, q3⟩ := R.bxs id [c] hb
  have e : b2 = b' := Option.some.inj (q1.symm.trans hn)
  subst e
  have hlen : C2.toList.length = 1 := by have := q3.length; simpa using this.symm
  obtain ⟨v0, hv0⟩ : ∃ v0, C2 = #[v0] := by
    obtain ⟨v0, h0⟩ := List.length_eq_one_iff.1 hlen
    exact ⟨v0, Array.toList_inj.1 (by simpa using h0)⟩
  subst hv0
  have hlt : b2 < w.heap.size := (R.names _ _ q1).2
  have hcell : w.cell? ⟨b2, 0, none⟩ = some v0 := by
    unfold World.cell?
    simp [show w.heap[b2]? = _ from q2]
  have hfroz : w.frozen? ⟨b2, 0, none⟩ = false := by
    unfold World.frozen?
    simp [show w.heap[b2]? = _ from q2]
  refine (as_hit ⟨b, off, none⟩ ⟨b2, 0, none⟩ v0 w (R.good w R.below).2.2 hcell hfroz).mono fun e w' h => ?_
  obtain ⟨rfl, rfl⟩ := h
  generalize hob1 : Obj.cells #[Value.pointer (some ⟨b2, 0, none⟩)] 85 = o1
  generalize hob2 : Obj.cells #[Value.pointer (some ⟨7, 85, none⟩), Value.pointer (some ⟨w.heap.size, 0, none⟩), Value.int IntKind.u64 150] 98 = o2
  generalize hob4 : Obj.cells #[Value.pointer (some ⟨b, off, none⟩)] 83 = o4
  have R4 := (((R.spare o1).spare o2).spare o2).spare o4
  generalize hw4 : (((w.alloc o1).alloc o2).alloc o2).alloc o4 = w4 at R4 ⊢
  have hheap : w4.heap[b2]? = w.heap[b2]? := by
    subst hw4
    rw [hold _ _ b2 (by simp; omega), hold _ _ b2 (by simp; omega), hold _ _ b2 (by simp; omega), hold _ _ b2 hlt]
  have hcell4 : w4.cell? ⟨b2, 0, none⟩ = some v0 := by
    unfold World.cell?
    simp [hheap, show w.heap[b2]? = _ from q2]
  have hfroz4 : w4.frozen? ⟨b2, 0, none⟩ = false := by
    unfold World.frozen?
    simp [hheap, show w.heap[b2]? = _ from q2]
  have hview : ∀ k K, viewOf A nm w k K → viewOf A nm w4 k K := view_mono fun k hk hnn => ⟨hnn, by
    subst hw4
    rw [hold _ _ k (by simp; omega), hold _ _ k (by simp; omega), hold _ _ k (by simp; omega), hold _ _ k hk]⟩
  have hva : VRel (cx A nm σ w4) (.v (.sc (.pb id 0))) (.pointer (some ⟨b2, 0, none⟩)) := .v (.sc (.pb q1))
  have hvx : VRel (cx A nm σ w4) (.v (.sc (.dat (.pd ds)))) (.pointer (some ⟨b, off, none⟩)) := .v (.sc (.dat (hpd.mono hview)))
  obtain ⟨w5, hrun, R5⟩ := store_box (P := Tryz.prog) (a := ⟨tmps, []⟩) (t := 83) (inf := (Tryz.prog.info? 83).getD default) R4 (by kernel_rfl) (show _ = 1 by kernel_rfl) hva hvx hb rfl (by simp)
  have hrun2 : (Instr.storeAt 83 (.pointer (some ⟨b2, 0, none⟩)) (.pointer (some ⟨b, off, none⟩))).run Tryz.prog w4 = .ok () (w4.setCell ⟨b2, 0, none⟩ (.pointer (some ⟨b, off, none⟩))) := by
    simp [Instr.storeAt, Instr.sureAddr, storeVar, Value.cells, storeCells, Addr.add, Tryz.sizeOf83]
    rw [run_store Tryz.prog w4 ⟨b2, 0, none⟩ _ _ (by rfl)]
    simp [hcell4, hfroz4]
  have e5 : w5 = w4.setCell ⟨b2, 0, none⟩ (.pointer (some ⟨b, off, none⟩)) := by
    rw [hrun] at hrun2
    cases hrun2
    rfl
  subst e5
  refine ⟨_, nm, rfl, ?_, .v (.sc (.dat .bool))⟩
  simpa [setA, V1.cells] using R5
section
variable {k : List Fr} {Q : AExit → St → Prop} {σ : St} {its : List AItem}
theorem go_asN {d : Nat} {x y : Opd} (hx : σ.val x = .v (.sc (.dat .noi))) (H : go Tryz.prog (.ops its :: k) Q .normal (some (σ.set d (.v (.sc (.dat (.bool false))))))) :
    go Tryz.prog (.ops ((none, .call d 45 [x, y]) :: its) :: k) Q .normal (some σ) := by
  refine go_callc (σ' := σ) ?_ H
  simp only [List.map_cons, List.map_nil, hx]
  exact as_callN
theorem go_asH {d id : Nat} {x y : Opd} {ds : List D} {c : AC} (hx : σ.val x = .v (.sc (.dat (.ifc 83 (.pd ds))))) (hy : σ.val y = .v (.sc (.ipb 85 id))) (hb : find σ.bx id = some [c])
    (H : go Tryz.prog (.ops its :: k) Q .normal (some (({ σ with bx := put σ.bx id [.dat (.pd ds)] } : St).set d (.v (.sc (.dat (.bool true))))))) : go Tryz.prog (.ops ((none, .call d 45 [x, y]) :: its) :: k) Q .normal (some σ) := by
  refine go_callc (σ' := { σ with bx := put σ.bx id [.dat (.pd ds)] }) ?_ H
  simp only [List.map_cons, List.map_nil, hx, hy]
  exact as_callH hb
end
end Go.Vi
