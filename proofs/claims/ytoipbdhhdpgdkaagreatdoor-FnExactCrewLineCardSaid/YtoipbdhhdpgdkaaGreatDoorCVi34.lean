/-
  The value level: functions that write to a variable of the caller's, and functions that hand over a new one. No condition.
-/
import Derived.Test.YtoipbdhhdpgdkaaGreatDoorCVi33
namespace Go.Vi
set_option linter.unusedSimpArgs false
set_option linter.unusedVariables false
inductive YV where
 | d (x : DV)
 | p
inductive YVRel (h : View) (p : Nat) : YV → Value → Prop
 | d {x v} : DVRel h x v → YVRel h p (.d x) v
 | p : YVRel h p .p (.pointer (some ⟨p,0,none⟩))
inductive YVRels (h : View) (p : Nat) : List YV → List Value → Prop
 | nil : YVRels h p [] []
 | cons {x v xs vs} : YVRel h p x v → YVRels h p xs vs → YVRels h p (x :: xs) (v :: vs)
theorem YVRels.len {h : View} {p : Nat} : ∀ {xs vs},YVRels h p xs vs → xs.length = vs.length
 | _,_,.nil => rfl
 | _,_,.cons _ b => by simp [b.len]
theorem YVRels.get {h : View} {p : Nat} : ∀ {xs : List YV} {vs : List Value} (i : Nat) {x : YV} {v : Value},YVRels h p xs vs → xs[i]? = some x → vs[i]? = some v → YVRel h p x v
 | _,_,_,_,_,.nil,hd,_ => by simp at hd
 | _,_,0,_,_,.cons a _,hd,hv => by simp at hd hv; subst hd hv; exact a
 | _,_,i + 1,_,_,.cons _ b,hd,hv => YVRels.get i b (by simpa using hd) (by simpa using hv)
def npB (p : Nat) : Names := fun i => if i = 2199023255552 then some p else none
theorem npB_some {p i b : Nat} (h : npB p i = some b) : i = 2199023255552 ∧ p = b := by
 unfold npB at h
 split at h
 ·exact ⟨by assumption,Option.some.inj h⟩
 ·cases h
def Holds (h : View) (w : World) (p : Nat) (cs : List D) : Prop := ∃ C t,w.heap[p]? = some (.cells C t (0,0)) ∧ Reps h cs C.toList ∧ cs.length = C.toList.length
def FCy (P : Program) (f : FuncId) (xs : List YV) (cs0 cs1 : List D) (rs : List R1) : Prop :=
 ∀ (w : World) (A : Nat → Prop) (p : Nat) (vs : List Value),(∀ w2,BelowX w.heap.size (.of w (npB p)) w2 → GoodW w2) → p < w.heap.size → ¬ A p → Holds (viewIn A w) w p cs0 → YVRels (viewIn A w) p xs vs → Calls P f vs.toArray w fun e w' =>
  ∃ (v : Value) (bs : List (Option Nat)),e = .returned v ∧ BelowX w.heap.size (.of w (npB p)) w' ∧ Holds (viewIn (fun b => b ≠ p ∧ (w.heap.size ≤ b ∨ A b)) w') w' p cs1 ∧ RRel (viewIn (fun b => b ≠ p ∧ (w.heap.size ≤ b ∨ A b)) w') w' rs v bs
def RC.isV : RC → Bool
 | .v _ => true
 | .o .. => false
def allV (rs : List R1) : Bool := rs.all fun r => r.cells.all RC.isV
section
variable {X : Cx} {g : Nat}
theorem instCells_v : ∀ {cs : List RC} {vs : List Value} {bs : List (Option Nat)} {j : Nat},cs.all RC.isV = true → RCRels X.h X.w cs vs bs → CRels X (instCells g j cs) vs
 | _,_,_,_,_,.nil => .nil
 | _,_,_,j,h,.cons a b => by
  simp only [List.all_cons,Bool.and_eq_true] at h
  refine .cons ?_ (instCells_v h.2 b)
  cases a with
  | v hd => exact .dat hd
  | nil => cases h.1
  | o => cases h.1
theorem inst1_v {r : R1} {v : Value} {bs : List (Option Nat)} {j : Nat} (h : r.cells.all RC.isV = true) (H : R1Rel X.h X.w r v bs) : V1Rel X (r.inst g j) v := by
 cases H with
 | sc hc =>
  refine .sc ?_
  cases hc with
  | v hd => exact .dat hd
  | nil => simp [R1.cells,RC.isV] at h
  | o => simp [R1.cells,RC.isV] at h
 | ag hc => exact .ag (instCells_v h hc)
theorem instList_v : ∀ {rs : List R1} {vs : List Value} {bs : List (Option Nat)} {j : Nat},allV rs = true → R1Rels X.h X.w rs vs bs → V1Rels X (instList g j rs) vs
 | _,_,_,_,_,.nil => .nil
 | _,_,_,j,h,.cons a b => by
  simp only [allV,List.all_cons,Bool.and_eq_true] at h
  exact .cons (inst1_v h.1 a) (instList_v h.2 b)
theorem instAll_v {rs : List R1} {v : Value} {bs : List (Option Nat)} (h : allV rs = true) (H : RRel X.h X.w rs v bs) : VRel X (instAll g rs) v := by
 cases H with
 | one a =>
  simp only [allV,List.all_cons,List.all_nil,Bool.and_true] at h
  exact .v (inst1_v h a)
 | @many rs vs bs hl a =>
  have : instAll g rs = .tup (instList g 0 rs) := by
   cases rs with
   | nil => rfl
   | cons x r => cases r with
    | nil => exact absurd rfl hl
    | cons => rfl
  rw [this]
  exact .tup (instList_v h a)
end
def toYV (id : Nat) : AV → Option YV
 | .v (.sc (.pb k o)) => bif (k == id) && (o == 0) then some .p else none
 | av => (toIV av).map .d
def toYVs (id : Nat) : List AV → Option (List YV)
 | [] => some []
 | a :: r => match toYV id a,toYVs id r with
  | some x,some xs => some (x :: xs)
  | _,_ => none
theorem CRels.reps {X : Cx} : ∀ {ds : List D} {vs : List Value},CRels X (ds.map .dat) vs → Reps X.h ds vs ∧ ds.length = vs.length
 | [],_,.nil => ⟨.nil,rfl⟩
 | d :: ds,_,.cons a b => by
  obtain ⟨h1,h2⟩ := CRels.reps b
  cases a with | dat h => exact ⟨.cons h h1,by simp [h2]⟩
section
variable {P : Program} {A : Nat → Prop} {B : Nat} {w0 : Base} {w : World} {nm : Names} {σ : St} {tmps : Array Value}
theorem toYV_rel {id p : Nat} {av : AV} {v : Value} {x : YV} (hp : nm (2 * id) = some p) (H : VRel (cx A nm σ w) av v) (h : toYV id av = some x) : YVRel (viewOf A nm w) p x v := by
 unfold toYV at h
 split at h
 ·rename_i k o
  by_cases hk : k = id ∧ o = 0
  ·obtain ⟨rfl,rfl⟩ := hk
   simp at h
   subst h
   have hc := H.inv_sc
   cases hc with | pb hb =>
   have hb' : nm (2 * k) = some _ := hb
   have e := Option.some.inj (hb'.symm.trans hp)
   subst e
   exact .p
  ·exfalso
   have : ((k == id) && (o == 0)) = false := by
    rw [Bool.and_eq_false_iff]
    by_cases h1 : k = id
    ·right; simpa using fun h2 => hk ⟨h1,h2⟩
    ·left; simpa using h1
   rw [this] at h
   cases h
 ·simp only [Option.map_eq_some_iff] at h
  obtain ⟨d,h1,rfl⟩ := h
  exact .d (toIV_rel (X := cx A nm σ w) H h1)
theorem toYVs_rel {id p : Nat} (hp : nm (2 * id) = some p) : ∀ {avs : List AV} {vs : List Value} {xs : List YV},VsRel (cx A nm σ w) avs vs → toYVs id avs = some xs → YVRels (viewOf A nm w) p xs vs
 | [],vs,xs,H,h => by
  simp [toYVs] at h
  subst h
  obtain rfl : vs = [] := List.length_eq_zero_iff.1 H.1.symm
  exact .nil
 | a :: avs,vs,xs,H,h => by
  unfold toYVs at h
  split at h
  ·rename_i x xs' h1 h2
   cases h
   cases vs with
   | nil => have := H.1; simp at this
   | cons v vs =>
    exact .cons (toYV_rel hp (H.2 0 a v rfl rfl) h1) (toYVs_rel hp ⟨by have := H.1; simpa using this,fun i u v hu hv => H.2 (i + 1) u v (by simpa using hu) (by simpa using hv)⟩ h2)
  ·cases h
end
def YV.av : YV → AV
 | .d x => x.av
 | .p => .v (.sc (.pb 1099511627776 0))
def initEnvY : Nat → List YV → List (Nat × AV)
 | _,[] => []
 | k,x :: xs => (k,x.av) :: initEnvY (k + 1) xs
theorem find_initY : ∀ (ds : List YV) (k i : Nat),find (initEnvY k ds) i = if k ≤ i then (ds[i - k]?).map YV.av else none
 | [],k,i => by simp [initEnvY,find]
 | d :: ds,k,i => by
  simp only [initEnvY,find]
  by_cases hk : k = i
  ·subst hk; simp
  ·have h' := beq_ff hk
   rw [h',cond_false,find_initY ds (k + 1) i]
   by_cases h1 : k ≤ i
   ·rw [if_pos (by omega),if_pos h1,show i - k = (i - (k + 1)) + 1 by omega]; simp
   ·rw [if_neg (by omega),if_neg h1]
section
variable {P : Program}
theorem results_run {fn : Func} {A : Nat → Prop} {B : Nat} {w0 : Base} {nm : Names} {σ : St} {a : Act} {w : World} {h' : View} (R : Rel A B w0 nm σ a.tmps w) (hh : ∀ b C,viewOf A nm w b C → h' b C) {ts : List RV} {rs : List R1} (hr : resC P fn.results.toList = some ts) (ho : OutVs σ ts rs) :
  ∃ (v : Value) (bs : List (Option Nat)),(results fn a.tmps).run P w = .ok v w ∧ RRel h' w rs v bs := by
 obtain ⟨vs',hrun,hvl,hrel⟩ := outVs_rel (P := P) (f := fun | .tmp t => pure (a.tmps.getD t undef) | .cell c t => do loadVar t (← asAddr (a.tmps.getD c undef))) R hh (fun _ => rfl) (fun _ _ => rfl) hr ho
 refine ⟨(if h : vs'.length = 1 then vs'[0] else .tuple vs'.toArray),(outIdVs σ ts rs).map (bOf nm),?_,?_⟩
 ·unfold results
  rw [← Array.toArray_toList (xs := fn.results)]
  simp only [List.mapM_toArray,Sem.run_bind,map_eq_pure_bind]
  erw [hrun]
  simp only [Result.andThen_ok,Sem.run_pure]
  simp
 ·split
  ·rename_i h1
   obtain ⟨v1,rfl⟩ := List.length_eq_one_iff.1 h1
   have hrl : rs.length = 1 := by rw [ho.len,← hvl]; exact h1
   obtain ⟨r,rfl⟩ := List.length_eq_one_iff.1 hrl
   revert hrel
   generalize (outIdVs σ ts [r]).map (bOf nm) = bs
   intro hrel
   cases hrel with
   | cons h1 h2 =>
    cases h2
    simp only [List.append_nil] at h1 ⊢
    exact .one h1
  ·rename_i h1
   refine .many ?_ hrel
   rw [ho.len,← hvl]
   exact h1
end
theorem avmap_bif {b : Bool} {v : AV} {f : AC → AC} : (bif b then v else .undef).map f = bif b then v.map f else .undef := by cases b <;> rfl
theorem all_bif {b : Bool} {v : AV} {f : AC → Bool} : (bif b then v else AV.undef).cells.all f = (!b || v.cells.all f) := by cases b <;> rfl
end Go.Vi
