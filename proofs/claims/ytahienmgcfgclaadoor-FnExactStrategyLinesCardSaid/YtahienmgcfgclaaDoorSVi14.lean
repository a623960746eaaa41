/-
  The value level: contracts of functions, and calls by contract. No condition.
-/
import Derived.Test.YtahienmgcfgclaaDoorSVi13
namespace Go.Vi
def viewIn (A : Reg) (w : World) : View := fun b C => ∃ c t fr,A b fr ∧ w.heap[b]? = some (.cells c t fr) ∧ c.toList = C
inductive DVRel (h : View) : DV → Value → Prop
 | sc {d v} : Rep h d v → DVRel h (.sc d) v
 | ag {ds vs} : Reps h ds vs → ds.length = vs.length → DVRel h (.ag ds) (.agg vs.toArray)
inductive DVRels (h : View) : List DV → List Value → Prop
 | nil : DVRels h [] []
 | cons {d v ds vs} : DVRel h d v → DVRels h ds vs → DVRels h (d :: ds) (v :: vs)
inductive RCRel (h : View) (w : World) : RC → Value → Option Nat → Prop
 | v {d v} : Rep h d v → RCRel h w (.v d) v none
 | nil {sz a} : RCRel h w (.o sz []) (.slice a 0 0) none
 | o {sz es b cap len} : OwnB h w b sz cap es → len = es.length → RCRel h w (.o sz es) (.slice (some ⟨b,0,none⟩) len cap) (some b)
inductive RCRels (h : View) (w : World) : List RC → List Value → List (Option Nat) → Prop
 | nil : RCRels h w [] [] []
 | cons {c v b cs vs bs} : RCRel h w c v b → RCRels h w cs vs bs → RCRels h w (c :: cs) (v :: vs) (b :: bs)
inductive R1Rel (h : View) (w : World) : R1 → Value → List (Option Nat) → Prop
 | sc {c v b} : RCRel h w c v b → R1Rel h w (.sc c) v [b]
 | ag {cs vs bs} : RCRels h w cs vs bs → R1Rel h w (.ag cs) (.agg vs.toArray) bs
inductive R1Rels (h : View) (w : World) : List R1 → List Value → List (Option Nat) → Prop
 | nil : R1Rels h w [] [] []
 | cons {c v b cs vs bs} : R1Rel h w c v b → R1Rels h w cs vs bs → R1Rels h w (c :: cs) (v :: vs) (b ++ bs)
inductive RRel (h : View) (w : World) : List R1 → Value → List (Option Nat) → Prop
 | one {r v bs} : R1Rel h w r v bs → RRel h w [r] v bs
 | many {rs vs bs} : rs.length ≠ 1 → R1Rels h w rs vs bs → RRel h w rs (.tuple vs.toArray) bs
def FC (P : Program) (f : FuncId) (ds : List DV) (rs : List R1) : Prop :=
 ∀ (w : World) (A : Reg) (vs : List Value),GoodW w → DVRels (viewIn A w) ds vs → Calls P f vs.toArray w fun e w' =>
  ∃ (v : Value) (bs : List (Option Nat)),e = .returned v ∧ RowKit.Below w.heap.size w w' ∧ RRel (viewIn (fun b fr => some b ∉ bs ∧ ((w.heap.size ≤ b ∧ fr = (0,0)) ∨ A b fr)) w') w' rs v bs ∧
   (∀ b,some b ∈ bs → w.heap.size ≤ b ∧ b < w'.heap.size) ∧ (∀ (i j b : Nat),bs[i]? = some (some b) → bs[j]? = some (some b) → i = j)
def FCf (P : Program) (f : FuncId) (ds : List DV) (rs : List R1) : Prop :=
 ∀ (w : World) (A : Reg) (vs : List Value),GoodW w → DVRels (viewIn A w) ds vs → Calls P f vs.toArray w fun e w' =>
  ∃ (v : Value) (bs : List (Option Nat)),e = .returned v ∧ RowKit.Below w.heap.size w w' ∧ RRel (viewIn (fun b fr => some b ∉ bs ∧ ((w.heap.size ≤ b ∧ fr = (0,0)) ∨ False)) w') w' rs v bs ∧
   (∀ b,some b ∈ bs → w.heap.size ≤ b ∧ b < w'.heap.size) ∧ (∀ (i j b : Nat),bs[i]? = some (some b) → bs[j]? = some (some b) → i = j)
def FCp (P : Program) (f : FuncId) (ds : List DV) (pd : D) : Prop :=
 ∀ (w : World) (A : Reg) (vs : List Value),GoodW w → DVRels (viewIn A w) ds vs → Calls P f vs.toArray w fun e w' =>
  ∃ v : Value,e = .panicked [{ v := v,recovered := false }] ∧ RowKit.Below w.heap.size w w' ∧ Rep (fun _ _ => False) pd v
def D.flat1 : D → Bool
 | .int .. | .bool _ | .str _ => true
 | _ => false
def D.flat : D → Bool
 | .int .. | .bool _ | .str _ => true
 | .ifs _ cs => cs.all D.flat1
 | _ => false
def RC.flat : RC → Prop
 | .v d => d.flat = true
 | .o _ es => ∀ r ∈ es,∀ d ∈ r,d.flat = true
def flatRs (rs : List R1) : Prop := ∀ c ∈ rs.flatMap R1.cells,c.flat
theorem Rep.flat1 {h h' : View} {d : D} {v : Value} (H : Rep h d v) (hf : d.flat1 = true) : Rep h' d v := by
 cases H <;> first
  | exact .bool
  | (cases hf; done)
  | skip
 case int a b => exact .int a b
 case str a => exact .str a
theorem Reps.flat1 {h h' : View} : ∀ {ds : List D} {vs : List Value},Reps h ds vs → ds.all D.flat1 = true → Reps h' ds vs
 | _,_,.nil,_ => .nil
 | _,_,.cons a b,H => by
  simp only [List.all_cons,Bool.and_eq_true] at H
  exact .cons (a.flat1 H.1) (b.flat1 H.2)
theorem Rep.flat {h h' : View} {d : D} {v : Value} (H : Rep h d v) (hf : d.flat = true) : Rep h' d v := by
 cases H <;> first
  | exact .bool
  | (cases hf; done)
  | skip
 case int a b => exact .int a b
 case str a => exact .str a
 case ifs a b => exact .ifs (a.flat1 hf) b
theorem Reps.flat {h h' : View} : ∀ {ds : List D} {vs : List Value},Reps h ds vs → (∀ d ∈ ds,d.flat = true) → Reps h' ds vs
 | _,_,.nil,_ => .nil
 | _,_,.cons a b,H => .cons (a.flat (H _ (by simp))) (b.flat fun d hd => H d (by simp [hd]))
theorem RepRows.flat {h h' : View} {sz : Nat} : ∀ {es : List (List D)} {vs : List Value},RepRows h sz es vs → (∀ r ∈ es,∀ d ∈ r,d.flat = true) → RepRows h' sz es vs
 | _,_,.nil,_ => .nil
 | _,_,.cons a b c,H => .cons a (b.flat (H _ (by simp))) (c.flat fun r hr => H r (by simp [hr]))
def toIV : AV → Option DV
 | .v (.sc c) => (toI c).map .sc
 | .v (.ag cs) => (toIs cs).map .ag
 | _ => none
def St.toIVs (σ : St) : List Opd → Option (List DV)
 | [] => some []
 | x :: xs => match toIV (σ.val x),σ.toIVs xs with
  | some d,some ds => some (d :: ds)
  | _,_ => none
section
variable {P : Program} {A : Ar} {B : Nat} {w0 : Base} {w : World} {nm : Names} {σ : St} {a : Act}
theorem viewAll_of {b : Nat} {C : List Value} (h : viewOf A nm w b C) : viewAll w b C := viewOf_all h
theorem viewIn_true {b : Nat} {C : List Value} (h : viewAll w b C) : viewIn (fun _ _ => True) w b C := by
 obtain ⟨c,t,fr,h1,h2⟩ := h
 exact ⟨c,t,fr,trivial,h1,h2⟩
theorem pd_rel (R : Rel A B w0 nm σ a.tmps w) {id off b : Nat} {d : D} (hb : nm (2 * id) = some b) (hd : σ.pdOf id off = some d) : Rep (viewAll w) d (.pointer (some ⟨b,off,none⟩)) := by
 unfold St.pdOf at hd
 split at hd
 ·rename_i cs hf
  simp only [Option.map_eq_some_iff] at hd
  obtain ⟨ds,hds,rfl⟩ := hd
  obtain ⟨b',C,t,h1,h2,h3⟩ := R.bxs id cs hf
  have e : b' = b := Option.some.inj (h1.symm.trans hb)
  subst e
  exact .pd (C := C.toList) ⟨C,t,_,h2,rfl⟩ (toD0s_rel (X := cx A nm σ w) (fun _ _ h => viewAll_of h) (fun _ _ h => R.oldAt h) ((h3.pre).drop off) hds).1
 ·cases hd
theorem pds_rel (R : Rel A B w0 nm σ a.tmps w) : ∀ {ids bs : List Nat} {ds : List D},ids.mapM (fun i => nm (2 * i)) = some bs → σ.pdsOf ids = some ds → Reps (viewAll w) ds (bs.map fun b => Value.pointer (some ⟨b,0,none⟩)) ∧ ds.length = bs.length
 | [],bs,ds,hb,hd => by
  simp at hb
  subst hb
  simp [St.pdsOf] at hd
  subst hd
  exact ⟨.nil,rfl⟩
 | i :: ids,bs,ds,hb,hd => by
  simp only [List.mapM_cons,Option.bind_eq_bind,Option.pure_def] at hb
  cases hn : nm (2 * i) with
  | none => simp [hn] at hb
  | some b =>
   cases hr : ids.mapM (fun i => nm (2 * i)) with
   | none => simp [hn,hr] at hb
   | some bs' =>
    simp [hn,hr] at hb
    subst hb
    simp only [St.pdsOf] at hd
    split at hd
    ·rename_i d ds' h1 h2
     cases hd
     obtain ⟨h3,h4⟩ := pds_rel R hr h2
     exact ⟨.cons (pd_rel R hn h1) h3,by simp [h4]⟩
    ·cases hd
theorem toD_rel (R : Rel A B w0 nm σ a.tmps w) {c : AC} {v : Value} {d : D} (H : CRel (cx A nm σ w) c v) (hd : σ.toD c = some d) : Rep (viewAll w) d v := by
 cases c with
 | pb id off =>
  cases H with | pb hb => exact pd_rel R hb hd
 | pe id idx off =>
  simp only [St.toD] at hd
  split at hd
  ·rename_i sz es hf
   simp only [Option.map_eq_some_iff] at hd
   obtain ⟨r,hr,rfl⟩ := hd
   obtain ⟨b,cap,hb,own,hlt,rfl⟩ := H.inv_pe hf
   obtain ⟨C,hC,hrows⟩ := ownB_all (fun _ _ h => viewAll_of h) own
   obtain ⟨h1,h2⟩ := hrows.row hr
   have h3 := h2.drop off
   rw [List.drop_drop] at h3
   exact .pd hC h3
  ·cases hd
 | clo f ids =>
  simp only [St.toD,Option.map_eq_some_iff] at hd
  obtain ⟨ds,hds,rfl⟩ := hd
  cases H with | clo hb =>
  exact .clo (pds_rel R hb hds).1 (by simpa using (pds_rel R hb hds).2)
 | undef => simp [St.toD,toD1,toD0] at hd
 | dat d' => exact toD1_rel (X := cx A nm σ w) (fun _ _ h => viewAll_of h) (fun _ _ h => R.oldAt h) H hd
 | own id => exact toD1_rel (X := cx A nm σ w) (fun _ _ h => viewAll_of h) (fun _ _ h => R.oldAt h) H hd
 | osub id lo hi => exact toD1_rel (X := cx A nm σ w) (fun _ _ h => viewAll_of h) (fun _ _ h => R.oldAt h) H hd
 | nil => exact toD1_rel (X := cx A nm σ w) (fun _ _ h => viewAll_of h) (fun _ _ h => R.oldAt h) H hd
 | old d' => exact toD1_rel (X := cx A nm σ w) (fun _ _ h => viewAll_of h) (fun _ _ h => R.oldAt h) H hd
 | vol => simp [St.toD,toD1,toD0] at hd
 | z => simp [St.toD,toD1,toD0] at hd
 | ipb => simp [St.toD,toD1,toD0] at hd
theorem toDV_rel (R : Rel A B w0 nm σ a.tmps w) {av : AV} {v : Value} {d : DV} (H : VRel (cx A nm σ w) av v) (hd : σ.toDV av = some d) : DVRel (viewAll w) d v := by
 unfold St.toDV at hd
 split at hd
 ·simp only [Option.map_eq_some_iff] at hd
  obtain ⟨d',h1,rfl⟩ := hd
  exact .sc (toD_rel R H.inv_sc h1)
 ·simp only [Option.map_eq_some_iff] at hd
  obtain ⟨ds,h1,rfl⟩ := hd
  obtain ⟨vs,rfl,hcs⟩ := H.inv_ag
  obtain ⟨h2,h3⟩ := toD0s_rel (X := cx A nm σ w) (fun _ _ h => viewAll_of h) (fun _ _ h => R.oldAt h) hcs.pre h1
  exact .ag h2 (h3.trans hcs.length)
 ·cases hd
theorem toIV_rel {X : Cx} {av : AV} {v : Value} {d : DV} (H : VRel X av v) (hd : toIV av = some d) : DVRel X.h d v := by
 unfold toIV at hd
 split at hd
 ·simp only [Option.map_eq_some_iff] at hd
  obtain ⟨d',h1,rfl⟩ := hd
  exact .sc (toI_rel H.inv_sc h1)
 ·simp only [Option.map_eq_some_iff] at hd
  obtain ⟨ds,h1,rfl⟩ := hd
  obtain ⟨vs,rfl,hcs⟩ := H.inv_ag
  obtain ⟨h2,h3⟩ := toIs_rel hcs h1
  exact .ag h2 (h3.trans hcs.length)
 ·cases hd
theorem DVRel.mono {h h' : View} (hh : ∀ b C,h b C → h' b C) {d : DV} {v : Value} (H : DVRel h d v) : DVRel h' d v := by
 cases H with
 | sc a => exact .sc (a.mono hh)
 | ag a b => exact .ag (a.mono hh) b
theorem DVRels.mono {h h' : View} (hh : ∀ b C,h b C → h' b C) : ∀ {ds vs},DVRels h ds vs → DVRels h' ds vs
 | _,_,.nil => .nil
 | _,_,.cons a b => .cons (a.mono hh) (b.mono hh)
theorem DVRels.append {h : View} : ∀ {ds vs ds' vs'},DVRels h ds vs → DVRels h ds' vs' → DVRels h (ds ++ ds') (vs ++ vs')
 | _,_,_,_,.nil,H => H
 | _,_,_,_,.cons a b,H => .cons a (b.append H)
theorem DVRels.of_reps {h : View} : ∀ {ds vs},Reps h ds vs → ds.length = vs.length → DVRels h (ds.map .sc) vs
 | [],vs,_,hl => by
  obtain rfl : vs = [] := List.length_eq_zero_iff.1 (by simpa using hl.symm)
  exact .nil
 | _,_,.cons a b,hl => .cons (.sc a) (.of_reps b (by simpa using hl))
theorem toDVs_rel (R : Rel A B w0 nm σ a.tmps w) : ∀ {xs : List Operand} {ys : List Opd} {ds : List DV},opdsC xs = some ys → σ.toDVs ys = some ds → DVRels (viewAll w) ds (xs.map a.eval)
 | [],ys,ds,hy,hd => by simp [opdsC] at hy; subst hy; simp [St.toDVs] at hd; subst hd; exact .nil
 | x :: xs,ys,ds,hy,hd => by
  simp only [opdsC] at hy
  split at hy
  ·rename_i y ys' h1 h2
   cases hy
   simp only [St.toDVs] at hd
   split at hd
   ·rename_i d ds' h3 h4
    cases hd
    exact .cons (toDV_rel R (opd_rel R h1) h3) (toDVs_rel R h2 h4)
   ·cases hd
  ·cases hy
theorem toIVs_rel (R : Rel A B w0 nm σ a.tmps w) : ∀ {xs : List Operand} {ys : List Opd} {ds : List DV},opdsC xs = some ys → σ.toIVs ys = some ds → DVRels (viewOf A nm w) ds (xs.map a.eval)
 | [],ys,ds,hy,hd => by simp [opdsC] at hy; subst hy; simp [St.toIVs] at hd; subst hd; exact .nil
 | x :: xs,ys,ds,hy,hd => by
  simp only [opdsC] at hy
  split at hy
  ·rename_i y ys' h1 h2
   cases hy
   simp only [St.toIVs] at hd
   split at hd
   ·rename_i d ds' h3 h4
    cases hd
    exact .cons (toIV_rel (X := cx A nm σ w) (opd_rel R h1) h3) (toIVs_rel R h2 h4)
   ·cases hd
  ·cases hy
end
inductive XC where
 | d (x : D)
 | r (j : Nat)
inductive XV where
 | sc (c : XC)
 | ag (cs : List XC)
abbrev RowL := List (Nat × List (List D))
inductive XCRel (w : World) (bs : List (Option Nat)) (R : RowL) : XC → Value → Prop
 | d {x v} : Rep noView x v → XCRel w bs R (.d x) v
 | nil {j sz a} : R[j]? = some (sz,[]) → bs[j]? = some none → XCRel w bs R (.r j) (.slice a 0 0)
 | r {j sz es b cap len} : R[j]? = some (sz,es) → bs[j]? = some (some b) → OwnB noView w b sz cap es → len = es.length → XCRel w bs R (.r j) (.slice (some ⟨b,0,none⟩) len cap)
inductive XCRels (w : World) (bs : List (Option Nat)) (R : RowL) : List XC → List Value → Prop
 | nil : XCRels w bs R [] []
 | cons {c v cs vs} : XCRel w bs R c v → XCRels w bs R cs vs → XCRels w bs R (c :: cs) (v :: vs)
inductive XVRel (w : World) (bs : List (Option Nat)) (R : RowL) : XV → Value → Prop
 | sc {c v} : XCRel w bs R c v → XVRel w bs R (.sc c) v
 | ag {cs vs} : XCRels w bs R cs vs → XVRel w bs R (.ag cs) (.agg vs.toArray)
inductive XVRels (w : World) (bs : List (Option Nat)) (R : RowL) : List XV → List Value → Prop
 | nil : XVRels w bs R [] []
 | cons {x v xs vs} : XVRel w bs R x v → XVRels w bs R xs vs → XVRels w bs R (x :: xs) (v :: vs)
theorem XVRels.len {w : World} {bs : List (Option Nat)} {R : RowL} : ∀ {xs vs},XVRels w bs R xs vs → xs.length = vs.length
 | _,_,.nil => rfl
 | _,_,.cons _ b => by simp [b.len]
def npOf (bs : List (Option Nat)) : Names := fun i => if pinI ≤ i ∧ (i - pinI) % 2 = 1 then (bs[(i - pinI) / 2]?).join else none
theorem npOf_some {bs : List (Option Nat)} {i b : Nat} (h : npOf bs i = some b) : ∃ j,i = pinI + 2 * j + 1 ∧ bs[j]? = some (some b) := by
 unfold npOf at h
 split at h
 ·rename_i hc
  refine ⟨(i - pinI) / 2,by omega,?_⟩
  cases hb : bs[(i - pinI) / 2]? with
  | none => simp [hb] at h
  | some o => simp [hb] at h; rw [h]
 ·cases h
theorem npOf_at {bs : List (Option Nat)} {j : Nat} {o : Option Nat} (h : bs[j]? = some o) : npOf bs (pinI + 2 * j + 1) = o := by
 unfold npOf
 rw [if_pos (by omega),show (pinI + 2 * j + 1 - pinI) / 2 = j by omega,h]
 rfl
def FCx (P : Program) (f : FuncId) (xs : List XV) (R0 R1 : RowL) (r : D) : Prop :=
 ∀ (w : World) (vs : List Value) (bs : List (Option Nat)),bs.length = R0.length → (∀ (i j b : Nat),bs[i]? = some (some b) → bs[j]? = some (some b) → i = j) → (∀ b,some b ∈ bs → b < w.heap.size) →
  (∀ w2,BelowX w.heap.size (.of w (npOf bs)) w2 → GoodW w2) → XVRels w bs R0 xs vs → Calls P f vs.toArray w fun e w' =>
   ∃ v,e = .returned v ∧ BelowX w.heap.size (.of w (npOf bs)) w' ∧ Rep noView r v ∧ ∀ (j b : Nat),bs[j]? = some (some b) → ∃ sz es cap,R1[j]? = some (sz,es) ∧ OwnB noView w' b sz cap es
def sameLen : RowL → RowL → Bool
 | [],[] => true
 | (z,es) :: r,(z',es') :: r' => (z == z') && ((es.length == es'.length) && sameLen r r')
 | _,_ => false
theorem sameLen_at : ∀ {R R' : RowL},sameLen R R' = true → ∀ {j z : Nat} {es : List (List D)},R[j]? = some (z,es) → ∃ es',R'[j]? = some (z,es') ∧ es'.length = es.length
 | [],[],_,j,z,es,h => by simp at h
 | [],_ :: _,h,_,_,_,_ => by simp [sameLen] at h
 | _ :: _,[],h,_,_,_,_ => by simp [sameLen] at h
 | (a,e) :: r,(a',e') :: r',h,j,z,es,hj => by
  simp only [sameLen,Bool.and_eq_true,beq_iff_eq] at h
  obtain ⟨h1,h2,h3⟩ := h
  cases j with
  | zero =>
   simp only [List.getElem?_cons_zero,Option.some.injEq,Prod.mk.injEq] at hj
   obtain ⟨rfl,rfl⟩ := hj
   exact ⟨e',by simp [h1],h2.symm⟩
  | succ j =>
   simp only [List.getElem?_cons_succ] at hj ⊢
   exact sameLen_at h3 hj
def posOf (id : Nat) : List Nat → Option Nat
 | [] => none
 | k :: r => bif k == id then some 0 else (posOf id r).map (· + 1)
theorem posOf_spec {id : Nat} : ∀ {l : List Nat} {j : Nat},posOf id l = some j → l[j]? = some id
 | [],_,h => by simp [posOf] at h
 | k :: r,j,h => by
  unfold posOf at h
  by_cases hk : k = id
  ·simp [hk] at h; subst h; simp [hk]
  ·have h' : (k == id) = false := by simpa using hk
   simp only [h',cond_false,Option.map_eq_some_iff] at h
   obtain ⟨j',h1,rfl⟩ := h
   simpa using posOf_spec h1
def toXC (ids : List Nat) : AC → Option XC
 | .own id => (posOf id ids).map .r
 | .dat d => bif d.flat then some (.d d) else none
 | _ => none
def toXCs (ids : List Nat) : List AC → Option (List XC)
 | [] => some []
 | c :: cs => match toXC ids c,toXCs ids cs with
  | some x,some xs => some (x :: xs)
  | _,_ => none
def toXV (ids : List Nat) : AV → Option XV
 | .v (.sc c) => (toXC ids c).map .sc
 | .v (.ag cs) => (toXCs ids cs).map .ag
 | _ => none
def St.toXVs (σ : St) (ids : List Nat) : List Opd → Option (List XV)
 | [] => some []
 | x :: xs => match toXV ids (σ.val x),σ.toXVs ids xs with
  | some d,some ds => some (d :: ds)
  | _,_ => none
def rowsAt (rs : Rows) : List Nat → Option RowL
 | [] => some []
 | id :: ids => match find rs id,rowsAt rs ids with
  | some r,some R => some (r :: R)
  | _,_ => none
theorem rowsAt_at {rs : Rows} : ∀ {ids : List Nat} {R : RowL},rowsAt rs ids = some R → R.length = ids.length ∧ ∀ j : Nat,R[j]? = ids[j]?.bind (find rs)
 | [],R,h => by simp [rowsAt] at h; subst h; simp
 | id :: ids,R,h => by
  unfold rowsAt at h
  split at h
  ·rename_i r R' h1 h2
   cases h
   obtain ⟨k1,k2⟩ := rowsAt_at h2
   refine ⟨by simp [k1],fun j => ?_⟩
   cases j with
   | zero => simp [h1]
   | succ j => simpa using k2 j
  ·cases h
def putX : Rows → List Nat → RowL → Rows
 | rs,id :: ids,r :: R => putX (put rs id r) ids R
 | rs,_,_ => rs
theorem putX_ne {id : Nat} : ∀ {ids : List Nat} {R : RowL} {rs : Rows},id ∉ ids → find (putX rs ids R) id = find rs id
 | [],R,rs,_ => by cases R <;> rfl
 | _ :: _,[],_,_ => rfl
 | k :: ids,r :: R,rs,h => by
  simp only [List.mem_cons,not_or] at h
  rw [putX,putX_ne h.2,find_put_ne _ _ h.1]
theorem putX_at : ∀ {ids : List Nat} {R : RowL} {rs : Rows} {j id : Nat} {r : Nat × List (List D)},ids.Nodup → ids[j]? = some id → R[j]? = some r → find (putX rs ids R) id = some r
 | [],_,_,j,_,_,_,h,_ => by simp at h
 | _ :: _,[],_,j,_,_,_,_,h => by simp at h
 | k :: ids,r0 :: R,rs,j,id,r,hn,h1,h2 => by
  simp only [List.nodup_cons] at hn
  cases j with
  | zero =>
   simp only [List.getElem?_cons_zero,Option.some.injEq] at h1 h2
   subst h1; subst h2
   rw [putX,putX_ne hn.1,find_put_same]
  | succ j =>
   simp only [List.getElem?_cons_succ] at h1 h2
   rw [putX]
   exact putX_at hn.2 h1 h2
def flatRow (R : RowL) : Prop := ∀ p ∈ R,∀ e ∈ p.2,∀ d ∈ e,d.flat = true
def St.instX (σ : St) (d : Nat) (ids : List Nat) (R1 : RowL) (r : D) : St := { (σ.set d (.v (.sc (.dat r)))) with rows := putX σ.rows ids R1 }
def St.handedX (σ : St) (args : List Opd) (ids : List Nat) (xs : List XV) (R0 R1 : RowL) : Prop := ids.Nodup ∧ σ.toXVs ids args = some xs ∧ rowsAt σ.rows ids = some R0 ∧ flatRow R0 ∧ sameLen R0 R1 = true
theorem ShV.trans {a b c : Value} (h : ShV a b) (k : ShV b c) : ShV a c := by
 cases h with
 | same => exact k
 | int h1 h2 => cases k with
  | same => exact .int h1 h2
  | int k1 k2 => exact .int k1 k2
 | bool => cases k with
  | same => exact .bool
  | bool => exact .bool
 | str h1 => cases k with
  | same => exact .str h1
  | str k1 => exact .str k1
theorem ShL.trans : ∀ {a b c : List Value},ShL a b → ShL b c → ShL a c
 | _,_,_,.nil,.nil => .nil
 | _,_,_,.cons h hs,.cons k ks => .cons (h.trans k) (hs.trans ks)
theorem BelowX.afterZ {B : Nat} {b0 bz : Base} {w w' : World} (h : BelowX B b0 w) (hw : bz.w = w) (k : BelowX w.heap.size bz w') (hB : B ≤ w.heap.size) (hM : ∀ b,b0.M b → b < w.heap.size) (hn : ∀ b,bz.M b → B ≤ b ∨ b0.M b) (hv : ∀ b,bz.vv b → B ≤ b ∨ b0.vv b) : BelowX B b0 w' := by
 subst hw
 refine ⟨k.os.trans h.os,k.tape.trans h.tape,k.output.trans h.output,Nat.le_trans h.size k.size,fun j hj hm hvv => (k.block j (by omega) (fun hmm => ?_) (fun hmm => ?_)).trans (h.block j hj hm hvv),fun j hm C t fr hC => ?_,h.vlt,fun j hvv C t fr hC => ?_⟩
 ·rcases hn j hmm with h1 | h1
  ·omega
  ·exact hm h1
 ·rcases hv j hmm with h1 | h1
  ·omega
  ·exact hvv h1
 ·obtain ⟨C1,h1,h2⟩ := h.room j hm C t fr hC
  by_cases hx : bz.M j
  ·obtain ⟨C2,h3,h4⟩ := k.room j hx C1 t fr h1
   exact ⟨C2,h3,h4.trans h2⟩
  ·by_cases hy : bz.vv j
   ·obtain ⟨C2,h3,h4⟩ := k.shape j hy C1 t fr h1
    have := h4.len
    simp only [Array.length_toList] at this
    exact ⟨C2,h3,this.trans h2⟩
   ·exact ⟨C1,(k.block j (hM j hm) hx hy).trans h1,h2⟩
 ·obtain ⟨C1,h1,h2⟩ := h.shape j hvv C t fr hC
  have hx : ¬ bz.M j := fun hx => by
   rcases hn j hx with h3 | h3
   ·have := h.vlt j hvv; omega
   ·exact b0.no j hvv h3
  by_cases hy : bz.vv j
  ·obtain ⟨C2,h3,h4⟩ := k.shape j hy C1 t fr h1
   exact ⟨C2,h3,h2.trans h4⟩
  ·exact ⟨C1,(k.block j (lt_of_get h1) hx hy).trans h1,h2⟩
theorem BelowX.after {B : Nat} {b0 : Base} {w w' : World} {np : Names} (h : BelowX B b0 w) (k : BelowX w.heap.size (.of w np) w') (hB : B ≤ w.heap.size) (hM : ∀ b,b0.M b → b < w.heap.size) (hn : ∀ i b,np i = some b → B ≤ b ∨ b0.M b) : BelowX B b0 w' :=
 h.afterZ rfl k hB hM (fun b hb => by
  obtain ⟨i,_,e⟩ := Base.of_M hb
  exact hn i b e) fun b hb => hb.elim
end Go.Vi
