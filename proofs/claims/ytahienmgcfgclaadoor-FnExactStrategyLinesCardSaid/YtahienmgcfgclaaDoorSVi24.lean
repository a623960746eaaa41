/-
  The value level: a function's contract out of 'AWP' of its code. No condition.
-/
import Derived.Test.YtahienmgcfgclaaDoorSVi23
namespace Go.Vi
set_option linter.unusedSimpArgs false
set_option linter.unusedVariables false
def DV.av : DV → AV
 | .sc d => .v (.sc (.dat d))
 | .ag ds => .v (.ag (ds.map .dat))
def initEnv : Nat → List DV → List (Nat × AV)
 | _,[] => []
 | k,d :: ds => (k,d.av) :: initEnv (k + 1) ds
def St.init (ds : List DV) : St := ⟨initEnv 0 ds,[],[]⟩
def OutC (rows : Rows) : AC → RC → Prop
 | .dat d,.v d' => d = d'
 | .nil,.o _ es => es = []
 | .nil,.v d => d = .sl []
 | .own id,.o sz es => find rows id = some (sz,es)
 | _,_ => False
def outId : AC → RC → Option Nat
 | .own id,.o _ _ => some id
 | _,_ => none
def OutCs (rows : Rows) : List AC → List RC → Prop
 | [],[] => True
 | c :: cs,r :: rs => OutC rows c r ∧ OutCs rows cs rs
 | _,_ => False
def outIds : List AC → List RC → List (Option Nat)
 | c :: cs,r :: rs => outId c r :: outIds cs rs
 | _,_ => []
def OutV (rows : Rows) : AV → R1 → Prop
 | .v (.sc c),.sc r => OutC rows c r
 | .v (.ag cs),.ag rs => OutCs rows cs rs
 | _,_ => False
def outIdV : AV → R1 → List (Option Nat)
 | .v (.sc c),.sc r => [outId c r]
 | .v (.ag cs),.ag rs => outIds cs rs
 | _,_ => []
inductive RV where
 | t (n : Nat)
 | c (a : Nat) (g : Bool) (n : Nat)
instance {n : Nat} : OfNat RV n := ⟨.t n⟩
def outGet (σ : St) : RV → AV
 | .t n => σ.get n
 | .c a g n => (loadV σ g n (σ.get a)).getD .undef
def OutVs (σ : St) : List RV → List R1 → Prop
 | [],[] => True
 | t :: ts,r :: rs => OutV σ.rows (outGet σ t) r ∧ OutVs σ ts rs
 | _,_ => False
def outIdVs (σ : St) : List RV → List R1 → List (Option Nat)
 | t :: ts,r :: rs => outIdV (outGet σ t) r ++ outIdVs σ ts rs
 | _,_ => []
def nodupO : List (Option Nat) → Bool
 | [] => true
 | none :: r => nodupO r
 | some i :: r => !r.contains (some i) && nodupO r
def Outs (ts : List RV) (rs : List R1) (σ : St) : Prop := OutVs σ ts rs ∧ nodupO (outIdVs σ ts rs) = true
def resC (P : Program) : List ResultVar → Option (List RV)
 | [] => some []
 | .tmp t :: r => (resC P r).map (.t t :: ·)
 | .cell a t :: r => match aggC P t,resC P r with
  | some (g,n),some ts => some (.c a g n :: ts)
  | _,_ => none
def Ret (ts : List RV) (rs : List R1) (e : AExit) (σ : St) : Prop :=
 match e with
 | .exit _ => False
 | .pan _ => False
 | _ => Outs ts rs σ
def RetP (ts : List RV) (rs : List R1) (pd : Option D) (e : AExit) (σ : St) : Prop :=
 match pd,e with
 | none,.normal | none,.ret => Outs ts rs σ
 | some d,.pan d' => d' = d
 | _,_ => False
section
variable {P : Program}
theorem CRels.of_dat {X : Cx} : ∀ {ds : List D} {vs : List Value},Reps X.h ds vs → ds.length = vs.length → CRels X (ds.map .dat) vs
 | [],vs,_,hl => by
  obtain rfl : vs = [] := List.length_eq_zero_iff.1 (by simpa using hl.symm)
  exact .nil
 | _ :: _,_,.cons a b,hl => .cons (.dat a) (CRels.of_dat b (by simpa using hl))
theorem DVRel.vrel {X : Cx} {d : DV} {v : Value} (h : DVRel X.h d v) : VRel X d.av v := by
 cases h with
 | sc hr => exact .v (.sc (.dat hr))
 | ag hr hl => exact .v (.ag (CRels.of_dat hr hl))
theorem DVRels.len {h : View} : ∀ {ds vs},DVRels h ds vs → ds.length = vs.length
 | _,_,.nil => rfl
 | _,_,.cons _ b => by simp [b.len]
theorem DVRels.get {h : View} : ∀ {ds : List DV} {vs : List Value} (i : Nat) {d : DV} {v : Value},DVRels h ds vs → ds[i]? = some d → vs[i]? = some v → DVRel h d v
 | _,_,_,_,_,.nil,hd,_ => by simp at hd
 | _,_,0,_,_,.cons a _,hd,hv => by simp at hd hv; subst hd hv; exact a
 | _,_,i + 1,_,_,.cons _ b,hd,hv => DVRels.get i b (by simpa using hd) (by simpa using hv)
theorem find_init : ∀ (ds : List DV) (k i : Nat),find (initEnv k ds) i = if k ≤ i then (ds[i - k]?).map DV.av else none
 | [],k,i => by simp [initEnv,find]
 | d :: ds,k,i => by
  simp only [initEnv,find]
  by_cases hk : k = i
  ·subst hk; simp
  ·have h' := beq_ff hk
   rw [h',cond_false,find_init ds (k + 1) i]
   by_cases h1 : k ≤ i
   ·rw [if_pos (by omega),if_pos h1,show i - k = (i - (k + 1)) + 1 by omega]; simp
   ·rw [if_neg (by omega),if_neg h1]
theorem Glob.mk1 {A : Reg} {B : Nat} {w : World} {np : Names} (h : ∀ b,B ≤ b → A b (0,0)) : Glob (.of A) B (.of w np) :=
 ⟨fun b hb => hb.elim (h b) fun h => h.elim,fun _ _ h => h.elim,fun _ _ h => h.elim,fun _ _ h => h.elim,fun h => by cases h⟩
theorem init_rel {w : World} {A0 : Reg} {ds : List DV} {vs : List Value} (nt : Nat) (hG : GoodW w) (h : DVRels (viewIn A0 w) ds vs) :
  Rel (.of fun b fr => A0 b fr ∨ (w.heap.size ≤ b ∧ fr = (0,0))) w.heap.size (.of w (fun _ => none)) (fun _ => none) (St.init ds) (vs.toArray ++ Array.replicate (nt - vs.toArray.size) undef) w := by
 refine ⟨BelowX.start _ _ (fun _ h => h.elim),Nat.le_refl _,Glob.mk1 fun b hb => .inr ⟨hb,rfl⟩,fun w2 hb => hG.below (hb.plain fun _ => rfl),fun i b h => (by cases h),fun i j b h => (by cases h),fun i _ => rfl,fun k => ?_,fun id cs h => by simp [St.init,find] at h⟩
 unfold St.get St.init
 simp only
 rw [find_init ds 0 k]
 simp only [Nat.zero_le,if_true,Nat.sub_zero]
 cases hd : ds[k]? with
 | none => exact .undef
 | some d =>
  have hk : k < vs.length := by rw [← h.len]; exact (List.getElem?_eq_some_iff.1 hd).1
  have hv : vs[k]? = some (vs[k]'hk) := List.getElem?_eq_getElem hk
  have e : (vs.toArray ++ Array.replicate (nt - vs.toArray.size) undef).getD k undef = vs[k]'hk := by
   rw [Array.getD_eq_getD_getElem?,Array.getElem?_append_left (by simpa using hk)]
   simp [hk]
  rw [e]
  have hr := (h.get k hd hv)
  have hh : DVRel (viewOf (fun b fr => A0 b fr ∨ (w.heap.size ≤ b ∧ fr = (0,0))) (fun _ => none) w) d (vs[k]'hk) := hr.mono fun b C ⟨c,t,fr,h0,h1,h2⟩ => ⟨fun _ => by simp,c,t,fr,.inl h0,h1,h2⟩
  exact DVRel.vrel (X := cx (.of fun b fr => A0 b fr ∨ (w.heap.size ≤ b ∧ fr = (0,0))) (fun _ => none) (St.init ds) w) hh
section
variable {A : Ar} {nm : Names} {σ : St} {w : World} {h' : View}
def bOf (nm : Names) (o : Option Nat) : Option Nat := o.bind fun id => nm (2 * id + 1)
theorem outC_rel (hh : ∀ b C,viewOf A nm w b C → h' b C) {c : AC} {r : RC} {v : Value} (H : CRel (cx A nm σ w) c v) (ho : OutC σ.rows c r) : RCRel h' w r v (bOf nm (outId c r)) := by
 cases c <;> cases r <;> simp only [OutC] at ho <;> try exact ho.elim
 case dat.v d d' =>
  subst ho
  cases H with | dat hr => exact .v (hr.mono hh)
 case nil.v d =>
  subst ho
  cases H
  exact .v .nil
 case nil.o sz es =>
  subst ho
  cases H
  exact .nil
 case own.o id sz es =>
  cases H with
  | ownNil h1 h2 =>
   have := (Option.some.inj (h1.symm.trans ho))
   cases this
   show RCRel h' w (.o _ []) _ (nm (2 * id + 1))
   rw [show nm (2 * id + 1) = none from h2]
   exact .nil
  | own h1 h2 h3 h4 =>
   have := (Option.some.inj (h1.symm.trans ho))
   cases this
   show RCRel h' w (.o _ _) _ (nm (2 * id + 1))
   rw [show nm (2 * id + 1) = some _ from h2]
   exact .o (h3.move hh rfl) h4
  | ownDead h1 _ => exact absurd (h1.symm.trans ho) (by simp)
theorem outCs_rel (hh : ∀ b C,viewOf A nm w b C → h' b C) : ∀ {cs : List AC} {rs : List RC} {vs : List Value},CRels (cx A nm σ w) cs vs → OutCs σ.rows cs rs → RCRels h' w rs vs ((outIds cs rs).map (bOf nm))
 | [],[],_,.nil,_ => .nil
 | [],_ :: _,_,_,h => h.elim
 | _ :: _,[],_,_,h => h.elim
 | _ :: _,_ :: _,_,.cons a b,h => .cons (outC_rel hh a h.1) (outCs_rel hh b h.2)
theorem outV_rel (hh : ∀ b C,viewOf A nm w b C → h' b C) {av : AV} {r : R1} {v : Value} (H : VRel (cx A nm σ w) av v) (ho : OutV σ.rows av r) : R1Rel h' w r v ((outIdV av r).map (bOf nm)) := by
 cases H with
 | undef => cases r <;> exact ho.elim
 | no => cases r <;> exact ho.elim
 | tup => cases r <;> exact ho.elim
 | v hx =>
  cases hx with
  | sc hc =>
   cases r with
   | sc r => exact .sc (outC_rel hh hc ho)
   | ag rs => exact ho.elim
  | ag hcs =>
   cases r with
   | sc r => exact ho.elim
   | ag rs => exact .ag (outCs_rel hh hcs ho)
theorem outVs_rel {P : Program} {B : Nat} {w0 : Base} {act : Act} (R : Rel A B w0 nm σ act.tmps w) (hh : ∀ b C,viewOf A nm w b C → h' b C) {f : ResultVar → Sem Value} (hf : ∀ t,f (.tmp t) = pure (act.tmps.getD t undef))
  (hg : ∀ a t,f (.cell a t) = (do loadVar t (← asAddr (act.tmps.getD a undef)))) : ∀ {vars : List ResultVar} {ts : List RV} {rs : List R1},resC P vars = some ts → OutVs σ ts rs →
  ∃ vs : List Value,(vars.mapM f).run P w = .ok vs w ∧ vs.length = ts.length ∧ R1Rels h' w rs vs ((outIdVs σ ts rs).map (bOf nm))
 | [],ts,rs,hc,ho => by
  simp [resC] at hc
  subst hc
  cases rs with
  | nil => exact ⟨[],by simp,rfl,.nil⟩
  | cons => exact ho.elim
 | .tmp t :: r,ts,rs,hc,ho => by
  simp only [resC,Option.map_eq_some_iff] at hc
  obtain ⟨ts',h1,rfl⟩ := hc
  cases rs with
  | nil => exact ho.elim
  | cons r1 rs =>
   obtain ⟨vs,h2,h3,h4⟩ := outVs_rel R hh hf hg h1 ho.2
   refine ⟨act.tmps.getD t undef :: vs,?_,by simp [h3],?_⟩
   ·simp only [List.mapM_cons,hf,Sem.run_bind,Sem.run_pure,Result.andThen_ok,h2]
   ·simp only [outIdVs,List.map_append]
    exact .cons (outV_rel hh (R.env t) ho.1) h4
 | .cell a t :: r,ts,rs,hc,ho => by
  simp only [resC] at hc
  split at hc
  ·rename_i g n ts' h0 h1
   cases hc
   cases rs with
   | nil => exact ho.elim
   | cons r1 rs =>
    obtain ⟨vs,h2,h3,h4⟩ := outVs_rel R hh hf hg h1 ho.2
    have ho1 : OutV σ.rows ((loadV σ g n (σ.get a)).getD .undef) r1 := ho.1
    cases hl : loadV σ g n (σ.get a) with
    | none => rw [hl] at ho1; cases r1 <;> exact ho1.elim
    | some av =>
     rw [hl] at ho1
     obtain ⟨v,hv,hrel⟩ := load_sound (P := P) R h0 (R.env a) hl
     have hv2 : (f (.cell a t)).run P w = .ok v w := by
      rw [hg]
      unfold Instr.loadAt Instr.sureAddr at hv
      unfold asAddr
      revert hv
      cases act.tmps.getD a undef with
      | pointer p => cases p <;> simp
      | _ => simp
     refine ⟨v :: vs,?_,by simp [h3],?_⟩
     ·simp only [List.mapM_cons,Sem.run_bind,hv2,Sem.run_pure,Result.andThen_ok,h2]
     ·simp only [outIdVs,outGet,hl,Option.getD_some,List.map_append]
      exact .cons (outV_rel hh hrel ho1) h4
  ·cases hc
end
theorem nodupO_spec : ∀ {l : List (Option Nat)},nodupO l = true → ∀ (i j id : Nat),l[i]? = some (some id) → l[j]? = some (some id) → i = j
 | [],_,i,_,_,h1,_ => by simp at h1
 | x :: r,h,0,0,_,_,_ => rfl
 | x :: r,h,i + 1,j + 1,id,h1,h2 => by
  have hr : nodupO r = true := by
   cases x with
   | none => exact h
   | some y => simp only [nodupO,Bool.and_eq_true] at h; exact h.2
  have := nodupO_spec hr i j id (by simpa using h1) (by simpa using h2)
  omega
 | x :: r,h,0,j + 1,id,h1,h2 => by
  simp at h1 h2
  subst h1
  simp only [nodupO,Bool.and_eq_true,Bool.not_eq_true',List.contains_eq_mem,decide_eq_false_iff_not] at h
  exact absurd (List.mem_of_getElem? h2) h.1
 | x :: r,h,i + 1,0,id,h1,h2 => by
  simp at h1 h2
  subst h2
  simp only [nodupO,Bool.and_eq_true,Bool.not_eq_true',List.contains_eq_mem,decide_eq_false_iff_not] at h
  exact absurd (List.mem_of_getElem? h1) h.1
theorem OutVs.len {σ : St} : ∀ {ts : List RV} {rs : List R1},OutVs σ ts rs → rs.length = ts.length
 | [],[],_ => rfl
 | [],_ :: _,h => h.elim
 | _ :: _,[],h => h.elim
 | _ :: _,_ :: _,h => by simp [OutVs.len h.2]
theorem FC_of (hm : P.follows .mixedOrders = true) {f : FuncId} {fn : Func} {C : Code} {c : ACode} {ts : List RV} {ds : List DV} {rs : List R1} (hf : P.funcs[f]? = some fn) (hb : fn.body = some C) (hc : compCode P fn.ntmps C = some c.strip)
  (hr : resC P fn.results.toList = some ts) (hl : ds.length ≤ fn.ntmps) (h : AWP P c (Ret ts rs) (St.init ds)) : FC P f ds rs := by
 intro w A0 vs hG hvs
 refine calls_of_wp hf hb ?_
 have hlen := hvs.len
 refine wp_mono (code_sound (df := []) hm c C _ (fun _ => none) (St.init ds) _ w hc h (init_rel fn.ntmps hG hvs) (by simp; omega) rfl) fun e a w' hp => ?_
 obtain ⟨e',nm,σ,he,hq,R,hnt,hdf⟩ := hp
 have key : Outs ts rs σ → a.defers = [] ∧ ∃ v,(results fn a.tmps).run P w' = .ok v w' ∧ ∃ (v' : Value) (bs : List (Option Nat)),Ending.returned v = .returned v' ∧ RowKit.Below w.heap.size w w' ∧
   RRel (viewIn (fun b fr => some b ∉ bs ∧ ((w.heap.size ≤ b ∧ fr = (0,0)) ∨ A0 b fr)) w') w' rs v' bs ∧ (∀ b,some b ∈ bs → w.heap.size ≤ b ∧ b < w'.heap.size) ∧ (∀ (i j b : Nat),bs[i]? = some (some b) → bs[j]? = some (some b) → i = j) := by
  rintro ⟨ho,hnd⟩
  let ids := outIdVs σ ts rs
  have hbs : ∀ b,some b ∈ ids.map (bOf nm) → ∃ id,some id ∈ ids ∧ nm (2 * id + 1) = some b := by
   intro b hb
   obtain ⟨o,ho,hb⟩ := List.mem_map.1 hb
   cases o with
   | none => simp [bOf] at hb
   | some id => exact ⟨id,ho,hb⟩
  have hview : ∀ b C,viewOf (fun b fr => A0 b fr ∨ (w.heap.size ≤ b ∧ fr = (0,0))) nm w' b C → viewIn (fun b fr => some b ∉ ids.map (bOf nm) ∧ ((w.heap.size ≤ b ∧ fr = (0,0)) ∨ A0 b fr)) w' b C := by
   rintro b C ⟨h1,c,t,fr,h2,h3⟩
   refine ⟨c,t,fr,⟨fun hb => ?_,h2.symm⟩,h3⟩
   obtain ⟨id,_,hn⟩ := hbs b hb
   exact h1 _ hn
  obtain ⟨vs',hrun,hvl,hrel⟩ := outVs_rel (P := P) (f := fun | .tmp t => pure (a.tmps.getD t undef) | .cell c t => do loadVar t (← asAddr (a.tmps.getD c undef))) R hview (fun _ => rfl) (fun _ _ => rfl) hr ho
  refine ⟨hdf,(if h : vs'.length = 1 then vs'[0] else .tuple vs'.toArray),?_,_,ids.map (bOf nm),rfl,R.below.plain (fun _ => rfl),?_,fun b hb => ?_,fun i j b hi hj => ?_⟩
  ·unfold results
   rw [← Array.toArray_toList (xs := fn.results)]
   simp only [List.mapM_toArray,Sem.run_bind,map_eq_pure_bind]
   erw [hrun]
   simp only [Result.andThen_ok,Sem.run_pure]
   simp
  ·split
   ·rename_i h1
    obtain ⟨v1,rfl⟩ := List.length_eq_one_iff.1 h1
    have hrl : rs.length = 1 := by rw [ho.len,← hvl]; exact h1
    obtain ⟨r,rfl⟩ := List.length_eq_one_iff.1 hrl
    revert hrel
    show R1Rels _ _ [r] [v1] (ids.map (bOf nm)) → _
    generalize ids.map (bOf nm) = bs
    intro hrel
    cases hrel with
    | cons h1 h2 =>
     cases h2
     simp only [List.append_nil] at h1 ⊢
     exact .one h1
   ·rename_i h1
    refine .many ?_ hrel
    rw [ho.len,← hvl]
    exact h1
  ·obtain ⟨id,_,hn⟩ := hbs b hb
   obtain ⟨k1,k2⟩ := R.names _ _ hn
   refine ⟨k1.resolve_right ?_,k2⟩
   intro hmm
   obtain ⟨i,_,hi⟩ := Base.of_M hmm
   cases hi
  ·simp only [List.getElem?_map,Option.map_eq_some_iff] at hi hj
   obtain ⟨x,hx,hxb⟩ := hi
   obtain ⟨y,hy,hyb⟩ := hj
   cases x with
   | none => simp [bOf] at hxb
   | some x =>
    cases y with
    | none => simp [bOf] at hyb
    | some y =>
     have := R.inj _ _ _ hxb hyb
     have e : x = y := by omega
     subst e
     exact nodupO_spec hnd i j x hx hy
 cases e' with
 | normal => obtain rfl : e = .normal := he; exact key hq
 | ret => obtain rfl : e = .ret := he; exact key hq
 | exit id => exact hq.elim
 | pan d => exact hq.elim
theorem FCp_of (hm : P.follows .mixedOrders = true) {f : FuncId} {fn : Func} {C : Code} {c : ACode} {ts : List RV} {ds : List DV} {rs : List R1} {pd : D} (hf : P.funcs[f]? = some fn) (hb : fn.body = some C) (hc : compCode P fn.ntmps C = some c.strip)
  (hl : ds.length ≤ fn.ntmps) (h : AWP P c (RetP ts rs (some pd)) (St.init ds)) : FCp P f ds pd := by
 intro w A0 vs hG hvs
 refine calls_of_wp hf hb ?_
 have hlen := hvs.len
 refine wp_mono (code_sound (df := []) hm c C _ (fun _ => none) (St.init ds) _ w hc h (init_rel fn.ntmps hG hvs) (by simp; omega) rfl) fun e a w' hp => ?_
 obtain ⟨e',nm,σ,he,hq,R,hnt,hdf⟩ := hp
 cases e' with
 | normal => exact hq.elim
 | ret => exact hq.elim
 | exit id => exact hq.elim
 | pan d =>
  obtain ⟨v,rfl,hv⟩ := he
  have e : d = pd := hq
  subst e
  exact ⟨hdf,v,rfl,R.below.plain (fun _ => rfl),hv⟩
end
def XC.ac : XC → AC
 | .d x => .dat x
 | .r j => .own (1099511627776 + j)
def XV.av : XV → AV
 | .sc c => .v (.sc c.ac)
 | .ag cs => .v (.ag (cs.map XC.ac))
def initEnvX : Nat → List XV → List (Nat × AV)
 | _,[] => []
 | k,x :: xs => (k,x.av) :: initEnvX (k + 1) xs
def rowsX0 : Nat → RowL → Rows
 | _,[] => []
 | k,r :: R => (1099511627776 + k,r) :: rowsX0 (k + 1) R
def St.initX (xs : List XV) (R0 : RowL) : St := ⟨initEnvX 0 xs,[],rowsX0 0 R0⟩
theorem find_initX : ∀ (xs : List XV) (k i : Nat),find (initEnvX k xs) i = if k ≤ i then (xs[i - k]?).map XV.av else none
 | [],k,i => by simp [initEnvX,find]
 | x :: xs,k,i => by
  simp only [initEnvX,find]
  by_cases hk : k = i
  ·subst hk; simp
  ·have h' := beq_ff hk
   rw [h',cond_false,find_initX xs (k + 1) i]
   by_cases h1 : k ≤ i
   ·rw [if_pos (by omega),if_pos h1,show i - k = (i - (k + 1)) + 1 by omega]; simp
   ·rw [if_neg (by omega),if_neg h1]
theorem find_rowsX0 : ∀ (R : RowL) (k j : Nat),k ≤ j → find (rowsX0 k R) (1099511627776 + j) = R[j - k]?
 | [],k,j,_ => by simp [rowsX0,find]
 | r :: R,k,j,h => by
  simp only [rowsX0,find]
  by_cases hk : k = j
  ·subst hk; simp
  ·have h' : (1099511627776 + k == 1099511627776 + j) = false := by simpa using hk
   rw [h',cond_false,find_rowsX0 R (k + 1) j (by omega),show j - k = (j - (k + 1)) + 1 by omega]; simp
def RowsOut (σ : St) : Nat → RowL → List (Nat × Nat) → Prop
 | j,row :: R,(k,p) :: ps => ((∃ x,σ.get k = .v x ∧ x.cells[p]? = some (.own (1099511627776 + j))) ∧ find σ.rows (1099511627776 + j) = some row) ∧ RowsOut σ (j + 1) R ps
 | _,[],[] => True
 | _,_,_ => False
theorem RowsOut.there {σ : St} : ∀ {R : RowL} {ps : List (Nat × Nat)} {k j : Nat},RowsOut σ k R ps → j < R.length → ∃ (row : Nat × List (List D)) (l p : Nat) (x : V1),R[j]? = some row ∧ σ.get l = .v x ∧ x.cells[p]? = some (AC.own (1099511627776 + (k + j))) ∧ find σ.rows (1099511627776 + (k + j)) = some row
 | [],ps,_,j,_,h => by simp at h
 | row :: R,[],_,_,h,_ => h.elim
 | row :: R,(l,p) :: ps,k,j,h,hj => by
  obtain ⟨⟨⟨x,h1,h2⟩,h3⟩,h4⟩ := h
  cases j with
  | zero => exact ⟨row,l,p,x,by simp,h1,h2,h3⟩
  | succ j =>
   obtain ⟨row',l',p',x',k1,k2,k3,k4⟩ := RowsOut.there (j := j) h4 (by simpa using hj)
   exact ⟨row',l',p',x',by simpa using k1,k2,by rw [show k + (j + 1) = k + 1 + j by omega]; exact k3,by rw [show k + (j + 1) = k + 1 + j by omega]; exact k4⟩
def RetX (ts : List RV) (r : D) (R1 : RowL) (ps : List (Nat × Nat)) (e : AExit) (σ : St) : Prop :=
 match e with
 | .exit _ => False
 | .pan _ => False
 | _ => OutVs σ ts [.sc (.v r)] ∧ RowsOut σ 0 R1 ps
section
variable {P : Program}
theorem XVRels.get {w : World} {bs : List (Option Nat)} {R : RowL} : ∀ {xs : List XV} {vs : List Value} (i : Nat) {x : XV} {v : Value},XVRels w bs R xs vs → xs[i]? = some x → vs[i]? = some v → XVRel w bs R x v
 | _,_,_,_,_,.nil,hd,_ => by simp at hd
 | _,_,0,_,_,.cons a _,hd,hv => by simp at hd hv; subst hd hv; exact a
 | _,_,i + 1,_,_,.cons _ b,hd,hv => XVRels.get i b (by simpa using hd) (by simpa using hv)
theorem XCRel.crel {w : World} {bs : List (Option Nat)} {R0 : RowL} {xs : List XV} {c : XC} {v : Value} (H : XCRel w bs R0 c v) : CRel (cx (.of fun _ _ => True) (npOf bs) (St.initX xs R0) w) c.ac v := by
 have hf : ∀ j,find (St.initX xs R0).rows (1099511627776 + j) = R0[j]? := fun j => find_rowsX0 R0 0 j (Nat.zero_le _)
 have hn : ∀ (j : Nat) (o : Option Nat),bs[j]? = some o → npOf bs (2 * (1099511627776 + j) + 1) = o := fun j o h => by
  have := npOf_at h
  rwa [show pinI + 2 * j + 1 = 2 * (1099511627776 + j) + 1 by unfold pinI; omega] at this
 cases H with
 | d h => exact .dat (h.mono noView_mono)
 | @nil j sz a0 h1 h2 => exact .ownNil ((hf j).trans h1) (hn j _ h2)
 | @r j sz es b cap len h1 h2 h3 h4 => exact .own ((hf j).trans h1) (hn j _ h2) h3.any h4
theorem XCRels.crels {w : World} {bs : List (Option Nat)} {R0 : RowL} {xs : List XV} : ∀ {cs : List XC} {vs : List Value},XCRels w bs R0 cs vs → CRels (cx (.of fun _ _ => True) (npOf bs) (St.initX xs R0) w) (cs.map XC.ac) vs
 | _,_,.nil => .nil
 | _,_,.cons a b => .cons a.crel b.crels
theorem XVRel.vrel {w : World} {bs : List (Option Nat)} {R0 : RowL} {xs : List XV} {x : XV} {v : Value} (H : XVRel w bs R0 x v) : VRel (cx (.of fun _ _ => True) (npOf bs) (St.initX xs R0) w) x.av v := by
 cases H with
 | sc h => exact .v (.sc h.crel)
 | ag h => exact .v (.ag h.crels)
theorem initX_rel {w : World} {bs : List (Option Nat)} {xs : List XV} {R0 : RowL} {vs : List Value} (nt : Nat) (hinj : ∀ (i j b : Nat),bs[i]? = some (some b) → bs[j]? = some (some b) → i = j) (hlt : ∀ b,some b ∈ bs → b < w.heap.size)
  (hG : ∀ w2,BelowX w.heap.size (.of w (npOf bs)) w2 → GoodW w2) (h : XVRels w bs R0 xs vs) :
  Rel (.of fun _ _ => True) w.heap.size (.of w (npOf bs)) (npOf bs) (St.initX xs R0) (vs.toArray ++ Array.replicate (nt - vs.toArray.size) undef) w := by
 refine ⟨BelowX.start _ _ (fun _ h => h.elim),Nat.le_refl _,Glob.mk1 fun _ _ => trivial,hG,fun i b hi => ?_,fun i j b hi hj => ?_,fun i _ => rfl,fun k => ?_,fun id cs h => by simp [St.initX,find] at h⟩
 ·obtain ⟨j,h1,h2⟩ := npOf_some hi
  exact ⟨.inr (.inl ⟨i,by omega,hi⟩),hlt b (List.mem_of_getElem? h2)⟩
 ·obtain ⟨x,h1,h2⟩ := npOf_some hi
  obtain ⟨y,h3,h4⟩ := npOf_some hj
  have := hinj x y b h2 h4
  omega
 ·unfold St.get
  rw [show (St.initX xs R0).env = initEnvX 0 xs from rfl,find_initX xs 0 k]
  simp only [Nat.zero_le,if_true,Nat.sub_zero]
  cases hd : xs[k]? with
  | none => exact .undef
  | some x =>
   have hk : k < vs.length := by rw [← h.len]; exact (List.getElem?_eq_some_iff.1 hd).1
   have hv : vs[k]? = some (vs[k]'hk) := List.getElem?_eq_getElem hk
   have e : (vs.toArray ++ Array.replicate (nt - vs.toArray.size) undef).getD k undef = vs[k]'hk := by
    rw [Array.getD_eq_getD_getElem?,Array.getElem?_append_left (by simpa using hk)]
    simp [hk]
   rw [e]
   exact (XVRels.get k h hd hv).vrel
theorem FCx_of (hm : P.follows .mixedOrders = true) {f : FuncId} {fn : Func} {C : Code} {c : ACode} {ts : List RV} {xs : List XV} {R0 R1 : RowL} {r : D} {ps : List (Nat × Nat)} (hf : P.funcs[f]? = some fn) (hb : fn.body = some C) (hc : compCode P fn.ntmps C = some c.strip)
  (hr : resC P fn.results.toList = some ts) (hl : xs.length ≤ fn.ntmps) (hlen : R1.length = R0.length) (hrf : r.flat = true) (hR1 : flatRow R1) (h : AWP P c (RetX ts r R1 ps) (St.initX xs R0)) : FCx P f xs R0 R1 r := by
 intro w vs bs hbl hinj hlt hG hvs
 refine calls_of_wp hf hb ?_
 have hlv := hvs.len
 refine wp_mono (code_sound (df := []) hm c C _ (npOf bs) (St.initX xs R0) _ w hc h (initX_rel fn.ntmps hinj hlt hG hvs) (by simp; omega) rfl) fun e a w' hp => ?_
 obtain ⟨e',nm,σ,he,hq,R,hnt,hdf⟩ := hp
 have key : OutVs σ ts [.sc (.v r)] ∧ RowsOut σ 0 R1 ps → a.defers = [] ∧ ∃ v,(results fn a.tmps).run P w' = .ok v w' ∧ ∃ v' : Value,Ending.returned v = .returned v' ∧ BelowX w.heap.size (.of w (npOf bs)) w' ∧ Rep noView r v' ∧
   ∀ (j b : Nat),bs[j]? = some (some b) → ∃ sz es cap,R1[j]? = some (sz,es) ∧ OwnB noView w' b sz cap es := by
  rintro ⟨ho,hro⟩
  obtain ⟨vs',hrun,hvl,hrel⟩ := outVs_rel (P := P) (h' := viewOf (fun _ _ => True) nm w') (f := fun | .tmp t => pure (a.tmps.getD t undef) | .cell c t => do loadVar t (← asAddr (a.tmps.getD c undef))) R (fun _ _ h => h) (fun _ => rfl) (fun _ _ => rfl) hr ho
  have h1 : vs'.length = 1 := by rw [hvl,← ho.len]; rfl
  obtain ⟨v1,rfl⟩ := List.length_eq_one_iff.1 h1
  have hv1 : Rep noView r v1 := by
   generalize List.map (bOf nm) _ = q at hrel
   cases hrel with | cons a b =>
   cases a with | sc a =>
   cases a with | v a => exact a.flat hrf
  refine ⟨hdf,v1,?_,v1,rfl,R.below,hv1,fun j b hj => ?_⟩
  ·unfold results
   rw [← Array.toArray_toList (xs := fn.results)]
   simp only [List.mapM_toArray,Sem.run_bind,map_eq_pure_bind]
   erw [hrun]
   simp only [Result.andThen_ok,Sem.run_pure]
   simp
  ·have hjl : j < R1.length := by rw [hlen,← hbl]; exact (List.getElem?_eq_some_iff.1 hj).1
   obtain ⟨row,l,p,x,k1,k2,k3,k4⟩ := hro.there hjl
   obtain ⟨sz,es⟩ := row
   rw [Nat.zero_add] at k3 k4
   have hv := R.env l
   rw [k2] at hv
   have hy : V1Rel (cx (.of fun _ _ => True) nm σ w') x (a.tmps.getD l undef) := by cases hv with | v H => exact H
   obtain ⟨v,_,hcr⟩ := hy.cells.get k3
   have hpin : nm (2 * (1099511627776 + j) + 1) = some b := by
    have e : pinI + 2 * j + 1 = 2 * (1099511627776 + j) + 1 := by unfold pinI; omega
    rw [← e,R.pin _ (by omega)]
    exact npOf_at hj
   rcases hcr.inv_own k4 with ⟨_,k5,_⟩ | ⟨b',cap,k5,k6,_⟩
   ·rw [show (cx (.of fun _ _ => True) nm σ w').nm = nm from rfl,hpin] at k5; cases k5
   ·rw [show (cx (.of fun _ _ => True) nm σ w').nm = nm from rfl,hpin] at k5
    cases k5
    exact ⟨sz,es,cap,k1,flatOwn k6 fun e he d hd => hR1 _ (List.mem_of_getElem? k1) e he d hd⟩
 cases e' with
 | normal => obtain rfl : e = .normal := he; exact key hq
 | ret => obtain rfl : e = .ret := he; exact key hq
 | exit id => exact hq.elim
 | pan d => exact hq.elim
end
end Go.Vi
