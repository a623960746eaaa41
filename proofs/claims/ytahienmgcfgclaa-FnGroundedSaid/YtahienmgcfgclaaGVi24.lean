/-
  The value level: a function's contract out of 'AWP' of its code. No condition.
-/
import Derived.Test.YtahienmgcfgclaaGVi23
namespace Go.Vi
set_option linter.unusedSimpArgs false
set_option linter.unusedVariables false
def DV.av : DV → AV
 | .sc d => .v (.sc (.dat d))
 | .ag ds => .v (.ag (ds.map .dat))
def A1u : Nat → List DV → List (Nat × AV)
 | _,[] => []
 | k,d :: ds => (k,d.av) :: A1u (k + 1) ds
def St.init (ds : List DV) : St := ⟨A1u 0 ds,[],[]⟩
def C2k (rows : Rows) : AC → RC → Prop
 | .dat d,.v d' => d = d'
 | .nil,.o _ es => es = []
 | .nil,.v d => d = .sl []
 | .own id,.o sz es => A2 rows id = some (sz,es)
 | _,_ => False
def C0i : AC → RC → Option Nat
 | .own id,.o _ _ => some id
 | _,_ => none
def C1f (rows : Rows) : List AC → List RC → Prop
 | [],[] => True
 | c :: cs,r :: rs => C2k rows c r ∧ C1f rows cs rs
 | _,_ => False
def B6o : List AC → List RC → List (Option Nat)
 | c :: cs,r :: rs => C0i c r :: B6o cs rs
 | _,_ => []
def C2b (rows : Rows) : AV → R1 → Prop
 | .v (.sc c),.sc r => C2k rows c r
 | .v (.ag cs),.ag rs => C1f rows cs rs
 | _,_ => False
def B6p : AV → R1 → List (Option Nat)
 | .v (.sc c),.sc r => [C0i c r]
 | .v (.ag cs),.ag rs => B6o cs rs
 | _,_ => []
inductive RV where
 | t (n : Nat)
 | c (a : Nat) (g : Bool) (n : Nat)
instance {n : Nat} : OfNat RV n := ⟨.t n⟩
def A35 (σ : St) : RV → AV
 | .t n => σ.get n
 | .c a g n => (U5 σ g n (σ.get a)).getD .undef
def OutVs (σ : St) : List RV → List R1 → Prop
 | [],[] => True
 | t :: ts,r :: rs => C2b σ.rows (A35 σ t) r ∧ OutVs σ ts rs
 | _,_ => False
def W7 (σ : St) : List RV → List R1 → List (Option Nat)
 | t :: ts,r :: rs => B6p (A35 σ t) r ++ W7 σ ts rs
 | _,_ => []
def A2d : List (Option Nat) → Bool
 | [] => true
 | none :: r => A2d r
 | some i :: r => !r.contains (some i) && A2d r
def B7g (ts : List RV) (rs : List R1) (σ : St) : Prop := OutVs σ ts rs ∧ A2d (W7 σ ts rs) = true
def A29 (P : Program) : List ResultVar → Option (List RV)
 | [] => some []
 | .tmp t :: r => (A29 P r).map (.t t :: ·)
 | .cell a t :: r => match A56 P t,A29 P r with
  | some (g,n),some ts => some (.c a g n :: ts)
  | _,_ => none
def Ret (ts : List RV) (rs : List R1) (e : AExit) (σ : St) : Prop :=
 match e with
 | .exit _ => False
 | .pan _ => False
 | _ => B7g ts rs σ
def C1j (ts : List RV) (rs : List R1) (pd : Option D) (e : AExit) (σ : St) : Prop :=
 match pd,e with
 | none,.normal | none,.ret => B7g ts rs σ
 | some d,.pan d' => d' = d
 | _,_ => False
section
variable {P : Program}
theorem CRels.of_dat {X : Cx} : ∀ {ds : List D} {vs : List Value},Reps X.h ds vs → ds.length = vs.length → CRels X (ds.map .dat) vs
 | [],vs,_,hl => by
  obtain rfl : vs = [] := List.length_eq_zero_iff.1 (by simpa using hl.symm)
  exact .nil
 | _ :: _,_,.cons a b,hl => .cons (.dat a) (CRels.of_dat b (by simpa using hl))
theorem DVRel.vrel {X : Cx} {d : DV} {v : Value} (h : DVRel X.h d v) : VRel X d.av v := by
 cases h with
 | sc hr => exact .v (.sc (.dat hr))
 | ag hr hl => exact .v (.ag (CRels.of_dat hr hl))
theorem DVRels.len {h : View} : ∀ {ds vs},DVRels h ds vs → ds.length = vs.length
 | _,_,.nil => rfl
 | _,_,.cons _ b => by simp [b.len]
theorem DVRels.get {h : View} : ∀ {ds : List DV} {vs : List Value} (i : Nat) {d : DV} {v : Value},DVRels h ds vs → ds[i]? = some d → vs[i]? = some v → DVRel h d v
 | _,_,_,_,_,.nil,hd,_ => by simp at hd
 | _,_,0,_,_,.cons a _,hd,hv => by simp at hd hv; subst hd hv; exact a
 | _,_,i + 1,_,_,.cons _ b,hd,hv => DVRels.get i b (by simpa using hd) (by simpa using hv)
theorem B3c : ∀ (ds : List DV) (k i : Nat),A2 (A1u k ds) i = if k ≤ i then (ds[i - k]?).map DV.av else none
 | [],k,i => by simp [A1u,A2]
 | d :: ds,k,i => by
  simp only [A1u,A2]
  by_cases hk : k = i
  ·subst hk; simp
  ·have h' := U0 hk
   rw [h',cond_false,B3c ds (k + 1) i]
   by_cases h1 : k ≤ i
   ·rw [if_pos (by omega),if_pos h1,show i - k = (i - (k + 1)) + 1 by omega]; simp
   ·rw [if_neg (by omega),if_neg h1]
theorem Glob.mk1 {A : Reg} {B : Nat} {w : World} {np : Names} (h : ∀ b,B ≤ b → A b (0,0)) : Glob (.of A) B (.of w np) :=
 ⟨fun b hb => hb.elim (h b) fun h => h.elim,fun _ _ h => h.elim,fun _ _ h => h.elim,fun _ _ h => h.elim,fun h => by cases h⟩
theorem A6z {w : World} {A0 : Reg} {ds : List DV} {vs : List Value} (nt : Nat) (hG : GoodW w) (h : DVRels (C4 A0 w) ds vs) :
  Rel (.of fun b fr => A0 b fr ∨ (w.heap.size ≤ b ∧ fr = (0,0))) w.heap.size (.of w (fun _ => none)) (fun _ => none) (St.init ds) (vs.toArray ++ Array.replicate (nt - vs.toArray.size) undef) w := by
 refine ⟨BelowX.start _ _ (fun _ h => h.elim),Nat.le_refl _,Glob.mk1 fun b hb => .inr ⟨hb,rfl⟩,fun w2 hb => hG.below (hb.plain fun _ => rfl),fun i b h => (by cases h),fun i j b h => (by cases h),fun i _ => rfl,fun k => ?_,fun id cs h => by simp [St.init,A2] at h⟩
 unfold St.get St.init
 simp only
 rw [B3c ds 0 k]
 simp only [Nat.zero_le,if_true,Nat.sub_zero]
 cases hd : ds[k]? with
 | none => exact .undef
 | some d =>
  have hk : k < vs.length := by rw [← h.len]; exact (List.getElem?_eq_some_iff.1 hd).1
  have hv : vs[k]? = some (vs[k]'hk) := List.getElem?_eq_getElem hk
  have e : (vs.toArray ++ Array.replicate (nt - vs.toArray.size) undef).getD k undef = vs[k]'hk := by
   rw [Array.getD_eq_getD_getElem?,Array.getElem?_append_left (by simpa using hk)]
   simp [hk]
  rw [e]
  have hr := (h.get k hd hv)
  have hh : DVRel (B1 (fun b fr => A0 b fr ∨ (w.heap.size ≤ b ∧ fr = (0,0))) (fun _ => none) w) d (vs[k]'hk) := hr.mono fun b C ⟨c,t,fr,h0,h1,h2⟩ => ⟨fun _ => by simp,c,t,fr,.inl h0,h1,h2⟩
  exact DVRel.vrel (X := cx (.of fun b fr => A0 b fr ∨ (w.heap.size ≤ b ∧ fr = (0,0))) (fun _ => none) (St.init ds) w) hh
section
variable {A : Ar} {nm : Names} {σ : St} {w : World} {h' : View}
def bOf (nm : Names) (o : Option Nat) : Option Nat := o.bind fun id => nm (2 * id + 1)
theorem B7b (hh : ∀ b C,B1 A nm w b C → h' b C) {c : AC} {r : RC} {v : Value} (H : CRel (cx A nm σ w) c v) (ho : C2k σ.rows c r) : RCRel h' w r v (bOf nm (C0i c r)) := by
 cases c <;> cases r <;> simp only [C2k] at ho <;> try exact ho.elim
 case dat.v d d' =>
  subst ho
  cases H with | dat hr => exact .v (hr.mono hh)
 case nil.v d =>
  subst ho
  cases H
  exact .v .nil
 case nil.o sz es =>
  subst ho
  cases H
  exact .nil
 case own.o id sz es =>
  cases H with
  | ownNil h1 h2 =>
   have := (Option.some.inj (h1.symm.trans ho))
   cases this
   show RCRel h' w (.o _ []) _ (nm (2 * id + 1))
   rw [show nm (2 * id + 1) = none from h2]
   exact .nil
  | own h1 h2 h3 h4 =>
   have := (Option.some.inj (h1.symm.trans ho))
   cases this
   show RCRel h' w (.o _ _) _ (nm (2 * id + 1))
   rw [show nm (2 * id + 1) = some _ from h2]
   exact .o (h3.move hh rfl) h4
  | ownDead h1 _ => exact absurd (h1.symm.trans ho) (by simp)
theorem B33 (hh : ∀ b C,B1 A nm w b C → h' b C) : ∀ {cs : List AC} {rs : List RC} {vs : List Value},CRels (cx A nm σ w) cs vs → C1f σ.rows cs rs → RCRels h' w rs vs ((B6o cs rs).map (bOf nm))
 | [],[],_,.nil,_ => .nil
 | [],_ :: _,_,_,h => h.elim
 | _ :: _,[],_,_,h => h.elim
 | _ :: _,_ :: _,_,.cons a b,h => .cons (B7b hh a h.1) (B33 hh b h.2)
theorem B55 (hh : ∀ b C,B1 A nm w b C → h' b C) {av : AV} {r : R1} {v : Value} (H : VRel (cx A nm σ w) av v) (ho : C2b σ.rows av r) : R1Rel h' w r v ((B6p av r).map (bOf nm)) := by
 cases H with
 | undef => cases r <;> exact ho.elim
 | no => cases r <;> exact ho.elim
 | tup => cases r <;> exact ho.elim
 | v hx =>
  cases hx with
  | sc hc =>
   cases r with
   | sc r => exact .sc (B7b hh hc ho)
   | ag rs => exact ho.elim
  | ag hcs =>
   cases r with
   | sc r => exact ho.elim
   | ag rs => exact .ag (B33 hh hcs ho)
theorem A2z {P : Program} {B : Nat} {w0 : Base} {act : Act} (R : Rel A B w0 nm σ act.tmps w) (hh : ∀ b C,B1 A nm w b C → h' b C) {f : ResultVar → Sem Value} (hf : ∀ t,f (.tmp t) = pure (act.tmps.getD t undef))
  (hg : ∀ a t,f (.cell a t) = (do loadVar t (← asAddr (act.tmps.getD a undef)))) : ∀ {vars : List ResultVar} {ts : List RV} {rs : List R1},A29 P vars = some ts → OutVs σ ts rs →
  ∃ vs : List Value,(vars.mapM f).run P w = .ok vs w ∧ vs.length = ts.length ∧ R1Rels h' w rs vs ((W7 σ ts rs).map (bOf nm))
 | [],ts,rs,hc,ho => by
  simp [A29] at hc
  subst hc
  cases rs with
  | nil => exact ⟨[],by simp,rfl,.nil⟩
  | cons => exact ho.elim
 | .tmp t :: r,ts,rs,hc,ho => by
  simp only [A29,Option.map_eq_some_iff] at hc
  obtain ⟨ts',h1,rfl⟩ := hc
  cases rs with
  | nil => exact ho.elim
  | cons r1 rs =>
   obtain ⟨vs,h2,h3,h4⟩ := A2z R hh hf hg h1 ho.2
   refine ⟨act.tmps.getD t undef :: vs,?_,by simp [h3],?_⟩
   ·simp only [List.mapM_cons,hf,Sem.run_bind,Sem.run_pure,Result.andThen_ok,h2]
   ·simp only [W7,List.map_append]
    exact .cons (B55 hh (R.env t) ho.1) h4
 | .cell a t :: r,ts,rs,hc,ho => by
  simp only [A29] at hc
  split at hc
  ·rename_i g n ts' h0 h1
   cases hc
   cases rs with
   | nil => exact ho.elim
   | cons r1 rs =>
    obtain ⟨vs,h2,h3,h4⟩ := A2z R hh hf hg h1 ho.2
    have ho1 : C2b σ.rows ((U5 σ g n (σ.get a)).getD .undef) r1 := ho.1
    cases hl : U5 σ g n (σ.get a) with
    | none => rw [hl] at ho1; cases r1 <;> exact ho1.elim
    | some av =>
     rw [hl] at ho1
     obtain ⟨v,hv,hrel⟩ := B01 (P := P) R h0 (R.env a) hl
     have hv2 : (f (.cell a t)).run P w = .ok v w := by
      rw [hg]
      unfold Instr.loadAt Instr.sureAddr at hv
      unfold asAddr
      revert hv
      cases act.tmps.getD a undef with
      | pointer p => cases p <;> simp
      | _ => simp
     refine ⟨v :: vs,?_,by simp [h3],?_⟩
     ·simp only [List.mapM_cons,Sem.run_bind,hv2,Sem.run_pure,Result.andThen_ok,h2]
     ·simp only [W7,A35,hl,Option.getD_some,List.map_append]
      exact .cons (B55 hh hrel ho1) h4
  ·cases hc
end
theorem A6a : ∀ {l : List (Option Nat)},A2d l = true → ∀ (i j id : Nat),l[i]? = some (some id) → l[j]? = some (some id) → i = j
 | [],_,i,_,_,h1,_ => by simp at h1
 | x :: r,h,0,0,_,_,_ => rfl
 | x :: r,h,i + 1,j + 1,id,h1,h2 => by
  have hr : A2d r = true := by
   cases x with
   | none => exact h
   | some y => simp only [A2d,Bool.and_eq_true] at h; exact h.2
  have := A6a hr i j id (by simpa using h1) (by simpa using h2)
  omega
 | x :: r,h,0,j + 1,id,h1,h2 => by
  simp at h1 h2
  subst h1
  simp only [A2d,Bool.and_eq_true,Bool.not_eq_true',List.contains_eq_mem,decide_eq_false_iff_not] at h
  exact absurd (List.mem_of_getElem? h2) h.1
 | x :: r,h,i + 1,0,id,h1,h2 => by
  simp at h1 h2
  subst h2
  simp only [A2d,Bool.and_eq_true,Bool.not_eq_true',List.contains_eq_mem,decide_eq_false_iff_not] at h
  exact absurd (List.mem_of_getElem? h1) h.1
theorem OutVs.len {σ : St} : ∀ {ts : List RV} {rs : List R1},OutVs σ ts rs → rs.length = ts.length
 | [],[],_ => rfl
 | [],_ :: _,h => h.elim
 | _ :: _,[],h => h.elim
 | _ :: _,_ :: _,h => by simp [OutVs.len h.2]
theorem D8z (hm : P.follows .mixedOrders = true) {f : FuncId} {fn : Func} {C : Code} {c : ACode} {ts : List RV} {ds : List DV} {rs : List R1} (hf : P.funcs[f]? = some fn) (hb : fn.body = some C) (hc : D7 P fn.ntmps C = some c.strip)
  (hr : A29 P fn.results.toList = some ts) (hl : ds.length ≤ fn.ntmps) (h : AWP P c (Ret ts rs) (St.init ds)) : FC P f ds rs := by
 intro w A0 vs hG hvs
 refine calls_of_wp hf hb ?_
 have hlen := hvs.len
 refine wp_mono (Z0 (df := []) hm c C _ (fun _ => none) (St.init ds) _ w hc h (A6z fn.ntmps hG hvs) (by simp; omega) rfl) fun e a w' hp => ?_
 obtain ⟨e',nm,σ,he,hq,R,hnt,hdf⟩ := hp
 have key : B7g ts rs σ → a.defers = [] ∧ ∃ v,(results fn a.tmps).run P w' = .ok v w' ∧ ∃ (v' : Value) (bs : List (Option Nat)),Ending.returned v = .returned v' ∧ RowKit.Below w.heap.size w w' ∧
   RRel (C4 (fun b fr => some b ∉ bs ∧ ((w.heap.size ≤ b ∧ fr = (0,0)) ∨ A0 b fr)) w') w' rs v' bs ∧ (∀ b,some b ∈ bs → w.heap.size ≤ b ∧ b < w'.heap.size) ∧ (∀ (i j b : Nat),bs[i]? = some (some b) → bs[j]? = some (some b) → i = j) := by
  rintro ⟨ho,hnd⟩
  let ids := W7 σ ts rs
  have hbs : ∀ b,some b ∈ ids.map (bOf nm) → ∃ id,some id ∈ ids ∧ nm (2 * id + 1) = some b := by
   intro b hb
   obtain ⟨o,ho,hb⟩ := List.mem_map.1 hb
   cases o with
   | none => simp [bOf] at hb
   | some id => exact ⟨id,ho,hb⟩
  have hview : ∀ b C,B1 (fun b fr => A0 b fr ∨ (w.heap.size ≤ b ∧ fr = (0,0))) nm w' b C → C4 (fun b fr => some b ∉ ids.map (bOf nm) ∧ ((w.heap.size ≤ b ∧ fr = (0,0)) ∨ A0 b fr)) w' b C := by
   rintro b C ⟨h1,c,t,fr,h2,h3⟩
   refine ⟨c,t,fr,⟨fun hb => ?_,h2.symm⟩,h3⟩
   obtain ⟨id,_,hn⟩ := hbs b hb
   exact h1 _ hn
  obtain ⟨vs',hrun,hvl,hrel⟩ := A2z (P := P) (f := fun | .tmp t => pure (a.tmps.getD t undef) | .cell c t => do loadVar t (← asAddr (a.tmps.getD c undef))) R hview (fun _ => rfl) (fun _ _ => rfl) hr ho
  refine ⟨hdf,(if h : vs'.length = 1 then vs'[0] else .tuple vs'.toArray),?_,_,ids.map (bOf nm),rfl,R.below.plain (fun _ => rfl),?_,fun b hb => ?_,fun i j b hi hj => ?_⟩
  ·unfold results
   rw [← Array.toArray_toList (xs := fn.results)]
   simp only [List.mapM_toArray,Sem.run_bind,map_eq_pure_bind]
   erw [hrun]
   simp only [Result.andThen_ok,Sem.run_pure]
   simp
  ·split
   ·rename_i h1
    obtain ⟨v1,rfl⟩ := List.length_eq_one_iff.1 h1
    have hrl : rs.length = 1 := by rw [ho.len,← hvl]; exact h1
    obtain ⟨r,rfl⟩ := List.length_eq_one_iff.1 hrl
    revert hrel
    show R1Rels _ _ [r] [v1] (ids.map (bOf nm)) → _
    generalize ids.map (bOf nm) = bs
    intro hrel
    cases hrel with
    | cons h1 h2 =>
     cases h2
     simp only [List.append_nil] at h1 ⊢
     exact .one h1
   ·rename_i h1
    refine .many ?_ hrel
    rw [ho.len,← hvl]
    exact h1
  ·obtain ⟨id,_,hn⟩ := hbs b hb
   obtain ⟨k1,k2⟩ := R.names _ _ hn
   refine ⟨k1.resolve_right ?_,k2⟩
   intro hmm
   obtain ⟨i,_,hi⟩ := Base.of_M hmm
   cases hi
  ·simp only [List.getElem?_map,Option.map_eq_some_iff] at hi hj
   obtain ⟨x,hx,hxb⟩ := hi
   obtain ⟨y,hy,hyb⟩ := hj
   cases x with
   | none => simp [bOf] at hxb
   | some x =>
    cases y with
    | none => simp [bOf] at hyb
    | some y =>
     have := R.inj _ _ _ hxb hyb
     have e : x = y := by omega
     subst e
     exact A6a hnd i j x hx hy
 cases e' with
 | normal => obtain rfl : e = .normal := he; exact key hq
 | ret => obtain rfl : e = .ret := he; exact key hq
 | exit id => exact hq.elim
 | pan d => exact hq.elim
theorem D5l (hm : P.follows .mixedOrders = true) {f : FuncId} {fn : Func} {C : Code} {c : ACode} {ts : List RV} {ds : List DV} {rs : List R1} {pd : D} (hf : P.funcs[f]? = some fn) (hb : fn.body = some C) (hc : D7 P fn.ntmps C = some c.strip)
  (hl : ds.length ≤ fn.ntmps) (h : AWP P c (C1j ts rs (some pd)) (St.init ds)) : FCp P f ds pd := by
 intro w A0 vs hG hvs
 refine calls_of_wp hf hb ?_
 have hlen := hvs.len
 refine wp_mono (Z0 (df := []) hm c C _ (fun _ => none) (St.init ds) _ w hc h (A6z fn.ntmps hG hvs) (by simp; omega) rfl) fun e a w' hp => ?_
 obtain ⟨e',nm,σ,he,hq,R,hnt,hdf⟩ := hp
 cases e' with
 | normal => exact hq.elim
 | ret => exact hq.elim
 | exit id => exact hq.elim
 | pan d =>
  obtain ⟨v,rfl,hv⟩ := he
  have e : d = pd := hq
  subst e
  exact ⟨hdf,v,rfl,R.below.plain (fun _ => rfl),hv⟩
end
def XC.ac : XC → AC
 | .d x => .dat x
 | .r j => .own (1099511627776 + j)
def XV.av : XV → AV
 | .sc c => .v (.sc c.ac)
 | .ag cs => .v (.ag (cs.map XC.ac))
def B7p : Nat → List XV → List (Nat × AV)
 | _,[] => []
 | k,x :: xs => (k,x.av) :: B7p (k + 1) xs
def A8n : Nat → RowL → Rows
 | _,[] => []
 | k,r :: R => (1099511627776 + k,r) :: A8n (k + 1) R
def St.initX (xs : List XV) (R0 : RowL) : St := ⟨B7p 0 xs,[],A8n 0 R0⟩
theorem A9r : ∀ (R : RowL) (k j : Nat),k ≤ j → A2 (A8n k R) (1099511627776 + j) = R[j - k]?
 | [],k,j,_ => by simp [A8n,A2]
 | r :: R,k,j,h => by
  simp only [A8n,A2]
  by_cases hk : k = j
  ·subst hk; simp
  ·have h' : (1099511627776 + k == 1099511627776 + j) = false := by simpa using hk
   rw [h',cond_false,A9r R (k + 1) j (by omega),show j - k = (j - (k + 1)) + 1 by omega]; simp
def RowsOut (σ : St) : Nat → RowL → List (Nat × Nat) → Prop
 | j,row :: R,(k,p) :: ps => ((∃ x,σ.get k = .v x ∧ x.cells[p]? = some (.own (1099511627776 + j))) ∧ A2 σ.rows (1099511627776 + j) = some row) ∧ RowsOut σ (j + 1) R ps
 | _,[],[] => True
 | _,_,_ => False
theorem RowsOut.there {σ : St} : ∀ {R : RowL} {ps : List (Nat × Nat)} {k j : Nat},RowsOut σ k R ps → j < R.length → ∃ (row : Nat × List (List D)) (l p : Nat) (x : V1),R[j]? = some row ∧ σ.get l = .v x ∧ x.cells[p]? = some (AC.own (1099511627776 + (k + j))) ∧ A2 σ.rows (1099511627776 + (k + j)) = some row
 | [],ps,_,j,_,h => by simp at h
 | row :: R,[],_,_,h,_ => h.elim
 | row :: R,(l,p) :: ps,k,j,h,hj => by
  obtain ⟨⟨⟨x,h1,h2⟩,h3⟩,h4⟩ := h
  cases j with
  | zero => exact ⟨row,l,p,x,by simp,h1,h2,h3⟩
  | succ j =>
   obtain ⟨row',l',p',x',k1,k2,k3,k4⟩ := RowsOut.there (j := j) h4 (by simpa using hj)
   exact ⟨row',l',p',x',by simpa using k1,k2,by rw [show k + (j + 1) = k + 1 + j by omega]; exact k3,by rw [show k + (j + 1) = k + 1 + j by omega]; exact k4⟩
section
variable {P : Program}
theorem XVRels.get {w : World} {bs : List (Option Nat)} {R : RowL} : ∀ {xs : List XV} {vs : List Value} (i : Nat) {x : XV} {v : Value},XVRels w bs R xs vs → xs[i]? = some x → vs[i]? = some v → XVRel w bs R x v
 | _,_,_,_,_,.nil,hd,_ => by simp at hd
 | _,_,0,_,_,.cons a _,hd,hv => by simp at hd hv; subst hd hv; exact a
 | _,_,i + 1,_,_,.cons _ b,hd,hv => XVRels.get i b (by simpa using hd) (by simpa using hv)
theorem XCRel.crel {w : World} {bs : List (Option Nat)} {R0 : RowL} {xs : List XV} {c : XC} {v : Value} (H : XCRel w bs R0 c v) : CRel (cx (.of fun _ _ => True) (A3d bs) (St.initX xs R0) w) c.ac v := by
 have hf : ∀ j,A2 (St.initX xs R0).rows (1099511627776 + j) = R0[j]? := fun j => A9r R0 0 j (Nat.zero_le _)
 have hn : ∀ (j : Nat) (o : Option Nat),bs[j]? = some o → A3d bs (2 * (1099511627776 + j) + 1) = o := fun j o h => by
  have := B9b h
  rwa [show H2 + 2 * j + 1 = 2 * (1099511627776 + j) + 1 by unfold H2; omega] at this
 cases H with
 | d h => exact .dat (h.mono A2c)
 | @nil j sz a0 h1 h2 => exact .ownNil ((hf j).trans h1) (hn j _ h2)
 | @r j sz es b cap len h1 h2 h3 h4 => exact .own ((hf j).trans h1) (hn j _ h2) h3.any h4
theorem XCRels.crels {w : World} {bs : List (Option Nat)} {R0 : RowL} {xs : List XV} : ∀ {cs : List XC} {vs : List Value},XCRels w bs R0 cs vs → CRels (cx (.of fun _ _ => True) (A3d bs) (St.initX xs R0) w) (cs.map XC.ac) vs
 | _,_,.nil => .nil
 | _,_,.cons a b => .cons a.crel b.crels
theorem XVRel.vrel {w : World} {bs : List (Option Nat)} {R0 : RowL} {xs : List XV} {x : XV} {v : Value} (H : XVRel w bs R0 x v) : VRel (cx (.of fun _ _ => True) (A3d bs) (St.initX xs R0) w) x.av v := by
 cases H with
 | sc h => exact .v (.sc h.crel)
 | ag h => exact .v (.ag h.crels)
end
end Go.Vi
