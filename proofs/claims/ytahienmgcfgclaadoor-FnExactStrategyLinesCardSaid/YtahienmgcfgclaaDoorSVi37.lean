/-
  The value level: functions that write to all that they are handed, and their calls. No condition.
-/
import Derived.Test.YtahienmgcfgclaaDoorSVi36
namespace Go.Vi
set_option linter.unusedSimpArgs false
set_option linter.unusedVariables false
set_option linter.defProp false
inductive DVS (h : View) : DV → Value → Prop
 | sc {d v} : RepS h d v → DVS h (.sc d) v
 | ag {ds vs} : RepSs h ds vs → ds.length = vs.length → DVS h (.ag ds) (.agg vs.toArray)
inductive VV where
 | d (x : D)
 | v (x : DV)
inductive VVRel (h : View) : VV → Value → Prop
 | d {x v} : Rep noView x v → VVRel h (.d x) v
 | v {x v} : DVS h x v → VVRel h (.v x) v
inductive VVRels (h : View) : List VV → List Value → Prop
 | nil : VVRels h [] []
 | cons {x v xs vs} : VVRel h x v → VVRels h xs vs → VVRels h (x :: xs) (v :: vs)
theorem VVRels.len {h : View} : ∀ {xs vs},VVRels h xs vs → xs.length = vs.length
 | _,_,.nil => rfl
 | _,_,.cons _ b => by simp [b.len]
theorem VVRels.get {h : View} : ∀ {xs : List VV} {vs : List Value} (i : Nat) {x : VV} {v : Value},VVRels h xs vs → xs[i]? = some x → vs[i]? = some v → VVRel h x v
 | _,_,_,_,_,.nil,hd,_ => by simp at hd
 | _,_,0,_,_,.cons a _,hd,hv => by simp at hd hv; subst hd hv; exact a
 | _,_,i + 1,_,_,.cons _ b,hd,hv => VVRels.get i b (by simpa using hd) (by simpa using hv)
def fr0 (A : Reg) : Reg := fun b fr => A b fr ∧ fr = (0,0)
def baseV (w : World) (A : Reg) : Base := ⟨w,fun _ => none,fun _ => False,fun _ h => h.elim,fun b => A b (0,0) ∧ ∃ c t,w.heap[b]? = some (.cells c t (0,0)),fun b _ h => h.elim (fun ⟨i,_,e⟩ => by cases e) fun h => h⟩
theorem baseV_M {w : World} {A : Reg} {b : Nat} (h : (baseV w A).M b) : False := h.elim (fun ⟨i,_,e⟩ => by cases e) fun h => h
def FCd (P : Program) (f : FuncId) (xs : List VV) (r : D) : Prop :=
 ∀ (w : World) (A : Reg) (vs : List Value),(∀ w2,BelowX w.heap.size (baseV w A) w2 → GoodW w2) → VVRels (viewIn (fr0 A) w) xs vs → Calls P f vs.toArray w fun e w' =>
  ∃ v,e = .returned v ∧ Rep noView r v ∧ BelowX w.heap.size (baseV w A) w'
def VV.av : VV → AV
 | VV.d x => .v (.sc (.dat x))
 | VV.v (DV.sc y) => .v (.sc (.vol y))
 | VV.v (DV.ag ys) => .v (.ag (ys.map .vol))
def initEnvV : Nat → List VV → List (Nat × AV)
 | _,[] => []
 | k,x :: xs => (k,x.av) :: initEnvV (k + 1) xs
def St.initV (xs : List VV) : St := ⟨initEnvV 0 xs,[],[]⟩
theorem find_initV : ∀ (ds : List VV) (k i : Nat),find (initEnvV k ds) i = if k ≤ i then (ds[i - k]?).map VV.av else none
 | [],k,i => by simp [initEnvV,find]
 | d :: ds,k,i => by
  simp only [initEnvV,find]
  by_cases hk : k = i
  ·subst hk; simp
  ·have h' : (k == i) = false := by simpa using hk
   rw [h',cond_false,find_initV ds (k + 1) i]
   by_cases h1 : k ≤ i
   ·rw [if_pos (by omega),if_pos h1,show i - k = (i - (k + 1)) + 1 by omega]; simp
   ·rw [if_neg (by omega),if_neg h1]
def arV (w : World) (A0 : Reg) : Ar := ⟨fun b fr => w.heap.size ≤ b ∧ fr = (0,0),noView,viewIn (fr0 A0) w,false⟩
theorem globV (w : World) (A0 : Reg) : Glob (arV w A0) w.heap.size (baseV w A0) := by
 refine ⟨fun b hb => hb.elim (fun h => ⟨h,rfl⟩) fun h => h.elim,fun _ _ h => h.elim,fun b C h => ?_,fun b fr hv h => ?_,fun h => by cases h⟩
 ·obtain ⟨c,t,fr,⟨h1,rfl⟩,h2,h3⟩ := h
  exact ⟨⟨h1,c,t,h2⟩,c,t,_,h2,h3,rfl⟩
 ·obtain ⟨_,c,t,h2⟩ := hv
  have := lt_of_get h2
  have := h.1
  omega
theorem volCs_rel {X : Cx} : ∀ {ds : List D} {vs : List Value},RepSs X.v ds vs → ds.length = vs.length → CRels X (ds.map .vol) vs
 | [],vs,_,hl => by
  obtain rfl : vs = [] := List.length_eq_zero_iff.1 (by simpa using hl.symm)
  exact .nil
 | _,_,.cons a b,hl => .cons (.vol a .same) (volCs_rel b (by simpa using hl))
theorem initV_rel {w : World} {A0 : Reg} {xs : List VV} {vs : List Value} (nt : Nat) (hG : ∀ w2,BelowX w.heap.size (baseV w A0) w2 → GoodW w2) (h : VVRels (viewIn (fr0 A0) w) xs vs) :
  Rel (arV w A0) w.heap.size (baseV w A0) (fun _ => none) (St.initV xs) (vs.toArray ++ Array.replicate (nt - vs.toArray.size) undef) w := by
 refine ⟨BelowX.start _ _ (fun _ ⟨_,_,_,h⟩ => lt_of_get h),Nat.le_refl _,globV w A0,hG,fun i b h => (by cases h),fun i j b h => (by cases h),fun i _ => rfl,fun k => ?_,fun id cs h => by simp [St.initV,find] at h⟩
 unfold St.get
 rw [show (St.initV xs).env = initEnvV 0 xs from rfl,find_initV xs 0 k]
 simp only [Nat.zero_le,if_true,Nat.sub_zero]
 cases hd : xs[k]? with
 | none => exact .undef
 | some x =>
  have hk : k < vs.length := by rw [← h.len]; exact (List.getElem?_eq_some_iff.1 hd).1
  have hv : vs[k]? = some (vs[k]'hk) := List.getElem?_eq_getElem hk
  have e : (vs.toArray ++ Array.replicate (nt - vs.toArray.size) undef).getD k undef = vs[k]'hk := by
   rw [Array.getD_eq_getD_getElem?,Array.getElem?_append_left (by simpa using hk)]
   simp [hk]
  rw [e]
  have hr := VVRels.get k h hd hv
  revert hr
  generalize vs[k]'hk = z
  intro hr
  cases hr with
  | d hr => exact VRel.v (V1Rel.sc (CRel.dat (hr.mono noView_mono)))
  | v hr =>
   cases hr with
   | sc hr => exact VRel.v (V1Rel.sc (CRel.vol (X := cx (arV w A0) (fun _ => none) (St.initV xs) w) hr .same))
   | ag hr hl => exact VRel.v (V1Rel.ag (volCs_rel (X := cx (arV w A0) (fun _ => none) (St.initV xs) w) hr hl))
def RetV (ts : List RV) (r : D) (e : AExit) (σ : St) : Prop :=
 match e with
 | .exit _ => False
 | .pan _ => False
 | _ => OutVs σ ts [.sc (.v r)]
section
variable {P : Program}
theorem FCd_at (hm : P.follows .mixedOrders = true) {f : FuncId} {c : ACode} {ts : List RV} {nt : Nat} {xs : List VV} {r : D} (he : entry P f = some (c.strip,ts,nt)) (hl : xs.length ≤ nt) (hrf : r.flat = true) (h : AWP P c (RetV ts r) (St.initV xs)) : FCd P f xs r := by
 unfold entry at he
 split at he
 ·rename_i fn hf
  split at he
  ·rename_i C ts' hb hr
   simp only [Option.map_eq_some_iff] at he
   obtain ⟨c',hc,e⟩ := he
   cases e
   intro w A0 vs hG hvs
   refine calls_of_wp hf hb ?_
   have hlv := hvs.len
   refine wp_mono (code_sound (df := []) hm c C _ (fun _ => none) (St.initV xs) _ w hc h (initV_rel fn.ntmps hG hvs) (by simp; omega) rfl) fun e a w' hq => ?_
   obtain ⟨e',nm,σ,he,hq,R,hnt,hdf⟩ := hq
   have key : OutVs σ ts [.sc (.v r)] → a.defers = [] ∧ ∃ v,(results fn a.tmps).run P w' = .ok v w' ∧ ∃ v',Ending.returned v = .returned v' ∧ Rep noView r v' ∧ BelowX w.heap.size (baseV w A0) w' := by
    intro ho
    obtain ⟨v,rb,hrun,hrel⟩ := results_run R (fun _ _ h => h) hr ho
    refine ⟨hdf,v,hrun,v,rfl,?_,R.below⟩
    cases hrel with
    | one hrel =>
     cases hrel with | sc hrel =>
     cases hrel with | v hrel => exact hrel.flat hrf
    | many h => simp at h
   cases e' with
   | normal => obtain rfl : e = .normal := he; exact key hq
   | ret => obtain rfl : e = .ret := he; exact key hq
   | exit id => exact hq.elim
   | pan d => exact hq.elim
  ·cases he
 ·cases he
theorem FCd_go (hm : P.follows .mixedOrders = true) {f nt : Nat} {c : ACode} {ts : List RV} {xs : List VV} {r : D} {σ : St} (he : entry P f = some (c.strip,ts,nt)) (hl : Nat.ble xs.length nt = true) (hrf : r.flat = true) (hσ : St.initV xs = σ)
  (h : go P [.code c] (RetV ts r) .normal (some σ)) : FCd P f xs r := FCd_at hm he (Nat.le_of_ble_eq_true hl) hrf (hσ ▸ go_start h)
end
def volDs : List AC → Option (List D)
 | [] => some []
 | .vol d :: cs => (volDs cs).map (d :: ·)
 | _ => none
def toVV : AV → Option VV
 | .v (.sc (.dat d)) => bif d.flat then some (.d d) else none
 | .v (.sc (.vol d)) => some (.v (.sc d))
 | .v (.ag cs) => (volDs cs).map fun ds => .v (.ag ds)
 | _ => none
def toVVs : List AV → Option (List VV)
 | [] => some []
 | a :: r => match toVV a,toVVs r with
  | some x,some xs => some (x :: xs)
  | _,_ => none
section
variable {P : Program} {A : Ar} {B : Nat} {w0 : Base} {w : World} {nm : Names} {σ : St} {tmps : Array Value}
def regV (A : Ar) : Reg := fun b _ => ∃ C,A.v b C
theorem Rel.volMove (R : Rel A B w0 nm σ tmps w) : ∀ b C,A.v b C → ∃ C',viewIn (fr0 (regV A)) w b C' ∧ ShL C C' := fun b C hC => by
 obtain ⟨c,t,fr,h1,h2,h3,_⟩ := R.volAt hC
 exact ⟨c.toList,⟨c,t,fr,⟨⟨C,hC⟩,h3⟩,h1,rfl⟩,h2⟩
theorem volDs_rel {h' : View} {X : Cx} (hh : ∀ b C,X.v b C → ∃ C',h' b C' ∧ ShL C C') : ∀ {cs : List AC} {vs : List Value} {ds : List D},CRels X cs vs → volDs cs = some ds → RepSs h' ds vs ∧ ds.length = vs.length
 | [],_,ds,.nil,h => by simp [volDs] at h; subst h; exact ⟨.nil,rfl⟩
 | c :: cs,_,ds,.cons a b,h => by
  cases c <;> simp [volDs] at h
  obtain ⟨ds',h1,rfl⟩ := h
  obtain ⟨k1,k2⟩ := volDs_rel hh b h1
  cases a with | vol p q => exact ⟨.cons (p.move hh q) k1,by simp [k2]⟩
theorem toVV_rel (R : Rel A B w0 nm σ tmps w) {av : AV} {v : Value} {x : VV} (H : VRel (cx A nm σ w) av v) (h : toVV av = some x) : VVRel (viewIn (fr0 (regV A)) w) x v := by
 unfold toVV at h
 split at h
 ·rename_i d
  cases hf : d.flat with
  | false => rw [hf] at h; cases h
  | true =>
   rw [hf] at h
   cases h
   exact .d (H.inv_sc.inv_dat.flat hf)
 ·cases h
  have hc := H.inv_sc
  cases hc with | vol p q => exact .v (.sc (p.move R.volMove q))
 ·simp only [Option.map_eq_some_iff] at h
  obtain ⟨ds,h1,rfl⟩ := h
  obtain ⟨vs,rfl,hcs⟩ := H.inv_ag
  obtain ⟨k1,k2⟩ := volDs_rel (X := cx A nm σ w) R.volMove hcs h1
  exact .v (.ag k1 k2)
 ·cases h
theorem toVVs_rel (R : Rel A B w0 nm σ tmps w) : ∀ {avs : List AV} {vs : List Value} {xs : List VV},VsRel (cx A nm σ w) avs vs → toVVs avs = some xs → VVRels (viewIn (fr0 (regV A)) w) xs vs
 | [],vs,xs,H,h => by
  simp [toVVs] at h
  subst h
  obtain rfl : vs = [] := List.length_eq_zero_iff.1 H.1.symm
  exact .nil
 | a :: avs,vs,xs,H,h => by
  unfold toVVs at h
  split at h
  ·rename_i x xs' h1 h2
   cases h
   cases vs with
   | nil => have := H.1; simp at this
   | cons v vs =>
    exact .cons (toVV_rel R (H.2 0 a v rfl rfl) h1) (toVVs_rel R ⟨by have := H.1; simpa using this,fun i u v hu hv => H.2 (i + 1) u v (by simpa using hu) (by simpa using hv)⟩ h2)
  ·cases h
theorem FCd.callC {f : FuncId} {xs : List VV} {r : D} (H : FCd P f xs r) {avs : List AV} (hx : toVVs avs = some xs) : CallC P f avs σ σ (.v (.sc (.dat r))) := by
 intro A B w0 w nm tmps vs R hvs
 have after : ∀ w2,BelowX w.heap.size (baseV w (regV A)) w2 → BelowX B w0 w2 := fun w2 h => R.below.afterZ rfl h R.size R.there (fun b hb => (baseV_M hb).elim) fun b ⟨⟨C,hC⟩,_⟩ => .inr (R.all.vol b C hC).1
 refine (H w (regV A) vs (fun w2 h => R.good w2 (after w2 h)) (toVVs_rel R hvs hx)).mono fun e w' h => ?_
 obtain ⟨v,rfl,hv,hb⟩ := h
 have hsame : ∀ b,b < w.heap.size → ¬ w0.vv b → w'.heap[b]? = w.heap[b]? := fun b hlt hn => hb.block b hlt (fun h => baseV_M h) fun ⟨⟨C,hC⟩,_⟩ => hn (R.all.vol b C hC).1
 have hnm : ∀ i b,nm i = some b → ¬ w0.vv b := fun i b hi hv => by
  rcases (R.names i b hi).1 with h1 | h1
  ·have := R.below.vlt b hv; omega
  ·exact w0.no b hv h1
 have hview : ∀ b C,viewOf A nm w b C → viewOf A nm w' b C := by
  rintro b C ⟨h1,c,t,fr,hA,h2,h3⟩
  exact ⟨h1,c,t,fr,hA,(hsame b (lt_of_get h2) fun hv => R.all.vout b fr hv hA).trans h2,h3⟩
 refine ⟨v,nm,rfl,?_,.v (.sc (.dat (hv.mono noView_mono)))⟩
 refine R.carry (f := fun c => c) (after w' hb) (Nat.le_trans R.size hb.size) (fun i b hi => ?_) R.inj (fun _ _ => rfl) (fun k => by rw [AV.mapId]) (fun id => by simp) (fun id cs _ b hbn => ⟨hbn,hsame b (R.names _ _ hbn).2 (hnm _ _ hbn)⟩) (fun c v _ hr => ?_)
 ·obtain ⟨h1,h2⟩ := R.names i b hi
  exact ⟨h1,Nat.lt_of_lt_of_le h2 hb.size⟩
 ·exact hr.move hview (fun id _ => .inr ⟨rfl,rfl,fun b hbn => hsame b (R.names _ _ hbn).2 (hnm _ _ hbn)⟩) (fun id _ b hbn => hbn)
theorem go_calld {k : List Fr} {Q : AExit → St → Prop} {its : List AItem} {d f : Nat} {args : List Opd} {xs : List VV} {r : D} (hf : FCd P f xs r) (hx : toVVs (args.map σ.val) = some xs)
  (h : go P (.ops its :: k) Q .normal (some (σ.set d (.v (.sc (.dat r)))))) : go P (.ops ((none,.call d f args) :: its) :: k) Q .normal (some σ) := go_callc (hf.callC hx) h
end
def AC.wipe : AC → AC
 | .dat d => bif d.fl then .dat d else .undef
 | c => c
def AC.isOld : AC → Bool
 | .old _ => true
 | _ => false
def toVW : AV → Option VV
 | .v (.sc (.dat d)) => bif d.flat then some (.d d) else some (.v (.sc d))
 | .v (.ag cs) => (toIs cs).map fun ds => .v (.ag ds)
 | _ => none
def toVWs : List AV → Option (List VV)
 | [] => some []
 | a :: r => match toVW a,toVWs r with
  | some x,some xs => some (x :: xs)
  | _,_ => none
def flatRows (rs : Rows) : Prop := ∀ p ∈ rs,∀ e ∈ p.2.2,∀ d ∈ e,d.flat = true
theorem flatRows_nil : flatRows [] := fun p hp => by cases hp
theorem flatRows_cons {α : Type} {row : α → List D} [FlatRow row] {id sz : Nat} {xs : List α} {rs : Rows} (h : flatRows rs) : flatRows ((id,sz,List.map row xs) :: rs) := fun p hp => by
 rcases List.mem_cons.1 hp with rfl | hp
 ·intro e he d hd
  obtain ⟨x,_,rfl⟩ := List.mem_map.1 he
  exact FlatRow.flat x d hd
 ·exact h p hp
section
variable {P : Program} {A : Ar} {B : Nat} {w0 : Base} {w : World} {nm : Names} {σ : St} {tmps : Array Value}
def regW (A : Ar) (nm : Names) : Reg := fun b fr => (∀ i,nm i ≠ some b) ∧ A b fr
theorem Rel.isNew (R : Rel A B w0 nm σ tmps w) {k : Nat} (h : (σ.get k).cells.any AC.isOld = true) : A.new = true := by
 have H := R.env k
 obtain ⟨c,hc,ho⟩ := List.any_eq_true.1 h
 cases c <;> simp [AC.isOld] at ho
 rename_i d
 have key : ∀ {cs : List AC} {vs : List Value},CRels (cx A nm σ w) cs vs → .old d ∈ cs → A.new = true := by
  intro cs vs h
  induction h with
  | nil => intro hm; cases hm
  | cons a b ih =>
   intro hm
   rcases List.mem_cons.1 hm with rfl | hm
   ·cases a with | old hn _ => exact hn
   ·exact ih hm
 have key1 : ∀ {x : V1} {v : Value},V1Rel (cx A nm σ w) x v → .old d ∈ x.cells → A.new = true := by
  intro x v h hm
  cases h with
  | sc h => exact key (.cons h .nil) hm
  | ag h => exact key h hm
 have key2 : ∀ {l : List V1} {vs : List Value},V1Rels (cx A nm σ w) l vs → .old d ∈ l.flatMap V1.cells → A.new = true := by
  intro l vs h
  induction h with
  | nil => intro hm; simp at hm
  | cons a b ih =>
   intro hm
   simp only [List.flatMap_cons,List.mem_append] at hm
   exact hm.elim (key1 a) ih
 revert H hc
 generalize tmps.getD k undef = v
 generalize σ.get k = av
 intro H hc
 cases H with
 | undef => simp [AV.cells] at hc
 | no => simp [AV.cells] at hc
 | v H => exact key1 H hc
 | tup H => exact key2 H hc
theorem Rel.isNewB (R : Rel A B w0 nm σ tmps w) {id : Nat} {cs : List AC} (hf : find σ.bx id = some cs) (h : cs.any AC.isOld = true) : A.new = true := by
 obtain ⟨b,C,t,_,_,H⟩ := R.bxs id cs hf
 obtain ⟨c,hc,ho⟩ := List.any_eq_true.1 h
 cases c <;> simp [AC.isOld] at ho
 rename_i d
 have key : ∀ {cs : List AC} {vs : List Value},CRels (cx A nm σ w) cs vs → .old d ∈ cs → A.new = true := by
  intro cs vs h
  induction h with
  | nil => intro hm; cases hm
  | cons a b ih =>
   intro hm
   rcases List.mem_cons.1 hm with rfl | hm
   ·cases a with | old hn _ => exact hn
   ·exact ih hm
 exact key H hc
theorem Rel.newMove (R : Rel A B w0 nm σ tmps w) (hn : A.new = true) : ∀ b C,viewOf A nm w b C → ∃ C',viewIn (fr0 (regW A nm)) w b C' ∧ ShL C C' := by
 rintro b C ⟨h1,c,t,fr,hA,h2,h3⟩
 exact ⟨C,⟨c,t,fr,⟨⟨h1,hA⟩,(R.all.new hn b fr hA).2⟩,h2,h3⟩,.refl _⟩
theorem toVW_rel (R : Rel A B w0 nm σ tmps w) (hn : A.new = true) {av : AV} {v : Value} {x : VV} (H : VRel (cx A nm σ w) av v) (h : toVW av = some x) : VVRel (viewIn (fr0 (regW A nm)) w) x v := by
 unfold toVW at h
 split at h
 ·rename_i d
  cases hf : d.flat with
  | true => rw [hf] at h; cases h; exact .d (H.inv_sc.inv_dat.flat hf)
  | false =>
   rw [hf] at h
   cases h
   exact .v (.sc (H.inv_sc.inv_dat.toS.move (R.newMove hn) .same))
 ·simp only [Option.map_eq_some_iff] at h
  obtain ⟨ds,h1,rfl⟩ := h
  obtain ⟨vs,rfl,hcs⟩ := H.inv_ag
  obtain ⟨k1,k2⟩ := toIs_rel hcs h1
  exact .v (.ag (k1.toS.move (R.newMove hn) (.refl _)) (k2.trans hcs.length))
 ·cases h
theorem toVWs_rel (R : Rel A B w0 nm σ tmps w) (hn : A.new = true) : ∀ {avs : List AV} {vs : List Value} {xs : List VV},VsRel (cx A nm σ w) avs vs → toVWs avs = some xs → VVRels (viewIn (fr0 (regW A nm)) w) xs vs
 | [],vs,xs,H,h => by
  simp [toVWs] at h
  subst h
  obtain rfl : vs = [] := List.length_eq_zero_iff.1 H.1.symm
  exact .nil
 | a :: avs,vs,xs,H,h => by
  unfold toVWs at h
  split at h
  ·rename_i x xs' h1 h2
   cases h
   cases vs with
   | nil => have := H.1; simp at this
   | cons v vs =>
    exact .cons (toVW_rel R hn (H.2 0 a v rfl rfl) h1) (toVWs_rel R hn ⟨by have := H.1; simpa using this,fun i u v hu hv => H.2 (i + 1) u v (by simpa using hu) (by simpa using hv)⟩ h2)
  ·cases h
theorem CRel.wiped {X Y : Cx} {c : AC} {v : Value} (H : CRel X c v) (hf : flatRows X.rs) (hr : Y.rs = X.rs) (hn : Y.nm = X.nm) (hw : ∀ i b,X.nm i = some b → Y.w.heap[b]? = X.w.heap[b]?) (hz : Y.o = X.o ∧ Y.v = X.v ∧ Y.new = X.new) : CRel Y c.wipe v := by
 have h1 := H.one
 have own : ∀ {id sz es b cap},find X.rs id = some (sz,es) → X.nm (2 * id + 1) = some b → OwnB X.h X.w b sz cap es → OwnB Y.h Y.w b sz cap es := fun hfd hb ho => by
  obtain ⟨a1,a2,a3,C,t,a4,a5,a6⟩ := ho
  exact ⟨a1,a2,a3,C,t,(hw _ _ hb).trans a4,a5,a6.flat (hf _ (find_mem hfd))⟩
 cases H with
 | undef h => exact .undef h
 | @dat d _ hd =>
  cases hfl : d.fl with
  | false => simp only [AC.wipe,hfl,cond_false]; exact .undef h1
  | true =>
   simp only [AC.wipe,hfl,cond_true]
   cases hd <;> first
    | exact .dat .bool
    | (cases hfl; done)
    | skip
   case int a b => exact .dat (.int a b)
   case str a => exact .dat (.str a)
 | ownNil a b => exact .ownNil (hr ▸ a) (hn ▸ b)
 | own a b c d => exact .own (hr ▸ a) (hn ▸ b) (own a b c) d
 | ownDead a b => exact .ownDead (hr ▸ a) b
 | osubNil a b => exact .osubNil (hr ▸ a) (hn ▸ b)
 | osub a b c d e f g i j => exact .osub (hr ▸ a) (hn ▸ b) (own a b c) d e f g i j
 | osubDead a b => exact .osubDead (hr ▸ a) b
 | nil => exact .nil
 | pb a => exact .pb (hn ▸ a)
 | pe a b c d e => exact .pe (hr ▸ a) (hn ▸ b) (own a b c) d e
 | peDead a b => exact .peDead (hr ▸ a) b
 | clo a => exact .clo (hn ▸ a)
 | z => exact .z
 | ipb a => exact .ipb (hn ▸ a)
 | old a b => exact .old (hz.2.2.trans a) (hz.1 ▸ b)
 | vol a b => exact .vol (hz.2.1 ▸ a) b
theorem FCd.callW0 {f : FuncId} {xs : List VV} {r : D} (H : FCd P f xs r) {avs : List AV} (hx : toVWs avs = some xs) (ho : ∀ {A : Ar} {B : Nat} {w0 : Base} {w : World} {nm : Names} {tmps : Array Value},Rel A B w0 nm σ tmps w → A.new = true) (hfl : flatRows σ.rows) : CallC P f avs σ (σ.map AC.wipe) (.v (.sc (.dat r))) := by
 intro A B w0 w nm tmps vs R hvs
 have hnw := ho R
 have after : ∀ w2,BelowX w.heap.size (baseV w (regW A nm)) w2 → BelowX B w0 w2 := fun w2 h => R.below.afterZ rfl h R.size R.there (fun b hb => (baseV_M hb).elim) fun b ⟨⟨_,hA⟩,_⟩ => .inl (R.all.new hnw b _ hA).1
 refine (H w (regW A nm) vs (fun w2 h => R.good w2 (after w2 h)) (toVWs_rel R hnw hvs hx)).mono fun e w' h => ?_
 obtain ⟨v,rfl,hv,hb⟩ := h
 have hsame : ∀ i b,nm i = some b → w'.heap[b]? = w.heap[b]? := fun i b hi => hb.block b (R.names i b hi).2 (fun h => baseV_M h) fun ⟨⟨hn,_⟩,_⟩ => hn i hi
 refine ⟨v,nm,rfl,?_,.v (.sc (.dat (hv.mono noView_mono)))⟩
 refine R.carry (f := AC.wipe) (after w' hb) (Nat.le_trans R.size hb.size) (fun i b hi => ?_) R.inj (fun _ _ => rfl) (fun k => St.get_map) (fun id => find_mapbx) (fun id cs _ b hbn => ⟨hbn,hsame _ b hbn⟩) (fun c v _ hr => ?_)
 ·obtain ⟨h1,h2⟩ := R.names i b hi
  exact ⟨h1,Nat.lt_of_lt_of_le h2 hb.size⟩
 ·exact hr.wiped hfl rfl rfl hsame ⟨rfl,rfl,rfl⟩
theorem FCd.callW {f : FuncId} {xs : List VV} {r : D} (H : FCd P f xs r) {avs : List AV} (hx : toVWs avs = some xs) {k : Nat} (ho : (σ.get k).cells.any AC.isOld = true) (hfl : flatRows σ.rows) : CallC P f avs σ (σ.map AC.wipe) (.v (.sc (.dat r))) :=
 H.callW0 hx (fun R => R.isNew ho) hfl
theorem go_callwb {k : List Fr} {Q : AExit → St → Prop} {its : List AItem} {d f : Nat} {args : List Opd} {xs : List VV} {r : D} (hf : FCd P f xs r) (j : Nat) {cs : List AC} (hx : toVWs (args.map σ.val) = some xs) (hb : find σ.bx j = some cs) (ho : cs.any AC.isOld = true) (hfl : flatRows σ.rows)
  (h : go P (.ops its :: k) Q .normal (some ((σ.map AC.wipe).set d (.v (.sc (.dat r)))))) : go P (.ops ((none,.call d f args) :: its) :: k) Q .normal (some σ) := go_callc (hf.callW0 hx (fun R => R.isNewB hb ho) hfl) h
theorem go_callw {k : List Fr} {Q : AExit → St → Prop} {its : List AItem} {d f : Nat} {args : List Opd} {xs : List VV} {r : D} (hf : FCd P f xs r) (j : Nat) (hx : toVWs (args.map σ.val) = some xs) (ho : (σ.get j).cells.any AC.isOld = true) (hfl : flatRows σ.rows)
  (h : go P (.ops its :: k) Q .normal (some ((σ.map AC.wipe).set d (.v (.sc (.dat r)))))) : go P (.ops ((none,.call d f args) :: its) :: k) Q .normal (some σ) := go_callc (hf.callW hx ho hfl) h
end
section
variable {σ : St}
theorem len_old {rs : Rows} {es : List (List D)} : lenV rs (.v (.sc (.old (.sl es)))) = some (.v (.sc (.dat (.int .i64 es.length)))) := rfl
theorem len_vol {rs : Rows} {es : List (List D)} : lenV rs (.v (.sc (.vol (.sl es)))) = some (.v (.sc (.dat (.int .i64 es.length)))) := rfl
theorem iaddr_old {α : Type} {rs : Rows} {sz : Nat} {xs : List α} {row : α → List D} [Row row sz] {kd : IntKind} {i : Int} : iaddrV rs sz (.v (.sc (.old (.sl (List.map row xs))))) (.v (.sc (.dat (.int kd i)))) = (ix xs i).map fun x => .v (.sc (.old (.pd (row x)))) := by
 simp only [iaddrV,ix_map]
 cases ix xs i with
 | none => rfl
 | some x => simp [Row.len (row := row) (sz := sz),Row.pos row]
theorem iaddr_vol {α : Type} {rs : Rows} {sz : Nat} {xs : List α} {row : α → List D} [Row row sz] {kd : IntKind} {i : Int} : iaddrV rs sz (.v (.sc (.vol (.sl (List.map row xs))))) (.v (.sc (.dat (.int kd i)))) = (ix xs i).map fun x => .v (.sc (.vol (.pd (row x)))) := by
 simp only [iaddrV,ix_map]
 cases ix xs i with
 | none => rfl
 | some x => simp [Row.len (row := row) (sz := sz),Row.pos row]
theorem load_old {g : Bool} {n : Nat} {cs : List D} : loadV σ g n (.v (.sc (.old (.pd cs)))) = cellsV (List.map oldC cs) 0 g n := rfl
theorem load_vol {n : Nat} {es : List (List D)} {cs : List D} : loadV σ false n (.v (.sc (.vol (.pd (.sl es :: cs))))) = some (.v (.sc (.vol (.sl es)))) := rfl
theorem fa_old {rs : Rows} {off : Nat} {cs : List D} : faddrV rs off (.v (.sc (.old (.pd cs)))) = (dropA off cs).map fun cs => .v (.sc (.old (.pd cs))) := by
 simp only [faddrV,dropA_eq]
 split <;> rfl
theorem fa_vol {rs : Rows} {off : Nat} {cs : List D} : faddrV rs off (.v (.sc (.vol (.pd cs)))) = (dropA off cs).map fun cs => .v (.sc (.vol (.pd cs))) := by
 simp only [faddrV,dropA_eq]
 split <;> rfl
theorem nilc_old {cs : List D} : nilcV (.v (.sc (.old (.pd cs)))) = some (.v (.sc (.old (.pd cs)))) := rfl
theorem nilc_vol {cs : List D} : nilcV (.v (.sc (.vol (.pd cs)))) = some (.v (.sc (.vol (.pd cs)))) := rfl
theorem store_voli {k : IntKind} {n m : Int} {cs : List D} : St.storeV σ 1 (.v (.sc (.vol (.pd (.int k n :: cs))))) (.v (.sc (.dat (.int k m)))) = some σ := by cases k <;> rfl
theorem store_volb {n m : Bool} {cs : List D} : St.storeV σ 1 (.v (.sc (.vol (.pd (.bool n :: cs))))) (.v (.sc (.dat (.bool m)))) = some σ := rfl
theorem store_vols {n m : List UInt8} {cs : List D} : St.storeV σ 1 (.v (.sc (.vol (.pd (.str n :: cs))))) (.v (.sc (.dat (.str m)))) = some σ := rfl
theorem oldC_i {k : IntKind} {n : Int} : oldC (.int k n) = .dat (.int k n) := rfl
theorem oldC_b {b : Bool} : oldC (.bool b) = .dat (.bool b) := rfl
theorem oldC_s {s : List UInt8} : oldC (.str s) = .dat (.str s) := rfl
theorem oldC_l {es : List (List D)} : oldC (.sl es) = .old (.sl es) := rfl
theorem omap_nil : List.map oldC [] = [] := rfl
theorem omap_cons {d : D} {ds : List D} : List.map oldC (d :: ds) = oldC d :: List.map oldC ds := rfl
theorem vomap_nil : List.map AC.vol [] = [] := rfl
theorem vomap_cons {d : D} {ds : List D} : List.map AC.vol (d :: ds) = .vol d :: List.map AC.vol ds := rfl
theorem kill_old {id : Nat} {d : D} : AC.kill id (.old d) = .old d := rfl
theorem kill_vol {id : Nat} {d : D} : AC.kill id (.vol d) = .vol d := rfl
theorem frz_old {id : Nat} {es : List (List D)} {d : D} : AC.frz id es (.old d) = .old d := rfl
theorem frz_vol {id : Nat} {es : List (List D)} {d : D} : AC.frz id es (.vol d) = .vol d := rfl
theorem wipe_i {k : IntKind} {n : Int} : AC.wipe (.dat (.int k n)) = .dat (.int k n) := rfl
theorem wipe_b {b : Bool} : AC.wipe (.dat (.bool b)) = .dat (.bool b) := rfl
theorem wipe_s {s : List UInt8} : AC.wipe (.dat (.str s)) = .dat (.str s) := rfl
theorem wipe_l {es : List (List D)} : AC.wipe (.dat (.sl es)) = .undef := rfl
theorem wipe_p {cs : List D} : AC.wipe (.dat (.pd cs)) = .undef := rfl
theorem wipe_u : AC.wipe .undef = .undef := rfl
theorem wipe_n : AC.wipe .nil = .nil := rfl
theorem wipe_o {id : Nat} : AC.wipe (.own id) = .own id := rfl
theorem wipe_b2 {id o : Nat} : AC.wipe (.pb id o) = .pb id o := rfl
theorem wipe_old {d : D} : AC.wipe (.old d) = .old d := rfl
theorem av_old {N : List Nat} {d : D} : AV.avoids N (.v (.sc (.old d))) = true := by simp [AV.avoids,AV.cells,V1.cells,AC.avoids,AC.uses]
end
def rulesW := And.intro @len_old (And.intro @len_vol (And.intro @iaddr_old (And.intro @iaddr_vol (And.intro @load_old (And.intro @load_vol (And.intro @fa_old (And.intro @fa_vol (And.intro @nilc_old (And.intro @nilc_vol (And.intro @store_voli (And.intro @store_volb (And.intro @store_vols (And.intro @oldC_i (And.intro @oldC_b (And.intro @oldC_s (And.intro @oldC_l (And.intro @omap_nil (And.intro @omap_cons (And.intro @vomap_nil (And.intro @vomap_cons (And.intro @kill_old (And.intro @kill_vol (And.intro @frz_old (And.intro @frz_vol (And.intro @wipe_i (And.intro @wipe_b (And.intro @wipe_s (And.intro @wipe_l (And.intro @wipe_p (And.intro @wipe_u (And.intro @wipe_n (And.intro @wipe_o (And.intro @wipe_b2 (And.intro @wipe_old @av_old))))))))))))))))))))))))))))))))))
end Go.Vi
