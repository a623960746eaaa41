/-
  The value level: code. The predicate 'AWP' over abstract states, and that it tells the truth of a program's code. No condition.
-/
import Derived.Test.YtahienmgcfgclaaGVi15
import Derived.Tactics
namespace Go.Vi
set_option linter.unusedSimpArgs false
set_option linter.unusedVariables false
abbrev AItem := Option (Nat × Bool) × AOp
abbrev DItem := Option (List Nat) × AItem
inductive ACode where
 | skip
 | reg (its : List AItem)
 | drw (its : List DItem)
 | seq (x y : ACode)
 | cond (c : Opd) (x y : ACode)
 | block (id : Nat) (c : ACode)
 | loop (c : ACode)
 | exit (id : Nat)
 | ret
 | pan (its : List AItem) (x : Opd)
 | cal (its : List AItem) (d : Nat) (f : FuncId) (args : List Opd)
 | any (its : List (List Nat × AItem))
 deriving Inhabited
inductive AExit where
 | normal
 | exit (id : Nat)
 | ret
 | pan (d : D)
def AExit.Is : AExit → Exit → Prop
 | .normal,e => e = .normal
 | .exit id,e => e = .exit id
 | .ret,e => e = .ret
 | .pan d,e => ∃ v,e = .panic [{ v := v,recovered := false }] ∧ Rep (fun _ _ => False) d v
def A19 (P : Program) (f : FuncId) : Bool :=
 match P.funcs[f]? with
 | some fn => fn.body.isSome && !(fn.name == "runtime.NumGoroutine")
 | none => false
def St.handed (σ : St) (P : Program) (f : FuncId) (args : List Opd) (ds : List DV) (rs : List R1) : Prop := (σ.toDVs args = some ds ∧ (A0l rs ∨ FCf P f ds rs)) ∨ σ.toIVs args = some ds
def St.handedV (σ : St) (x : Opd) (args : List Opd) (f : FuncId) (caps : List D) (ds : List DV) (rs : List R1) : Prop :=
 (σ.toDV (σ.val x) = some (.sc (.clo f caps)) ∧ σ.toDVs args = some ds ∧ A0l rs) ∨ (σ.val x = .v (.sc (.dat (.clo f caps))) ∧ σ.toIVs args = some ds)
def B1f (X : Cx) (avs : List AV) (vs : List Value) : Prop := avs.length = vs.length ∧ ∀ (i : Nat) (u : AV) (v : Value),avs[i]? = some u → vs[i]? = some v → VRel X u v
def A52 (P : Program) (f : FuncId) (avs : List AV) (σ σ' : St) (r : AV) : Prop :=
 ∀ (A : Ar) (B : Nat) (w0 : Base) (w : World) (nm : Names) (tmps : Array Value) (vs : List Value),Rel A B w0 nm σ tmps w → B1f (cx A nm σ w) avs vs → Calls P f vs.toArray w fun e w' =>
  ∃ (v : Value) (nm' : Names),e = .returned v ∧ Rel A B w0 nm' σ' tmps w' ∧ VRel (cx A nm' σ' w') r v
def aop (P : Program) (o : AOp) (K : St → Prop) (σ : St) : Prop :=
 match o with
 | .call d f args => (∃ ds rs,σ.handed P f args ds rs ∧ FC P f ds rs ∧ σ.fresh d = true ∧ (rs.flatMap R1.cells).length ≤ 64 ∧ K (σ.inst d rs)) ∨
   (∃ ids xs R0 R1 r,σ.handedX args ids xs R0 R1 ∧ FCx P f xs R0 R1 r ∧ K (σ.instX d ids R1 r)) ∨
   (∃ σ' r,A52 P f (args.map σ.val) σ σ' r ∧ K (σ'.set d r))
 | .callv d x args => ∃ f caps ds rs,σ.handedV x args f caps ds rs ∧ A19 P f = true ∧ FC P f (ds ++ caps.map .sc) rs ∧ σ.fresh d = true ∧ (rs.flatMap R1.cells).length ≤ 64 ∧ K (σ.inst d rs)
 | o => match σ.step o with
  | some σ' => K σ'
  | none => False
def D6 (g : Option (Nat × Bool)) (σ : St) (yes no : Prop) : Prop :=
 match g with
 | none => yes
 | some (t,want) => match σ.get t with
  | .v (.sc (.dat (.bool b))) => if b = want then yes else no
  | .no => no
  | _ => False
def AOp.dst : AOp → Option Nat
 | .mv d _ | .pick d _ _ _ | .box d _ | .alloc d _ | .build d _ _ | .bslice d _ _ _ _ | .load d _ _ _ | .nilc d _ | .bin d _ _ _ | .beq d _ _ _ | .geq d _ _ _ _ | .un d _ _ | .conv d _ _ | .mksl d _ _ _ _ _ | .slc d _ _ _ _ _ | .sslc d _ _ _
 | .faddr d _ _ | .field d _ _ _ _ | .iaddr d _ _ _ | .aaddr d _ _ _ _ | .idx d _ _ | .extr d _ _ | .len d _ | .slen d _ | .sconv d _ | .app d _ _ _ _ | .mm d _ _ _ | .mkf d _ _ | .call d _ _ | .callv d _ _ | .zsl d | .zap d _ _ _ _ | .mkif d _ _ | .tass d _ _ _ => some d
 | _ => none
def P1 (P : Program) : List AItem → (St → Prop) → St → Prop
 | [],K,σ => K σ
 | (g,o) :: r,K,σ => D6 g σ (aop P o (P1 P r K) σ) (match o.dst with | some d => P1 P r K (σ.set d .no) | none => False)
def St.less (σ : St) : List Nat → St
 | [] => σ
 | N => { σ with bx := σ.bx.filter fun p => !N.contains p.1,rows := σ.rows.filter fun p => !N.contains (p.1 / 64) }
def AC.avoids (N : List Nat) (c : AC) : Bool := N.all fun n => !c.uses n
def AV.avoids (N : List Nat) (v : AV) : Bool := v.cells.all (·.avoids N)
def A7t (P : Program) (N : List Nat) (o : AOp) (K : St → Prop) (σ : St) : Prop :=
 match o with
 | .call d f args => ∃ ds rs,(σ.less N).handed P f args ds rs ∧ FC P f ds rs ∧ σ.fresh d = true ∧ (rs.flatMap R1.cells).length ≤ 64 ∧ K (σ.inst d rs)
 | .callv d x args => ∃ f caps ds rs,(σ.less N).handedV x args f caps ds rs ∧ A19 P f = true ∧ FC P f (ds ++ caps.map .sc) rs ∧ σ.fresh d = true ∧ (rs.flatMap R1.cells).length ≤ 64 ∧ K (σ.inst d rs)
 | o => match (σ.less N).pure o with
  | some (d,v) => v.avoids N = true ∧ K (σ.set d v)
  | none => match (σ.less N).made o with
   | some m => (match m with | .box _ cs => cs.all (·.avoids N) | _ => true) = true ∧ (match σ.make m with
    | some σ' => K σ'
    | none => False)
   | none => False
def AOp.maker : AOp → Bool
 | .box .. | .alloc .. | .bslice .. | .mksl .. | .call .. | .callv .. | .zap .. => true
 | _ => false
def P8 (its : List DItem) (σ : St) : Bool := its.all fun i => match i.1,i.2.2.maker,i.2.2.dst with
 | some _,true,some d => σ.fresh d
 | _,_,_ => true
def A1k (P : Program) : List DItem → (St → Prop) → St → Prop
 | [],K,σ => K σ
 | (none,g,o) :: r,K,σ => D6 g σ (aop P o (fun σ' => P8 r σ' = true ∧ A1k P r K σ') σ) (match o.dst with | some d => P8 r (σ.set d .no) = true ∧ A1k P r K (σ.set d .no) | none => False)
 | (some N,g,o) :: r,K,σ => D6 g σ (A7t P N o (A1k P r K) σ) (match o.dst with | some d => A1k P r K (σ.set d .no) | none => False)
def F2 (P : Program) (its : List (List Nat × AItem)) (τ : St) : Nat → List Bool → St → Prop
 | 0,ms,σ => ms.all id = true → σ = τ
 | f + 1,ms,σ => ∀ (i : Nat) (it : List Nat × AItem),its[i]? = some it → ms[i]? = some false → (∀ j ∈ it.1,ms[j]? = some true) →
   ∃ pre post : List AItem,pre.all (fun i => i.2.idle) = true ∧ post.all (fun i => i.2.idle) = true ∧
    P1 P pre (fun σ => D6 it.2.1 σ (aop P it.2.2 (P1 P post (F2 P its τ f (ms.set i true))) σ) (match it.2.2.dst with | some d => P1 P post (F2 P its τ f (ms.set i true)) (σ.set d .no) | none => False)) σ
def St.pad (σ : St) (ds : List Nat) : St := { σ with env := σ.env ++ ds.map fun d => (d,.undef) }
def B46 : D → Bool
 | .ifc .. | .ifs .. => true
 | _ => false
def AWP (P : Program) : ACode → (AExit → St → Prop) → St → Prop
 | .skip,Q,σ => Q .normal σ
 | .reg its,Q,σ => P1 P its (Q .normal) σ
 | .drw its,Q,σ => P8 its σ = true ∧ A1k P its (Q .normal) σ
 | .seq x y,Q,σ => AWP P x (fun e σ' => match e with | .normal => AWP P y Q σ' | e => Q e σ') σ
 | .cond c x y,Q,σ => match σ.val c with
  | .v (.sc (.dat (.bool b))) => if b = true then AWP P x Q σ else AWP P y Q σ
  | _ => False
 | .block id c,Q,σ => AWP P c (fun e σ' => match e with | .exit i => if i = id then Q .normal σ' else Q (.exit i) σ' | e => Q e σ') σ
 | .loop c,Q,σ => ∀ X : St → Prop,(∀ σ',AWP P c (fun e σ'' => match e with | .normal => X σ'' | e => Q e σ'') σ' → X σ') → X σ
 | .exit id,Q,σ => Q (.exit id) σ
 | .ret,Q,σ => Q .ret σ
 | .any its,Q,σ => ∃ ks bs rs τ,F2 P its τ its.length (its.map fun _ => false) ((σ.kept ks bs rs).pad (its.filterMap fun i => i.2.2.dst)) ∧ Q .normal τ
 | .pan its x,Q,σ => P1 P its (fun σ' => ∃ d,σ'.val x = .v (.sc (.dat d)) ∧ d.flat = true ∧ B46 d = true ∧ Q (.pan d) σ') σ
 | .cal its d f args,Q,σ => P1 P its (fun σ' => aop P (.call d f args) (Q .normal) σ' ∨ ∃ ds pd,σ'.toDVs args = some ds ∧ FCp P f ds pd ∧ Q (.pan pd) σ') σ
def A34 (ops : Array Oper) : Option (Nat × Bool) → Option (Option (Nat × Bool))
 | none => some none
 | some (j,want) => match (ops[j]?).bind (·.dst) with
  | some t => some (some (t,want))
  | none => none
def A2u (P : Program) (nt : Nat) (ops : Array Oper) (o : Oper) : Option AItem :=
 match A34 ops o.guard,V5 P nt o with
 | some g,some ao => some (g,ao)
 | _,_ => none
def E2 (P : Program) (nt : Nat) (ops : Array Oper) : List Oper → Option (List AItem)
 | [] => some []
 | o :: r => match A2u P nt ops o,E2 P nt ops r with
  | some i,some is => some (i :: is)
  | _,_ => none
def Opd.slots : Opd → List Nat
 | .t n => [n]
 | .c _ => []
def A2k : Option Opd → List Nat
 | some x => x.slots
 | none => []
def AOp.slots : AOp → List Nat
 | .mv _ x | .box _ x | .load _ x _ _ | .nilc _ x | .un _ _ x | .conv _ _ x | .faddr _ x _ | .field _ x _ _ _ | .extr _ x _ | .len _ x | .slen _ x | .sconv _ x | .mkif _ _ x | .tass _ x _ _ => x.slots
 | .pick _ c a b => c.slots ++ a.slots ++ b.slots
 | .alloc _ _ | .zsl _ => []
 | .build _ _ ps => ps.flatMap fun p => p.2.2.slots
 | .bslice _ _ _ _ ps => ps.flatMap fun p => p.2.slots
 | .store x y _ | .bin _ _ x y | .beq _ _ x y | .geq _ _ _ x y | .mksl _ _ _ _ x y | .iaddr _ x y _ | .aaddr _ x y _ _ | .idx _ x y | .app _ _ _ x y | .mm _ _ x y | .zap _ _ _ x y => x.slots ++ y.slots
 | .slc _ _ x lo hi mx => x.slots ++ A2k lo ++ A2k hi ++ A2k mx
 | .sslc _ x lo hi => x.slots ++ A2k lo ++ A2k hi
 | .mkf _ _ xs | .call _ _ xs => xs.flatMap Opd.slots
 | .callv _ x xs => x.slots ++ xs.flatMap Opd.slots
 | .drop _ | .own _ _ _ _ | .ownb _ _ _ _ | .ren _ _ | .frz _ | .frzb _ | .forget _ | .keep .. | .cut _ => []
def AItem.slots (i : AItem) : List Nat := (match i.1 with | some g => [g.1] | none => []) ++ i.2.slots
def AOp.gentle : AOp → Bool
 | .store .. | .app .. | .drop _ | .own .. | .ownb .. | .ren .. | .frz _ | .frzb _ | .forget _ | .keep .. | .cut _ => false
 | _ => true
def waits (o : Oper) : List Nat := (o.after.toList.filter (Region.binds .any)).map (·.on)
def uni (l m : List Nat) : List Nat := l.foldr (fun x acc => if acc.contains x then acc else x :: acc) m
def A3z (acc : List (List Nat)) : List Nat → List Nat
 | [] => []
 | j :: r => uni (j :: acc.getD j []) (A3z acc r)
def O2 : List Oper → List (List Nat) → List (List Nat)
 | [],acc => acc
 | o :: r,acc => O2 r (acc ++ [A3z acc (waits o)])
def I1 (an : List (List Nat)) (i j : Nat) : Bool := i != j && !(an.getD i []).contains j && !(an.getD j []).contains i
def D4s (its : List AItem) (js : List Nat) : List Nat := js.filterMap fun j => (its[j]?).bind fun i => if i.2.maker then i.2.dst else none
def AOp.envOnly : AOp → Bool
 | .mv .. | .pick .. | .extr .. | .un .. | .bin .. | .beq .. | .geq .. => true
 | _ => false
def A3q (jt it : AItem) : Bool := jt.2.envOnly && (match it with
 | (none,.store x y _) => (match jt.2.dst with | some d => !(x.slots ++ y.slots).contains d | none => false)
 | _ => false)
def C4t (an : List (List Nat)) (its : List AItem) (i : Nat) (it : AItem) (js : List Nat) : Bool :=
 (js.all fun j => decide (j < i) && (match its[j]? with | some jt => A3q jt it | none => false)) && (List.range its.length).all fun l => decide (l ≤ i) || js.all fun j => (an.getD l []).contains j
def A3o (an : List (List Nat)) (its : List AItem) (i : Nat) (it : AItem) : Option DItem :=
 let js := (List.range its.length).filter (I1 an i)
 if it.2.gentle then
  if js.all fun j => match its[j]? with | some jt => (match jt.2.dst with | some d => !it.slots.contains d | none => A3q it jt) | none => false then some (some (D4s its js),it) else none
 else if C4t an its i it js then some (none,it) else none
def A23 (an : List (List Nat)) (its : List AItem) : Nat → List AItem → Option (List DItem)
 | _,[] => some []
 | i,it :: r => match A3o an its i it,A23 an its (i + 1) r with
  | some x,some xs => some (x :: xs)
  | _,_ => none
def A3k : List Nat → Bool
 | [] => true
 | x :: r => !r.contains x && A3k r
def A3t : Nat → List Oper → Bool
 | _,[] => true
 | i,o :: r => (waits o).all (· < i) && A3t (i + 1) r
def B09 (z : List Nat) : AItem → AItem
 | (g,.bslice d sz zs 0 []) => if z.contains d then (g,.zsl d) else (g,.bslice d sz zs 0 [])
 | (g,.app d sz b (.t q) y) => if z.contains q then (g,.zap d sz b (.t q) y) else (g,.app d sz b (.t q) y)
 | it => it
def D40 (its : List AItem) : List Nat := its.filterMap fun i => match i.2 with
 | .app _ _ _ (.t q) _ => if its.any fun k => match k.2 with | .bslice d _ _ 0 [] => d == q | _ => false then some q else none
 | _ => none
def A9b (ops : Array Oper) (its : List AItem) : Option (List DItem) :=
 if A3t 0 ops.toList && A3k (its.filterMap fun i => if i.2.gentle then i.2.dst else none) then A23 (O2 ops.toList []) its 0 its else none
def A5j (P : Program) (nt : Nat) (ops : Array Oper) : Option (List DItem) :=
 match E2 P nt ops ops.toList with
 | some its => match A9b ops its with
  | some ds => some ds
  | none => A9b ops (its.map (B09 (D40 its)))
 | none => none
def B9f (P : Program) (ops : Array Oper) : Bool := ops.toList.any fun o => match o.op with
 | .call { callee := .value (.func f),.. } => (match P.funcs[f]? with
  | some fn => fn.params.toList.any fun t => match P.underlying t with | some (.pointer _) => true | _ => false
  | none => false)
 | _ => false
def A6n (P : Program) (nt : Nat) (ops : Array Oper) : Option (List (List Nat × AItem)) :=
 match E2 P nt ops ops.toList with
 | some its => if A3t 0 ops.toList then some ((ops.toList.map waits).zip its) else none
 | none => none
def E1x (P : Program) (f : FuncId) : Bool := match P.funcs[f]? with
 | some fn => fn.results.isEmpty
 | none => false
def B6i (P : Program) (nt : Nat) (ops : Array Oper) : Option ACode :=
 match ops.toList.getLast? with
 | some o => if o.guard.isNone then (match o.op with
  | .panic x => (match G8 x,E2 P nt ops ops.toList.dropLast with
   | some y,some its => some (.pan its y)
   | _,_ => none)
  | .call _ => (match V5 P nt o,E2 P nt ops ops.toList.dropLast with
   | some (.call d f args),some its => if E1x P f then some (.cal its d f args) else none
   | _,_ => none)
  | _ => none) else none
 | none => none
def B2q (P : Program) (nt : Nat) (ops : Array Oper) : Option ACode :=
 match B6i P nt ops with
 | some c => some c
 | none => (E2 P nt ops ops.toList).map .reg
def D7 (P : Program) (nt : Nat) : Code → Option ACode
 | .skip => some .skip
 | .label _ => some .skip
 | .region _ ops false => B2q P nt ops
 | .region _ ops true => bif B9f P ops then (A6n P nt ops).map .any else match A5j P nt ops with
  | some is => some (.drw is)
  | none => (A6n P nt ops).map .any
 | .seq x y => match D7 P nt x,D7 P nt y with
  | some x,some y => some (.seq x y)
  | _,_ => none
 | .cond c x y => match G8 c,D7 P nt x,D7 P nt y with
  | some c,some x,some y => some (.cond c x y)
  | _,_,_ => none
 | .block id c => (D7 P nt c).map (.block id)
 | .loop c => (D7 P nt c).map .loop
 | .exit id => some (.exit id)
 | .ret => some .ret
 | _ => none
def ACode.strip : ACode → ACode
 | .reg its => .reg (its.filter fun i => !i.2.idle)
 | .seq (.reg its) y => bif !its.isEmpty && its.all (fun i => i.2.idle) then y.strip else .seq (.reg (its.filter fun i => !i.2.idle)) y.strip
 | .seq x y => .seq x.strip y.strip
 | .cond c x y => .cond c x.strip y.strip
 | .block id c => .block id c.strip
 | .loop c => .loop c.strip
 | .pan its x => .pan (its.filter fun i => !i.2.idle) x
 | .cal its d f args => .cal (its.filter fun i => !i.2.idle) d f args
 | c => c
section
variable {P : Program} {A : Ar} {B : Nat} {w0 : Base} {w : World} {nm : Names} {σ : St} {a : Act}
theorem A3i {d : Nat} {o : Oper} {ao : AOp} (h : A8 P d o = some ao) : ao.dst = some d ∧ ao.idle = false := by
 obtain ⟨dst,op,ty,pos,after,guard⟩ := o
 cases op <;> simp only [A8] at h
 case move | assign | box | nilCheck | unOp | extract => simp only [Option.map_eq_some_iff] at h; obtain ⟨_,_,rfl⟩ := h; exact ⟨rfl,rfl⟩
 case alloc => split at h <;> first | (cases h; done) | (simp only [Option.map_eq_some_iff] at h; obtain ⟨_,_,rfl⟩ := h; exact ⟨rfl,rfl⟩)
 case pick => split at h <;> first | (cases h; done) | (cases h; exact ⟨rfl,rfl⟩)
 case indexAddr =>
  split at h
  ·cases h; exact ⟨rfl,rfl⟩
  ·split at h
   ·split at h
    ·split at h
     ·split at h
      ·cases h; exact ⟨rfl,rfl⟩
      ·cases h
     ·cases h; exact ⟨rfl,rfl⟩
    ·cases h
   ·cases h
  ·cases h
 case index =>
  split at h
  ·cases h; exact ⟨rfl,rfl⟩
  ·split at h
   ·split at h
    ·cases h; exact ⟨rfl,rfl⟩
    ·cases h
   ·cases h
  ·cases h
 case convert =>
  split at h
  ·cases h; exact ⟨rfl,rfl⟩
  ·split at h
   ·cases h; exact ⟨rfl,rfl⟩
   ·cases h
  ·cases h
 case build =>
  split at h
  ·split at h
   ·split at h <;> first | (cases h; done) | (cases h; exact ⟨rfl,rfl⟩)
   ·cases h
  ·split at h
   ·split at h <;> first | (cases h; done) | (cases h; exact ⟨rfl,rfl⟩)
   ·cases h
  ·cases h
 case buildSlice | makeSlice =>
  split at h
  ·split at h
   ·split at h <;> first | (cases h; done) | (cases h; exact ⟨rfl,rfl⟩)
   ·cases h
  ·cases h
 case load =>
  split at h
  ·split at h <;> first | (cases h; done) | (cases h; exact ⟨rfl,rfl⟩)
  ·cases h
 case binOp =>
  split at h
  ·split at h <;> first
    | (cases h; exact ⟨rfl,rfl⟩; done)
    | (simp only [Option.map_eq_some_iff] at h; obtain ⟨_,_,rfl⟩ := h; exact ⟨rfl,rfl⟩)
  ·cases h
 case slice =>
  split at h
  ·split at h
   ·cases h
   ·split at h
    ·split at h <;> first | (cases h; done) | (cases h; exact ⟨rfl,rfl⟩)
    ·simp only [Option.map_eq_some_iff] at h; obtain ⟨_,_,rfl⟩ := h; exact ⟨rfl,rfl⟩
    ·cases h
  ·cases h
 case makeInterface => split at h <;> first | (cases h; done) | (cases h; exact ⟨rfl,rfl⟩)
 case typeAssert =>
  split at h <;> first | (cases h; done) | (split at h <;> first | (cases h; done) | (cases h; exact ⟨rfl,rfl⟩))
 case fieldAddr =>
  split at h
  ·split at h
   ·split at h
    ·split at h <;> first | (cases h; done) | (cases h; exact ⟨rfl,rfl⟩)
    ·cases h
   ·cases h
  ·cases h
 case field =>
  split at h
  ·split at h
   ·split at h
    ·split at h <;> first | (cases h; done) | (cases h; exact ⟨rfl,rfl⟩)
    ·cases h
   ·cases h
  ·cases h
 case makeFunc fn _ _ =>
  cases fn <;> simp only [reduceCtorEq] at h
  split at h
  ·simp only [Option.map_eq_some_iff] at h; obtain ⟨_,_,rfl⟩ := h; exact ⟨rfl,rfl⟩
  ·cases h
 case call c =>
  obtain ⟨callee,args,argTypes⟩ := c
  cases callee with
  | value f =>
   cases f <;> simp only [reduceCtorEq] at h
   case func =>
    split at h
    ·split at h
     ·simp only [Option.map_eq_some_iff] at h; obtain ⟨_,_,rfl⟩ := h; exact ⟨rfl,rfl⟩
     ·cases h
    ·cases h
   case tmp => simp only [Option.map_eq_some_iff] at h; obtain ⟨_,_,rfl⟩ := h; exact ⟨rfl,rfl⟩
  | invoke r m => simp at h
  | builtin bi =>
   cases bi <;> simp only [reduceCtorEq] at h
   all_goals
    split at h
    ·split at h
     all_goals first
      | (cases h; done)
      | (cases h; exact ⟨rfl,rfl⟩)
      | (split at h <;> first | (cases h; done) | (cases h; exact ⟨rfl,rfl⟩))
    ·cases h
 all_goals (cases h)
theorem B51 {t : TypeId} {x y : Operand} {o : Oper} (h : o.op = .store t x y) : execOp a.eval o = (do Instr.storeAt t (a.eval x) (a.eval y); pure .skip : Sem Next) := by
 unfold execOp
 rw [h]
theorem B9r {Q : Exit → Act → World → Prop} {K : Act → World → Prop} {nt : Nat} {o : Oper} {ao : AOp} {σ' : St} (R : Rel A B w0 nm σ a.tmps w) (hnt : a.tmps.size = nt) (hc : V5 P nt o = some ao) (hs : σ.step ao = some σ')
  (hK : ∀ nm' a' w',Rel A B w0 nm' σ' a'.tmps w' → a'.tmps.size = nt → a'.defers = a.defers → K a' w') : o.wp P a w K Q := by
 have put_size : ∀ (x : Option Nat) (v : Value),(a.put x v).tmps.size = nt := by intro x v; cases x <;> simp [Act.put,hnt]
 have put_def : ∀ (x : Option Nat) (v : Value),(a.put x v).defers = a.defers := by intro x v; cases x <;> rfl
 have value : ∀ {d v w' nm'},o.dst = some d → (execOp a.eval o).run P w = .ok (.value v) w' → Rel A B w0 nm' σ' (a.put (some d) v).tmps w' → o.wp P a w K Q := by
  intro d v w' nm' hd hrun R'
  unfold Oper.wp
  rw [hrun,Oper.upon_value,hd]
  exact hK nm' _ _ R' (put_size _ _) (put_def _ _)
 unfold V5 at hc
 split at hc
 ·rename_i d hd
  split at hc
  ·rename_i hlt
   obtain ⟨h1,h2⟩ := A3i hc
   have rest : (match σ.pure ao with
     | some (d,v) => some (σ.set d v)
     | none => match σ.made ao with
      | some m => σ.make m
      | none => none) = some σ' → o.wp P a w K Q := by
    intro h
    split at h
    ·rename_i d' v hp
     cases h
     obtain ⟨rfl,u,hrun,hrel⟩ := B90 (P := P) R hc hp
     exact value hd hrun (R.put (by rw [hnt]; exact hlt) hrel)
    ·split at h
     ·rename_i m hm
      obtain ⟨v,w',nm',hrun,R'⟩ := C2c (P := P) R (by rw [hnt]; exact hlt) hd hc hm h
      exact value hd hrun (by rw [hd] at R'; exact R')
     ·cases h
   cases ao <;> first
    | (cases h2; done)
    | (cases h1; done)
    | exact rest hs
    | skip
   case app d' sz bytes x y =>
    obtain ⟨dst,op,ty,pos,after,guard⟩ := o
    simp only at hd
    subst hd
    cases op <;> try (simp [A8] at hc; done)
    case call c =>
     obtain ⟨callee,args,argTypes⟩ := c
     cases callee with
     | builtin bi =>
      cases bi <;> try (simp [A8] at hc; done)
      case append =>
       simp only [A8] at hc
       split at hc
       ·rename_i X Y t t' hargs htys
        have e1 : args = #[X,Y] := by apply Array.ext'; simpa using hargs
        have e2 : argTypes = #[t,t'] := by apply Array.ext'; simpa using htys
        subst e1 e2
        split at hc
        ·rename_i i z e' x' y' hz hu' hx hy
         split at hc
         ·rename_i hcond
          cases hc
          obtain ⟨e,hu,hi,hz2⟩ := A27 hz
          obtain ⟨v,w',nm',hrun,R'⟩ := C39 (P := P) (ty := ty) R hu hu' hi hz2 hcond.1 hcond.2.1 (show d < a.tmps.size by rw [hnt]; exact hlt) (B4 R hx) (B4 R hy) hs
          refine value rfl ?_ R'
          simp [execOp,resolve,invoke,builtin,hrun]
         ·cases hc
        ·cases hc
       ·cases hc
      case len => simp only [A8] at hc; split at hc <;> first | (cases hc; done) | (split at hc <;> cases hc)
      case max => simp only [A8] at hc; split at hc <;> first | (cases hc; done) | (split at hc <;> cases hc)
      case min => simp only [A8] at hc; split at hc <;> first | (cases hc; done) | (split at hc <;> cases hc)
     | value f =>
      cases f <;> simp only [A8,reduceCtorEq] at hc
      ·simp only [Option.map_eq_some_iff] at hc; obtain ⟨_,_,h⟩ := hc; cases h
      ·split at hc
       ·split at hc
        ·simp only [Option.map_eq_some_iff] at hc; obtain ⟨_,_,h⟩ := hc; cases h
        ·cases hc
       ·cases hc
     | invoke r m => simp [A8] at hc
    case makeFunc fn first caps =>
     exfalso
     cases fn <;> simp only [A8,reduceCtorEq] at hc
     split at hc
     ·simp only [Option.map_eq_some_iff] at hc; obtain ⟨_,_,h⟩ := hc; cases h
     ·cases hc
    all_goals
     exfalso
     simp only [A8] at hc
     first
      | (simp only [Option.map_eq_some_iff] at hc; obtain ⟨_,_,h⟩ := hc; cases h; done)
      | ((repeat' (split at hc)) <;> first | (cases hc; done) | (simp only [Option.map_eq_some_iff] at hc; obtain ⟨_,_,h⟩ := hc; cases h; done))
  ·cases hc
 ·rename_i hd
  split at hc
  ·rename_i t x y hop
   split at hc
   ·rename_i i ax ay hi hx hy
    cases hc
    have hxr := B4 R hx
    have hyr := B4 R hy
    have skip : ∀ {w' nm'},(Instr.storeAt t (a.eval x) (a.eval y)).run P w = .ok () w' → Rel A B w0 nm' σ' a.tmps w' → o.wp P a w K Q := by
     intro w' nm' hrun R'
     unfold Oper.wp
     rw [B51 hop]
     simp only [Sem.run_bind,hrun,Result.andThen_ok,Sem.run_pure]
     rw [Oper.upon_skip,hd]
     exact hK nm' a w' R' hnt rfl
    simp only [St.step,St.storeV] at hs
    split at hs
    ·rename_i id off y' e1 e2
     split at hs
     ·rename_i cs hf
      split at hs
      ·rename_i hcond
       cases hs
       rw [e1] at hxr
       rw [e2] at hyr
       obtain ⟨w',hrun,R'⟩ := B3o (P := P) R hi rfl hxr hyr hf hcond.1 hcond.2
       exact skip hrun R'
      ·cases hs
     ·cases hs
    ·rename_i id k off y' e1 e2
     split at hs
     ·rename_i sz es hf
      split at hs
      ·rename_i d ds h1 h2
       split at hs
       ·rename_i hcond
        cases hs
        rw [e1] at hxr
        rw [e2] at hyr
        obtain ⟨w',hrun,R'⟩ := C4r (P := P) R hi rfl hxr hyr hf h1 h2 hcond.1 hcond.2
        exact skip hrun R'
       ·cases hs
      ·cases hs
     ·cases hs
    ·rename_i c cs d e1 e2
     cases hcond : (i.size == 1 && A81 c d) with
     | false => rw [hcond] at hs; cases hs
     | true =>
      rw [hcond] at hs
      cases hs
      simp only [Bool.and_eq_true,beq_iff_eq] at hcond
      rw [e1] at hxr
      rw [e2] at hyr
      obtain ⟨w',hrun,R'⟩ := C3a (P := P) R hi hcond.1 hxr hyr hcond.2
      exact skip hrun R'
    ·cases hs
   ·cases hc
  ·cases hc
end
end Go.Vi
