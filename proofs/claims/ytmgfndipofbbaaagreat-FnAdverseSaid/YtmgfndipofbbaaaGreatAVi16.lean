/-
The value level. No condition.
-/
import Derived.Test.YtmgfndipofbbaaaGreatAVi15
import Derived.Tactics
namespace Go.Vi
set_option linter.all false
open Option renaming map_eq_some_iff → H, some → E, none → G
open Bool renaming true → T, false → F
abbrev AItem:=Option (Nat × Bool) × AOp
abbrev O4:=Option (List Nat) × AItem
inductive ACode where
 | skip
 | reg (its:List AItem)
 | drw (its:List O4)
 | seq (x y:ACode)
 | cond (c:Opd) (x y:ACode)
 | block (id:Nat) (c:ACode)
 | loop (c:ACode)
 | exit (id:Nat)
 | ret
 | pan (its:List AItem) (x:Opd)
 | cal (its:List AItem) (d:Nat) (f:FuncId) (args:List Opd)
 | any (its:List (List Nat × AItem))
 deriving Inhabited
inductive AExit where
 | normal
 | exit (id:Nat)
 | ret
 | pan (d:D)
def AExit.Is:AExit→Exit→Prop
 | .normal,e=>e= .normal
 | .exit id,e=>e= .exit id
 | .ret,e=>e= .ret
 | .pan d,e=>∃v,e= .panic [{v:=v,recovered:=false }]∧Rep (fun _ _=>False) d v
def A2u(P:Program)(f:FuncId):Bool:=
 match P.funcs[f]? with
 | some fn => fn.body.isSome && !(fn.name == "runtime.NumGoroutine")
 | none=>F
def St.handed(σ:St)(P:Program)(f:FuncId)(args:List Opd)(ds:List DV)(rs:List R1):Prop:=(σ.toDVs args=E ds∧(A3m rs∨FCf P f ds rs))∨σ.toIVs args=E ds
def St.handedV(σ:St)(x:Opd)(args:List Opd)(f:FuncId)(caps:List D)(ds:List DV)(rs:List R1):Prop:=
 (σ.toDV (σ.val x)=E (.sc (.clo f caps))∧σ.toDVs args=E ds∧A3m rs)∨(σ.val x= .v (.sc (.dat (.clo f caps)))∧σ.toIVs args=E ds)
def B9e(X:Cx)(avs:List AV)(vs:List Value):Prop:=avs.length=vs.length∧∀(i:Nat) (u:AV) (v:Value),avs[i]?=E u→vs[i]?=E v→VRel X u v
def B02(P:Program)(f:FuncId)(avs:List AV)(σ σ':St)(r:AV):Prop:=
 ∀(A:Ar) (B:Nat) (w0:Base) (w:World) (nm:C8) (tmps:Array Value) (vs:List Value),Rel A B w0 nm σ tmps w→B9e (cx A nm σ w) avs vs→Calls P f vs.toArray w fun e w'=>
  ∃(v:Value) (nm':C8),e= .returned v∧Rel A B w0 nm' σ' tmps w'∧VRel (cx A nm' σ' w') r v
def aop(P:Program)(o:AOp)(K:St→Prop)(σ:St):Prop:=
 match o with
 | .call d f args=>(∃ds rs,σ.handed P f args ds rs∧FC P f ds rs∧σ.fresh d=T∧(rs.flatMap R1.cells).length≤64∧K (σ.inst d rs))∨
   (∃ids xs R0 R1 r,σ.handedX args ids xs R0 R1∧FCx P f xs R0 R1 r∧K (σ.instX d ids R1 r))∨
   (∃σ' r,B02 P f (args.map σ.val) σ σ' r∧K (σ'.set d r))
 | .callv d x args=>∃f caps ds rs,σ.handedV x args f caps ds rs∧A2u P f=T∧FC P f (ds++caps.map .sc) rs∧σ.fresh d=T∧(rs.flatMap R1.cells).length≤64∧K (σ.inst d rs)
 | o=>match σ.step o with
  | some σ'=>K σ'
  | none=>False
def G5(g:Option (Nat × Bool))(σ:St)(yes no:Prop):Prop:=
 match g with
 | none=>yes
 | some (t,want)=>match σ.get t with
  | .v (.sc (.dat (.bool b)))=>if b=want then yes else no
  | .no=>no
  | _=>False
def AOp.dst:AOp→Option Nat
 | .mv d _ | .pick d _ _ _ | .box d _ | .alloc d _ | .build d _ _ | .bslice d _ _ _ _ | .load d _ _ _ | .nilc d _ | .bin d _ _ _ | .beq d _ _ _ | .geq d _ _ _ _ | .un d _ _ | .conv d _ _ | .mksl d _ _ _ _ _ | .slc d _ _ _ _ _ | .sslc d _ _ _
 | .faddr d _ _ | .field d _ _ _ _ | .iaddr d _ _ _ | .aaddr d _ _ _ _ | .idx d _ _ | .extr d _ _ | .len d _ | .slen d _ | .sconv d _ | .app d _ _ _ _ | .mm d _ _ _ | .mkf d _ _ | .call d _ _ | .callv d _ _ | .zsl d | .zap d _ _ _ _ | .mkif d _ _ | .tass d _ _ _=>E d
 | _=>G
def Z3(P:Program):List AItem→(St→Prop)→St→Prop
 | [],K,σ=>K σ
 | (g,o)::r,K,σ=>G5 g σ (aop P o (Z3 P r K) σ) (match o.dst with | some d=>Z3 P r K (σ.set d .no) | none=>False)
def St.less(σ:St):List Nat→St
 | []=>σ
 | N=>{σ with bx:=σ.bx.filter fun p=> !N.contains p.1,rows:=σ.rows.filter fun p=> !N.contains (p.1 / 64)}
def AC.avoids(N:List Nat)(c:AC):Bool:=N.all fun n=> !c.uses n
def AV.avoids(N:List Nat)(v:AV):Bool:=v.cells.all (·.avoids N)
def B38(P:Program)(N:List Nat)(o:AOp)(K:St→Prop)(σ:St):Prop:=
 match o with
 | .call d f args=>∃ds rs,(σ.less N).handed P f args ds rs∧FC P f ds rs∧σ.fresh d=T∧(rs.flatMap R1.cells).length≤64∧K (σ.inst d rs)
 | .callv d x args=>∃f caps ds rs,(σ.less N).handedV x args f caps ds rs∧A2u P f=T∧FC P f (ds++caps.map .sc) rs∧σ.fresh d=T∧(rs.flatMap R1.cells).length≤64∧K (σ.inst d rs)
 | o=>match (σ.less N).pure o with
  | some (d,v)=>v.avoids N=T∧K (σ.set d v)
  | none=>match (σ.less N).made o with
   | some m=>(match m with | .box _ cs=>cs.all (·.avoids N) | _=>T)=T∧(match σ.make m with
    | some σ'=>K σ'
    | none=>False)
   | none=>False
def AOp.maker:AOp→Bool
 | .box .. | .alloc .. | .bslice .. | .mksl .. | .call .. | .callv .. | .zap .. =>T
 | _=>F
def A0h(its:List O4)(σ:St):Bool:=its.all fun i=>match i.1,i.2.2.maker,i.2.2.dst with
 | some _,T,E d=>σ.fresh d
 | _,_,_=>T
def A5f(P:Program):List O4→(St→Prop)→St→Prop
 | [],K,σ=>K σ
 | (G,g,o)::r,K,σ=>G5 g σ (aop P o (fun σ'=>A0h r σ'=T∧A5f P r K σ') σ) (match o.dst with | some d=>A0h r (σ.set d .no)=T∧A5f P r K (σ.set d .no) | none=>False)
 | (E N,g,o)::r,K,σ=>G5 g σ (B38 P N o (A5f P r K) σ) (match o.dst with | some d=>A5f P r K (σ.set d .no) | none=>False)
def E8(P:Program)(its:List (List Nat × AItem))(τ:St):Nat→List Bool→St→Prop
 | 0,ms,σ=>ms.all id=T→σ=τ
 | f+1,ms,σ=>∀(i:Nat) (it:List Nat × AItem),its[i]?=E it→ms[i]?=E F→(∀j∈it.1,ms[j]?=E T)→
   ∃pre post:List AItem,pre.all (fun i=>i.2.idle)=T∧post.all (fun i=>i.2.idle)=T∧
    Z3 P pre (fun σ=>G5 it.2.1 σ (aop P it.2.2 (Z3 P post (E8 P its τ f (ms.set i T))) σ) (match it.2.2.dst with | some d=>Z3 P post (E8 P its τ f (ms.set i T)) (σ.set d .no) | none=>False)) σ
def St.pad(σ:St)(ds:List Nat):St:={σ with env:=σ.env++ds.map fun d=>(d,.undef)}
def C33:D→Bool
 | .ifc .. | .ifs .. =>T
 | _=>F
def AWP(P:Program):ACode→(AExit→St→Prop)→St→Prop
 | .skip,Q,σ=>Q .normal σ
 | .reg its,Q,σ=>Z3 P its (Q .normal) σ
 | .drw its,Q,σ=>A0h its σ=T∧A5f P its (Q .normal) σ
 | .seq x y,Q,σ=>AWP P x (fun e σ'=>match e with | .normal=>AWP P y Q σ' | e=>Q e σ') σ
 | .cond c x y,Q,σ=>match σ.val c with
  | .v (.sc (.dat (.bool b)))=>if b=T then AWP P x Q σ else AWP P y Q σ
  | _=>False
 | .block id c,Q,σ=>AWP P c (fun e σ'=>match e with | .exit i=>if i=id then Q .normal σ' else Q (.exit i) σ' | e=>Q e σ') σ
 | .loop c,Q,σ=>∀X:St→Prop,(∀σ',AWP P c (fun e σ''=>match e with | .normal=>X σ'' | e=>Q e σ'') σ'→X σ')→X σ
 | .exit id,Q,σ=>Q (.exit id) σ
 | .ret,Q,σ=>Q .ret σ
 | .any its,Q,σ=>∃ks bs rs τ,E8 P its τ its.length (its.map fun _=>F) ((σ.kept ks bs rs).pad (its.filterMap fun i=>i.2.2.dst))∧Q .normal τ
 | .pan its x,Q,σ=>Z3 P its (fun σ'=>∃d,σ'.val x= .v (.sc (.dat d))∧d.flat=T∧C33 d=T∧Q (.pan d) σ') σ
 | .cal its d f args,Q,σ=>Z3 P its (fun σ'=>aop P (.call d f args) (Q .normal) σ'∨∃ds pd,σ'.toDVs args=E ds∧FCp P f ds pd∧Q (.pan pd) σ') σ
def A83(ops:Array Oper):Option (Nat × Bool)→Option (Option (Nat × Bool))
 | none=>E G
 | some (j,want)=>match (ops[j]?).bind (·.dst) with
  | some t=>E (E (t,want))
  | none=>G
def A69(P:Program)(nt:Nat)(ops:Array Oper)(o:Oper):Option AItem:=
 match A83 ops o.guard,A17 P nt o with
 | some g,E ao=>E (g,ao)
 | _,_=>G
def H6(P:Program)(nt:Nat)(ops:Array Oper):List Oper→Option (List AItem)
 | []=>E []
 | o::r=>match A69 P nt ops o,H6 P nt ops r with
  | some i,E is=>E (i::is)
  | _,_=>G
def Opd.slots:Opd→List Nat
 | .t n=> [n]
 | .c _=> []
def A6q:Option Opd→List Nat
 | some x=>x.slots
 | none=> []
def AOp.slots:AOp→List Nat
 | .mv _ x | .box _ x | .load _ x _ _ | .nilc _ x | .un _ _ x | .conv _ _ x | .faddr _ x _ | .field _ x _ _ _ | .extr _ x _ | .len _ x | .slen _ x | .sconv _ x | .mkif _ _ x | .tass _ x _ _=>x.slots
 | .pick _ c a b=>c.slots++a.slots++b.slots
 | .alloc _ _ | .zsl _=> []
 | .build _ _ ps=>ps.flatMap fun p=>p.2.2.slots
 | .bslice _ _ _ _ ps=>ps.flatMap fun p=>p.2.slots
 | .store x y _ | .bin _ _ x y | .beq _ _ x y | .geq _ _ _ x y | .mksl _ _ _ _ x y | .iaddr _ x y _ | .aaddr _ x y _ _ | .idx _ x y | .app _ _ _ x y | .mm _ _ x y | .zap _ _ _ x y=>x.slots++y.slots
 | .slc _ _ x lo hi mx=>x.slots++A6q lo++A6q hi++A6q mx
 | .sslc _ x lo hi=>x.slots++A6q lo++A6q hi
 | .mkf _ _ xs | .call _ _ xs=>xs.flatMap Opd.slots
 | .callv _ x xs=>x.slots++xs.flatMap Opd.slots
 | .drop _ | .own _ _ _ _ | .ownb _ _ _ _ | .ren _ _ | .frz _ | .frzb _ | .forget _ | .keep .. | .cut _=> []
def AItem.slots(i:AItem):List Nat:=(match i.1 with | some g=> [g.1] | none=> [])++i.2.slots
def AOp.gentle:AOp→Bool
 | .store .. | .app .. | .drop _ | .own .. | .ownb .. | .ren .. | .frz _ | .frzb _ | .forget _ | .keep .. | .cut _=>F
 | _=>T
def waits(o:Oper):List Nat:=(o.after.toList.filter (Region.binds .any)).map (·.on)
def uni(l m:List Nat):List Nat:=l.foldr (fun x acc=>if acc.contains x then acc else x::acc) m
def A8n(acc:List (List Nat)):List Nat→List Nat
 | []=> []
 | j::r=>uni (j::acc.getD j []) (A8n acc r)
def X3:List Oper→List (List Nat)→List (List Nat)
 | [],acc=>acc
 | o::r,acc=>X3 r (acc++ [A8n acc (waits o)])
def N5(an:List (List Nat))(i j:Nat):Bool:=i !=j&& !(an.getD i []).contains j&& !(an.getD j []).contains i
def E46(its:List AItem)(js:List Nat):List Nat:=js.filterMap fun j=>(its[j]?).bind fun i=>if i.2.maker then i.2.dst else G
def AOp.envOnly:AOp→Bool
 | .mv .. | .pick .. | .extr .. | .un .. | .bin .. | .beq .. | .geq .. =>T
 | _=>F
def A78(jt it:AItem):Bool:=jt.2.envOnly&&(match it with
 | (G,.store x y _)=>(match jt.2.dst with | some d=> !(x.slots++y.slots).contains d | none=>F)
 | _=>F)
def D2f(an:List (List Nat))(its:List AItem)(i:Nat)(it:AItem)(js:List Nat):Bool:=
 (js.all fun j=>decide (j<i)&&(match its[j]? with | some jt=>A78 jt it | none=>F))&&(List.range its.length).all fun l=>decide (l≤i) || js.all fun j=>(an.getD l []).contains j
def A8b(an:List (List Nat))(its:List AItem)(i:Nat)(it:AItem):Option O4:=
 let js:=(List.range its.length).filter (N5 an i)
 if it.2.gentle then
  if js.all fun j=>match its[j]? with | some jt=>(match jt.2.dst with | some d=> !it.slots.contains d | none=>A78 it jt) | none=>F then E (E (E46 its js),it) else G
 else if D2f an its i it js then E (G,it) else G
def A7j(an:List (List Nat))(its:List AItem):Nat→List AItem→Option (List O4)
 | _,[]=>E []
 | i,it::r=>match A8b an its i it,A7j an its (i+1) r with
  | some x,E xs=>E (x::xs)
  | _,_=>G
def A8a:List Nat→Bool
 | []=>T
 | x::r=> !r.contains x&&A8a r
def A8c:Nat→List Oper→Bool
 | _,[]=>T
 | i,o::r=>(waits o).all (· < i)&&A8c (i+1) r
def B9i(z:List Nat):AItem→AItem
 | (g,.bslice d sz zs 0 [])=>if z.contains d then(g,.zsl d) else(g,.bslice d sz zs 0 [])
 | (g,.app d sz b (.t q) y)=>if z.contains q then(g,.zap d sz b (.t q) y) else(g,.app d sz b (.t q) y)
 | it=>it
def E4r(its:List AItem):List Nat:=its.filterMap fun i=>match i.2 with
 | .app _ _ _ (.t q) _=>if its.any fun k=>match k.2 with | .bslice d _ _ 0 []=>d==q | _=>F then E q else G
 | _=>G
def B48(ops:Array Oper)(its:List AItem):Option (List O4):=
 if A8c 0 ops.toList&&A8a (its.filterMap fun i=>if i.2.gentle then i.2.dst else G) then A7j (X3 ops.toList []) its 0 its else G
def B0i(P:Program)(nt:Nat)(ops:Array Oper):Option (List O4):=
 match H6 P nt ops ops.toList with
 | some its=>match B48 ops its with
  | some ds=>E ds
  | none=>B48 ops (its.map (B9i (E4r its)))
 | none=>G
def C8f(P:Program)(ops:Array Oper):Bool:=ops.toList.any fun o=>match o.op with
 | .call {callee:= .value (.func f),.. }=>(match P.funcs[f]? with
  | some fn=>fn.params.toList.any fun t=>match P.underlying t with | some (.pointer _)=>T | _=>F
  | none=>F)
 | _=>F
def B14(P:Program)(nt:Nat)(ops:Array Oper):Option (List (List Nat × AItem)):=
 match H6 P nt ops ops.toList with
 | some its=>if A8c 0 ops.toList then E ((ops.toList.map waits).zip its) else G
 | none=>G
def F5p(P:Program)(f:FuncId):Bool:=match P.funcs[f]? with
 | some fn=>fn.results.isEmpty
 | none=>F
def C43(P:Program)(nt:Nat)(ops:Array Oper):Option ACode:=
 match ops.toList.getLast? with
 | some o=>if o.guard.isNone then(match o.op with
  | .panic x=>(match M0 x,H6 P nt ops ops.toList.dropLast with
   | some y,E its=>E (.pan its y)
   | _,_=>G)
  | .call _=>(match A17 P nt o,H6 P nt ops ops.toList.dropLast with
   | some (.call d f args),E its=>if F5p P f then E (.cal its d f args) else G
   | _,_=>G)
  | _=>G) else G
 | none=>G
def B9r(P:Program)(nt:Nat)(ops:Array Oper):Option ACode:=
 match C43 P nt ops with
 | some c=>E c
 | none=>(H6 P nt ops ops.toList).map .reg
def G7(P:Program)(nt:Nat):Code→Option ACode
 | .skip=>E .skip
 | .label _=>E .skip
 | .region _ ops F=>B9r P nt ops
 | .region _ ops T=>bif C8f P ops then(B14 P nt ops).map .any else match B0i P nt ops with
  | some is=>E (.drw is)
  | none=>(B14 P nt ops).map .any
 | .seq x y=>match G7 P nt x,G7 P nt y with
  | some x,E y=>E (.seq x y)
  | _,_=>G
 | .cond c x y=>match M0 c,G7 P nt x,G7 P nt y with
  | some c,E x,E y=>E (.cond c x y)
  | _,_,_=>G
 | .block id c=>(G7 P nt c).map (.block id)
 | .loop c=>(G7 P nt c).map .loop
 | .exit id=>E (.exit id)
 | .ret=>E .ret
 | _=>G
def ACode.strip:ACode→ACode
 | .reg its=> .reg (its.filter fun i=> !i.2.idle)
 | .seq (.reg its) y=>bif !its.isEmpty&&its.all (fun i=>i.2.idle) then y.strip else .seq (.reg (its.filter fun i=> !i.2.idle)) y.strip
 | .seq x y=> .seq x.strip y.strip
 | .cond c x y=> .cond c x.strip y.strip
 | .block id c=> .block id c.strip
 | .loop c=> .loop c.strip
 | .pan its x=> .pan (its.filter fun i=> !i.2.idle) x
 | .cal its d f args=> .cal (its.filter fun i=> !i.2.idle) d f args
 | c=>c
section
variable {P : Program} {A : Ar} {B : Nat} {w0 : Base} {w : World} {nm : C8} {σ : St} {a : Act}
theorem A7k{d:Nat}{o:Oper}{ao:AOp}(h:B5 P d o=E ao):ao.dst=E d∧ao.idle=F:=by
 obtain⟨dst,op,ty,pos,after,guard⟩:=o
 cases op<;>simp only[B5] at h
 case move | assign | box | nilCheck | unOp | extract=>simp only[H] at h; obtain⟨_,_,rfl⟩:=h; exact⟨rfl,rfl⟩
 case alloc=>split at h<;>first | (cases h; done) | (simp only[H] at h; obtain⟨_,_,rfl⟩:=h; exact⟨rfl,rfl⟩)
 case pick=>split at h<;>first | (cases h; done) | (cases h; exact⟨rfl,rfl⟩)
 case indexAddr=>
  split at h
  ·cases h; exact⟨rfl,rfl⟩
  ·split at h
   ·split at h
    ·split at h
     ·split at h
      ·cases h; exact⟨rfl,rfl⟩
      ·cases h
     ·cases h; exact⟨rfl,rfl⟩
    ·cases h
   ·cases h
  ·cases h
 case index=>
  split at h
  ·cases h; exact⟨rfl,rfl⟩
  ·split at h
   ·split at h
    ·cases h; exact⟨rfl,rfl⟩
    ·cases h
   ·cases h
  ·cases h
 case convert=>
  split at h
  ·cases h; exact⟨rfl,rfl⟩
  ·split at h
   ·cases h; exact⟨rfl,rfl⟩
   ·cases h
  ·cases h
 case build=>
  split at h
  ·split at h
   ·split at h<;>first | (cases h; done) | (cases h; exact⟨rfl,rfl⟩)
   ·cases h
  ·split at h
   ·split at h<;>first | (cases h; done) | (cases h; exact⟨rfl,rfl⟩)
   ·cases h
  ·cases h
 case buildSlice | makeSlice=>
  split at h
  ·split at h
   ·split at h<;>first | (cases h; done) | (cases h; exact⟨rfl,rfl⟩)
   ·cases h
  ·cases h
 case load=>
  split at h
  ·split at h<;>first | (cases h; done) | (cases h; exact⟨rfl,rfl⟩)
  ·cases h
 case binOp=>
  split at h
  ·split at h<;>first
    | (cases h; exact⟨rfl,rfl⟩; done)
    | (simp only[H] at h; obtain⟨_,_,rfl⟩:=h; exact⟨rfl,rfl⟩)
  ·cases h
 case slice=>
  split at h
  ·split at h
   ·cases h
   ·split at h
    ·split at h<;>first | (cases h; done) | (cases h; exact⟨rfl,rfl⟩)
    ·simp only[H] at h; obtain⟨_,_,rfl⟩:=h; exact⟨rfl,rfl⟩
    ·cases h
  ·cases h
 case makeInterface=>split at h<;>first | (cases h; done) | (cases h; exact⟨rfl,rfl⟩)
 case typeAssert=>
  split at h<;>first | (cases h; done) | (split at h<;>first | (cases h; done) | (cases h; exact⟨rfl,rfl⟩))
 case fieldAddr=>
  split at h
  ·split at h
   ·split at h
    ·split at h<;>first | (cases h; done) | (cases h; exact⟨rfl,rfl⟩)
    ·cases h
   ·cases h
  ·cases h
 case field=>
  split at h
  ·split at h
   ·split at h
    ·split at h<;>first | (cases h; done) | (cases h; exact⟨rfl,rfl⟩)
    ·cases h
   ·cases h
  ·cases h
 case makeFunc fn _ _=>
  cases fn<;>simp only[reduceCtorEq] at h
  split at h
  ·simp only[H] at h; obtain⟨_,_,rfl⟩:=h; exact⟨rfl,rfl⟩
  ·cases h
 case call c=>
  obtain⟨callee,args,argTypes⟩:=c
  cases callee with
  | value f=>
   cases f<;>simp only[reduceCtorEq] at h
   case func=>
    split at h
    ·split at h
     ·simp only[H] at h; obtain⟨_,_,rfl⟩:=h; exact⟨rfl,rfl⟩
     ·cases h
    ·cases h
   case tmp=>simp only[H] at h; obtain⟨_,_,rfl⟩:=h; exact⟨rfl,rfl⟩
  | invoke r m=>simp at h
  | builtin bi=>
   cases bi<;>simp only[reduceCtorEq] at h
   all_goals
    split at h
    ·split at h
     all_goals first
      | (cases h; done)
      | (cases h; exact⟨rfl,rfl⟩)
      | (split at h<;>first | (cases h; done) | (cases h; exact⟨rfl,rfl⟩))
    ·cases h
 all_goals (cases h)
theorem C54{t:TypeId}{x y:Operand}{o:Oper}(h:o.op= .store t x y):execOp a.eval o=(do Instr.storeAt t (a.eval x) (a.eval y); pure .skip:Sem Next):=by
 unfold execOp
 rw[h]
theorem D00{Q:Exit→Act→World→Prop}{K:Act→World→Prop}{nt:Nat}{o:Oper}{ao:AOp}{σ':St}(R:Rel A B w0 nm σ a.tmps w)(hnt:a.tmps.size=nt)(hc:A17 P nt o=E ao)(hs:σ.step ao=E σ')
  (hK:∀nm' a' w',Rel A B w0 nm' σ' a'.tmps w'→a'.tmps.size=nt→a'.defers=a.defers→K a' w'):o.wp P a w K Q:=by
 have put_size:∀(x:Option Nat) (v:Value),(a.put x v).tmps.size=nt:=by intro x v; cases x<;>simp[Act.put,hnt]
 have put_def:∀(x:Option Nat) (v:Value),(a.put x v).defers=a.defers:=by intro x v; cases x<;>rfl
 have value:∀{d v w' nm'},o.dst=E d→(execOp a.eval o).run P w= .ok (.value v) w'→Rel A B w0 nm' σ' (a.put (E d) v).tmps w'→o.wp P a w K Q:=by
  intro d v w' nm' hd hrun R'
  unfold Oper.wp
  rw[hrun,Oper.upon_value,hd]
  exact hK nm' _ _ R' (put_size _ _) (put_def _ _)
 unfold A17 at hc
 split at hc
 ·rename_i d hd
  split at hc
  ·rename_i hlt
   obtain⟨h1,h2⟩:=A7k hc
   have rest:(match σ.pure ao with
     | some (d,v)=>E (σ.set d v)
     | none=>match σ.made ao with
      | some m=>σ.make m
      | none=>G)=E σ'→o.wp P a w K Q:=by
    intro h
    split at h
    ·rename_i d' v hp
     cases h
     obtain⟨rfl,u,hrun,hrel⟩:=C8r (P:=P) R hc hp
     exact value hd hrun (R.put (by rw[hnt]; exact hlt) hrel)
    ·split at h
     ·rename_i m hm
      obtain⟨v,w',nm',hrun,R'⟩:=D0o (P:=P) R (by rw[hnt]; exact hlt) hd hc hm h
      exact value hd hrun (by rw[hd] at R'; exact R')
     ·cases h
   cases ao<;>first
    | (cases h2; done)
    | (cases h1; done)
    | exact rest hs
    | skip
   case app d' sz bytes x y=>
    obtain⟨dst,op,ty,pos,after,guard⟩:=o
    simp only at hd
    subst hd
    cases op<;>try (simp[B5] at hc; done)
    case call c=>
     obtain⟨callee,args,argTypes⟩:=c
     cases callee with
     | builtin bi=>
      cases bi<;>try (simp[B5] at hc; done)
      case append=>
       simp only[B5] at hc
       split at hc
       ·rename_i X Y t t' hargs htys
        have e1:args= #[X,Y]:=by apply Array.ext'; simpa using hargs
        have e2:argTypes= #[t,t']:=by apply Array.ext'; simpa using htys
        subst e1 e2
        split at hc
        ·rename_i i z e' x' y' hz hu' hx hy
         split at hc
         ·rename_i hcond
          cases hc
          obtain⟨e,hu,hi,hz2⟩:=A7s hz
          obtain⟨v,w',nm',hrun,R'⟩:=D3x (P:=P) (ty:=ty) R hu hu' hi hz2 hcond.1 hcond.2.1 (show d<a.tmps.size by rw[hnt]; exact hlt) (D1 R hx) (D1 R hy) hs
          refine value rfl ?_ R'
          simp[execOp,resolve,invoke,builtin,hrun]
         ·cases hc
        ·cases hc
       ·cases hc
      case len=>simp only[B5] at hc; split at hc<;>first | (cases hc; done) | (split at hc<;>cases hc)
      case max=>simp only[B5] at hc; split at hc<;>first | (cases hc; done) | (split at hc<;>cases hc)
      case min=>simp only[B5] at hc; split at hc<;>first | (cases hc; done) | (split at hc<;>cases hc)
     | value f=>
      cases f<;>simp only[B5,reduceCtorEq] at hc
      ·simp only[H] at hc; obtain⟨_,_,h⟩:=hc; cases h
      ·split at hc
       ·split at hc
        ·simp only[H] at hc; obtain⟨_,_,h⟩:=hc; cases h
        ·cases hc
       ·cases hc
     | invoke r m=>simp[B5] at hc
    case makeFunc fn first caps=>
     exfalso
     cases fn<;>simp only[B5,reduceCtorEq] at hc
     split at hc
     ·simp only[H] at hc; obtain⟨_,_,h⟩:=hc; cases h
     ·cases hc
    all_goals
     exfalso
     simp only[B5] at hc
     first
      | (simp only[H] at hc; obtain⟨_,_,h⟩:=hc; cases h; done)
      | ((repeat' (split at hc))<;>first | (cases hc; done) | (simp only[H] at hc; obtain⟨_,_,h⟩:=hc; cases h; done))
  ·cases hc
 ·rename_i hd
  split at hc
  ·rename_i t x y hop
   split at hc
   ·rename_i i ax ay hi hx hy
    cases hc
    have hxr:=D1 R hx
    have hyr:=D1 R hy
    have skip:∀{w' nm'},(Instr.storeAt t (a.eval x) (a.eval y)).run P w= .ok () w'→Rel A B w0 nm' σ' a.tmps w'→o.wp P a w K Q:=by
     intro w' nm' hrun R'
     unfold Oper.wp
     rw[C54 hop]
     simp only[Sem.run_bind,hrun,Result.andThen_ok,Sem.run_pure]
     rw[Oper.upon_skip,hd]
     exact hK nm' a w' R' hnt rfl
    simp only[St.step,St.storeV] at hs
    split at hs
    ·rename_i id off y' e1 e2
     split at hs
     ·rename_i cs hf
      split at hs
      ·rename_i hcond
       cases hs
       rw[e1] at hxr
       rw[e2] at hyr
       obtain⟨w',hrun,R'⟩:=C1b (P:=P) R hi rfl hxr hyr hf hcond.1 hcond.2
       exact skip hrun R'
      ·cases hs
     ·cases hs
    ·rename_i id k off y' e1 e2
     split at hs
     ·rename_i sz es hf
      split at hs
      ·rename_i d ds h1 h2
       split at hs
       ·rename_i hcond
        cases hs
        rw[e1] at hxr
        rw[e2] at hyr
        obtain⟨w',hrun,R'⟩:=D4v (P:=P) R hi rfl hxr hyr hf h1 h2 hcond.1 hcond.2
        exact skip hrun R'
       ·cases hs
      ·cases hs
     ·cases hs
    ·rename_i c cs d e1 e2
     cases hcond:(i.size==1&&B5c c d) with
     | false=>rw[hcond] at hs; cases hs
     | true=>
      rw[hcond] at hs
      cases hs
      simp only[Bool.and_eq_true,beq_iff_eq] at hcond
      rw[e1] at hxr
      rw[e2] at hyr
      obtain⟨w',hrun,R'⟩:=D3u (P:=P) R hi hcond.1 hxr hyr hcond.2
      exact skip hrun R'
    ·cases hs
   ·cases hc
  ·cases hc
end
end Go.Vi
