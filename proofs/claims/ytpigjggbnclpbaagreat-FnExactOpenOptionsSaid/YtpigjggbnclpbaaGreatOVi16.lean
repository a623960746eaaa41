/-
The value level. No condition.
-/
import Derived.Test.YtpigjggbnclpbaaGreatOVi15
import Derived.Tactics
namespace Go.Vi
set_option linter.all false
open Option renaming map_eq_some_iff → W, some → E, none → G
open Bool renaming true → T, false → F
open _root_ renaming List → L, Option → O, Bool → U, Nat → V
abbrev AItem:=O (V × U) × AOp
abbrev AO:=O (L V) × AItem
inductive Xd where
 | skip
 | reg (its:L AItem)
 | drw (its:L AO)
 | seq (x y:Xd)
 | cond (c:Opd) (x y:Xd)
 | block (id:V) (c:Xd)
 | loop (c:Xd)
 | exit (id:V)
 | ret
 | pan (its:L AItem) (x:Opd)
 | cal (its:L AItem) (d:V) (f:FuncId) (args:L Opd)
 | any (its:L (L V × AItem))
 | hook (nt:V) (C:Code)
 deriving Inhabited
inductive Xg where
 | normal
 | exit (id:V)
 | ret
 | pan (d:D)
def Xg.Is:Xg→Exit→Prop
 | .normal,e=>e= .normal
 | .exit id,e=>e= .exit id
 | .ret,e=>e= .ret
 | .pan d,e=>∃v,e= .panic [{v:=v,recovered:=false }]∧Rep (fun _ _=>False) d v
def Bi(P:Program)(f:FuncId):U:=
 match P.funcs[f]? with
 | some fn => fn.body.isSome && !(fn.name == "runtime.NumGoroutine")
 | none=>F
def St.handed(σ:St)(P:Program)(f:FuncId)(args:L Opd)(ds:L DV)(rs:L R1):Prop:=(σ.toDVs args=E ds∧(C7 rs∨FCf P f ds rs))∨σ.toIVs args=E ds
def St.handedV(σ:St)(x:Opd)(args:L Opd)(f:FuncId)(caps:L D)(ds:L DV)(rs:L R1):Prop:=
 (σ.toDV (σ.val x)=E (.sc (.clo f caps))∧σ.toDVs args=E ds∧C7 rs)∨(σ.val x= .v (.sc (.dat (.clo f caps)))∧σ.toIVs args=E ds)
def VsRel(X:Cx)(avs:L AV)(vs:L Value):Prop:=avs.length=vs.length∧∀(i:V) (u:AV) (v:Value),avs[i]?=E u→vs[i]?=E v→VRel X u v
def CallC(P:Program)(f:FuncId)(avs:L AV)(σ σ':St)(r:AV):Prop:=
 ∀(A:Ar) (B:V) (w0:Base) (w:World) (nm:Ad) (tmps:Array Value) (vs:L Value),Rel A B w0 nm σ tmps w→VsRel (cx A nm σ w) avs vs→Calls P f vs.toArray w fun e w'=>
  ∃(v:Value) (nm':Ad),e= .returned v∧Rel A B w0 nm' σ' tmps w'∧VRel (cx A nm' σ' w') r v
def LV(P:Program)(f:FuncId)(avs:L AV)(σ:St)(S:St→AV→Prop):Prop:=
 ∀(A:Ar) (B:V) (w0:Base) (w:World) (nm:Ad) (tmps:Array Value) (vs:L Value),Rel A B w0 nm σ tmps w→VsRel (cx A nm σ w) avs vs→Calls P f vs.toArray w fun e w'=>
  ∃(v:Value) (nm':Ad) (σ':St) (r:AV),e= .returned v∧S σ' r∧Rel A B w0 nm' σ' tmps w'∧VRel (cx A nm' σ' w') r v
theorem CallC.s{P:Program}{f:FuncId}{avs:L AV}{σ σ':St}{r:AV}(H:CallC P f avs σ σ' r):LV P f avs σ (fun a b=>a=σ'∧b=r):=fun A B w0 w nm tmps vs R hv=>(H A B w0 w nm tmps vs R hv).mono fun e w' ⟨v,nm',h1,h2,h3⟩=>⟨v,nm',σ',r,h1,⟨rfl,rfl⟩,h2,h3⟩
def AN(P:Program)(o:AOp)(K:St→Prop)(σ:St):Prop:=
 match o with
 | .call d f args=>(∃ds rs,σ.handed P f args ds rs∧FC P f ds rs∧σ.fresh d=T∧(rs.flatMap R1.cells).length≤64∧K (σ.inst d rs))∨
   (∃ids xs R0 R1 r,σ.handedX args ids xs R0 R1∧FCx P f xs R0 R1 r∧K (σ.instX d ids R1 r))∨
   (∃S,LV P f (args.map σ.val) σ S∧∀σ' r,S σ' r→K (σ'.set d r))
 | .callv d x args=>(∃f caps ds rs,σ.handedV x args f caps ds rs∧Bi P f=T∧FC P f (ds++caps.map .sc) rs∧σ.fresh d=T∧(rs.flatMap R1.cells).length≤64∧K (σ.inst d rs))∨
   (∃f ids σ' r,σ.val x= .v (.sc (.clo f ids))∧Bi P f=T∧CallC P f (args.map σ.val++ids.map fun i=> .v (.sc (.pb i 0))) σ σ' r∧K (σ'.set d r))
 | o=>match σ.step o with
  | some σ'=>K σ'
  | none=>False
def AA(g:O (V × U))(σ:St)(yes no:Prop):Prop:=
 match g with
 | none=>yes
 | some (t,want)=>match σ.get t with
  | .v (.sc (.dat (.bool b)))=>if b=want then yes else no
  | .no=>no
  | _=>False
def AOp.dst:AOp→O V
 | .mv d _ | .pick d _ _ _ | .box d _ | .alloc d _ | .build d _ _ | .bslice d _ _ _ _ | .load d _ _ _ | .nilc d _ | .bin d _ _ _ | .beq d _ _ _ | .geq d _ _ _ _ | .un d _ _ | .conv d _ _ | .mksl d _ _ _ _ _ | .slc d _ _ _ _ _ | .sslc d _ _ _
 | .faddr d _ _ | .field d _ _ _ _ | .iaddr d _ _ _ | .aaddr d _ _ _ _ | .idx d _ _ | .extr d _ _ | .len d _ | .slen d _ | .sconv d _ | .app d _ _ _ _ | .mm d _ _ _ | .mkf d _ _ | .call d _ _ | .callv d _ _ | .zsl d | .zap d _ _ _ _ | .mkif d _ _ | .tass d _ _ _=>E d
 | _=>G
def B8(P:Program):L AItem→(St→Prop)→St→Prop
 | [],K,σ=>K σ
 | (g,o)::r,K,σ=>AA g σ (AN P o (B8 P r K) σ) (match o.dst with | some d=>B8 P r K (σ.set d .no) | none=>False)
def St.less(σ:St):L V→St
 | []=>σ
 | N=>{σ with bx:=σ.bx.filter fun p=> !N.contains p.1,rows:=σ.rows.filter fun p=> !N.contains (p.1 / 64)}
def AC.avoids(N:L V)(c:AC):U:=N.all fun n=> !c.uses n
def AV.avoids(N:L V)(v:AV):U:=v.cells.all (·.avoids N)
def ED(P:Program)(N:L V)(o:AOp)(K:St→Prop)(σ:St):Prop:=
 match o with
 | .call d f args=>∃ds rs,(σ.less N).handed P f args ds rs∧FC P f ds rs∧σ.fresh d=T∧(rs.flatMap R1.cells).length≤64∧K (σ.inst d rs)
 | .callv d x args=>∃f caps ds rs,(σ.less N).handedV x args f caps ds rs∧Bi P f=T∧FC P f (ds++caps.map .sc) rs∧σ.fresh d=T∧(rs.flatMap R1.cells).length≤64∧K (σ.inst d rs)
 | o=>match (σ.less N).pure o with
  | some (d,v)=>v.avoids N=T∧K (σ.set d v)
  | none=>match (σ.less N).made o with
   | some m=>(match m with | .box _ cs=>cs.all (·.avoids N) | _=>T)=T∧(match σ.make m with
    | some σ'=>K σ'
    | none=>False)
   | none=>False
def AOp.maker:AOp→U
 | .box .. | .alloc .. | .bslice .. | .mksl .. | .call .. | .callv .. | .zap .. =>T
 | _=>F
def Cj(its:L AO)(σ:St):U:=its.all fun i=>match i.1,i.2.2.maker,i.2.2.dst with
 | some _,T,E d=>σ.fresh d
 | _,_,_=>T
def BR(P:Program):L AO→(St→Prop)→St→Prop
 | [],K,σ=>K σ
 | (G,g,o)::r,K,σ=>AA g σ (AN P o (fun σ'=>Cj r σ'=T∧BR P r K σ') σ) (match o.dst with | some d=>Cj r (σ.set d .no)=T∧BR P r K (σ.set d .no) | none=>False)
 | (E N,g,o)::r,K,σ=>AA g σ (ED P N o (BR P r K) σ) (match o.dst with | some d=>BR P r K (σ.set d .no) | none=>False)
def An(P:Program)(its:L (L V × AItem))(τ:St):V→L U→St→Prop
 | 0,ms,σ=>ms.all id=T→σ=τ
 | f+1,ms,σ=>∀(i:V) (it:L V × AItem),its[i]?=E it→ms[i]?=E F→(∀j∈it.1,ms[j]?=E T)→
   ∃pre post:L AItem,pre.all (fun i=>i.2.idle)=T∧post.all (fun i=>i.2.idle)=T∧
    B8 P pre (fun σ=>AA it.2.1 σ (AN P it.2.2 (B8 P post (An P its τ f (ms.set i T))) σ) (match it.2.2.dst with | some d=>B8 P post (An P its τ f (ms.set i T)) (σ.set d .no) | none=>False)) σ
def St.pad(σ:St)(ds:L V):St:={σ with env:=σ.env++ds.map fun d=>(d,.undef)}
def Pe:D→U
 | .ifc .. | .ifs .. =>T
 | _=>F
def WG(P:Program)(nt:V)(C:Code)(σ σ':St):Prop:=∀(A:Ar) (B:V) (w0:Base) (nm:Ad) (a:Act) (w:World),Rel A B w0 nm σ a.tmps w→a.tmps.size=nt→
 C.wp P (fun e a' w'=>e= .normal∧(∃nm',Rel A B w0 nm' σ' a'.tmps w')∧a'.tmps.size=nt∧a'.defers=a.defers) a w
def AT(P:Program):Xd→(Xg→St→Prop)→St→Prop
 | .skip,Q,σ=>Q .normal σ
 | .reg its,Q,σ=>B8 P its (Q .normal) σ
 | .drw its,Q,σ=>Cj its σ=T∧BR P its (Q .normal) σ
 | .seq x y,Q,σ=>AT P x (fun e σ'=>match e with | .normal=>AT P y Q σ' | e=>Q e σ') σ
 | .cond c x y,Q,σ=>match σ.val c with
  | .v (.sc (.dat (.bool b)))=>if b=T then AT P x Q σ else AT P y Q σ
  | _=>False
 | .block id c,Q,σ=>AT P c (fun e σ'=>match e with | .exit i=>if i=id then Q .normal σ' else Q (.exit i) σ' | e=>Q e σ') σ
 | .loop c,Q,σ=>∀X:St→Prop,(∀σ',AT P c (fun e σ''=>match e with | .normal=>X σ'' | e=>Q e σ'') σ'→X σ')→X σ
 | .exit id,Q,σ=>Q (.exit id) σ
 | .ret,Q,σ=>Q .ret σ
 | .any its,Q,σ=>∃ks bs rs τ,An P its τ its.length (its.map fun _=>F) ((σ.kept ks bs rs).pad (its.filterMap fun i=>i.2.2.dst))∧Q .normal τ
 | .pan its x,Q,σ=>B8 P its (fun σ'=>∃d,σ'.val x= .v (.sc (.dat d))∧d.flat=T∧Pe d=T∧Q (.pan d) σ') σ
 | .cal its d f args,Q,σ=>B8 P its (fun σ'=>AN P (.call d f args) (Q .normal) σ'∨∃ds pd,σ'.toDVs args=E ds∧J5 P f ds pd∧Q (.pan pd) σ') σ
 | .hook nt C,Q,σ=>∃σ',WG P nt C σ σ'∧Q .normal σ'
def FO(ops:Array Oper):O (V × U)→O (O (V × U))
 | none=>E G
 | some (j,want)=>match (ops[j]?).bind (·.dst) with
  | some t=>E (E (t,want))
  | none=>G
def FP(P:Program)(nt:V)(ops:Array Oper)(o:Oper):O AItem:=
 match FO ops o.guard,C6 P nt o with
 | some g,E ao=>E (g,ao)
 | _,_=>G
def Bl(P:Program)(nt:V)(ops:Array Oper):L Oper→O (L AItem)
 | []=>E []
 | o::r=>match FP P nt ops o,Bl P nt ops r with
  | some i,E is=>E (i::is)
  | _,_=>G
def Opd.slots:Opd→L V
 | .t n=> [n]
 | .c _=> []
def DF:O Opd→L V
 | some x=>x.slots
 | none=> []
def AOp.slots:AOp→L V
 | .mv _ x | .box _ x | .load _ x _ _ | .nilc _ x | .un _ _ x | .conv _ _ x | .faddr _ x _ | .field _ x _ _ _ | .extr _ x _ | .len _ x | .slen _ x | .sconv _ x | .mkif _ _ x | .tass _ x _ _=>x.slots
 | .pick _ c a b=>c.slots++a.slots++b.slots
 | .clr x _ _=>x.slots
 | .alloc _ _ | .zsl _=> []
 | .build _ _ ps=>ps.flatMap fun p=>p.2.2.slots
 | .bslice _ _ _ _ ps=>ps.flatMap fun p=>p.2.slots
 | .store x y _ | .bin _ _ x y | .beq _ _ x y | .geq _ _ _ x y | .mksl _ _ _ _ x y | .iaddr _ x y _ | .aaddr _ x y _ _ | .idx _ x y | .app _ _ _ x y | .mm _ _ x y | .zap _ _ _ x y=>x.slots++y.slots
 | .slc _ _ x lo hi mx=>x.slots++DF lo++DF hi++DF mx
 | .sslc _ x lo hi=>x.slots++DF lo++DF hi
 | .mkf _ _ xs | .call _ _ xs=>xs.flatMap Opd.slots
 | .callv _ x xs=>x.slots++xs.flatMap Opd.slots
 | .drop _ | .own _ _ _ _ | .ownb _ _ _ _ | .ren _ _ | .frz _ | .frzb _ | .forget _ | .keep .. | .cut _=> []
def AItem.slots(i:AItem):L V:=(match i.1 with | some g=> [g.1] | none=> [])++i.2.slots
def AOp.gentle:AOp→U
 | .store .. | .clr .. | .app .. | .drop _ | .own .. | .ownb .. | .ren .. | .frz _ | .frzb _ | .forget _ | .keep .. | .cut _=>F
 | _=>T
def waits(o:Oper):L V:=(o.after.toList.filter (Region.binds .any)).map (·.on)
def Q5(l m:L V):L V:=l.foldr (fun x acc=>if acc.contains x then acc else x::acc) m
def Di(acc:L (L V)):L V→L V
 | []=> []
 | j::r=>Q5 (j::acc.getD j []) (Di acc r)
def B6:L Oper→L (L V)→L (L V)
 | [],acc=>acc
 | o::r,acc=>B6 r (acc++ [Di acc (waits o)])
def Bh(an:L (L V))(i j:V):U:=i !=j&& !(an.getD i []).contains j&& !(an.getD j []).contains i
def cV(its:L AItem)(js:L V):L V:=js.filterMap fun j=>(its[j]?).bind fun i=>if i.2.maker then i.2.dst else G
def AOp.envOnly:AOp→U
 | .mv .. | .pick .. | .extr .. | .un .. | .bin .. | .beq .. | .geq .. =>T
 | _=>F
def IE(jt it:AItem):U:=jt.2.envOnly&&(match it with
 | (G,.store x y _)=>(match jt.2.dst with | some d=> !(x.slots++y.slots).contains d | none=>F)
 | _=>F)
def TD(an:L (L V))(its:L AItem)(i:V)(it:AItem)(js:L V):U:=
 (js.all fun j=>decide (j<i)&&(match its[j]? with | some jt=>IE jt it | none=>F))&&(List.range its.length).all fun l=>decide (l≤i) || js.all fun j=>(an.getD l []).contains j
def AOp.calls:AOp→U
 | .call .. =>T
 | _=>F
def HJ(an:L (L V))(its:L AItem)(i:V)(it:AItem):O AO:=
 let js:=(List.range its.length).filter (Bh an i)
 if it.2.gentle&& !(js.isEmpty&&it.2.calls) then
  if js.all fun j=>match its[j]? with | some jt=>(match jt.2.dst with | some d=> !it.slots.contains d | none=>IE it jt) | none=>F then E (E (cV its js),it) else G
 else if TD an its i it js then E (G,it) else G
def HK(an:L (L V))(its:L AItem):V→L AItem→O (L AO)
 | _,[]=>E []
 | i,it::r=>match HJ an its i it,HK an its (i+1) r with
  | some x,E xs=>E (x::xs)
  | _,_=>G
def HI:L V→U
 | []=>T
 | x::r=> !r.contains x&&HI r
def Hq:V→L Oper→U
 | _,[]=>T
 | i,o::r=>(waits o).all (· < i)&&Hq (i+1) r
def LR(z:L V):AItem→AItem
 | (g,.bslice d sz zs 0 [])=>if z.contains d then(g,.zsl d) else(g,.bslice d sz zs 0 [])
 | (g,.app d sz b (.t q) y)=>if z.contains q then(g,.zap d sz b (.t q) y) else(g,.app d sz b (.t q) y)
 | it=>it
def Wl(its:L AItem):L V:=its.filterMap fun i=>match i.2 with
 | .app _ _ _ (.t q) _=>if its.any fun k=>match k.2 with | .bslice d _ _ 0 []=>d==q | _=>F then E q else G
 | _=>G
def Me(ops:Array Oper)(its:L AItem):O (L AO):=
 if Hq 0 ops.toList&&HI (its.filterMap fun i=>if i.2.gentle then i.2.dst else G) then HK (B6 ops.toList []) its 0 its else G
def Jk(P:Program)(nt:V)(ops:Array Oper):O (L AO):=
 match Bl P nt ops ops.toList with
 | some its=>match Me ops its with
  | some ds=>E ds
  | none=>Me ops (its.map (LR (Wl its)))
 | none=>G
def Uf(P:Program)(ops:Array Oper):U:=ops.toList.any fun o=>match o.op with
 | .call {callee:= .value (.func f),.. }=>(match P.funcs[f]? with
  | some fn=>fn.params.toList.any fun t=>match P.underlying t with | some (.pointer _)=>T | _=>F
  | none=>F)
 | _=>F
def Ji(P:Program)(nt:V)(ops:Array Oper):O (L (L V × AItem)):=
 match Bl P nt ops ops.toList with
 | some its=>if Hq 0 ops.toList then E ((ops.toList.map waits).zip its) else G
 | none=>G
def mb(P:Program)(f:FuncId):U:=match P.funcs[f]? with
 | some fn=>fn.results.isEmpty
 | none=>F
def Rm(P:Program)(nt:V)(ops:Array Oper):O Xd:=
 match ops.toList.getLast? with
 | some o=>if o.guard.isNone then(match o.op with
  | .panic x=>(match Az x,Bl P nt ops ops.toList.dropLast with
   | some y,E its=>E (.pan its y)
   | _,_=>G)
  | .call _=>(match C6 P nt o,Bl P nt ops ops.toList.dropLast with
   | some (.call d f args),E its=>if mb P f then E (.cal its d f args) else G
   | _,_=>G)
  | _=>G) else G
 | none=>G
def Ow(P:Program)(nt:V)(ops:Array Oper):O Xd:=
 match Rm P nt ops with
 | some c=>E c
 | none=>(Bl P nt ops ops.toList).map .reg
def U1(nt:V)(C:Code):O Xd→O Xd
 | some c=>E c
 | none=>E (.hook nt C)
theorem CD{nt:V}{C:Code}{o:O Xd}{c:Xd}(h:U1 nt C o=E c):o=E c∨c= .hook nt C:=by
 cases o with
 | some x=>exact .inl h
 | none=>cases h; exact .inr rfl
def B0(P:Program)(nt:V):Code→O Xd
 | .skip=>E .skip
 | .label _=>E .skip
 | .region id ops F=>U1 nt (.region id ops F) (Ow P nt ops)
 | .region _ ops T=>bif Uf P ops then(Ji P nt ops).map .any else match Jk P nt ops with
  | some is=>E (.drw is)
  | none=>(Ji P nt ops).map .any
 | .seq x y=>match B0 P nt x,B0 P nt y with
  | some x,E y=>E (.seq x y)
  | _,_=>G
 | .cond c x y=>match Az c,B0 P nt x,B0 P nt y with
  | some c,E x,E y=>E (.cond c x y)
  | _,_,_=>G
 | .block id c=>(B0 P nt c).map (.block id)
 | .loop c=>(B0 P nt c).map .loop
 | .exit id=>E (.exit id)
 | .ret=>E .ret
 | _=>G
def Xd.strip:Xd→Xd
 | .reg its=> .reg (its.filter fun i=> !i.2.idle)
 | .seq (.reg its) y=>bif !its.isEmpty&&its.all (fun i=>i.2.idle) then y.strip else .seq (.reg (its.filter fun i=> !i.2.idle)) y.strip
 | .seq x y=> .seq x.strip y.strip
 | .cond c x y=> .cond c x.strip y.strip
 | .block id c=> .block id c.strip
 | .loop c=> .loop c.strip
 | .pan its x=> .pan (its.filter fun i=> !i.2.idle) x
 | .cal its d f args=> .cal (its.filter fun i=> !i.2.idle) d f args
 | c=>c
section
variable {P : Program} {A : Ar} {B : V} {w0 : Base} {w : World} {nm : Ad} {σ : St} {a : Act}
theorem Jj{d:V}{o:Oper}{ao:AOp}(h:Ae P d o=E ao):ao.dst=E d∧ao.idle=F:=by
 obtain⟨dst,op,ty,pos,after,guard⟩:=o;cases op<;>simp only[Ae] at h
 case move | assign | box | nilCheck | unOp | extract=>simp only[W] at h; obtain⟨_,_,rfl⟩:=h; exact⟨rfl,rfl⟩
 case alloc=>split at h<;>first | (cases h; done) | (simp only[W] at h; obtain⟨_,_,rfl⟩:=h; exact⟨rfl,rfl⟩)
 case pick=>split at h<;>first | (cases h; done) | (cases h; exact⟨rfl,rfl⟩)
 case indexAddr=>
  split at h
  ·cases h; exact⟨rfl,rfl⟩
  ·split at h
   ·split at h
    ·split at h
     ·split at h
      ·cases h; exact⟨rfl,rfl⟩
      ·cases h
     ·cases h; exact⟨rfl,rfl⟩
    ·cases h
   ·cases h
  ·cases h
 case index=>
  split at h
  ·cases h; exact⟨rfl,rfl⟩
  ·split at h
   ·split at h
    ·cases h; exact⟨rfl,rfl⟩
    ·cases h
   ·cases h
  ·cases h
 case convert=>
  split at h
  ·cases h; exact⟨rfl,rfl⟩
  ·split at h
   ·cases h; exact⟨rfl,rfl⟩
   ·cases h
  ·cases h
 case build=>
  split at h
  ·split at h
   ·split at h<;>first | (cases h; done) | (cases h; exact⟨rfl,rfl⟩)
   ·cases h
  ·split at h
   ·split at h<;>first | (cases h; done) | (cases h; exact⟨rfl,rfl⟩)
   ·cases h
  ·cases h
 case buildSlice | makeSlice=>
  split at h
  ·split at h
   ·split at h<;>first | (cases h; done) | (cases h; exact⟨rfl,rfl⟩)
   ·cases h
  ·cases h
 case load=>
  split at h
  ·split at h<;>first | (cases h; done) | (cases h; exact⟨rfl,rfl⟩)
  ·cases h
 case binOp=>
  split at h
  ·split at h<;>first
    | (cases h; exact⟨rfl,rfl⟩; done)
    | (simp only[W] at h; obtain⟨_,_,rfl⟩:=h; exact⟨rfl,rfl⟩)
  ·cases h
 case slice=>
  split at h
  ·split at h
   ·cases h
   ·split at h
    ·split at h<;>first | (cases h; done) | (cases h; exact⟨rfl,rfl⟩)
    ·simp only[W] at h; obtain⟨_,_,rfl⟩:=h; exact⟨rfl,rfl⟩
    ·cases h
  ·cases h
 case makeInterface=>split at h<;>first | (cases h; done) | (cases h; exact⟨rfl,rfl⟩)
 case typeAssert=>
  split at h<;>first | (cases h; done) | (split at h<;>first | (cases h; done) | (cases h; exact⟨rfl,rfl⟩))
 case fieldAddr=>
  split at h
  ·split at h
   ·split at h
    ·split at h<;>first | (cases h; done) | (cases h; exact⟨rfl,rfl⟩)
    ·cases h
   ·cases h
  ·cases h
 case field=>
  split at h
  ·split at h
   ·split at h
    ·split at h<;>first | (cases h; done) | (cases h; exact⟨rfl,rfl⟩)
    ·cases h
   ·cases h
  ·cases h
 case makeFunc fn _ _=>
  cases fn<;>simp only[reduceCtorEq] at h;split at h
  ·simp only[W] at h; obtain⟨_,_,rfl⟩:=h; exact⟨rfl,rfl⟩
  ·cases h
 case call c=>
  obtain⟨callee,args,argTypes⟩:=c;cases callee with
  | value f=>
   cases f<;>simp only[reduceCtorEq] at h
   case func=>
    split at h
    ·split at h
     ·simp only[W] at h; obtain⟨_,_,rfl⟩:=h; exact⟨rfl,rfl⟩
     ·cases h
    ·cases h
   case tmp=>simp only[W] at h; obtain⟨_,_,rfl⟩:=h; exact⟨rfl,rfl⟩
  | invoke r m=>simp at h
  | builtin bi=>
   cases bi<;>simp only[reduceCtorEq] at h
   all_goals
    split at h
    ·split at h
     all_goals first
      | (cases h; done)
      | (cases h; exact⟨rfl,rfl⟩)
      | (split at h<;>first | (cases h; done) | (cases h; exact⟨rfl,rfl⟩))
    ·cases h
 all_goals (cases h)
theorem dj{t:TypeId}{x y:Operand}{o:Oper}(h:o.op= .store t x y):execOp a.eval o=(do Instr.storeAt t (a.eval x) (a.eval y); pure .skip:Sem Next):=by
 unfold execOp;rw[h]
theorem oZ{Q:Exit→Act→World→Prop}{K:Act→World→Prop}{nt:V}{o:Oper}{ao:AOp}{σ':St}(R:Rel A B w0 nm σ a.tmps w)(hnt:a.tmps.size=nt)(hc:C6 P nt o=E ao)(hs:σ.step ao=E σ')
  (hK:∀nm' a' w',Rel A B w0 nm' σ' a'.tmps w'→a'.tmps.size=nt→a'.defers=a.defers→K a' w'):o.wp P a w K Q:=by
 have put_size:∀(x:O V) (v:Value),(a.put x v).tmps.size=nt:=by intro x v; cases x<;>simp[Act.put,hnt]
 have put_def:∀(x:O V) (v:Value),(a.put x v).defers=a.defers:=by intro x v; cases x<;>rfl
 have value:∀{d v w' nm'},o.dst=E d→(execOp a.eval o).run P w= .ok (.value v) w'→Rel A B w0 nm' σ' (a.put (E d) v).tmps w'→o.wp P a w K Q:=by
  intro d v w' nm' hd hrun R';unfold Oper.wp;rw[hrun,Oper.upon_value,hd];exact hK nm' _ _ R' (put_size _ _) (put_def _ _)
 unfold C6 at hc
 split at hc
 ·rename_i d hd
  split at hc
  ·rename_i hlt
   obtain⟨h1,h2⟩:=Jj hc
   have rest:(match σ.pure ao with
     | some (d,v)=>E (σ.set d v)
     | none=>match σ.made ao with
      | some m=>σ.make m
      | none=>G)=E σ'→o.wp P a w K Q:=by
    intro h;split at h
    ·rename_i d' v hp
     cases h;obtain⟨rfl,u,hrun,hrel⟩:=md (P:=P) R hc hp;exact value hd hrun (R.put (by rw[hnt]; exact hlt) hrel)
    ·split at h
     ·rename_i m hm
      obtain⟨v,w',nm',hrun,R'⟩:=lD (P:=P) R (by rw[hnt]; exact hlt) hd hc hm h;exact value hd hrun (by rw[hd] at R'; exact R')
     ·cases h
   cases ao<;>first
    | (cases h2; done)
    | (cases h1; done)
    | exact rest hs
    | skip
   case app d' sz bytes x y=>
    obtain⟨dst,op,ty,pos,after,guard⟩:=o;simp only at hd
    subst hd;cases op<;>try (simp[Ae] at hc; done)
    case call c=>
     obtain⟨callee,args,argTypes⟩:=c;cases callee with
     | builtin bi=>
      cases bi<;>try (simp[Ae] at hc; done)
      case append=>
       simp only[Ae] at hc
       split at hc
       ·rename_i X Y t t' hargs htys
        have e1:args= #[X,Y]:=by apply Array.ext'; simpa using hargs
        have e2:argTypes= #[t,t']:=by apply Array.ext'; simpa using htys
        subst e1 e2;split at hc
        ·rename_i i z e' x' y' hz hu' hx hy
         split at hc
         ·rename_i hcond
          cases hc;obtain⟨e,hu,hi,hz2⟩:=HN hz;obtain⟨v,w',nm',hrun,R'⟩:=YU (P:=P) (ty:=ty) R hu hu' hi hz2 hcond.1 hcond.2.1 (show d<a.tmps.size by rw[hnt]; exact hlt) (Al R hx) (Al R hy) hs;refine value rfl ?_ R';simp[execOp,resolve,invoke,builtin,hrun]
         ·cases hc
        ·cases hc
       ·cases hc
      case len=>simp only[Ae] at hc; split at hc<;>first | (cases hc; done) | (split at hc<;>cases hc)
      case max=>simp only[Ae] at hc; split at hc<;>first | (cases hc; done) | (split at hc<;>cases hc)
      case min=>simp only[Ae] at hc; split at hc<;>first | (cases hc; done) | (split at hc<;>cases hc)
     | value f=>
      cases f<;>simp only[Ae,reduceCtorEq] at hc
      ·simp only[W] at hc; obtain⟨_,_,h⟩:=hc; cases h
      ·split at hc
       ·split at hc
        ·simp only[W] at hc; obtain⟨_,_,h⟩:=hc; cases h
        ·cases hc
       ·cases hc
     | invoke r m=>simp[Ae] at hc
    case makeFunc fn first caps=>
     exfalso
     cases fn<;>simp only[Ae,reduceCtorEq] at hc
     split at hc
     ·simp only[W] at hc; obtain⟨_,_,h⟩:=hc; cases h
     ·cases hc
    all_goals
     exfalso
     simp only[Ae] at hc
     first
      | (simp only[W] at hc; obtain⟨_,_,h⟩:=hc; cases h; done)
      | ((repeat' (split at hc))<;>first | (cases hc; done) | (simp only[W] at hc; obtain⟨_,_,h⟩:=hc; cases h; done))
  ·cases hc
 ·rename_i hd
  split at hc
  ·rename_i t x y hop
   split at hc
   ·rename_i i ax ay hi hx hy
    cases hc;have hxr:=Al R hx;have hyr:=Al R hy
    have skip:∀{w' nm'},(Instr.storeAt t (a.eval x) (a.eval y)).run P w= .ok () w'→Rel A B w0 nm' σ' a.tmps w'→o.wp P a w K Q:=by
     intro w' nm' hrun R';unfold Oper.wp;rw[dj hop];simp only[Sem.run_bind,hrun,Result.andThen_ok,Sem.run_pure];rw[Oper.upon_skip,hd];exact hK nm' a w' R' hnt rfl
    simp only[St.step,St.storeV] at hs
    split at hs
    ·rename_i id off y' e1 e2
     split at hs
     ·rename_i cs hf
      split at hs
      ·rename_i hcond
       cases hs;rw[e1] at hxr
       rw[e2] at hyr
       obtain⟨w',hrun,R'⟩:=od (P:=P) R hi rfl hxr hyr hf hcond.1 hcond.2;exact skip hrun R'
      ·cases hs
     ·cases hs
    ·rename_i id k off y' e1 e2
     split at hs
     ·rename_i sz es hf
      split at hs
      ·rename_i d ds h1 h2
       split at hs
       ·rename_i hcond
        cases hs;rw[e1] at hxr
        rw[e2] at hyr
        obtain⟨w',hrun,R'⟩:=oh (P:=P) R hi rfl hxr hyr hf h1 h2 hcond.1 hcond.2;exact skip hrun R'
       ·cases hs
      ·cases hs
     ·cases hs
    ·rename_i c cs d e1 e2
     cases hcond:(i.size==1&&IF c d) with
     | false=>rw[hcond] at hs; cases hs
     | true=>
      rw[hcond] at hs
      cases hs;simp only[Bool.and_eq_true,beq_iff_eq] at hcond
      rw[e1] at hxr
      rw[e2] at hyr
      obtain⟨w',hrun,R'⟩:=oi (P:=P) R hi hcond.1 hxr hyr hcond.2;exact skip hrun R'
    ·cases hs
   ·cases hc
  ·rename_i args argTypes hop
   split at hc
   ·rename_i x t hargs htys
    have e1:args= #[x]:=by apply Array.ext'; simpa using hargs
    have e2:argTypes= #[t]:=by apply Array.ext'; simpa using htys
    subst e1 e2;split at hc
    ·rename_i i z y hz hy
     split at hc
     ·rename_i hcond
      split at hc
      ·rename_i zs hzs
       cases hc;obtain⟨e,hu,hi,hz2⟩:=HN hz;obtain⟨v,w',hrun,R'⟩:=ZR (P:=P) (ty:=o.type) R hu hi hz2 hcond.1 hcond.2 (Qt (X:=cx A nm σ w) hzs hcond.1) (Al R hy) hs
       have hex:(execOp a.eval o).run P w= .ok (.value v) w':=by
        obtain⟨dst,op,ty,pos,after,guard⟩:=o;simp only at hop hrun
        subst hop;simp[execOp,resolve,invoke,builtin,hrun]
       unfold Oper.wp;rw[hex,Oper.upon_value,hd];exact hK nm _ _ R' (put_size _ _) (put_def _ _)
      ·cases hc
     ·cases hc
    ·cases hc
   ·cases hc
  ·cases hc
end
end Go.Vi
