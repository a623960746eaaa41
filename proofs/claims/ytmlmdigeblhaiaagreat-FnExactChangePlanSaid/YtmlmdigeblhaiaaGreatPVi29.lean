/-
The value level. No condition.
-/
import Derived.Test.YtmlmdigeblhaiaaGreatPVi15
import Derived.Tactics
import Derived.Orders
import Derived.IntWalk
namespace Go.Vi
set_option linter.all false
open Option renaming map_eq_some_iff → zG, bind_some → yN, getD_some → yO, some → W, none → I
open Bool renaming and_eq_true → zH, not_eq_true' → zK, and_true → zR, true → O, false → V
open List renaming all_eq_true → zI, getElem?_eq_some_iff → zJ, mem_cons → zL, contains_eq_mem → zM, mem_range' → zN, getElem?_eq_getElem → zO, mem_append → zP, mem_of_getElem? → zQ, nodup_cons → zS, range' → zV, flatMap_cons → zW, all_nil → zX, all_cons → zY, getD_eq_getElem?_getD → zZ, getElem?_append_left → yA, mem_filter → yB, contains_cons → yC, length_eq_one_iff → yF, eq_nil_iff_forall_not_mem → yH, map_congr_left → yI, filterMap_cons → yJ, getElem?_append_right → yK, getElem?_map → yL, mem_map → yM, mapM_cons → yQ, drop_drop → yR, mem_range → yS, nodup_nil → yT, range → yU
open Option.some renaming inj → zT, injEq → yD
open Nat renaming le_refl → zU, zero_le → yE, zero_add → yG, le_of_not_lt → yP
open _root_ renaming List → zA, Option → zB, Bool → zD, Nat → zE, rfl → zF
section
abbrev AItem:=zB (zE × zD) × AOp
abbrev AY:=zB (zA zE) × AItem
inductive Xf where
 | skip
 | reg (its:zA AItem)
 | drw (its:zA AY)
 | seq (x y:Xf)
 | cond (c:Opd) (x y:Xf)
 | block (id:zE) (c:Xf)
 | loop (c:Xf)
 | exit (id:zE)
 | ret
 | pan (its:zA AItem) (x:Opd)
 | cal (its:zA AItem) (d:zE) (f:FuncId) (args:zA Opd)
 | any (its:zA (zA zE × AItem))
 | hook (nt:zE) (C:Code)
 deriving Inhabited
inductive Xl where
 | normal
 | exit (id:zE)
 | ret
 | pan (d:D)
def Xl.Is:Xl->Exit->Prop
 | .normal,e=>e= .normal
 | .exit id,e=>e= .exit id
 | .ret,e=>e= .ret
 | .pan d,e=>∃v,e= .panic [{v:=v,recovered:=false }]/\Rep (fun _ _=>False) d v
def BQ(P:Program)(f:FuncId):zD:=
 match P.funcs[f]? with
 | some fn => fn.body.isSome && !(fn.name == "runtime.NumGoroutine")
 | none=>V
def St.handed(M:St)(P:Program)(f:FuncId)(args:zA Opd)(ds:zA DV)(rs:zA R1):Prop:=(M.toDVs args=W ds/\(CB rs\/FCf P f ds rs))\/M.toIVs args=W ds
def St.handedV(M:St)(x:Opd)(args:zA Opd)(f:FuncId)(caps:zA D)(ds:zA DV)(rs:zA R1):Prop:=
 (M.toDV (M.val x)=W (.sc (.clo f caps))/\M.toDVs args=W ds/\CB rs)\/(M.val x= .v (.sc (.dat (.clo f caps)))/\M.toIVs args=W ds)
def VsRel(X:Cx)(avs:zA AV)(vs:zA Value):Prop:=avs.length=vs.length/\∀(i:zE) (u:AV) (v:Value),avs[i]?=W u->vs[i]?=W v->VRel X u v
def CallC(P:Program)(f:FuncId)(avs:zA AV)(M M':St)(r:AV):Prop:=
 ∀(A:Ar) (B:zE) (w0:Base) (w:World) (nm:Ac) (tmps:Array Value) (vs:zA Value),Rel A B w0 nm M tmps w->VsRel (cx A nm M w) avs vs->Calls P f vs.toArray w fun e w'=>
  ∃(v:Value) (nm':Ac),e= .returned v/\Rel A B w0 nm' M' tmps w'/\VRel (cx A nm' M' w') r v
def QL(P:Program)(f:FuncId)(avs:zA AV)(M:St)(S:St->AV->Prop):Prop:=
 ∀(A:Ar) (B:zE) (w0:Base) (w:World) (nm:Ac) (tmps:Array Value) (vs:zA Value),Rel A B w0 nm M tmps w->VsRel (cx A nm M w) avs vs->Calls P f vs.toArray w fun e w'=>
  ∃(v:Value) (nm':Ac) (M':St) (r:AV),e= .returned v/\S M' r/\Rel A B w0 nm' M' tmps w'/\VRel (cx A nm' M' w') r v
def CallC.s{P:Program}{f:FuncId}{avs:zA AV}{M M':St}{r:AV}(H:CallC P f avs M M' r):QL P f avs M (fun a b=>a=M'/\b=r):=fun A B w0 w nm tmps vs R hv=>(H A B w0 w nm tmps vs R hv).mono fun e w' ⟨v,nm',h1,h2,h3⟩=>⟨v,nm',M',r,h1,⟨rfl,rfl⟩,h2,h3⟩
def AZ(P:Program)(o:AOp)(K:St->Prop)(M:St):Prop:=
 match o with
 | .call d f args=>(∃ds rs,M.handed P f args ds rs/\FC P f ds rs/\M.fresh d=O/\(rs.flatMap R1.cells).length<=64/\K (M.inst d rs))\/
   (∃ids xs R0 R1 r,M.handedX args ids xs R0 R1/\FCx P f xs R0 R1 r/\K (M.instX d ids R1 r))\/
   (∃S,QL P f (args.map M.val) M S/\∀M' r,S M' r->K (M'.set d r))
 | .callv d x args=>(∃f caps ds rs,M.handedV x args f caps ds rs/\BQ P f=O/\FC P f (ds++caps.map .sc) rs/\M.fresh d=O/\(rs.flatMap R1.cells).length<=64/\K (M.inst d rs))\/
   (∃f ids M' r,M.val x= .v (.sc (.clo f ids))/\BQ P f=O/\CallC P f (args.map M.val++ids.map fun i=> .v (.sc (.pb i 0))) M M' r/\K (M'.set d r))
 | o=>match M.step o with
  | some M'=>K M'
  | none=>False
def AK(g:zB (zE × zD))(M:St)(yes no:Prop):Prop:=
 match g with
 | none=>yes
 | some (t,want)=>match M.get t with
  | .v (.sc (.dat (.bool b)))=>if b=want then yes else no
  | .no=>no
  | _=>False
def AOp.dst:AOp->zB zE
 | .mv d _ | .pick d _ _ _ | .box d _ | .alloc d _ | .build d _ _ | .bslice d _ _ _ _ | .load d _ _ _ | .nilc d _ | .bin d _ _ _ | .beq d _ _ _ | .geq d _ _ _ _ | .un d _ _ | .conv d _ _ | .mksl d _ _ _ _ _ | .slc d _ _ _ _ _ | .sslc d _ _ _
 | .faddr d _ _ | .field d _ _ _ _ | .iaddr d _ _ _ | .aaddr d _ _ _ _ | .idx d _ _ | .extr d _ _ | .len d _ | .slen d _ | .sconv d _ | .app d _ _ _ _ | .mm d _ _ _ | .mkf d _ _ | .call d _ _ | .callv d _ _ | .zsl d | .zap d _ _ _ _ | .mkif d _ _ | .tass d _ _ _=>W d
 | _=>I
def Bk(P:Program):zA AItem->(St->Prop)->St->Prop
 | [],K,M=>K M
 | (g,o)::r,K,M=>AK g M (AZ P o (Bk P r K) M) (match o.dst with | some d=>Bk P r K (M.set d .no) | none=>False)
def St.less(M:St):zA zE->St
 | []=>M
 | N=>{M with bx:=M.bx.filter fun p=> !N.contains p.1,rows:=M.rows.filter fun p=> !N.contains (p.1 / 64)}
def AC.avoids(N:zA zE)(c:AC):zD:=N.all fun n=> !c.uses n
def AV.avoids(N:zA zE)(v:AV):zD:=v.cells.all (·.avoids N)
def GS(P:Program)(N:zA zE)(o:AOp)(K:St->Prop)(M:St):Prop:=
 match o with
 | .call d f args=>∃ds rs,(M.less N).handed P f args ds rs/\FC P f ds rs/\M.fresh d=O/\(rs.flatMap R1.cells).length<=64/\K (M.inst d rs)
 | .callv d x args=>∃f caps ds rs,(M.less N).handedV x args f caps ds rs/\BQ P f=O/\FC P f (ds++caps.map .sc) rs/\M.fresh d=O/\(rs.flatMap R1.cells).length<=64/\K (M.inst d rs)
 | o=>match (M.less N).pure o with
  | some (d,v)=>v.avoids N=O/\K (M.set d v)
  | none=>match (M.less N).made o with
   | some m=>(match m with | .box _ cs=>cs.all (·.avoids N) | _=>O)=O/\(match M.make m with
    | some M'=>K M'
    | none=>False)
   | none=>False
def AOp.maker:AOp->zD
 | .box .. | .alloc .. | .bslice .. | .mksl .. | .call .. | .callv .. | .zap .. =>O
 | _=>V
def D3(its:zA AY)(M:St):zD:=its.all fun i=>match i.1,i.2.2.maker,i.2.2.dst with
 | some _,O,W d=>M.fresh d
 | _,_,_=>O
def Co(P:Program):zA AY->(St->Prop)->St->Prop
 | [],K,M=>K M
 | (I,g,o)::r,K,M=>AK g M (AZ P o (fun M'=>D3 r M'=O/\Co P r K M') M) (match o.dst with | some d=>D3 r (M.set d .no)=O/\Co P r K (M.set d .no) | none=>False)
 | (W N,g,o)::r,K,M=>AK g M (GS P N o (Co P r K) M) (match o.dst with | some d=>Co P r K (M.set d .no) | none=>False)
def CL(P:Program)(its:zA (zA zE × AItem))(T:St->Prop):zE->zA zD->St->Prop
 | 0,ms,M=>ms.all id=O->T M
 | f+1,ms,M=>∀(i:zE) (it:zA zE × AItem),its[i]?=W it->ms[i]?=W V->(∀j∈it.1,ms[j]?=W O)->
   ∃pre post:zA AItem,pre.all (fun i=>i.2.idle)=O/\post.all (fun i=>i.2.idle)=O/\
    Bk P pre (fun M=>AK it.2.1 M (AZ P it.2.2 (Bk P post (CL P its T f (ms.set i O))) M) (match it.2.2.dst with | some d=>Bk P post (CL P its T f (ms.set i O)) (M.set d .no) | none=>False)) M
def Dl(P:Program)(its:zA (zA zE × AItem))(τ:St)(f:zE)(ms:zA zD)(M:St):Prop:=CL P its (fun M=>M=τ) f ms M
def St.pad(M:St)(ds:zA zE):St:={M with env:=M.env++ds.map fun d=>(d,.undef)}
def UZ:D->zD
 | .ifc .. | .ifs .. =>O
 | _=>V
def iV(P:Program)(nt:zE)(C:Code)(M M':St):Prop:=∀(A:Ar) (B:zE) (w0:Base) (nm:Ac) (a:Act) (w:World),Rel A B w0 nm M a.tmps w->a.tmps.size=nt->
 C.wp P (fun e a' w'=>e= .normal/\(∃nm',Rel A B w0 nm' M' a'.tmps w')/\a'.tmps.size=nt/\a'.defers=a.defers) a w
def B0(P:Program):Xf->(Xl->St->Prop)->St->Prop
 | .skip,Q,M=>Q .normal M
 | .reg its,Q,M=>Bk P its (Q .normal) M
 | .drw its,Q,M=>D3 its M=O/\Co P its (Q .normal) M
 | .seq x y,Q,M=>B0 P x (fun e M'=>match e with | .normal=>B0 P y Q M' | e=>Q e M') M
 | .cond c x y,Q,M=>match M.val c with
  | .v (.sc (.dat (.bool b)))=>if b=O then B0 P x Q M else B0 P y Q M
  | _=>False
 | .block id c,Q,M=>B0 P c (fun e M'=>match e with | .exit i=>if i=id then Q .normal M' else Q (.exit i) M' | e=>Q e M') M
 | .loop c,Q,M=>∀X:St->Prop,(∀M',B0 P c (fun e M''=>match e with | .normal=>X M'' | e=>Q e M'') M'->X M')->X M
 | .exit id,Q,M=>Q (.exit id) M
 | .ret,Q,M=>Q .ret M
 | .any its,Q,M=>∃(ks bs rs:zA zE) (T:St->Prop),CL P its T its.length (its.map fun _=>V) ((M.kept ks bs rs).pad (its.filterMap fun i=>i.2.2.dst))/\∀τ,T τ->Q .normal τ
 | .pan its x,Q,M=>Bk P its (fun M'=>∃d,M'.val x= .v (.sc (.dat d))/\d.flat=O/\UZ d=O/\Q (.pan d) M') M
 | .cal its d f args,Q,M=>Bk P its (fun M'=>AZ P (.call d f args) (Q .normal) M'\/∃ds pd,M'.toDVs args=W ds/\MR P f ds pd/\Q (.pan pd) M') M
 | .hook nt C,Q,M=>∃M',iV P nt C M M'/\Q .normal M'
def Ir(ops:Array Oper):zB (zE × zD)->zB (zB (zE × zD))
 | none=>W I
 | some (j,want)=>match (ops[j]?).bind (·.dst) with
  | some t=>W (W (t,want))
  | none=>I
def It(P:Program)(nt:zE)(ops:Array Oper)(o:Oper):zB AItem:=
 match Ir ops o.guard,CN P nt o with
 | some g,W ao=>W (g,ao)
 | _,_=>I
def Bz(P:Program)(nt:zE)(ops:Array Oper):zA Oper->zB (zA AItem)
 | []=>W []
 | o::r=>match It P nt ops o,Bz P nt ops r with
  | some i,W is=>W (i::is)
  | _,_=>I
def Opd.slots:Opd->zA zE
 | .t n=> [n]
 | .c _=> []
def Fe:zB Opd->zA zE
 | some x=>x.slots
 | none=> []
def AOp.slots:AOp->zA zE
 | .mv _ x | .box _ x | .load _ x _ _ | .nilc _ x | .un _ _ x | .conv _ _ x | .faddr _ x _ | .field _ x _ _ _ | .extr _ x _ | .len _ x | .slen _ x | .sconv _ x | .mkif _ _ x | .tass _ x _ _=>x.slots
 | .pick _ c a b=>c.slots++a.slots++b.slots
 | .clr x _ _=>x.slots
 | .alloc _ _ | .zsl _=> []
 | .build _ _ ps=>ps.flatMap fun p=>p.2.2.slots
 | .bslice _ _ _ _ ps=>ps.flatMap fun p=>p.2.slots
 | .store x y _ | .bin _ _ x y | .beq _ _ x y | .geq _ _ _ x y | .mksl _ _ _ _ x y | .iaddr _ x y _ | .aaddr _ x y _ _ | .idx _ x y | .app _ _ _ x y | .mm _ _ x y | .zap _ _ _ x y=>x.slots++y.slots
 | .slc _ _ x lo hi mx=>x.slots++Fe lo++Fe hi++Fe mx
 | .sslc _ x lo hi=>x.slots++Fe lo++Fe hi
 | .mkf _ _ xs | .call _ _ xs=>xs.flatMap Opd.slots
 | .callv _ x xs=>x.slots++xs.flatMap Opd.slots
 | .drop _ | .own _ _ _ _ | .ownb _ _ _ _ | .ren _ _ | .frz _ | .frzb _ | .forget _ | .keep .. | .cut _=> []
def AItem.slots(i:AItem):zA zE:=(match i.1 with | some g=> [g.1] | none=> [])++i.2.slots
def AOp.gentle:AOp->zD
 | .store .. | .clr .. | .app .. | .drop _ | .own .. | .ownb .. | .ren .. | .frz _ | .frzb _ | .forget _ | .keep .. | .cut _=>V
 | _=>O
def waits(o:Oper):zA zE:=(o.after.toList.filter (Region.binds .any)).map (·.on)
def Wl(l m:zA zE):zA zE:=l.foldr (fun x acc=>if acc.contains x then acc else x::acc) m
def EH(acc:zA (zA zE)):zA zE->zA zE
 | []=> []
 | j::r=>Wl (j::acc.getD j []) (EH acc r)
def Bh:zA Oper->zA (zA zE)->zA (zA zE)
 | [],acc=>acc
 | o::r,acc=>Bh r (acc++ [EH acc (waits o)])
def Bv(an:zA (zA zE))(i j:zE):zD:=i !=j&& !(an.getD i []).contains j&& !(an.getD j []).contains i
def rW(its:zA AItem)(js:zA zE):zA zE:=js.filterMap fun j=>(its[j]?).bind fun i=>if i.2.maker then i.2.dst else I
def AOp.envOnly:AOp->zD
 | .mv .. | .pick .. | .extr .. | .un .. | .bin .. | .beq .. | .geq .. =>O
 | _=>V
def Ms(jt it:AItem):zD:=jt.2.envOnly&&(match it with
 | (I,.store x y _)=>(match jt.2.dst with | some d=> !(x.slots++y.slots).contains d | none=>V)
 | _=>V)
def bu(an:zA (zA zE))(its:zA AItem)(i:zE)(it:AItem)(js:zA zE):zD:=
 (js.all fun j=>decide (j<i)&&(match its[j]? with | some jt=>Ms jt it | none=>V))&&(yU its.length).all fun l=>decide (l<=i) || js.all fun j=>(an.getD l []).contains j
def AOp.calls:AOp->zD
 | .call .. =>O
 | _=>V
def KZ(an:zA (zA zE))(its:zA AItem)(i:zE)(it:AItem):zB AY:=
 let js:=(yU its.length).filter (Bv an i)
 if it.2.gentle&& !(js.isEmpty&&it.2.calls) then
  if js.all fun j=>match its[j]? with | some jt=>(match jt.2.dst with | some d=> !it.slots.contains d | none=>Ms it jt) | none=>V then W (W (rW its js),it) else I
 else if bu an its i it js then W (I,it) else I
def L0(an:zA (zA zE))(its:zA AItem):zE->zA AItem->zB (zA AY)
 | _,[]=>W []
 | i,it::r=>match KZ an its i it,L0 an its (i+1) r with
  | some x,W xs=>W (x::xs)
  | _,_=>I
def KY:zA zE->zD
 | []=>O
 | x::r=> !r.contains x&&KY r
def KE:zE->zA Oper->zD
 | _,[]=>O
 | i,o::r=>(waits o).all (· < i)&&KE (i+1) r
def QJ(z:zA zE):AItem->AItem
 | (g,.bslice d sz zs 0 [])=>if z.contains d then(g,.zsl d) else(g,.bslice d sz zs 0 [])
 | (g,.app d sz b (.t q) y)=>if z.contains q then(g,.zap d sz b (.t q) y) else(g,.app d sz b (.t q) y)
 | it=>it
def iC(its:zA AItem):zA zE:=its.filterMap fun i=>match i.2 with
 | .app _ _ _ (.t q) _=>if its.any fun k=>match k.2 with | .bslice d _ _ 0 []=>d==q | _=>V then W q else I
 | _=>I
def Rd(ops:Array Oper)(its:zA AItem):zB (zA AY):=
 if KE 0 ops.toList&&KY (its.filterMap fun i=>if i.2.gentle then i.2.dst else I) then L0 (Bh ops.toList []) its 0 its else I
def N4(P:Program)(nt:zE)(ops:Array Oper):zB (zA AY):=
 match Bz P nt ops ops.toList with
 | some its=>match Rd ops its with
  | some ds=>W ds
  | none=>Rd ops (its.map (QJ (iC its)))
 | none=>I
def dJ(P:Program)(ops:Array Oper):zD:=ops.toList.any fun o=>match o.op with
 | .call {callee:= .value (.func f),.. }=>(match P.funcs[f]? with
  | some fn=>fn.params.toList.any fun t=>match P.underlying t with | some (.pointer _)=>O | _=>V
  | none=>V)
 | _=>V
def A1h(P:Program)(f:FuncId):zD:=match P.funcs[f]? with
 | some fn=>fn.resultTypes.toList.any fun t=>match P.underlying t with
  | some (.slice e)=>(match P.underlying e with
   | some (.struct fs)=>fs.toList.any fun x=>match P.underlying x.type with | some (.slice _)=>O | _=>V
   | _=>V)
  | _=>V
 | none=>V
def ck(P:Program)(ds:zA AY):zD:=ds.any fun i=>match i with
 | (W _,_,.call _ f [_,_,_])=>A1h P f
 | _=>V
def KW(P:Program)(nt:zE)(ops:Array Oper):zB (zA (zA zE × AItem)):=
 match Bz P nt ops ops.toList with
 | some its=>if KE 0 ops.toList then W ((ops.toList.map waits).zip its) else I
 | none=>I
def A2t(P:Program)(f:FuncId):zD:=match P.funcs[f]? with
 | some fn=>fn.results.isEmpty
 | none=>V
def YD(P:Program)(nt:zE)(ops:Array Oper):zB Xf:=
 match ops.toList.getLast? with
 | some o=>if o.guard.isNone then(match o.op with
  | .panic x=>(match AJ x,Bz P nt ops ops.toList.dropLast with
   | some y,W its=>W (.pan its y)
   | _,_=>I)
  | .call _=>(match CN P nt o,Bz P nt ops ops.toList.dropLast with
   | some (.call d f args),W its=>if A2t P f then W (.cal its d f args) else I
   | _,_=>I)
  | _=>I) else I
 | none=>I
def TT(P:Program)(nt:zE)(ops:Array Oper):zB Xf:=
 match YD P nt ops with
 | some c=>W c
 | none=>(Bz P nt ops ops.toList).map .reg
def cq(nt:zE)(C:Code):zB Xf->zB Xf
 | some c=>W c
 | none=>W (.hook nt C)
def Du{nt:zE}{C:Code}{o:zB Xf}{c:Xf}(h:cq nt C o=W c):o=W c\/c= .hook nt C:=by
 cases o with
 | some x=>exact .inl h
 | none=>cases h; exact .inr rfl
def Bc(P:Program)(nt:zE):Code->zB Xf
 | .skip=>W .skip
 | .label _=>W .skip
 | .region id ops V=>cq nt (.region id ops V) (TT P nt ops)
 | .region _ ops O=>bif dJ P ops then(KW P nt ops).map .any else match N4 P nt ops with
  | some is=>bif ck P is then(KW P nt ops).map .any else W (.drw is)
  | none=>(KW P nt ops).map .any
 | .seq x y=>match Bc P nt x,Bc P nt y with
  | some x,W y=>W (.seq x y)
  | _,_=>I
 | .cond c x y=>match AJ c,Bc P nt x,Bc P nt y with
  | some c,W x,W y=>W (.cond c x y)
  | _,_,_=>I
 | .block id c=>(Bc P nt c).map (.block id)
 | .loop c=>(Bc P nt c).map .loop
 | .exit id=>W (.exit id)
 | .ret=>W .ret
 | _=>I
def Xf.strip:Xf->Xf
 | .reg its=> .reg (its.filter fun i=> !i.2.idle)
 | .seq (.reg its) y=>bif !its.isEmpty&&its.all (fun i=>i.2.idle) then y.strip else .seq (.reg (its.filter fun i=> !i.2.idle)) y.strip
 | .seq x y=> .seq x.strip y.strip
 | .cond c x y=> .cond c x.strip y.strip
 | .block id c=> .block id c.strip
 | .loop c=> .loop c.strip
 | .pan its x=> .pan (its.filter fun i=> !i.2.idle) x
 | .cal its d f args=> .cal (its.filter fun i=> !i.2.idle) d f args
 | c=>c
section
variable {P : Program} {A : Ar} {B : zE} {w0 : Base} {w : World} {nm : Ac} {M : St} {a : Act}
def N3{d:zE}{o:Oper}{ao:AOp}(h:Ad P d o=W ao):ao.dst=W d/\ao.idle=V:=by
 obtain⟨dst,op,ty,pos,after,guard⟩:=o;cases op<;>simp only[Ad] at h
 case move | assign | box | nilCheck | unOp | extract=>simp only[zG] at h; obtain⟨_,_,rfl⟩:=h; exact⟨rfl,rfl⟩
 case alloc=>split at h<;>first | (cases h; done) | (simp only[zG] at h; obtain⟨_,_,rfl⟩:=h; exact⟨rfl,rfl⟩)
 case pick=>split at h<;>first | (cases h; done) | (cases h; exact⟨rfl,rfl⟩)
 case indexAddr=>
  split at h
  .cases h; exact⟨rfl,rfl⟩
  .split at h
   .split at h
    .split at h
     .split at h
      .cases h; exact⟨rfl,rfl⟩
      .cases h
     .cases h; exact⟨rfl,rfl⟩
    .cases h
   .cases h
  .cases h
 case index=>
  split at h
  .cases h; exact⟨rfl,rfl⟩
  .split at h
   .split at h
    .cases h; exact⟨rfl,rfl⟩
    .cases h
   .cases h
  .cases h
 case convert=>
  split at h
  .cases h; exact⟨rfl,rfl⟩
  .split at h
   .cases h; exact⟨rfl,rfl⟩
   .cases h
  .cases h
 case build=>
  split at h
  .split at h
   .split at h<;>first | (cases h; done) | (cases h; exact⟨rfl,rfl⟩)
   .cases h
  .split at h
   .split at h<;>first | (cases h; done) | (cases h; exact⟨rfl,rfl⟩)
   .cases h
  .cases h
 case buildSlice | makeSlice=>
  split at h
  .split at h
   .split at h<;>first | (cases h; done) | (cases h; exact⟨rfl,rfl⟩)
   .cases h
  .cases h
 case load=>
  split at h
  .split at h<;>first | (cases h; done) | (cases h; exact⟨rfl,rfl⟩)
  .cases h
 case binOp=>
  split at h
  .split at h<;>first
    | (cases h; exact⟨rfl,rfl⟩; done)
    | (simp only[zG] at h; obtain⟨_,_,rfl⟩:=h; exact⟨rfl,rfl⟩)
  .cases h
 case slice=>
  split at h
  .split at h
   .cases h
   .split at h
    .split at h<;>first | (cases h; done) | (cases h; exact⟨rfl,rfl⟩)
    .simp only[zG] at h; obtain⟨_,_,rfl⟩:=h; exact⟨rfl,rfl⟩
    .cases h
  .cases h
 case makeInterface=>split at h<;>first | (cases h; done) | (cases h; exact⟨rfl,rfl⟩)
 case typeAssert=>
  split at h<;>first | (cases h; done) | (split at h<;>first | (cases h; done) | (cases h; exact⟨rfl,rfl⟩))
 case fieldAddr=>
  split at h
  .split at h
   .split at h
    .split at h<;>first | (cases h; done) | (cases h; exact⟨rfl,rfl⟩)
    .cases h
   .cases h
  .cases h
 case field=>
  split at h
  .split at h
   .split at h
    .split at h<;>first | (cases h; done) | (cases h; exact⟨rfl,rfl⟩)
    .cases h
   .cases h
  .cases h
 case makeFunc fn _ _=>
  cases fn<;>simp only[reduceCtorEq] at h;split at h
  .simp only[zG] at h; obtain⟨_,_,rfl⟩:=h; exact⟨rfl,rfl⟩
  .cases h
 case call c=>
  obtain⟨callee,args,argTypes⟩:=c;cases callee with
  | value f=>
   cases f<;>simp only[reduceCtorEq] at h
   case func=>
    split at h
    .split at h
     .simp only[zG] at h; obtain⟨_,_,rfl⟩:=h; exact⟨rfl,rfl⟩
     .cases h
    .cases h
   case tmp=>simp only[zG] at h; obtain⟨_,_,rfl⟩:=h; exact⟨rfl,rfl⟩
  | invoke r m=>simp at h
  | builtin bi=>
   cases bi<;>simp only[reduceCtorEq] at h
   all_goals
    split at h
    .split at h
     all_goals first
      | (cases h; done)
      | (cases h; exact⟨rfl,rfl⟩)
      | (split at h<;>first | (cases h; done) | (cases h; exact⟨rfl,rfl⟩))
    .cases h
 all_goals (cases h)
def tA{t:TypeId}{x y:Operand}{o:Oper}(h:o.op= .store t x y):execOp a.eval o=(do Instr.storeAt t (a.eval x) (a.eval y); pure .skip:Sem Next):=by
 unfold execOp;rw[h]
def A5d{Q:Exit->Act->World->Prop}{K:Act->World->Prop}{nt:zE}{o:Oper}{ao:AOp}{M':St}(R:Rel A B w0 nm M a.tmps w)(hnt:a.tmps.size=nt)(hc:CN P nt o=W ao)(hs:M.step ao=W M')
  (hK:∀nm' a' w',Rel A B w0 nm' M' a'.tmps w'->a'.tmps.size=nt->a'.defers=a.defers->K a' w'):o.wp P a w K Q:=by
 have put_size:∀(x:zB zE) (v:Value),(a.put x v).tmps.size=nt:=by intro x v; cases x<;>simp[Act.put,hnt]
 have put_def:∀(x:zB zE) (v:Value),(a.put x v).defers=a.defers:=by intro x v; cases x<;>rfl
 have value:∀{d v w' nm'},o.dst=W d->(execOp a.eval o).run P w= .ok (.value v) w'->Rel A B w0 nm' M' (a.put (W d) v).tmps w'->o.wp P a w K Q:=by
  intro d v w' nm' hd hrun R';unfold Oper.wp;rw[hrun,Oper.upon_value,hd];exact hK nm' _ _ R' (put_size _ _) (put_def _ _)
 unfold CN at hc
 split at hc
 .rename_i d hd
  split at hc
  .rename_i hlt
   obtain⟨h1,h2⟩:=N3 hc
   have rest:(match M.pure ao with
     | some (d,v)=>W (M.set d v)
     | none=>match M.made ao with
      | some m=>M.make m
      | none=>I)=W M'->o.wp P a w K Q:=by
    intro h;split at h
    .rename_i d' v hp
     cases h;obtain⟨rfl,u,hrun,hrel⟩:=A2v (P:=P) R hc hp;exact value hd hrun (R.put (by rw[hnt]; exact hlt) hrel)
    .split at h
     .rename_i m hm
      obtain⟨v,w',nm',hrun,R'⟩:=A0s (P:=P) R (by rw[hnt]; exact hlt) hd hc hm h;exact value hd hrun (by rw[hd] at R'; exact R')
     .cases h
   cases ao<;>first
    | (cases h2; done)
    | (cases h1; done)
    | exact rest hs
    | skip
   case app d' sz bytes x y=>
    obtain⟨dst,op,ty,pos,after,guard⟩:=o;simp only at hd
    subst hd;cases op<;>try (simp[Ad] at hc; done)
    case call c=>
     obtain⟨callee,args,argTypes⟩:=c;cases callee with
     | builtin bi=>
      cases bi<;>try (simp[Ad] at hc; done)
      case append=>
       simp only[Ad] at hc
       split at hc
       .rename_i X Y t t' hargs htys
        have e1:args= #[X,Y]:=by apply Array.ext'; simpa using hargs
        have e2:argTypes= #[t,t']:=by apply Array.ext'; simpa using htys
        subst e1 e2;split at hc
        .rename_i i z e' x' y' hz hu' hx hy
         split at hc
         .rename_i hcond
          cases hc;obtain⟨e,hu,hi,hz2⟩:=L3 hz;obtain⟨v,w',nm',hrun,R'⟩:=nG (P:=P) (ty:=ty) R hu hu' hi hz2 hcond.1 hcond.2.1 (show d<a.tmps.size by rw[hnt]; exact hlt) (Ax R hx) (Ax R hy) hs;refine value zF ?_ R';simp[execOp,resolve,invoke,builtin,hrun]
         .cases hc
        .cases hc
       .cases hc
      case len=>simp only[Ad] at hc; split at hc<;>first | (cases hc; done) | (split at hc<;>cases hc)
      case max=>simp only[Ad] at hc; split at hc<;>first | (cases hc; done) | (split at hc<;>cases hc)
      case min=>simp only[Ad] at hc; split at hc<;>first | (cases hc; done) | (split at hc<;>cases hc)
     | value f=>
      cases f<;>simp only[Ad,reduceCtorEq] at hc
      .simp only[zG] at hc; obtain⟨_,_,h⟩:=hc; cases h
      .split at hc
       .split at hc
        .simp only[zG] at hc; obtain⟨_,_,h⟩:=hc; cases h
        .cases hc
       .cases hc
     | invoke r m=>simp[Ad] at hc
    case makeFunc fn first caps=>
     exfalso
     cases fn<;>simp only[Ad,reduceCtorEq] at hc
     split at hc
     .simp only[zG] at hc; obtain⟨_,_,h⟩:=hc; cases h
     .cases hc
    all_goals
     exfalso
     simp only[Ad] at hc
     first
      | (simp only[zG] at hc; obtain⟨_,_,h⟩:=hc; cases h; done)
      | ((repeat' (split at hc))<;>first | (cases hc; done) | (simp only[zG] at hc; obtain⟨_,_,h⟩:=hc; cases h; done))
  .cases hc
 .rename_i hd
  split at hc
  .rename_i t x y hop
   split at hc
   .rename_i i ax ay hi hx hy
    cases hc;have hxr:=Ax R hx;have hyr:=Ax R hy
    have skip:∀{w' nm'},(Instr.storeAt t (a.eval x) (a.eval y)).run P w= .ok () w'->Rel A B w0 nm' M' a.tmps w'->o.wp P a w K Q:=by
     intro w' nm' hrun R';unfold Oper.wp;rw[tA hop];simp only[Sem.run_bind,hrun,Result.andThen_ok,Sem.run_pure];rw[Oper.upon_skip,hd];exact hK nm' a w' R' hnt zF
    simp only[St.step,St.storeV] at hs
    split at hs
    .rename_i id off y' e1 e2
     split at hs
     .rename_i cs hf
      split at hs
      .rename_i hcond
       cases hs;rw[e1] at hxr
       rw[e2] at hyr
       obtain⟨w',hrun,R'⟩:=A5f (P:=P) R hi rfl hxr hyr hf hcond.1 hcond.2;exact skip hrun R'
      .cases hs
     .cases hs
    .rename_i id k off y' e1 e2
     split at hs
     .rename_i sz es hf
      split at hs
      .rename_i d ds h1 h2
       split at hs
       .rename_i hcond
        cases hs;rw[e1] at hxr
        rw[e2] at hyr
        obtain⟨w',hrun,R'⟩:=A5h (P:=P) R hi rfl hxr hyr hf h1 h2 hcond.1 hcond.2;exact skip hrun R'
       .cases hs
      .cases hs
     .cases hs
    .rename_i c cs d e1 e2
     cases hcond:(i.size==1&&Mu c d) with
     | false=>rw[hcond] at hs; cases hs
     | true=>
      rw[hcond] at hs
      cases hs;simp only[zH,beq_iff_eq] at hcond
      rw[e1] at hxr
      rw[e2] at hyr
      obtain⟨w',hrun,R'⟩:=A5i (P:=P) R hi hcond.1 hxr hyr hcond.2;exact skip hrun R'
    .cases hs
   .cases hc
  .rename_i args argTypes hop
   split at hc
   .rename_i x t hargs htys
    have e1:args= #[x]:=by apply Array.ext'; simpa using hargs
    have e2:argTypes= #[t]:=by apply Array.ext'; simpa using htys
    subst e1 e2;split at hc
    .rename_i i z y hz hy
     split at hc
     .rename_i hcond
      split at hc
      .rename_i zs hzs
       cases hc;obtain⟨e,hu,hi,hz2⟩:=L3 hz;obtain⟨v,w',hrun,R'⟩:=oo (P:=P) (ty:=o.type) R hu hi hz2 hcond.1 hcond.2 (WK (X:=cx A nm M w) hzs hcond.1) (Ax R hy) hs
       have hex:(execOp a.eval o).run P w= .ok (.value v) w':=by
        obtain⟨dst,op,ty,pos,after,guard⟩:=o;simp only at hop hrun
        subst hop;simp[execOp,resolve,invoke,builtin,hrun]
       unfold Oper.wp;rw[hex,Oper.upon_value,hd];exact hK nm _ _ R' (put_size _ _) (put_def _ _)
      .cases hc
     .cases hc
    .cases hc
   .cases hc
  .cases hc
end
end
section
section
variable {P : Program} {A : Ar} {B : zE} {w0 : Base} {w : World} {nm : Ac} {M : St} {a : Act}
def fV{w:World}:Al (fun _ _=>True) w=B7 w:=by
 funext b C
 simp[Al,B7]
def E7{w:World}:Al (fun b fr=>(∀i,nm i≠W b)/\A b fr) w=A9 A nm w:=by
 funext b C
 simp[Al,A9,and_assoc]
def Yt{Q:Exit->Act->World->Prop}{K:Act->World->Prop}{nt d:zE}{f:FuncId}{vs:zA Value}{ds:zA DV}{rs:zA R1}(R:Rel A B w0 nm M a.tmps w)(hnt:a.tmps.size=nt)(hd:d<nt)
  (hargs:(DVRels (B7 w) ds vs/\(CB rs\/FCf P f ds rs))\/DVRels (A9 A nm w) ds vs) (hf:FC P f ds rs) (hfr:M.fresh d=O) (h64:(rs.flatMap R1.cells).length<=64)
  (hK:∀nm' a' w',Rel A B w0 nm' (M.inst d rs) a'.tmps w'->a'.tmps.size=nt->a'.defers=a.defers->K a' w') :
  Calls P f vs.toArray w fun
   | .returned v,w''=>K (a.put (W d) v) w''
   | .panicked chain,w''=>Q (.panic chain) a w''
   | .outgrown,_=>LetsOut Q:=by
 have key:∀{A':B9},DVRels (Al A' w) ds vs->((∀b fr,A' b fr->(∀i,nm i≠W b)/\A b fr)\/CB rs)->Calls P f vs.toArray w fun
   | .returned v,w''=>K (a.put (W d) v) w''
   | .panicked chain,w''=>Q (.panic chain) a w''
   | .outgrown,_=>LetsOut Q:=by
  intro A' hv hA;refine(hf w A' vs (R.good w R.below) hv).mono fun e w' h=> ?_
  obtain⟨v,bs,rfl,hb,hr,hn,hdis⟩:=h;obtain⟨nm',R'⟩:=R.behind (by rw[hnt]; exact hd) hfr h64 hA hb hr hn hdis;exact hK nm' _ w' R' (by simp[Act.put,hnt]) zF
 rcases hargs with ⟨h1,h2|h2⟩|h1
 .exact key (by rw[fV]; exact h1) (.inr h2)
 .refine(h2 w (fun _ _=>True) vs (R.good w R.below) (by rw[fV]; exact h1)).mono fun e w' h=> ?_
  obtain⟨v,bs,rfl,hb,hr,hn,hdis⟩:=h;obtain⟨nm',R'⟩:=R.behind (A':=fun _ _=>False) (by rw[hnt]; exact hd) hfr h64 (.inl fun _ _ h=>h.elim) hb hr hn hdis;exact hK nm' _ w' R' (by simp[Act.put,hnt]) zF
 .exact key (by rw[E7]; exact h1) (.inl fun b fr hb=>hb)
def Vo{f:FuncId}(h:BQ P f=O)(args:Array Value):(callFunc f args).run P w= .ok (.enter f args) w:=by
 unfold BQ at h;split at h
 .rename_i fn hfn
  simp only[zH,zK,beq_eq_false_iff_ne,ne_eq] at h;cases hb:fn.body with
  | none=>simp[hb] at h
  | some c=>simp[callFunc,hfn,hb,h.2]
 .cases h
def VsRel.app{X:Cx}{l1 bs:zA AV}{us vs:zA Value}(h1:VsRel X l1 us)(h2:VsRel X bs vs):VsRel X (l1++bs) (us++vs):=by
 refine⟨by simp[h1.1,h2.1],fun i u v hu hv=> ?_⟩;by_cases hi:i<l1.length
 .rw[yA hi] at hu
  rw[yA (by rw[<- h1.1]; exact hi)] at hv
  exact h1.2 i u v hu hv
 .rw[yK a9] at hu
  rw[yK (by rw[<- h1.1]; omega)] at hv
  rw[<- h1.1] at hv
  exact h2.2 _ u v hu hv
def Yy{X:Cx}:∀{ids bs:zA zE},ids.mapM (fun i=>X.nm (2*i))=W bs->VsRel X (ids.map fun i=>AV.v (.sc (.pb i 0))) (bs.map fun b=>Value.pointer (W ⟨b,0,I⟩))
 | [],bs,h=>by
  simp at h;subst h;exact⟨zF,fun i u v hu=>by simp at hu⟩
 | i::ids,bs,h=>by
  simp only[yQ] at h;cases h1:X.nm (2*i) with
  | none=>rw[h1] at h; cases h
  | some b=>
   rw[h1] at h;cases h2:ids.mapM (fun i=>X.nm (2*i)) with
   | none=>rw[h2] at h; cases h
   | some bs'=>
    rw[h2] at h;cases h;obtain⟨e,H⟩:=Yy h2;refine⟨by simpa using e,fun j u v hu hv=> ?_⟩;cases j with
    | zero=>
     simp at hu hv
     subst hu hv;exact .v (.sc (.pb h1))
    | succ j=>exact H j u v (by simpa using hu) (by simpa using hv)
def TR{d d':zE}{op:Op}{o:Oper}{ao:AOp}(ho:o.op=op)(h:Ad P d o=W ao)(hcl:(∃f args,ao= .call d' f args)\/(∃x args,ao= .callv d' x args)) :
  (∃f args xs tys,ao= .call d f args/\op= .call {callee:= .value (.func f),args:=xs,argTypes:=tys}/\C8 xs.toList=W args/\BQ P f=O)\/
  (∃t args xs tys,ao= .callv d (.t t) args/\op= .call {callee:= .value (.tmp t),args:=xs,argTypes:=tys}/\C8 xs.toList=W args):=by
 subst ho;obtain⟨dst,op,ty,pos,after,guard⟩:=o;cases op
 case call c=>
  obtain⟨callee,args,argTypes⟩:=c;cases callee with
  | value f=>
   cases f with
   | func f=>
    simp only[Ad] at h;split at h
    .rename_i fn hfn
     split at h
     .rename_i hcond
      simp only[zG] at h;obtain⟨ys,hy,rfl⟩:=h;refine .inl ⟨f,ys,args,argTypes,zF,zF,hy,?_⟩;unfold BQ;rw[hfn];simp[hcond.1,hcond.2]
     .cases h
    .cases h
   | tmp t=>
    simp only[Ad,zG] at h;obtain⟨ys,hy,rfl⟩:=h;exact .inr ⟨t,ys,args,argTypes,zF,zF,hy⟩
   | _=>simp[Ad] at h
  | invoke r m=>simp[Ad] at h
  | builtin bi=>
   exfalso
   cases bi<;>try (simp[Ad] at h; done)
   all_goals
    simp only[Ad] at h;(repeat' (split at h))<;>first | (cases h; done) | (cases h; rcases hcl with ⟨_,_,h2⟩ | ⟨_,_,h2⟩<;>cases h2)
 case makeFunc fn first caps=>
  exfalso
  cases fn<;>simp only[Ad,reduceCtorEq] at h;split at h
  .simp only[zG] at h;obtain⟨_,_,rfl⟩:=h;rcases hcl with ⟨_,_,h2⟩|⟨_,_,h2⟩<;>cases h2
  .cases h
 all_goals
  exfalso
  simp only[Ad] at h
  first
   | (cases h; done)
   | (simp only[zG] at h; obtain⟨_,_,h⟩:=h; cases h; rcases hcl with ⟨_,_,h2⟩ | ⟨_,_,h2⟩<;>cases h2; done)
   | ((repeat' (split at h))<;>first | (cases h; done) | (cases h; rcases hcl with ⟨_,_,h2⟩ | ⟨_,_,h2⟩<;>cases h2; done) | (simp only[zG] at h; obtain⟨_,_,h⟩:=h; cases h; rcases hcl with ⟨_,_,h2⟩ | ⟨_,_,h2⟩<;>cases h2; done))
def Ya{Q:Exit->Act->World->Prop}{K:Act->World->Prop}{K':St->Prop}{nt:zE}{o:Oper}{ao:AOp}(R:Rel A B w0 nm M a.tmps w)(hnt:a.tmps.size=nt)(hc:CN P nt o=W ao)(hs:AZ P ao K' M)
  (hK:∀nm' M' a' w',K' M'->Rel A B w0 nm' M' a'.tmps w'->a'.tmps.size=nt->a'.defers=a.defers->K a' w'):o.wp P a w K Q:=by
 have plain:(match M.step ao with | some M'=>K' M' | none=>False)->o.wp P a w K Q:=by
  intro h;split at h
  .rename_i M' hst
   exact A5d R hnt hc hst fun nm' a' w' R' h1 h2=>hK nm' M' a' w' h R' h1 h2
  .exact h.elim
 cases ao<;>try exact plain hs
 case call d f args=>
  unfold CN at hc
  split at hc
  .rename_i d' hd
   split at hc
   .rename_i hlt
    have e:=(N3 hc).1;simp only[AOp.dst,yD] at e
    subst e;obtain⟨dst,op,ty,pos,after,guard⟩:=o;simp only at hd
    subst hd
    have hcall:∃xs tys,op= .call {callee:= .value (.func f),args:=xs,argTypes:=tys}/\C8 xs.toList=W args/\BQ P f=O:=by
     rcases TR (d':=d) rfl hc (.inl ⟨f,args,rfl⟩) with ⟨f',args',xs,tys,h1,h2,h3,h4⟩|⟨t,args',xs,tys,h1,_⟩
     .cases h1; exact⟨xs,tys,h2,h3,h4⟩
     .cases h1
    obtain⟨xs,tys,rfl,hxs,hok⟩:=hcall
    have hrun:(execOp a.eval {dst:=some d,op:= .call {callee:= .value (.func f),args:=xs,argTypes:=tys },type:=ty,pos,after,guard }).run P w= .ok (.enter f (xs.toList.map a.eval).toArray) w:=by
     have:=Vo (w:=w) hok (xs.map a.eval);have e2:(xs.toList.map a.eval).toArray=xs.map a.eval:=by apply Array.ext'; simp
     rw[e2];simp[execOp,resolve,Deferred.ofValue,invoke,Act.eval,this]
    unfold Oper.wp;rw[hrun,Oper.upon_enter];rcases hs with ⟨ds,rs,hh,hfc,hfr,h64,hk⟩|⟨ids,ys,R0,R1,r,⟨hnd,hys,hrows,hflat,hsame⟩,hfx,hk⟩|⟨S,hcc,hk⟩
    rotate_left
    rotate_left
    .obtain⟨hl,H⟩:=SW R hxs;refine(hcc A B w0 w nm a.tmps _ R ⟨by simp[hl],H⟩).mono fun e w' h=> ?_
     obtain⟨v,nm',M',r,rfl,hS,R',hv⟩:=h;exact hK nm' _ (a.put (W d) v) w' (hk _ _ hS) (R'.put (by rw[hnt]; exact hlt) hv) (by simp[Act.put,hnt]) zF
    rotate_left
    .have hlen:=(Ku hrows).1;refine(hfx w _ (AS nm ids) (by simp[AS,hlen]) (fun i j b hi hj=> ?_) (fun b hb=> ?_) (fun w2 hb2=>R.good w2 ?_) (fO R hrows hflat hxs hys)).mono fun e w' h=> ?_
     .simp only[AS,yL,zG] at hi hj
      obtain⟨x,hx,hxb⟩:=hi;obtain⟨y,hy,hyb⟩:=hj;have:=R.inj _ _ _ hxb hyb;have e:x=y:=by omega
      subst e;have hi1:=zJ.1 hx;have hj1:=zJ.1 hy;obtain⟨hil,hie⟩:=hi1;obtain⟨hjl,hje⟩:=hj1;have hp:=List.pairwise_iff_getElem.1 hnd;rcases Nat.lt_trichotomy i j with hlt|he|hgt
      .exact absurd (hie.trans hje.symm) (hp i j hil hjl hlt)
      .exact he
      .exact absurd (hje.trans hie.symm) (hp j i hjl hil hgt)
     .simp only[AS,yM] at hb
      obtain⟨id,_,hb⟩:=hb;exact(R.names _ _ hb).2
     .refine R.below.after hb2 R.size R.there fun i b e=> ?_
      obtain⟨j,_,h2⟩:=HY e;simp only[AS,yL,zG] at h2
      obtain⟨id,_,h4⟩:=h2;exact(R.names _ _ h4).1
     .obtain⟨v,rfl,hb2,hv,hrow⟩:=h;exact hK nm _ (a.put (W d) v) w' hk (R.behindX (by rw[hnt]; exact hlt) hnd hrows hsame hb2 hv hrow) (by simp[Act.put,hnt]) zF
    refine Yt (Q:=Q) R hnt hlt ?_ hfc hfr h64 (fun nm' a' w' R' h1 h2=>hK nm' _ a' w' hk R' h1 h2);rcases hh with ⟨h1,h2⟩|h1
    .exact .inl ⟨T5 R hxs h1,h2⟩
    .exact .inr (VZ R hxs h1)
   .cases hc
  .split at hc
   .split at hc<;>cases hc
   ·(repeat' split at hc)<;>cases hc
   .cases hc
 case callv d x args=>
  unfold CN at hc
  split at hc
  .rename_i d' hd
   split at hc
   .rename_i hlt
    have e:=(N3 hc).1;simp only[AOp.dst,yD] at e
    subst e;obtain⟨dst,op,ty,pos,after,guard⟩:=o;simp only at hd
    subst hd
    have hcall:∃t xs tys,x= .t t/\op= .call {callee:= .value (.tmp t),args:=xs,argTypes:=tys}/\C8 xs.toList=W args:=by
     rcases TR (d':=d) rfl hc (.inr ⟨x,args,rfl⟩) with ⟨f',args',xs,tys,h1,_⟩|⟨t,args',xs,tys,h1,h2,h3⟩
     .cases h1
     .cases h1; exact⟨t,xs,tys,rfl,h2,h3⟩
    obtain⟨t,xs,tys,rfl,rfl,hxs⟩:=hcall;have hx:VRel (cx A nm M w) (M.val (.t t)) (a.tmps.getD t undef):=R.env t
    have hrun:∀f cvs,BQ P f=O->a.tmps.getD t undef= .func (.func f) #[] cvs.toArray->(execOp a.eval {dst:=some d,op:= .call {callee:= .value (.tmp t),args:=xs,argTypes:=tys },type:=ty,pos,after,guard }).run P w= .ok (.enter f (xs.toList.map a.eval++cvs).toArray) w:=by
     intro f cvs hok hcv;have:=Vo (w:=w) hok (xs.map a.eval++cvs.toArray);have e2:(xs.toList.map a.eval++cvs).toArray=xs.map a.eval++cvs.toArray:=by apply Array.ext'; simp
     rw[e2];have e3:a.eval (.tmp t)= .func (.func f) #[] cvs.toArray:=hcv;simp[execOp,resolve,Deferred.ofValue,invoke,e3,this]
    unfold Oper.wp;rcases hs with ⟨f,caps,ds,rs,hh,hok,hfc,hfr,h64,hk⟩|⟨f,ids,M',r,hv,hok,hcc,hk⟩
    rotate_left
    .rw[hv] at hx
     generalize hgv:a.tmps.getD t undef=gv at hx
     cases hx with | v hx=>
     cases hx with | sc hx=>
     cases hx with | @clo _ _ bs hbs=>
     rw[hrun f _ hok hgv,Oper.upon_enter];obtain⟨hl,H⟩:=SW R hxs;refine(hcc A B w0 w nm a.tmps _ R (VsRel.app ⟨by simp[hl],H⟩ (Yy hbs))).mono fun e w' h=> ?_
     obtain⟨v,nm',rfl,R',hv⟩:=h;exact hK nm' _ (a.put (W d) v) w' hk (R'.put (by rw[hnt]; exact hlt) hv) (by simp[Act.put,hnt]) zF
    have hfun:∃cvs,a.tmps.getD t undef= .func (.func f) #[] cvs.toArray/\((DVRels (B7 w) (ds++caps.map .sc) (xs.toList.map a.eval++cvs)/\CB rs)\/DVRels (A9 A nm w) (ds++caps.map .sc) (xs.toList.map a.eval++cvs)):=by
     rcases hh with ⟨h1,h2,h3⟩|⟨h1,h2⟩
     .have:=VY R hx h1;cases this with | sc hr=>
      generalize hgv:a.tmps.getD t undef=gv at hr
      cases hr with | clo hrs hl=>
      exact⟨_,zF,.inl ⟨(T5 R hxs h2).append (.of_reps hrs hl),h3⟩⟩
     .rw[h1] at hx
      generalize hgv:a.tmps.getD t undef=gv at hx
      cases hx with | v hx=>
      cases hx with | sc hx=>
      cases hx with | dat hr=>
      cases hr with | clo hrs hl=>
      exact⟨_,zF,.inr ((VZ R hxs h2).append (.of_reps hrs hl))⟩
    obtain⟨cvs,hcv,hcall⟩:=hfun;rw[hrun f _ hok hcv,Oper.upon_enter];exact Yt (Q:=Q) R hnt hlt (hcall.imp (fun h=>⟨h.1,.inl h.2⟩) id) hfc hfr h64 (fun nm' a' w' R' h1 h2=>hK nm' _ a' w' hk R' h1 h2)
   .cases hc
  .split at hc
   .split at hc<;>cases hc
   ·(repeat' split at hc)<;>cases hc
   .cases hc
end
end
section
section
variable {P : Program} {A : Ar} {B : zE} {w0 : Base} {w : World} {nm : Ac} {M : St} {a : Act}
def B6y(R:Rel A B w0 nm M a.tmps w){ops:Array Oper}{j t:zE}{b:zD}(hj:(ops[j]?).bind (·.dst)=W t)(h:M.get t= .v (.sc (.dat (.bool b)))):yielded ops a.tmps j=W b:=by
 have hx:=R.env t;rw[h] at hx
 have hv:a.tmps.getD t undef= .bool b:=by
  generalize a.tmps.getD t undef=v at hx
  cases hx with | v hx=>
  cases hx with | sc hx=>
  cases hx with | dat hr=>
  cases hr;rfl
 unfold yielded;rw[hj];simp only[yN];by_cases ht:t<a.tmps.size
 .have e:a.tmps[t]?=W (.bool b):=by
   rw[Array.getD_eq_getD_getElem?] at hv
   rw[Array.getElem?_eq_getElem ht] at hv ⊢
   simpa using hv
  rw[e]
 .exfalso
  have e:a.tmps.getD t undef=undef:=by simp[Array.getD,ht]
  rw[e] at hv
  cases hv
def B6x(R:Rel A B w0 nm M a.tmps w){ops:Array Oper}{j t:zE}(hj:(ops[j]?).bind (·.dst)=W t)(h:M.get t= .no):yielded ops a.tmps j=I:=by
 have hx:=R.env t;rw[h] at hx
 have hv:a.tmps.getD t undef=undef:=by
  generalize a.tmps.getD t undef=v at hx
  cases hx;rfl
 unfold yielded;rw[hj];simp only[yN];by_cases ht:t<a.tmps.size
 .have e:a.tmps[t]?=W undef:=by
   rw[Array.getD_eq_getD_getElem?] at hv
   rw[Array.getElem?_eq_getElem ht] at hv ⊢
   simpa using hv
  rw[e];rfl
 .have e:a.tmps[t]?=I:=Array.getElem?_eq_none a9;rw[e]
def Uk(R:Rel A B w0 nm M a.tmps w){ops:Array Oper}{o:Oper}{g:zB (zE × zD)}{yes no:Prop}(hg:Ir ops o.guard=W g)(h:AK g M yes no) :
  (Region.wanted o (yielded ops a.tmps)=O/\yes)\/(Region.wanted o (yielded ops a.tmps)=V/\no):=by
 unfold Region.wanted;generalize o.guard=og at hg ⊢
 cases og with
 | none=>
  simp[Ir] at hg
  subst hg;exact .inl ⟨zF,h⟩
 | some p=>
  obtain⟨j,want⟩:=p;simp only[Ir] at hg
  split at hg
  .rename_i t ht
   cases hg;simp only[AK] at h;split at h
   .rename_i b hb
    dsimp only
    rw[B6y R ht hb];split at h
    .rename_i e
     subst e;exact .inl ⟨d0,h⟩
    .rename_i e
     exact .inr ⟨by simpa using e,h⟩
   .rename_i hb
    dsimp only
    rw[B6x R ht hb];exact .inr ⟨d0,h⟩
   .exact h.elim
  .cases hg
def TS{nt:zE}{o:Oper}{ao:AOp}(h:CN P nt o=W ao):ao.dst=o.dst/\ao.idle=V/\∀d,o.dst=W d->d<nt:=by
 unfold CN at h;split at h
 .rename_i d hd
  split at h
  .rename_i hlt
   obtain⟨h1,h2⟩:=N3 h;exact⟨by rw[h1,hd],h2,fun d' hd'=>by rw[hd] at hd'; cases hd'; exact hlt⟩
  .cases h
 .rename_i hd
  split at h
  .split at h
   .cases h;exact⟨by rw[hd]; rfl,zF,fun d' hd'=>by rw[hd] at hd'; cases hd'⟩
   .cases h
  ·(repeat' split at h)<;>first
    | (cases h; done)
    | (cases h; exact⟨by rw[hd]; rfl,rfl,fun d' hd'=>by rw[hd] at hd'; cases hd'⟩)
  .cases h
def YA{nt:zE}{ops:Array Oper}{o:Oper}{g:zB (zE × zD)}{ao:AOp}(h:It P nt ops o=W (g,ao)):Ir ops o.guard=W g/\CN P nt o=W ao:=by
 unfold It at h;split at h
 .rename_i h1 h2
  cases h;exact⟨h1,h2⟩
 .cases h
def fS(R:Rel A B w0 nm M a.tmps w){nt d:zE}{o:Oper}{ao:AOp}(hnt:a.tmps.size=nt)(hc:CN P nt o=W ao)(hd:ao.dst=W d) :
  Rel A B w0 nm (M.set d .no) (a.put o.dst undef).tmps w/\(a.put o.dst undef).tmps.size=nt/\(a.put o.dst undef).defers=a.defers:=by
 obtain⟨h1,h2,h3⟩:=TS hc;rw[hd] at h1
 rw[<- h1];refine⟨R.put ?_ .no,by simp[Act.put,hnt],zF⟩;rw[hnt];exact h3 d h1.symm
def Sq{Q:Exit->Act->World->Prop}{K:Act->World->Prop}{K':St->Prop}{nt:zE}{ops:Array Oper}{o:Oper}{g:zB (zE × zD)}{ao:AOp}(R:Rel A B w0 nm M a.tmps w)(hnt:a.tmps.size=nt)
  (hc:It P nt ops o=W (g,ao)) (h:AK g M (AZ P ao K' M) (match ao.dst with | some d=>K' (M.set d .no) | none=>False))
  (hK:∀nm' M' a' w',K' M'->Rel A B w0 nm' M' a'.tmps w'->a'.tmps.size=nt->a'.defers=a.defers->K a' w') :
  if Region.wanted o (yielded ops a.tmps) then o.wp P a w K Q\/(o.asks P a w/\LetsOut Q) else K (a.put o.dst undef) w:=by
 obtain⟨h1,h2⟩:=YA hc;rcases Uk R h1 h with ⟨hw,hy⟩|⟨hw,hn⟩
 .rw[hw];exact .inl (Ya R hnt h2 hy hK)
 .rw[hw];cases hd:ao.dst with
  | none=>simp[hd] at hn
  | some d=>
   simp only[hd] at hn
   obtain⟨r1,r2,r3⟩:=fS R hnt h2 hd;exact hK nm _ _ w hn r1 r2 r3
def UU{K':St->Prop}{g:zB (zE × zD)}{ao:AOp}(hi:ao.idle=O)(h:AK g M (AZ P ao K' M) (match ao.dst with | some d=>K' (M.set d .no) | none=>False)):∃M',M.step ao=W M'/\K' M':=by
 have hno:ao.dst=I:=by cases ao<;>first | rfl | (simp[AOp.idle] at hi; done)
 have hyes:AZ P ao K' M->∃M',M.step ao=W M'/\K' M':=by
  intro h
  have h':(match M.step ao with | some M'=>K' M' | none=>False):=by
   cases ao<;>first | exact h | (simp[AOp.idle] at hi; done)
  split at h'
  .rename_i M' hs
   exact⟨M',hs,h'⟩
  .exact h'.elim
 rw[hno] at h;unfold AK at h;split at h
 .exact hyes h
 .split at h
  .split at h
   .exact hyes h
   .exact h.elim
  .exact h.elim
  .exact h.elim
def YB{nt:zE}{ops:Array Oper}{l:zA Oper}{i:AItem}{is:zA AItem}(h:Bz P nt ops l=W (i::is)):∃o l',l=o::l'/\It P nt ops o=W i/\Bz P nt ops l'=W is:=by
 cases l with
 | nil=>simp[Bz] at h
 | cons o l'=>
  simp only[Bz] at h;split at h
  .rename_i h1 h2
   cases h;exact⟨o,l',zF,h1,h2⟩
  .cases h
def YC{nt:zE}{ops:Array Oper}{l:zA Oper}(h:Bz P nt ops l=W []):l= []:=by
 cases l with
 | nil=>rfl
 | cons o l'=>
  simp only[Bz] at h;split at h<;>cases h
def TG{Q:Exit->Act->World->Prop}{K':St->Prop}{nt:zE}{ops:Array Oper}:∀(its:zA AItem) (l:zA Oper) (M:St) (a:Act) (w:World) (nm:Ac),Rel A B w0 nm M a.tmps w->a.tmps.size=nt->
  Bz P nt ops l=W (its.filter fun i=> !i.2.idle)->Bk P its K' M->(∀nm' M' a' w',K' M'->Rel A B w0 nm' M' a'.tmps w'->a'.tmps.size=nt->a'.defers=a.defers->Q .normal a' w')->wpList P ops Q l a w
 | [],l,M,a,w,nm,R,hnt,hc,h,hK=>by
  obtain rfl:=YC hc;exact hK nm M a w h R hnt zF
 | (g,ao)::its,l,M,a,w,nm,R,hnt,hc,h,hK=>by
  cases hi:ao.idle with
  | true=>
   have hc':Bz P nt ops l=W (its.filter fun i=> !i.2.idle):=by simpa[hi] using hc
   obtain⟨M',hs,hk⟩:=UU hi h;obtain⟨nm',R'⟩:=So R hi hs;exact TG its l M' a w nm' R' hnt hc' hk hK
  | false=>
   have hc':Bz P nt ops l=W ((g,ao)::its.filter fun i=> !i.2.idle):=by simpa[hi] using hc
   obtain⟨o,l',rfl,h1,h2⟩:=YB hc';have:=Sq (Q:=Q) (K:=wpList P ops Q l') R hnt h1 h (fun nm' M' a' w' hk R' hs hd=>TG its l' M' a' w' nm' R' hs h2 hk (fun nm'' M'' a'' w'' k1 k2 k3 k4=>hK nm'' M'' a'' w'' k1 k2 k3 (k4.trans hd)));exact this
def QY{Q:Exit->Act->World->Prop}{K':St->Prop}{nt:zE}{ops:Array Oper}{l2:zA Oper}:∀(its:zA AItem) (l:zA Oper) (M:St) (a:Act) (w:World) (nm:Ac),Rel A B w0 nm M a.tmps w->a.tmps.size=nt->
  Bz P nt ops l=W (its.filter fun i=> !i.2.idle)->Bk P its K' M->(∀nm' M' a' w',K' M'->Rel A B w0 nm' M' a'.tmps w'->a'.tmps.size=nt->a'.defers=a.defers->wpList P ops Q l2 a' w')->wpList P ops Q (l++l2) a w
 | [],l,M,a,w,nm,R,hnt,hc,h,hK=>by
  obtain rfl:=YC hc;exact hK nm M a w h R hnt zF
 | (g,ao)::its,l,M,a,w,nm,R,hnt,hc,h,hK=>by
  cases hi:ao.idle with
  | true=>
   have hc':Bz P nt ops l=W (its.filter fun i=> !i.2.idle):=by simpa[hi] using hc
   obtain⟨M',hs,hk⟩:=UU hi h;obtain⟨nm',R'⟩:=So R hi hs;exact QY its l M' a w nm' R' hnt hc' hk hK
  | false=>
   have hc':Bz P nt ops l=W ((g,ao)::its.filter fun i=> !i.2.idle):=by simpa[hi] using hc
   obtain⟨o,l',rfl,h1,h2⟩:=YB hc';have:=Sq (Q:=Q) (K:=wpList P ops Q (l'++l2)) R hnt h1 h (fun nm' M' a' w' hk R' hs hd=>QY its l' M' a' w' nm' R' hs h2 hk (fun nm'' M'' a'' w'' k1 k2 k3 k4=>hK nm'' M'' a'' w'' k1 k2 k3 (k4.trans hd)));exact this
end
end
section
structure Sub (τ M:St) (S:zA zE):Prop where
 slot:∀q∈S,M.get q=τ.get q
 bx:∀id cs,A1 τ.bx id=W cs->A1 M.bx id=W cs
 rows:∀id r,A1 τ.rows id=W r->A1 M.rows id=W r
section
variable {τ M : St} {S : zA zE}
def Sub.val(H:Sub τ M S){x:Opd}(hx:∀q∈x.slots,q∈S):M.val x=τ.val x:=by
 cases x with
 | t n=>exact H.slot n (hx n (by simp[Opd.slots]))
 | c v=>rfl
def Sub.mono(H:Sub τ M S){S':zA zE}(h:∀q∈S',q∈S):Sub τ M S':=⟨fun q hq=>H.slot q (h q hq),H.bx,H.rows⟩
def Sub.bnd(H:Sub τ M S){lo hi mx:zB Opd}(h1:∀q∈Fe lo,q∈S)(h2:∀q∈Fe hi,q∈S)(h3:∀q∈Fe mx,q∈S)(n:zE):Ea M lo hi mx n=Ea τ lo hi mx n:=by
 have e:∀x:Opd,(∀q∈Fe (W x),q∈S)->M.val x=τ.val x:=fun x hx=>H.val hx
 unfold Ea;cases mx<;>cases hi<;>cases lo<;>dsimp only<;>(try rw[e _ h1])<;>(try rw[e _ h2])<;>(try rw[e _ h3])
def Sub.pure(H:Sub τ M S){o:AOp}{p:zE × AV}(hS:∀q∈o.slots,q∈S)(h:τ.pure o=W p):M.pure o=W p:=by
 cases o<;>simp only[AOp.slots,zP,List.mem_flatMap] at hS
 case load d x agg n=>
  simp only[St.pure] at h ⊢
  rw[H.val hS];simp only[zG] at h ⊢
  obtain⟨v,h1,h2⟩:=h;refine⟨v,?_,h2⟩;unfold CS at h1 ⊢
  split at h1
  .rename_i id off e
   split at h1
   .rename_i cs hf
    simp only[H.bx _ _ hf];exact h1
   .cases h1
  .rename_i id i off e
   split at h1
   .rename_i sz es hf
    simp only[H.rows _ _ hf];exact h1
   .cases h1
  .exact h1
  .exact h1
  .exact h1
  .cases h1
 case faddr d x off=>
  simp only[St.pure] at h ⊢
  rw[H.val hS];simp only[zG] at h ⊢
  obtain⟨v,h1,h2⟩:=h;refine⟨v,?_,h2⟩;unfold CA at h1 ⊢
  split at h1
  .exact h1
  .rename_i id i off e
   split at h1
   .rename_i r hf
    simp only[H.rows _ _ hf];exact h1
   .cases h1
  .exact h1
  .exact h1
  .exact h1
  .cases h1
 case iaddr d x i sz=>
  simp only[St.pure] at h ⊢
  rw[H.val fun q hq=>hS q (.inl hq),H.val fun q hq=>hS q (.inr hq)];simp only[zG] at h ⊢
  obtain⟨v,h1,h2⟩:=h;refine⟨v,?_,h2⟩;unfold Dc at h1 ⊢
  split at h1
  .exact h1
  .exact h1
  .exact h1
  .rename_i id k i e1 e2
   split at h1
   .rename_i sz' es hf
    simp only[H.rows _ _ hf];exact h1
   .cases h1
  .cases h1
 case aaddr d x i len sz=>
  simp only[St.pure] at h ⊢
  rw[H.val fun q hq=>hS q (.inl hq),H.val fun q hq=>hS q (.inr hq)];exact h
 case len d x=>
  simp only[St.pure] at h ⊢
  rw[H.val hS];simp only[zG] at h ⊢
  obtain⟨v,h1,h2⟩:=h;refine⟨v,?_,h2⟩;unfold Et at h1 ⊢
  split at h1
  .exact h1
  .rename_i id e
   split at h1
   .rename_i sz es hf
    simp only[H.rows _ _ hf];exact h1
   .cases h1
  .exact h1
  .exact h1
  .exact h1
  .cases h1
 case sconv d x=>
  simp only[St.pure] at h ⊢
  rw[H.val hS];simp only[zG] at h ⊢
  obtain⟨v,h1,h2⟩:=h;refine⟨v,?_,h2⟩;unfold I4 at h1 ⊢
  split at h1
  .exact h1
  .rename_i id e
   split at h1
   .rename_i sz es hf
    simp only[H.rows _ _ hf];exact h1
   .cases h1
  .cases h1
 case slc d sz x lo hi mx=>
  simp only[St.pure] at h ⊢
  rw[H.val fun q hq=>hS q (.inl (.inl (.inl hq)))];simp only[zG] at h ⊢
  obtain⟨v,h1,h2⟩:=h;refine⟨v,?_,h2⟩;have hb:=H.bnd (lo:=lo) (hi:=hi) (mx:=mx) (fun q hq=>hS q (.inl (.inl (.inr hq)))) (fun q hq=>hS q (.inl (.inr hq))) (fun q hq=>hS q (.inr hq));unfold Ez at h1 ⊢
  split at h1
  .simp only[hb]; exact h1
  .rename_i id e
   split at h1
   .rename_i sz es hf
    simp only[H.rows _ _ hf,hb];exact h1
   .cases h1
  .simp only[hb]; exact h1
  .cases h1
 case sslc d x lo hi=>
  simp only[St.pure] at h ⊢
  rw[H.val fun q hq=>hS q (.inl (.inl hq))];have hb:=H.bnd (lo:=lo) (hi:=hi) (mx:=none) (fun q hq=>hS q (.inl (.inr hq))) (fun q hq=>hS q (.inr hq)) (fun q hq=>by simp[Fe] at hq);unfold I5 at h ⊢
  simp only[hb];exact h
 case pick d c a b=>
  simp only[St.pure] at h ⊢
  rw[H.val fun q hq=>hS q (.inl (.inl hq)),H.val fun q hq=>hS q (.inl (.inr hq)),H.val fun q hq=>hS q (.inr hq)];exact h
 case build d zs ps=>
  simp only[St.pure] at h ⊢
  have e:(ps.map fun p=>(p.1,p.2.1,M.val p.2.2))=ps.map fun p=>(p.1,p.2.1,τ.val p.2.2):=by
   refine yI fun p hp=> ?_
   rw[H.val fun q hq=>hS q ⟨p,hp,hq⟩]
  rw[e];exact h
 case mkf d f caps=>
  simp only[St.pure] at h ⊢
  have e:caps.map M.val=caps.map τ.val:=yI fun p hp=>H.val fun q hq=>hS q ⟨p,hp,hq⟩
  rw[e];exact h
 case mv | nilc | un | field | extr | slen | mkif | tass=>simp only[St.pure] at h ⊢; rw[H.val hS]; exact h
 case conv d k x=>simp only[St.pure] at h ⊢; rw[H.val hS]; exact h
 case zsl=>exact h
 case bin | beq | geq | idx | mm=>simp only[St.pure] at h ⊢; rw[H.val fun q hq=>hS q (.inl hq),H.val fun q hq=>hS q (.inr hq)]; exact h
 all_goals (simp[St.pure] at h)
def Sub.toD0(H:Sub τ M S){c:AC}{d:D}(h:toD0 τ.rows c=W d):toD0 M.rows c=W d:=by
 cases c<;>simp only[Vi.toD0] at h ⊢
 case own id=>
  split at h
  .rename_i hf; rw[H.rows _ _ hf]; exact h
  .cases h
 case osub id lo hi=>
  split at h
  .rename_i hf; rw[H.rows _ _ hf]; exact h
  .cases h
 all_goals exact h
def Sub.toD1(H:Sub τ M S){c:AC}{d:D}(h:toD1 τ.rows c=W d):toD1 M.rows c=W d:=by
 cases c with
 | old d'=>exact h
 | mix d'=>exact h
 | own id=>exact H.toD0 (c:= .own id) h
 | osub id lo hi=>exact H.toD0 (c:= .osub id lo hi) h
 | _=>exact h
def Sub.appSrc(H:Sub τ M S){y:AV}{es:zA (zA D)}(h:appSrc τ.rows y=W es):appSrc M.rows y=W es:=by
 unfold Vi.appSrc at h ⊢
 split at h
 .split at h
  .rename_i hd
   simp only[H.toD0 hd];exact h
  .cases h
 .cases h
def Sub.zapV(H:Sub τ M S){d sz b:zE}{X Y:AV}{p:zE × zE × zA (zA D)}(h:zapV τ.rows d sz b X Y=W p):zapV M.rows d sz b X Y=W p:=by
 unfold Vi.zapV at h ⊢
 split at h
 .split at h
  .rename_i he
   simp only[H.appSrc he];exact h
  .cases h
 .cases h
def Sub.made(H:Sub τ M S){o:AOp}{m:Mk}(hS:∀q∈o.slots,q∈S)(h:τ.made o=W m):M.made o=W m:=by
 cases o<;>simp only[AOp.slots,zP,List.mem_flatMap] at hS
 case box d x=>simp only[St.made] at h ⊢; rw[H.val hS]; exact h
 case alloc=>exact h
 case bslice d sz zs len ps=>
  simp only[St.made] at h ⊢
  have e:(ps.map fun p=>(p.1,M.val p.2))=ps.map fun p=>(p.1,τ.val p.2):=by
   refine yI fun p hp=> ?_
   rw[H.val fun q hq=>hS q ⟨p,hp,hq⟩]
  rw[e];exact h
 case mksl d sz bytes zs x y=>simp only[St.made] at h ⊢; rw[H.val fun q hq=>hS q (.inl hq),H.val fun q hq=>hS q (.inr hq)]; exact h
 case zap d sz b x y=>
  simp only[St.made,zG] at h ⊢
  rw[H.val fun q hq=>hS q (.inl hq),H.val fun q hq=>hS q (.inr hq)];obtain⟨p,h1,h2⟩:=h;exact⟨p,H.zapV h1,h2⟩
 all_goals (simp[St.made] at h)
def cI{o:AOp}{m:Mk}(h:τ.made o=W m):M.pure o=I:=by
 cases o<;>first | rfl | (simp[St.made] at h; done)
def Sub.toD0s(H:Sub τ M S):∀{cs:zA AC} {ds:zA D},toD0s τ.rows cs=W ds->toD0s M.rows cs=W ds
 | [],ds,h=>h
 | c::cs,ds,h=>by
  simp only[Vi.toD0s] at h ⊢
  split at h
  .rename_i h1 h2
   rw[H.toD1 h1,H.toD0s h2];exact h
  .cases h
def Sub.pdOf(H:Sub τ M S){id off:zE}{d:D}(h:τ.pdOf id off=W d):M.pdOf id off=W d:=by
 unfold St.pdOf at h ⊢
 split at h
 .rename_i hf
  rw[H.bx _ _ hf];simp only[zG] at h ⊢
  obtain⟨ds,h1,h2⟩:=h;exact⟨ds,H.toD0s h1,h2⟩
 .cases h
def Sub.pdsOf(H:Sub τ M S):∀{ids:zA zE} {ds:zA D},τ.pdsOf ids=W ds->M.pdsOf ids=W ds
 | [],ds,h=>h
 | c::cs,ds,h=>by
  simp only[St.pdsOf] at h ⊢
  split at h
  .rename_i h1 h2
   rw[H.pdOf h1,H.pdsOf h2];exact h
  .cases h
def Sub.toD(H:Sub τ M S){c:AC}{d:D}(h:τ.toD c=W d):M.toD c=W d:=by
 cases c<;>simp only[St.toD] at h ⊢
 case pb=>exact H.pdOf h
 case pe id idx off=>
  split at h
  .rename_i hf; rw[H.rows _ _ hf]; exact h
  .cases h
 case clo f ids=>
  simp only[zG] at h ⊢
  obtain⟨ds,h1,h2⟩:=h;exact⟨ds,H.pdsOf h1,h2⟩
 all_goals exact H.toD1 h
def Sub.toDV(H:Sub τ M S){v:AV}{d:DV}(h:τ.toDV v=W d):M.toDV v=W d:=by
 unfold St.toDV at h ⊢
 split at h
 .simp only[zG] at h ⊢
  obtain⟨x,h1,h2⟩:=h;exact⟨x,H.toD h1,h2⟩
 .simp only[zG] at h ⊢
  obtain⟨x,h1,h2⟩:=h;exact⟨x,H.toD0s h1,h2⟩
 .cases h
def Sub.toDVs(H:Sub τ M S):∀{xs:zA Opd} {ds:zA DV},(∀q∈xs.flatMap Opd.slots,q∈S)->τ.toDVs xs=W ds->M.toDVs xs=W ds
 | [],ds,_,h=>h
 | x::xs,ds,hS,h=>by
  simp only[zW,zP] at hS
  simp only[St.toDVs] at h ⊢
  split at h
  .rename_i h1 h2
   rw[H.val fun q hq=>hS q (.inl hq),H.toDV h1,H.toDVs (fun q hq=>hS q (.inr hq)) h2];exact h
  .cases h
def Sub.toIVs(H:Sub τ M S):∀{xs:zA Opd} {ds:zA DV},(∀q∈xs.flatMap Opd.slots,q∈S)->τ.toIVs xs=W ds->M.toIVs xs=W ds
 | [],ds,_,h=>h
 | x::xs,ds,hS,h=>by
  simp only[zW,zP] at hS
  simp only[St.toIVs] at h ⊢
  split at h
  .rename_i h1 h2
   rw[H.val fun q hq=>hS q (.inl hq),h1,H.toIVs (fun q hq=>hS q (.inr hq)) h2];exact h
  .cases h
def Sub.handed(H:Sub τ M S){P:Program}{f:FuncId}{xs:zA Opd}{ds:zA DV}{rs:zA R1}(hS:∀q∈xs.flatMap Opd.slots,q∈S)(h:τ.handed P f xs ds rs):M.handed P f xs ds rs:=
 h.imp (fun h=>⟨H.toDVs hS h.1,h.2⟩) fun h=>H.toIVs hS h
def Sub.handedV(H:Sub τ M S){x:Opd}{xs:zA Opd}{f:FuncId}{caps:zA D}{ds:zA DV}{rs:zA R1}(hx:∀q∈x.slots,q∈S)(hS:∀q∈xs.flatMap Opd.slots,q∈S)(h:τ.handedV x xs f caps ds rs):M.handedV x xs f caps ds rs:=by
 unfold St.handedV at h ⊢
 rw[H.val hx];exact h.imp (fun h=>⟨H.toDV h.1,H.toDVs hS h.2.1,h.2.2⟩) fun h=>⟨h.1,H.toIVs hS h.2⟩
end
end
section
structure Eff where
 d:zE
 v:AV
 bx:zA (zE × zA AC)
 rows:Rows
def DX(bx:zA (zE × zA AC)):zA (zE × zA AC)->zA (zE × zA AC)
 | []=>bx
 | (k,x)::r=>put (DX bx r) k x
def St.add(M:St)(e:Eff):St:={env:=put M.env e.d e.v,bx:=DX M.bx e.bx,rows:=Bj M.rows e.rows}
def Mk.eff:Mk->Eff
 | .box d cs=>⟨d,.v (.sc (.pb d 0)),[(d,cs)],[]⟩
 | .row d sz es=>⟨d,.v (.sc (.own (d*64))),[],[(d*64,sz,es)]⟩
def Eff.avoids(e:Eff)(n:zE):zD:=e.v.cells.all (fun c=> !c.uses n)&&e.bx.all fun p=>p.1 !=n&&p.2.all fun c=> !c.uses n
structure Eff.Grouped (e:Eff):Prop where
 bx:∀p∈e.bx,p.1=e.d
 one:e.bx= []\/∃cs,e.bx= [(e.d,cs)]
 rows:∀p∈e.rows,p.1 / 64=e.d
def Vl{α:Type}:∀{l:zA (zE × α)} {n:zE} {v:α} {p:zE × α},p∈put l n v->p∈l\/p=(n,v)
 | [],n,v,p,h=>by simp[put] at h; exact .inr h
 | (k,u)::r,n,v,p,h=>by
  by_cases hk:k=n
  .subst hk;simp[put] at h;rcases h with h|h
   .exact .inr h
   .exact .inl (by simp[h])
  .have h':(k==n)=V:=by simpa using hk
   simp[put,h'] at h;rcases h with h|h
   .exact .inl (by simp[h])
   .rcases Vl h with h|h
    .exact .inl (by simp[h])
    .exact .inr h
def cO:∀{l m:zA (zE × zA AC)} {p:zE × zA AC},p∈DX l m->p∈l\/p∈m
 | l,[],p,h=> .inl h
 | l,(k,x)::r,p,h=>by
  simp only[DX] at h;rcases Vl h with h|h
  .rcases cO h with h|h
   .exact .inl h
   .exact .inr (by simp[h])
  .exact .inr (by simp[h])
def Z4:∀{rows l:Rows} {id:zE},(∀p∈l,p.1≠id)->A1 (Bj rows l) id=A1 rows id
 | rows,[],id,_=>rfl
 | rows,(k,x)::r,id,h=>by
  simp only[Bj];rw[Bn _ _ (fun e=>h (k,x) d0 e.symm)];exact Z4 fun p hp=>h p (by simp[hp])
def Z3:∀{rows rows' l:Rows} {id:zE},A1 rows id=A1 rows' id->A1 (Bj rows l) id=A1 (Bj rows' l) id
 | rows,rows',[],id,h=>h
 | rows,rows',(k,x)::r,id,h=>by
  simp only[Bj];by_cases hk:id=k
  .subst hk; rw[Bm,Bm]
  .rw[Bn _ _ hk,Bn _ _ hk]; exact Z3 h
def Z6:∀{bx l:zA (zE × zA AC)} {id:zE},(∀p∈l,p.1≠id)->A1 (DX bx l) id=A1 bx id
 | bx,[],id,_=>rfl
 | bx,(k,x)::r,id,h=>by
  simp only[DX];rw[Bn _ _ (fun e=>h (k,x) d0 e.symm)];exact Z6 fun p hp=>h p (by simp[hp])
def Z5:∀{bx bx' l:zA (zE × zA AC)} {id:zE},A1 bx id=A1 bx' id->A1 (DX bx l) id=A1 (DX bx' l) id
 | bx,bx',[],id,h=>h
 | bx,bx',(k,x)::r,id,h=>by
  simp only[DX];by_cases hk:id=k
  .subst hk; rw[Bm,Bm]
  .rw[Bn _ _ hk,Bn _ _ hk]; exact Z5 h
structure Same (M M':St):Prop where
 get:∀k,M'.get k=M.get k
 bx:∀id,A1 M'.bx id=A1 M.bx id
 rows:∀id,A1 M'.rows id=A1 M.rows id
section
variable {A : Ar} {B : zE} {w0 : Base} {w : World} {nm : Ac} {M M' : St} {tmps : Array Value}
def CRel.same{X Y:Cx}{c:AC}{v:Value}(H:CRel X c v)(hn:Y.nm=X.nm)(hr:∀id,A1 Y.rs id=A1 X.rs id)(hh:∀b C,X.h b C->Y.h b C)(hw:Y.w.heap=X.w.heap)(hz:Y.o=X.o/\Y.v=X.v/\Y.new=X.new:=by exact⟨rfl,rfl,rfl⟩):CRel Y c v:=by
 refine H.move hh (fun id _=> .inr ⟨hr id,by rw[hn],fun b _=>by rw[hw]⟩) (fun id _ b hb=>by rw[hn]; exact hb) hz
def Rel.same(R:Rel A B w0 nm M tmps w)(H:Same M M'):Rel A B w0 nm M' tmps w:=by
 refine R.carry (f:=fun c=>c) R.below R.size R.names R.inj (fun _ _=>rfl) (fun k=>by rw[AV.mapId,H.get k]) (fun id=>by rw[H.bx id]; simp) (fun id cs _ b hb=>⟨hb,zF⟩) (fun c v _ hrel=> ?_);exact hrel.same zF H.rows (fun b C h=>h) zF
def Rel.drawn(R:Rel A B w0 nm M tmps w)(n:zE):Rel A B w0 nm M tmps {w with drawn:=n}:=by
 have hb:RowKit.Below w.heap.size w {w with drawn:=n}:=⟨rfl,rfl,rfl,zU _,fun _ _=>rfl⟩;refine R.carry (f:=fun c=>c) (R.below.trans R.there (hb.mono (zU _)) R.size) R.size R.names R.inj (fun _ _=>rfl) (fun k=>by rw[AV.mapId]) (fun id=>by simp) (fun id cs _ b hb=>⟨hb,zF⟩) (fun c v _ hrel=> ?_);exact hrel.same zF (fun _=>rfl) (fun b C h=>h) zF
end
structure Mt (σ0:St) (E:zE->Eff) (μ:zE->Prop) (M:St):Prop where
 hit:∀i,μ i->M.get (E i).d=(E i).v
 miss:∀k,(∀i,μ i->(E i).d≠k)->M.get k=σ0.get k
 bhit:∀i id,μ i->(E i).bx≠ []->(E i).d=id->A1 M.bx id=A1 (DX σ0.bx (E i).bx) id
 bmiss:∀id,(∀i,μ i->(E i).bx≠ []->(E i).d≠id)->A1 M.bx id=A1 σ0.bx id
 rhit:∀i id,μ i->(E i).rows≠ []->(E i).d=id / 64->A1 M.rows id=A1 (Bj σ0.rows (E i).rows) id
 rmiss:∀id,(∀i,μ i->(E i).rows≠ []->(E i).d≠id / 64)->A1 M.rows id=A1 σ0.rows id
 frs:∀g,σ0.fresh g=O->(∀i,μ i->(E i).avoids g=O)->M.fresh g=O
section
variable {σ0 M M' : St} {E E' : zE -> Eff} {μ μ' : zE -> Prop}
def Mt.none(hM:∀i,¬μ i):Mt σ0 E μ σ0:=
 ⟨fun i h=>absurd h (hM i),fun _ _=>rfl,fun i _ h=>absurd h (hM i),fun _ _=>rfl,fun i _ h=>absurd h (hM i),fun _ _=>rfl,fun _ h _=>h⟩
def Mt.congr(H:Mt σ0 E μ M)(hM:∀i,μ i↔μ' i)(hE:∀i,μ i->E' i=E i):Mt σ0 E' μ' M:=by
 refine⟨fun i h=> ?_,fun k h=> ?_,fun i id h=> ?_,fun id h=> ?_,fun i id h=> ?_,fun id h=> ?_,fun g h0 h=> ?_⟩
 .rw[hE i ((hM i).2 h)]; exact H.hit i ((hM i).2 h)
 .exact H.miss k fun i hi=>by rw[<- hE i hi]; exact h i ((hM i).1 hi)
 .rw[hE i ((hM i).2 h)]; exact H.bhit i id ((hM i).2 h)
 .exact H.bmiss id fun i hi=>by rw[<- hE i hi]; exact h i ((hM i).1 hi)
 .rw[hE i ((hM i).2 h)]; exact H.rhit i id ((hM i).2 h)
 .exact H.rmiss id fun i hi=>by rw[<- hE i hi]; exact h i ((hM i).1 hi)
 .exact H.frs g h0 fun i hi=>by rw[<- hE i hi]; exact h i ((hM i).1 hi)
def Mt.same(H:Mt σ0 E μ M)(H':Mt σ0 E μ M'):Same M M':=by
 refine⟨fun k=> ?_,fun id=> ?_,fun id=> ?_⟩
 .by_cases h:∃i,μ i/\(E i).d=k
  .obtain⟨i,hi,rfl⟩:=h;rw[H.hit i hi,H'.hit i hi]
  .have h':∀i,μ i->(E i).d≠k:=fun i hi e=>h ⟨i,hi,e⟩
   rw[H.miss k h',H'.miss k h']
 .by_cases h:∃i,μ i/\(E i).bx≠ []/\(E i).d=id
  .obtain⟨i,hi,hb,e⟩:=h;rw[H.bhit i id hi hb e,H'.bhit i id hi hb e]
  .have h':∀i,μ i->(E i).bx≠ []->(E i).d≠id:=fun i hi hb e=>h ⟨i,hi,hb,e⟩
   rw[H.bmiss id h',H'.bmiss id h']
 .by_cases h:∃i,μ i/\(E i).rows≠ []/\(E i).d=id / 64
  .obtain⟨i,hi,hb,e⟩:=h;rw[H.rhit i id hi hb e,H'.rhit i id hi hb e]
  .have h':∀i,μ i->(E i).rows≠ []->(E i).d≠id / 64:=fun i hi hb e=>h ⟨i,hi,hb,e⟩
   rw[H.rmiss id h',H'.rmiss id h']
def Mt.add(H:Mt σ0 E μ M){i:zE}(hd:∀j,μ j->(E j).d≠(E i).d)(hg:(E i).Grouped):Mt σ0 E (fun j=>μ j\/j=i) (M.add (E i)):=by
 have get_same:(M.add (E i)).get (E i).d=(E i).v:=by simp[St.add,St.get,Bm]
 have get_ne:∀k,k≠(E i).d->(M.add (E i)).get k=M.get k:=fun k hk=>by simp[St.add,St.get,Bn _ _ hk]
 have bx_ne:∀id,(E i).bx= []\/(E i).d≠id->A1 (M.add (E i)).bx id=A1 M.bx id:=by
  intro id h;rcases h with h|h
  .simp[St.add,h,DX]
  .exact Z6 fun p hp=>by rw[hg.bx p hp]; exact h
 have rows_ne:∀id,(E i).rows= []\/(E i).d≠id / 64->A1 (M.add (E i)).rows id=A1 M.rows id:=by
  intro id h;rcases h with h|h
  .simp[St.add,h,Bj]
  .exact Z4 fun p hp e=>h (by rw[<- hg.rows p hp,e])
 refine⟨fun j h=> ?_,fun k h=> ?_,fun j id h hb e=> ?_,fun id h=> ?_,fun j id h hb e=> ?_,fun id h=> ?_,fun g h0 h=> ?_⟩
 .rcases h with h|rfl
  .rw[get_ne _ (hd j h)]; exact H.hit j h
  .exact get_same
 .rw[get_ne k (fun e=>h i (.inr rfl) e.symm)];exact H.miss k fun j hj=>h j (.inl hj)
 .rcases h with h|rfl
  .rw[bx_ne id (.inr fun e'=>hd j h (e.trans e'.symm))]; exact H.bhit j id h hb e
  .show A1 (DX M.bx (E j).bx) id=_
   refine Z5 (H.bmiss id fun l hl hlb e'=>hd l hl (e'.trans e.symm))
 .rw[bx_ne id (by
   by_cases hb:(E i).bx= []
   .exact .inl hb
   .exact .inr (h i (.inr zF) hb))]
  exact H.bmiss id fun j hj=>h j (.inl hj)
 .rcases h with h|rfl
  .rw[rows_ne id (.inr fun e'=>hd j h (e.trans e'.symm))]; exact H.rhit j id h hb e
  .show A1 (Bj M.rows (E j).rows) id=_
   refine Z3 (H.rmiss id fun l hl hlb e'=>hd l hl (e'.trans e.symm))
 .rw[rows_ne id (by
   by_cases hb:(E i).rows= []
   .exact .inl hb
   .exact .inr (h i (.inr zF) hb))]
  exact H.rmiss id fun j hj=>h j (.inl hj)
 .have h1:=H.frs g h0 fun j hj=>h j (.inl hj)
  have h2:=h i (.inr rfl);simp only[St.fresh,Eff.avoids,zH,zI] at h1 h2 ⊢
  refine⟨h1.1,fun p hp=> ?_,fun p hp=> ?_⟩
  .rcases Vl hp with hp|rfl
   .exact h1.2.1 p hp
   .exact h2.1
  .rcases cO hp with hp|hp
   .exact h1.2.2 p hp
   .exact h2.2 p hp
end
def Fq(g:zB (zE × zD))(M:St):Prop:=
 match g with
 | none=>True
 | some (t,want)=>M.get t= .v (.sc (.dat (.bool want)))
def Rc(M:St)(t:zE)(want:zD):Prop:=(∃b,M.get t= .v (.sc (.dat (.bool b)))/\b≠want)\/M.get t= .no
def Mk.d:Mk->zE
 | .box d _=>d
 | .row d _ _=>d
inductive Ev (P:Program) (N:zA zE) (M:St):AItem->Eff->Prop
 | no {t want o d}:Rc M t want->o.dst=W d->Ev P N M (W (t,want),o) ⟨d,.no,[],[]⟩
 | pure {g o d v}:Fq g M->(M.less N).pure o=W (d,v)->v.avoids N=O->Ev P N M (g,o) ⟨d,v,[],[]⟩
 | made {g o m}:Fq g M->(M.less N).made o=W m->(match m with | .box d cs=>cs.all (·.avoids N)=O/\cs.all (fun c=> !c.uses d)=O | _=>True)->M.fresh m.d=O->Ev P N M (g,o) m.eff
 | call {g d f args ds rs}:Fq g M->(M.less N).handed P f args ds rs->FC P f ds rs->M.fresh d=O->(rs.flatMap R1.cells).length<=64->Ev P N M (g,.call d f args) ⟨d,BN d rs,[],BI d rs⟩
 | callv {g d x args f caps ds rs}:Fq g M->(M.less N).handedV x args f caps ds rs->BQ P f=O->FC P f (ds++caps.map .sc) rs->M.fresh d=O->(rs.flatMap R1.cells).length<=64->
   Ev P N M (g,.callv d x args) ⟨d,BN d rs,[],BI d rs⟩
section
variable {P : Program} {N : zA zE} {M M' : St}
def TC{g:zB (zE × zD)}{yes no:Prop}(h:AK g M yes no):(Fq g M/\yes)\/(∃t want,g=W (t,want)/\Rc M t want/\no):=by
 cases g with
 | none=>exact .inl ⟨trivial,h⟩
 | some p=>
  obtain⟨t,want⟩:=p;simp only[AK] at h;split at h
  .rename_i b hb
   split at h
   .rename_i e
    subst e;exact .inl ⟨hb,h⟩
   .rename_i e
    exact .inr ⟨t,want,zF,.inl ⟨b,hb,e⟩,h⟩
  .rename_i hb
   exact .inr ⟨t,want,zF,.inr hb,h⟩
  .exact h.elim
def TB{t:zE}{want:zD}{yes no:Prop}(hd:Rc M t want)(h:no):AK (W (t,want)) M yes no:=by
 rcases hd with ⟨b,hb,hne⟩|hb
 .simp only[AK,hb];rw[if_neg hne];exact h
 .simp only[AK,hb];exact h
def KL{g:zB (zE × zD)}{yes no:Prop}(hw:Fq g M)(h:yes):AK g M yes no:=by
 cases g with
 | none=>exact h
 | some p=>
  obtain⟨t,want⟩:=p;simp only[Fq] at hw
  simp only[AK,hw,if_true];exact h
def VB{o:AOp}{d:zE}{v:AV}(h:M.pure o=W (d,v)):o.dst=W d/\o.idle=V:=by
 cases o<;>simp only[St.pure,zG] at h
 case conv=>
  split at h
  .cases h; exact⟨rfl,rfl⟩
  .cases h
 case mv=>cases h; exact⟨rfl,rfl⟩
 case zsl=>cases h; exact⟨rfl,rfl⟩
 all_goals first
  | (obtain⟨_,_,h2⟩:=h; cases h2; exact⟨rfl,rfl⟩)
  | cases h
def Vf{o:AOp}{m:Mk}(h:M.made o=W m):o.dst=W m.d/\o.maker=O:=by
 cases o<;>simp only[St.made] at h
 case box=>
  split at h
  .cases h; exact⟨rfl,rfl⟩
  .cases h
 case alloc=>cases h; exact⟨rfl,rfl⟩
 case bslice=>
  split at h
  .split at h
   .cases h; exact⟨rfl,rfl⟩
   .cases h
  .cases h
 case mksl=>
  split at h
  .split at h
   .cases h; exact⟨rfl,rfl⟩
   .cases h
  .cases h
 case zap=>
  simp only[zG] at h;obtain⟨p,h1,h2⟩:=h;unfold zapV at h1
  split at h1
  .split at h1
   .split at h1
    .cases h1; cases h2; exact⟨rfl,rfl⟩
    .cases h1
   .cases h1
  .cases h1
 all_goals (cases h)
def SZ{g:zE}:∀{cs:zA RC} {j:zE},j+cs.length<=64->∀p∈BR g j cs,p.1 / 64=g
 | [],j,_,p,hp=>by simp[BR] at hp
 | .v d::cs,j,hl,p,hp=>by
  simp only[BR] at hp
  simp at hl
  exact SZ a9 p hp
 | .o sz es::cs,j,hl,p,hp=>by
  simp only[BR,zL] at hp
  simp at hl
  rcases hp with rfl|hp
  .show(g*64+j) / 64=g; omega
  .exact SZ a9 p hp
def Ev.dst{it:AItem}{e:Eff}(H:Ev P N M it e):it.2.dst=W e.d:=by
 cases H with
 | no _ h=>exact h
 | pure _ h _=>exact(VB h).1
 | @made g o m _ h _ _=>
  rw[(Vf h).1];cases m<;>rfl
 | call=>rfl
 | callv=>rfl
def Ev.grouped{it:AItem}{e:Eff}(H:Ev P N M it e):e.Grouped:=by
 cases H with
 | no=>exact⟨d0,.inl rfl,d0⟩
 | pure=>exact⟨d0,.inl rfl,d0⟩
 | @made g o m _ h _ _=>
  cases m with
  | box d cs=>exact⟨by simp[Mk.eff],.inr ⟨cs,rfl⟩,by simp[Mk.eff]⟩
  | row d sz es=>exact⟨by simp[Mk.eff],.inl rfl,by simp[Mk.eff]⟩
 | call _ _ _ _ h=>exact⟨d0,.inl rfl,SZ a9⟩
 | callv _ _ _ _ _ h=>exact⟨d0,.inl rfl,SZ a9⟩
def Ev.maker{it:AItem}{e:Eff}(H:Ev P N M it e)(h:e.bx≠ []\/e.rows≠ []):it.2.maker=O/\M.fresh e.d=O:=by
 cases H with
 | no=>simp at h
 | pure=>simp at h
 | @made g o m _ hm _ hf=>exact⟨(Vf hm).2,by cases m<;>exact hf⟩
 | call _ _ _ hf=>exact⟨rfl,hf⟩
 | callv _ _ _ _ hf=>exact⟨rfl,hf⟩
def bg{g n:zE}(hn:n≠g):∀{cs:zA RC} {j:zE},j+cs.length<=64->∀c∈Er g j cs,c.uses n=V
 | [],j,_,c,hc=>by simp[Er] at hc
 | r::cs,j,hl,c,hc=>by
  simp at hl
  simp only[Er,zL] at hc
  rcases hc with rfl|hc
  .cases r with
   | v d=>rfl
   | o sz es=>simp[RC.inst,AC.uses]; omega
  .exact bg hn a9 c hc
def bZ{g n:zE}(hn:n≠g){r:R1}{j:zE}(hl:j+r.width<=64):∀c∈(r.inst g j).cells,c.uses n=V:=by
 intro c hc;cases r with
 | sc r=>
  simp only[R1.inst,V1.cells,List.mem_singleton] at hc
  simp only[R1.width] at hl
  subst hc;cases r with
  | v d=>rfl
  | o sz es=>simp[RC.inst,AC.uses]; omega
 | ag cs=>exact bg hn hl c hc
def bk{g n:zE}(hn:n≠g):∀{rs:zA R1} {j:zE},j+(rs.flatMap R1.cells).length<=64->∀c∈(Dv g j rs).flatMap V1.cells,c.uses n=V
 | [],j,_,c,hc=>by simp[Dv] at hc
 | r::rs,j,hl,c,hc=>by
  simp only[zW,List.length_append] at hl
  rw[<- R1.width_eq] at hl
  simp only[Dv,zW,zP] at hc
  rcases hc with hc|hc
  .exact bZ hn a9 c hc
  .exact bk hn a9 c hc
def bc{g n:zE}(hn:n≠g){rs:zA R1}(hl:(rs.flatMap R1.cells).length<=64):∀c∈(BN g rs).cells,c.uses n=V:=by
 intro c hc;unfold BN at hc
 split at hc
 .rename_i r
  simp only[zW,List.flatMap_nil,List.append_nil] at hl
  rw[<- R1.width_eq] at hl
  exact bZ hn a9 c hc
 .exact bk hn a9 c hc
def Ev.avoid{it:AItem}{e:Eff}(H:Ev P N M it e){n:zE}(hn:n∈N)(hne:n≠e.d):e.avoids n=O:=by
 have av:∀{v:AV},v.avoids N=O->v.cells.all (fun c=> !c.uses n)=O:=by
  intro v h;simp only[AV.avoids,AC.avoids,zI] at h ⊢
  exact fun c hc=>h c hc n hn
 cases H with
 | no=>rfl
 | pure _ _ h=>simp only[Eff.avoids,zX,zR]; exact av h
 | @made g o m _ h hm _=>
  cases m with
  | box d cs=>
   have hne':n≠d:=hne;simp only[AC.avoids,zI] at hm
   have h1:(d==n)=V:=by simpa using fun e=>hne' e.symm
   simp only[Mk.eff,Eff.avoids,AV.cells,V1.cells,AC.uses,zY,zX,zR,zH,h1];exact⟨zF,by simpa using fun e=>hne' e.symm,zI.2 fun c hc=>hm.1 c hc n hn⟩
  | row d sz es=>
   have hne':n≠d:=hne;have h1:(d*64 / 64==n)=V:=by simp; omega
   simp[Mk.eff,Eff.avoids,AV.cells,V1.cells,AC.uses];omega
 | @call g d f args ds rs _ _ _ _ hl=>
  simp only[Eff.avoids,zX,zR,zI];intro c hc;simp[bc hne hl c hc]
 | @callv g d x args f caps ds rs _ _ _ _ _ hl=>
  simp only[Eff.avoids,zX,zR,zI];intro c hc;simp[bc hne hl c hc]
def sx{K:St->Prop}{g:zB (zE × zD)}{o:AOp}(h:AK g M (GS P N o K M) (match o.dst with | some d=>K (M.set d .no) | none=>False)):∃e,Ev P N M (g,o) e/\K (M.add e):=by
 rcases TC h with ⟨hw,hy⟩|⟨t,want,rfl,hb,hn⟩
 .have plain:(match (M.less N).pure o with
    | some (d,v)=>v.avoids N=O/\K (M.set d v)
    | none=>match (M.less N).made o with
     | some m=>(match m with | .box _ cs=>cs.all (·.avoids N) | _=>O)=O/\(match M.make m with
      | some M'=>K M'
      | none=>False)
     | none=>False)->∃e,Ev P N M (g,o) e/\K (M.add e):=by
   intro h;split at h
   .rename_i d v hp
    exact⟨_,.pure hw hp h.1,h.2⟩
   .split at h
    .rename_i m hm
     obtain⟨h1,h2⟩:=h;split at h2
     .rename_i M' hmk
      cases m with
      | box d cs=>
       simp only[St.make] at hmk
       split at hmk
       .rename_i hcond
        cases hmk;simp only[zH] at hcond
        exact⟨_,.made hw hm ⟨h1,hcond.2⟩ hcond.1,h2⟩
       .cases hmk
      | row d sz es=>
       simp only[St.make] at hmk
       split at hmk
       .rename_i hcond
        cases hmk;exact⟨_,.made hw hm trivial hcond,h2⟩
       .cases hmk
     .exact h2.elim
    .exact h.elim
  cases o<;>first
   | exact plain hy
   | skip
  case call d f args=>
   obtain⟨ds,rs,h1,h2,h3,h4,h5⟩:=hy;exact⟨_,.call hw h1 h2 h3 h4,h5⟩
  case callv d x args=>
   obtain⟨f,caps,ds,rs,h1,h0,h2,h3,h4,h5⟩:=hy;exact⟨_,.callv hw h1 h0 h2 h3 h4,h5⟩
 .cases hd:o.dst with
  | none=>simp[hd] at hn
  | some d=>
   simp only[hd] at hn
   exact⟨_,.no hb hd,hn⟩
def Ev.move{g:zB (zE × zD)}{o:AOp}{e:Eff}(H:Ev P N M (g,o) e)(hs:Sub (M.less N) M' (AItem.slots (g,o)))(hf:o.maker=O->M.fresh e.d=O->M'.fresh e.d=O){K:St->Prop}(hK:K (M'.add e)) :
  AK g M' (AZ P o K M') (match o.dst with | some d=>K (M'.set d .no) | none=>False):=by
 have lessGet:∀q,(M.less N).get q=M.get q:=by
  intro q;cases N<;>rfl
 have hgs:∀t want,g=W (t,want)->M'.get t=M.get t:=by
  rintro t want rfl
  rw[hs.slot t (by simp[AItem.slots]),lessGet]
 have hw:Fq g M->Fq g M':=by
  intro h;cases g with
  | none=>trivial
  | some p=>obtain⟨t,want⟩:=p; simp only[Fq] at h ⊢; rw[hgs t want rfl]; exact h
 have hS:∀q∈o.slots,q∈AItem.slots (g,o):=fun q hq=>by simp[AItem.slots,hq]
 cases H with
 | @no t want o d h1 h3=>
  refine TB ?_ ?_
  .unfold Rc at h1 ⊢
   rw[hgs t want rfl];exact h1
  .simp only[h3];exact hK
 | @pure g o d v h1 h2 h3=>
  refine KL (hw h1) ?_;have h4:=hs.pure hS h2;have hid:=(VB h2).2
  have hstep:M'.step o=W (M'.set d v):=by
   cases o<;>first
    | (simp[AOp.idle] at hid; done)
    | (simp[St.pure] at h4; done)
    | (simp only[St.step,h4])
  cases o<;>first
   | (simp[St.pure] at h4; done)
   | (simp only[AZ,hstep]; exact hK)
 | @made g o m h1 h2 h3 h4=>
  refine KL (hw h1) ?_;have h5:=hs.made hS h2;have hp:M'.pure o=I:=cI h5;have hmk:=(Vf h2).2
  have hfr:M'.fresh m.d=O:=by
   have:=hf hmk (by cases m<;>exact h4);cases m<;>exact this
  have hmake:M'.make m=W (M'.add m.eff):=by
   cases m with
   | box d cs=>
    have hfr':M'.fresh d=O:=hfr;simp only[St.make,hfr',h3.2,Bool.and_self,if_true];rfl
   | row d sz es=>
    have hfr':M'.fresh d=O:=hfr;simp only[St.make,hfr',if_true];rfl
  have hstep:M'.step o=W (M'.add m.eff):=by
   cases o<;>first
    | (simp[St.made] at h5; done)
    | (simp only[St.step,hp,h5,hmake])
  cases o<;>first
   | (simp[St.made] at h5; done)
   | (simp only[AZ,hstep]; exact hK)
 | @call g d f args ds rs h1 h2 h3 h4 h5=>
  refine KL (hw h1) (.inl ⟨ds,rs,hs.handed (fun q hq=>hS q hq) h2,h3,hf zF h4,h5,hK⟩)
 | @callv g d x args f caps ds rs h1 h2 h0 h3 h4 h5=>
  exact KL (hw h1) (.inl ⟨f,caps,ds,rs,hs.handedV (fun q hq=>hS q (by simp only[AOp.slots,zP]; exact .inl hq)) (fun q hq=>hS q (by simp only[AOp.slots,zP]; exact .inr hq)) h2,h0,h3,hf zF h4,h5,hK⟩)
end
end
section
inductive Zed:AOp->AOp->Prop
 | refl {o}:Zed o o
 | sl {d sz zs}:Zed (.bslice d sz zs 0 []) (.zsl d)
 | ap {d sz b x y}:Zed (.app d sz b x y) (.zap d sz b x y)
def QM(P:Program)(nt:zE)(ops:Array Oper)(o:Oper)(it:AItem):Prop:=∃o0,It P nt ops o=W (it.1,o0)/\Zed o0 it.2
def B6z(z:zA zE)(it:AItem):(QJ z it).1=it.1/\Zed it.2 (QJ z it).2:=by
 unfold QJ;split
 .split
  .exact⟨zF,.sl⟩
  .exact⟨zF,.refl⟩
 .split
  .exact⟨zF,.ap⟩
  .exact⟨zF,.refl⟩
 .exact⟨zF,.refl⟩
def Zed.dst{o0 o:AOp}(h:Zed o0 o):o.dst=o0.dst:=by cases h<;>rfl
section
variable {P : Program} {A : Ar} {B : zE} {w0 : Base} {w : World} {nm : Ac} {M : St} {tmps : Array Value} {a : Act} {nt : zE}
def Rel.spare(R:Rel A B w0 nm M tmps w)(ob:Obj):Rel A B w0 nm M tmps (w.alloc ob):=by
 have hb:RowKit.Below w.heap.size w (w.alloc ob):=(RowKit.Below.refl w.heap.size w).alloc (zU _) _;refine R.carry (f:=fun c=>c) (R.below.trans R.there hb R.size) (by simp; have:=R.size; omega) (fun i b h=> ?_) R.inj (fun _ _=>rfl) (fun k=>by rw[AV.mapId]) (fun id=>by simp) (fun id cs _ b hb=>⟨hb,heap_alloc_old w _ b (R.names _ b hb).2⟩) (fun c v _ hrel=> ?_)
 .obtain⟨k1,k2⟩:=R.names i b h;exact⟨k1,d3⟩
 .exact hrel.move (CW fun b hb hn=>⟨hn,heap_alloc_old w _ b hb⟩) (fun id _=> .inr ⟨zF,zF,fun b hb=>heap_alloc_old w _ b (R.names _ b hb).2⟩) (fun id _ b hb=>hb)
def B7d(R:Rel A B w0 nm M a.tmps w){d sz len:zE}{zs:zA D}{qs:zA (zE × Opd)}{o:Oper}(hd:d<a.tmps.size)(hod:o.dst=W d)(hc:Ad P d o=W (.bslice d sz zs len qs))(h0:len=0)(hq0:qs= []) :
  ∃v w',(execOp a.eval o).run P w= .ok (.value v) w'/\Rel A B w0 nm (M.set d (.v (.sc .z))) (a.put o.dst v).tmps w':=by
 obtain⟨dst,op,ty,pos,after,guard⟩:=o;simp only at hod
 subst hod;cases op
 case buildSlice t len' ps=>
  simp only[Ad] at hc
  split at hc
  .rename_i i z hz
   obtain⟨e,hu,hi,hz2⟩:=L3 hz;split at hc
   .rename_i hcond
    split at hc
    .rename_i zs' qs' hzs hqs
     cases hc;subst h0 hq0
     have hps:ps.toList= []:=by
      cases hl:ps.toList with
      | nil=>rfl
      | cons p r=>
       rw[hl] at hqs
       simp only[MF] at hqs
       split at hqs<;>cases hqs
     refine⟨.slice (W ⟨w.heap.size,0,I⟩) 0 0,w.alloc (.cells #[] e),?_,(R.spare _).put hd (Bs .z)⟩;simp[Instr.buildSlice,execOp,run_underlying hu,sizeOf,typeInfo,hi,newRow,hps,Instr.fill,Array.range_zero']
    .cases hc
   .cases hc
  .cases hc
 case call c=>
  obtain⟨callee,args,argTypes⟩:=c;cases callee with
  | value f=>cases f<;>(try simp only[Ad] at hc)<;>(repeat' (split at hc))<;>first | (cases hc; done) | (simp only[zG] at hc; obtain⟨_,_,h⟩:=hc; cases h; done) | (simp at hc; done)
  | invoke r m=>simp[Ad] at hc
  | builtin bi=>cases bi<;>simp only[Ad] at hc<;>(repeat' (split at hc))<;>first | (cases hc; done) | (simp at hc; done)
 case makeFunc fn _ _=>cases fn<;>simp only[Ad] at hc<;>(repeat' (split at hc))<;>first | (cases hc; done) | (simp only[zG] at hc; obtain⟨_,_,h⟩:=hc; cases h; done) | (simp at hc; done)
 all_goals (simp only[Ad] at hc)
 all_goals (repeat' (split at hc))
 all_goals first | (cases hc; done) | (simp only[zG] at hc; obtain⟨_,_,h⟩:=hc; cases h; done)
def tc{g:zE}(h:M.fresh g=O):M.has (g*64)=V:=by
 have key:∀c:AC,c.uses g=V->c.has (g*64)=V:=by
  intro c hc;cases c<;>simp only[AC.uses,AC.has,beq_eq_false_iff_ne,ne_eq] at hc ⊢
  all_goals (intro e; subst e; exact hc a9)
 simp only[St.fresh,zH,zI,zK] at h;simp only[St.has,Bool.or_eq_false_iff,List.any_eq_false,Bool.not_eq_true];refine⟨fun p hp=> ?_,fun p hp=> ?_⟩
 .exact fun c hc=>key c (h.2.1 p hp c hc)
 .exact fun c hc=>key c ((h.2.2 p hp).2 c hc)
def B67(R:Rel A B w0 nm M a.tmps w){t t' ty e e':TypeId}{i:TypeInfo}{z:Value}{d:zE}{ay:AV}{vx vy:Value}{es:zA (zA D)}(ht:P.underlying t=W (.slice e))(ht':P.underlying t'=W (.slice e'))
  (hi:P.info? e=W i) (hz:i.zero=W z) (hzs:z.cells.size=i.size) (hpos:0<i.size) (hd:d<a.tmps.size) (hx:VRel (cx A nm M w) (.v (.sc .z)) vx) (hy:VRel (cx A nm M w) ay vy) (hes:appSrc M.rows ay=W es)
  (hall:es.all (fun r=>r.length==i.size)=O) (hb47:es.length*i.bytes<=140737488355328) (h62:es.length<=4611686018427387904) (hf:M.fresh d=O) :
  ∃v w' nm',(Builtin.append_ #[t,t'] ty #[vx,vy]).run P w= .ok v w'/\Rel A B w0 nm' {(M.set d (.v (.sc (.own (d*64))))) with rows:=put M.rows (d*64) (i.size,es)} (a.put (W d) v).tmps w':=by
 obtain⟨a0,rfl⟩:∃a0,vx= .slice a0 0 0:=by
  cases hx.inv_sc with | z=>exact⟨_,rfl⟩
 obtain⟨p,c,news,rfl,hnl,hnr,hload⟩:=Yd (P:=P) hy hes hall hpos
 have hd30:d<1073741824:=by
  simp only[St.fresh,zH,decide_eq_true_eq] at hf
  exact hf.1
 by_cases he:es= []
 .subst he;have hl0:=hload w rfl;have hn0:news= []:=List.length_eq_zero_iff.1 (by simpa using hnl);subst hn0;obtain⟨R1,_⟩:=R.nilRow (id:=d*64) (sz:=i.size) (tc hf) a9;refine⟨_,w,_,dh (base:=a0) ht ht' hi zF hl0 zF,R1.put hd (Bs (.ownNil (Bm _ _ _) ?_))⟩;show(if 2*(d*64)+1=2*(d*64)+1 then I else nm (2*(d*64)+1))=I
  rw[if_pos rfl]
 .have hp0:0<es.length:=List.length_pos_iff.2 he;have hrun:=dg (P:=P) (w:=w) (ty:=ty) ht ht' hi hz (base:=a0) (n:=0) (cap:=0) (olds:= []) (x:= .slice p es.length c) rfl (by cases a0<;>simp[Builtin.firstCells,loadCells,loadCellsFrom]) (hload w.drew rfl) a9 a9 (by simpa using hb47);have hge:=grownCap_ge w (0+es.length) 0 e;have hcm:grownCap w (0+es.length) 0 e<=maxLen:=grownCap_le_maxLen w (0+es.length) 0 e (by unfold maxLen; omega);generalize grownCap w (0+es.length) 0 e=gc at hrun hge hcm
  rw[yG] at hrun hge
  have R0:Rel A B w0 nm M a.tmps w.drew:=R.drawn _
  obtain⟨nm',R2⟩:=R0.newRow (t:=e) (C:= #[]++news.toArray++Builtin.zeroCells z.cells (gc - es.length)) (cap:=gc) (len:=es.length) hd hf hpos (by
   simp only[Array.size_append,List.size_toArray,size_zeroCells,hzs,hnl,List.length_nil,yG];rw[<- Nat.add_mul];congr 1
   omega) hcm rfl hge (by
   simp only[Array.toList_append];exact hnr.more _)
  exact⟨_,_,nm',hrun,R2⟩
def B66(R:Rel A B w0 nm M a.tmps w){d sz b:zE}{x y:Opd}{o:Oper}{m:Mk}{M':St}(hd:d<a.tmps.size)(hod:o.dst=W d)(hc:Ad P d o=W (.app d sz b x y))(hm:M.made (.zap d sz b x y)=W m)(hs:M.make m=W M') :
  ∃v w' nm',(execOp a.eval o).run P w= .ok (.value v) w'/\Rel A B w0 nm' M' (a.put o.dst v).tmps w':=by
 obtain⟨dst,op,ty,pos,after,guard⟩:=o;simp only at hod
 subst hod;cases op<;>try (simp[Ad] at hc; done)
 case call c=>
  obtain⟨callee,args,argTypes⟩:=c;cases callee with
  | builtin bi=>
   cases bi<;>try (simp[Ad] at hc; done)
   case append=>
    simp only[Ad] at hc
    split at hc
    .rename_i X Y t t' hargs htys
     have e1:args= #[X,Y]:=by apply Array.ext'; simpa using hargs
     have e2:argTypes= #[t,t']:=by apply Array.ext'; simpa using htys
     subst e1 e2;split at hc
     .rename_i i z e' x' y' hz hu' hx hy
      split at hc
      .rename_i hcond
       cases hc;obtain⟨e,hu,hi,hz2⟩:=L3 hz;simp only[St.made,zG] at hm
       obtain⟨p,hzv,rfl⟩:=hm;have hX:=Ax R hx;have hY:=Ax R hy;unfold zapV at hzv
       split at hzv
       .rename_i ay hxv
        split at hzv
        .rename_i es hes
         split at hzv
         .rename_i hb
          cases hzv;simp only[St.make] at hs
          split at hs
          .rename_i hf
           cases hs;rw[hxv] at hX
           obtain⟨v,w',nm',hrun,R'⟩:=B67 (P:=P) (ty:=ty) R hu hu' hi hz2 hcond.1 hcond.2.1 hd hX hY hes hb.1 hb.2.1 hb.2.2 hf;refine⟨v,w',nm',?_,R'⟩;simp[execOp,resolve,invoke,builtin,hrun]
          .cases hs
         .cases hzv
        .cases hzv
       .cases hzv
      .cases hc
     .cases hc
    .cases hc
   all_goals ((try simp only[Ad] at hc)<;>(repeat' (split at hc))<;>first | (cases hc; done) | (simp at hc; done))
  | value f=>cases f<;>(try simp only[Ad] at hc)<;>(repeat' (split at hc))<;>first | (cases hc; done) | (obtain⟨_,_,h⟩:=zG.1 hc; cases h; done) | (simp at hc; done)
  | invoke r m=>simp[Ad] at hc
 case makeFunc fn _ _=>cases fn<;>(try simp only[Ad] at hc)<;>(repeat' (split at hc))<;>first | (cases hc; done) | (obtain⟨_,_,h⟩:=zG.1 hc; cases h; done) | (simp at hc; done)
 all_goals (simp only[Ad] at hc)
 all_goals (repeat' (split at hc))
 all_goals first | (cases hc; done) | (simp only[zG] at hc; obtain⟨_,_,h⟩:=hc; cases h; done)
def Sr{Q:Exit->Act->World->Prop}{K:Act->World->Prop}{K':St->Prop}{ops:Array Oper}{o:Oper}{g:zB (zE × zD)}{ao:AOp}(R:Rel A B w0 nm M a.tmps w)(hnt:a.tmps.size=nt)
  (hc:QM P nt ops o (g,ao)) (h:AK g M (AZ P ao K' M) (match ao.dst with | some d=>K' (M.set d .no) | none=>False))
  (hK:∀nm' M' a' w',K' M'->Rel A B w0 nm' M' a'.tmps w'->a'.tmps.size=nt->a'.defers=a.defers->K a' w') :
  if Region.wanted o (yielded ops a.tmps) then o.wp P a w K Q\/(o.asks P a w/\LetsOut Q) else K (a.put o.dst undef) w:=by
 obtain⟨o0,hc0,hz⟩:=hc;simp only at hc0 hz
 obtain⟨h1,h2⟩:=YA hc0
 have CV:Region.wanted o (yielded ops a.tmps)=V->(match ao.dst with | some d=>K' (M.set d .no) | none=>False)->K (a.put o.dst undef) w:=by
  intro _ hn;cases hd:ao.dst with
  | none=>simp[hd] at hn
  | some d=>
   simp only[hd] at hn
   obtain⟨r1,r2,r3⟩:=fS R hnt h2 (hz.dst.symm.trans hd);exact hK nm _ _ w hn r1 r2 r3
 have value:∀{d:zE} {v:Value} {w':World} {nm':Ac} {M':St},o.dst=W d->K' M'->(execOp a.eval o).run P w= .ok (.value v) w'->Rel A B w0 nm' M' (a.put o.dst v).tmps w'->o.wp P a w K Q:=by
  intro d v w' nm' M' hd hk hrun R';unfold Oper.wp;rw[hrun,Oper.upon_value,hd];rw[hd] at R'
  exact hK nm' _ _ _ hk R' (by simp[Act.put,hnt]) zF
 cases hz with
 | refl=>exact Sq R hnt hc0 h hK
 | @sl d sz zs=>
  rcases Uk R h1 h with ⟨hw,hy⟩|⟨hw,hn⟩
  .rw[hw];obtain⟨e1,_,e3⟩:=TS h2;have hod:o.dst=W d:=e1.symm
   have hca:Ad P d o=W (.bslice d sz zs 0 []):=by
    unfold CN at h2
    rw[hod] at h2
    simp only at h2
    split at h2
    .exact h2
    .cases h2
   obtain⟨v,w',hrun,R'⟩:=B7d R (by rw[hnt]; exact e3 d hod) hod hca rfl rfl;exact .inl (value hod hy hrun R')
  .rw[hw];exact CV hw hn
 | @ap d sz b x y=>
  rcases Uk R h1 h with ⟨hw,hy⟩|⟨hw,hn⟩
  .rw[hw];obtain⟨e1,_,e3⟩:=TS h2;have hod:o.dst=W d:=e1.symm
   have hca:Ad P d o=W (.app d sz b x y):=by
    unfold CN at h2
    rw[hod] at h2
    simp only at h2
    split at h2
    .exact h2
    .cases h2
   obtain⟨m,M',hm,hs,hk⟩:∃m M',M.made (.zap d sz b x y)=W m/\M.make m=W M'/\K' M':=by
    simp only[AZ,St.step] at hy
    have hp:M.pure (.zap d sz b x y)=I:=rfl;simp only[hp] at hy
    cases hm:M.made (.zap d sz b x y) with
    | none=>simp[hm] at hy
    | some m=>
     simp only[hm,yN] at hy
     cases hs:M.make m with
     | none=>simp[hs] at hy
     | some M'=>simp only[hs] at hy; exact⟨m,M',rfl,hs,hy⟩
   obtain⟨v,w',nm',hrun,R'⟩:=B66 R (by rw[hnt]; exact e3 d hod) hod hca hm hs;exact .inl (value hod hk hrun R')
  .rw[hw];exact CV hw hn
end
def GF:∀{l m:zA zE},l.Nodup->(∀x∈l,x∈m)->l.length<=m.length
 | [],m,_,_=>yE _
 | x::l,m,hn,h=>by
  have hx:x∈m:=h x d0;have hn':=zS.1 hn
  have:=GF (l:=l) (m:=m.erase x) hn'.2 fun y hy=>by
   have hne:y≠x:=fun e=>hn'.1 (e▸hy)
   exact(List.mem_erase_of_ne hne).2 (h y (by simp[hy]))
  rw[List.length_erase_of_mem hx] at this
  have hpos:0<m.length:=List.length_pos_of_mem hx;simp only[List.length_cons];omega
def Vc{p:zE->Prop}:∀{i:zE},¬p i->∃m,m<=i/\¬p m/\∀j,j<m->p j:=by
 intro i
 induction i using Nat.strongRecOn with
 | _ i ih=>
  intro h;by_cases hall:∀j,j<i->p j
  .exact⟨i,zU _,h,hall⟩
  .obtain⟨j,hj⟩:=Classical.not_forall.1 hall;obtain⟨hj1,hj2⟩:=Classical.not_imp.1 hj;obtain⟨m,h1,h2,h3⟩:=ih j hj1 hj2;exact⟨m,a9,h2,h3⟩
def CY(ops:Array Oper)(L:zE->Prop):Prop:=∀i o,ops[i]?=W o->L i->∀j∈waits o,L j
def WR(ops:Array Oper)(i:zE)(s:zA zE):Prop:=∀L:zE->Prop,CY ops L->(∀o,ops[i]?=W o->∀j∈waits o,L j)->∀x∈s,L x
def Vm{x:zE}:∀{l m:zA zE},x∈Wl l m->x∈l\/x∈m
 | [],m,h=> .inr h
 | y::l,m,h=>by
  simp only[Wl,List.foldr_cons] at h;split at h
  .rcases Vm (l:=l) h with h|h
   .exact .inl (by simp[h])
   .exact .inr h
  .rcases zL.1 h with h|h
   .exact .inl (by simp[h])
   .rcases Vm (l:=l) h with h|h
    .exact .inl (by simp[h])
    .exact .inr h
def cN{acc:zA (zA zE)}{x:zE}:∀{ws:zA zE},x∈EH acc ws->∃j∈ws,x=j\/x∈acc.getD j []
 | [],h=>by simp[EH] at h
 | j::r,h=>by
  simp only[EH] at h;rcases Vm h with h|h
  .exact⟨j,d0,zL.1 h⟩
  .obtain⟨k,hk,h⟩:=cN h;exact⟨k,by simp[hk],h⟩
def TD{ops:Array Oper}:∀(l:zA Oper) (acc:zA (zA zE)),ops.toList.drop acc.length=l->(∀i,WR ops i (acc.getD i []))->∀i,WR ops i ((Bh l acc).getD i [])
 | [],acc,_,h=>h
 | o::r,acc,hl,h=>by
  have ho:ops[acc.length]?=W o:=by
   have:(ops.toList.drop acc.length)[0]?=W o:=by rw[hl]; rfl
   simpa using this
  refine TD r (acc++ [EH acc (waits o)]) ?_ fun i=> ?_
  .have:ops.toList.drop (acc.length+1)=r:=by rw[<- yR,hl]; rfl
   simpa using this
  .by_cases hi:i<acc.length
   .have e:(acc++ [EH acc (waits o)]).getD i []=acc.getD i []:=by simp[zZ,yA hi]
    rw[e];exact h i
   .by_cases hi2:i=acc.length
    .subst hi2;have e:(acc++ [EH acc (waits o)]).getD acc.length []=EH acc (waits o):=by simp[zZ]
     rw[e];intro L hL hw x hx;obtain⟨j,hj,hx⟩:=cN hx;have hLj:=hw o ho j hj;rcases hx with rfl|hx
     .exact hLj
     .exact h j L hL (fun o' ho' k hk=>hL j o' ho' hLj k hk) x hx
    .have e:(acc++ [EH acc (waits o)]).getD i []= []:=by
      rw[zZ,List.getElem?_eq_none d3]; rfl
     rw[e];intro L _ _ x hx;simp at hx
def An(listed:Array zD)(i:zE):Prop:=listed.getD i V=O
def Fa{ops:Array Oper}{listed:Array zD}{i:zE}:i∈Region.ready .any ops listed↔i<ops.size/\listed.getD i O=V/\∀o,ops[i]?=W o->∀j∈waits o,An listed j:=by
 unfold Region.ready;simp only[yB,yS,zH,zK];constructor
 .rintro⟨h1,h2,h3⟩
  refine⟨h1,h2,fun o ho j hj=> ?_⟩;simp only[ho,Option.map_some,yO,Array.all_eq_true'] at h3
  simp only[waits,yM,yB] at hj
  obtain⟨e,⟨he,hb⟩,rfl⟩:=hj;have:=h3 e (by simpa using he);simpa[hb,An] using this
 .rintro⟨h1,h2,h3⟩
  refine⟨h1,h2,?_⟩;have ho:=Array.getElem?_eq_getElem h1;simp only[ho,Option.map_some,yO,Array.all_eq_true'];intro e he;by_cases hb:Region.binds .any e=O
  .have:=h3 _ ho e.on (by simp only[waits,yM,yB]; exact⟨e,⟨by simpa using he,hb⟩,rfl⟩);rw[hb,show listed.getD e.on V=O from this];rfl
  .simp[hb]
def F9{listed:Array zD}{i:zE}(h:i<listed.size):listed.getD i O=V↔¬An listed i:=by
 simp[An,Array.getD,h]
def HU{listed:Array zD}{i:zE}(h:i<listed.size)(j:zE):An (listed.setIfInBounds i O) j↔(An listed j\/j=i):=by
 unfold An;rw[Array.getD_eq_getD_getElem?,Array.getD_eq_getD_getElem?,Array.getElem?_setIfInBounds];by_cases hij:i=j
 .subst hij; simp[h]
 .rw[if_neg hij];have:j≠i:=fun e=>hij e.symm
  simp[this]
structure DrawOk (P:Program) (nt:zE) (ops:Array Oper) (its:zA AItem) (ds:zA AY):Prop where
 items:∃its0,Bz P nt ops ops.toList=W its0/\∃f:AItem->AItem,its=its0.map f/\∀it,(f it).1=it.1/\Zed it.2 (f it).2
 back:∀(i:zE) (o:Oper),ops[i]?=W o->∀j∈waits o,j<i
 dist:∀(i j:zE) (it jt:AItem) (d:zE),its[i]?=W it->its[j]?=W jt->i≠j->it.2.gentle=O->jt.2.gentle=O->it.2.dst=W d->jt.2.dst=W d->False
 draw:L0 (Bh ops.toList []) its 0 its=W ds
def Wt:∀{l:zA Oper} {k:zE},KE k l=O->∀(i:zE) (o:Oper),l[i]?=W o->∀j∈waits o,j<k+i
 | [],_,_,i,o,h=>by simp at h
 | x::l,k,hw,0,o,h=>by
  simp at h;subst h;simp only[KE,zH,zI,decide_eq_true_eq] at hw
  exact fun j hj=>hw.1 j hj
 | x::l,k,hw,i+1,o,h=>by
  simp at h;simp only[KE,zH] at hw
  intro j hj;have:=Wt hw.2 i o h j hj;omega
def U1{f:AItem->zB zE}:∀{its:zA AItem},KY (its.filterMap f)=O->∀(i j:zE) (it jt:AItem) (d:zE),its[i]?=W it->its[j]?=W jt->i<j->f it=W d->f jt=W d->False
 | [],_,i,j,it,jt,d,h1,_,_,_,_=>by simp at h1
 | x::l,h,0,j+1,it,jt,d,h1,h2,_,h3,h4=>by
  simp at h1 h2
  subst h1;simp only[yJ,h3,KY,zH,zK,zM,decide_eq_false_iff_not] at h;exact h.1 (List.mem_filterMap.2 ⟨jt,zQ h2,h4⟩)
 | x::l,h,i+1,j+1,it,jt,d,h1,h2,hij,h3,h4=>by
  simp at h1 h2
  have h':KY (l.filterMap f)=O:=by
   cases hx:f x with
   | none=>simpa[yJ,hx] using h
   | some d'=>
    simp only[yJ,hx,KY,zH] at h;exact h.2
  exact U1 h' i j it jt d h1 h2 a9 h3 h4
 | x::l,_,i,0,_,_,_,_,_,hij,_,_=>by omega
def qf{P:Program}{nt:zE}{ops:Array Oper}{ds:zA AY}(h:N4 P nt ops=W ds):∃its,DrawOk P nt ops its ds:=by
 unfold N4 at h;split at h
 .rename_i its0 hits
  have key:∀its,Rd ops its=W ds->(∃f:AItem->AItem,its=its0.map f/\∀it,(f it).1=it.1/\Zed it.2 (f it).2)->∃its,DrawOk P nt ops its ds:=by
   intro its h hf;unfold Rd at h;split at h
   .rename_i hc
    simp only[zH] at hc
    refine⟨its,⟨its0,hits,hf⟩,fun i o ho j hj=> ?_,fun i j it jt d h1 h2 hij g1 g2 d1 d2=> ?_,h⟩
    .have:=Wt hc.1 i o (by simpa using ho) j hj;omega
    .rcases Nat.lt_or_gt_of_ne hij with hlt|hlt
     .exact U1 hc.2 i j it jt d h1 h2 hlt (by simp[g1,d1]) (by simp[g2,d2])
     .exact U1 hc.2 j i jt it d h2 h1 hlt (by simp[g2,d2]) (by simp[g1,d1])
   .cases h
  split at h
  .rename_i ds' hd
   cases h;exact key its0 hd ⟨fun it=>it,d0,fun it=>⟨zF,.refl⟩⟩
  .exact key _ h ⟨QJ (iC its0),zF,B6z _⟩
 .cases h
def N5{P:Program}{nt:zE}{ops:Array Oper}:∀{l:zA Oper} {its:zA AItem},Bz P nt ops l=W its->its.length=l.length/\∀(i:zE) (o:Oper),l[i]?=W o->∃it,its[i]?=W it/\It P nt ops o=W it
 | [],its,h=>by simp[Bz] at h; subst h; exact⟨rfl,fun i o h=>by simp at h⟩
 | o::l,its,h=>by
  simp only[Bz] at h;split at h
  .rename_i i is h1 h2
   cases h;obtain⟨h3,h4⟩:=N5 h2;refine⟨by simp[h3],fun k o' hk=> ?_⟩;cases k with
   | zero=>simp at hk; subst hk; exact⟨i,rfl,h1⟩
   | succ k=>simp at hk; simpa using h4 k o' hk
  .cases h
def U3{an:zA (zA zE)}{its:zA AItem}:∀{l:zA AItem} {k:zE} {ds:zA AY},L0 an its k l=W ds->ds.length=l.length/\∀(i:zE) (it:AItem),l[i]?=W it->∃x,ds[i]?=W x/\KZ an its (k+i) it=W x
 | [],k,ds,h=>by simp[L0] at h; subst h; exact⟨rfl,fun i o h=>by simp at h⟩
 | o::l,k,ds,h=>by
  simp only[L0] at h;split at h
  .rename_i x xs h1 h2
   cases h;obtain⟨h3,h4⟩:=U3 h2;refine⟨by simp[h3],fun i it hi=> ?_⟩;cases i with
   | zero=>simp at hi; subst hi; exact⟨x,rfl,h1⟩
   | succ i=>
    simp at hi
    obtain⟨y,h5,h6⟩:=h4 i it hi;exact⟨y,by simpa using h5,by rw[show k+(i+1)=k+1+i by omega]; exact h6⟩
  .cases h
section
variable {P : Program} {nt : zE} {ops : Array Oper} {its : zA AItem} {ds : zA AY}
def DrawOk.sizes(H:DrawOk P nt ops its ds):its.length=ops.size/\ds.length=ops.size:=by
 obtain⟨its0,h0,f,rfl,_⟩:=H.items;obtain⟨h1,_⟩:=N5 h0;obtain⟨h2,_⟩:=U3 H.draw;simp at h1 h2 ⊢
 omega
def DrawOk.at(H:DrawOk P nt ops its ds){i:zE}{x:AY}(hx:ds[i]?=W x):∃o,ops[i]?=W o/\its[i]?=W x.2/\QM P nt ops o x.2/\KZ (Bh ops.toList []) its i x.2=W x:=by
 obtain⟨s1,s2⟩:=H.sizes;obtain⟨its0,h0,f,hf,hz⟩:=H.items;obtain⟨_,h1⟩:=N5 h0;obtain⟨_,h2⟩:=U3 H.draw;have hi:i<ds.length:=(zJ.1 hx).1;obtain⟨o,ho⟩:∃o,ops[i]?=W o:=⟨_,Array.getElem?_eq_getElem (by omega:i<ops.size)⟩;obtain⟨it0,hit0,hc0⟩:=h1 i o (by simpa using ho);have hit:its[i]?=W (f it0):=by rw[hf]; simp[hit0]
 have hc:QM P nt ops o (f it0):=⟨it0.2,by rw[(hz it0).1]; exact hc0,(hz it0).2⟩;generalize f it0=it at hit hc
 obtain⟨y,hy,hd⟩:=h2 i it hit;rw[hx] at hy
 cases hy;rw[yG] at hd
 have e:x.2=it:=by
  unfold KZ at hd
  simp only at hd
  split at hd
  .split at hd<;>cases hd
   rfl
  .split at hd<;>cases hd
   rfl
 subst e;exact⟨_,ho,hit,hc,hd⟩
def DrawOk.gentle(H:DrawOk P nt ops its ds){i:zE}{N:zA zE}{it:AItem}(hx:ds[i]?=W (W N,it)):it.2.gentle=O/\
  ∀(j:zE) (jt:AItem),its[j]?=W jt->Bv (Bh ops.toList []) i j=O->∀d,jt.2.dst=W d->d∉it.slots/\(jt.2.maker=O->d∈N):=by
 obtain⟨o,_,hit,_,hd⟩:=H.at hx;unfold KZ at hd
 simp only at hd
 split at hd
 .rename_i hg
  split at hd
  .rename_i hall
   simp only[yD,Prod.mk.injEq,and_true] at hd
   refine⟨(by simp only[zH] at hg; exact hg.1),fun j jt hj hinc d hdj=> ?_⟩;have hjl:j<its.length:=(zJ.1 hj).1;have hjm:j∈(yU its.length).filter (Bv (Bh ops.toList []) i):=yB.2 ⟨by simpa using hjl,hinc⟩;have:=zI.1 hall j hjm;simp only[hj,hdj,zK,zM,decide_eq_false_iff_not] at this
   refine⟨this,fun hm=> ?_⟩;subst hd;exact List.mem_filterMap.2 ⟨j,hjm,by simp[hj,hm,hdj]⟩
  .cases hd
 .split at hd<;>cases hd
def DrawOk.bar(H:DrawOk P nt ops its ds){i:zE}{it:AItem}(hx:ds[i]?=W (I,it)) :
  ∃J:zA zE,(∀j∈J,j<i/\∃jt,its[j]?=W jt/\Ms jt it=O)/\(∀l,l<ops.size->l∉J->Bv (Bh ops.toList []) i l=V)/\∀l,i<l->l<ops.size->∀j∈J,j∈(Bh ops.toList []).getD l []:=by
 obtain⟨o,_,hit,_,hd⟩:=H.at hx;unfold KZ at hd
 simp only at hd
 split at hd
 .split at hd<;>cases hd
 .split at hd
  .rename_i he
   unfold bu at he
   simp only[zH,zI,decide_eq_true_eq] at he
   obtain⟨h1,h2⟩:=he;refine⟨(yU its.length).filter (Bv (Bh ops.toList []) i),fun j hj=> ?_,fun l hl hn=> ?_,fun l hil hl j hj=> ?_⟩
   .obtain⟨k1,k2⟩:=h1 j hj;split at k2
    .rename_i jt hjt
     exact⟨k1,jt,hjt,k2⟩
    .cases k2
   .cases hb:Bv (Bh ops.toList []) i l with
    | false=>rfl
    | true=>exact absurd (yB.2 ⟨by rw[yS,H.sizes.1]; exact hl,hb⟩) hn
   .have:=h2 l (by rw[yS,H.sizes.1]; exact hl);simp only[Bool.or_eq_true,decide_eq_true_eq,zI,zM] at this
    rcases this with h|h
    .omega
    .exact h j hj
  .cases hd
def Il(H:DrawOk P nt ops its ds){i x:zE}(hx:x∈(Bh ops.toList []).getD i []):x<i:=by
 refine TD ops.toList [] d0 (fun i=>by intro L _ _ x hx; simp at hx) i (· < i) (fun k o ho hk j hj=> ?_) (fun o ho j hj=>H.back i o ho j hj) x hx;have:=H.back k o ho j hj;simp only at hk ⊢
 omega
def GU{listed:Array zD}(hcl:CY ops (An listed)){i x:zE}(hw:∀o,ops[i]?=W o->∀j∈waits o,An listed j)(hx:x∈(Bh ops.toList []).getD i []):An listed x:=
 TD ops.toList [] d0 (fun i=>by intro L _ _ x hx; simp at hx) i (An listed) hcl hw x hx
def Kd{an:zA (zA zE)}{i j:zE}(h:Bv an i j=V)(hne:i≠j):j∈an.getD i []\/i∈an.getD j []:=by
 unfold Bv at h;simp only[Bool.and_eq_false_iff,bne_eq_false_iff_eq,Bool.not_eq_false',zM,decide_eq_true_eq] at h;rcases h with (h|h)|h
 .exact absurd h hne
 .exact .inl h
 .exact .inr h
def xD{an:zA (zA zE)}{i j:zE}(h:Bv an i j=O):Bv an j i=O:=by
 unfold Bv at h ⊢
 simp only[zH,bne_iff_ne,ne_eq,zK] at h ⊢
 exact⟨⟨fun e=>h.1.1 e.symm,h.2⟩,h.1.2⟩
end
end
section
def A0f{M:St}{N:zA zE}{id:zE}{x:zE × zA (zA D)}(h:A1 (M.less N).rows id=W x):id / 64∉N/\A1 M.rows id=W x:=by
 cases N with
 | nil=>exact⟨d0,h⟩
 | cons n N=>
  obtain⟨h1,h2⟩:=Pq (p:=fun k=> !(n::N).contains (k / 64)) h;exact⟨by simpa using h1,h2⟩
def A0c{M:St}{N:zA zE}{id:zE}{x:zA AC}(h:A1 (M.less N).bx id=W x):id∉N/\A1 M.bx id=W x:=by
 cases N with
 | nil=>exact⟨d0,h⟩
 | cons n N=>
  obtain⟨h1,h2⟩:=Pq (p:=fun k=> !(n::N).contains k) h;exact⟨by simpa using h1,h2⟩
def A0d{M:St}{N:zA zE}(k:zE):(M.less N).get k=M.get k:=by cases N<;>rfl
section
variable {P : Program} {nt : zE} {ops : Array Oper} {its : zA AItem} {ds : zA AY} {Q : Exit -> Act -> World -> Prop} {A : Ar} {B : zE} {w0 : Base} {df : zA Deferred} {σ0 : St} {E : zE -> Eff} {s : zE}
def Fact(P:Program)(ds:zA AY)(σ0:St)(E:zE->Eff)(s i:zE):Prop:=
 ∃N it σi,ds[i]?=W (W N,it)/\Mt σ0 E (fun j=>s<=j/\j<i) σi/\Ev P N σi it (E i)
def Fact.parts(H:DrawOk P nt ops its ds){i:zE}(F:Fact P ds σ0 E s i):∃it,its[i]?=W it/\it.2.gentle=O/\it.2.dst=W (E i).d/\(E i).Grouped/\((E i).bx≠ []\/(E i).rows≠ []->it.2.maker=O):=by
 obtain⟨N,it,σi,h1,_,h3⟩:=F;obtain⟨_,_,hit,_,_⟩:=H.at h1;exact⟨it,hit,(H.gentle h1).1,h3.dst,h3.grouped,fun h=>(h3.maker h).1⟩
def Fact.ne(H:DrawOk P nt ops its ds){i j:zE}(F:Fact P ds σ0 E s i)(G:Fact P ds σ0 E s j)(hij:i≠j):(E i).d≠(E j).d:=by
 obtain⟨it,h1,h2,h3,_⟩:=F.parts H;obtain⟨jt,k1,k2,k3,_⟩:=G.parts H;intro e;exact H.dist i j it jt _ h1 k1 hij h2 k2 h3 (e▸k3)
def di(H:DrawOk P nt ops its ds){k i:zE}(F:∀j,s<=j->j<k->Fact P ds σ0 E s j)(hfr:D3 (ds.drop s) σ0=O){μ:zA zE}(hM:∀x∈μ,s<=x/\x<k){listed:Array zD}
  (hL:∀j,An listed j↔j<s\/j∈μ) (hcl:CY ops (An listed)) (hs:s<=i) (hk:i<k) (hi:i∉μ) (hw:∀o,ops[i]?=W o->∀j∈waits o,An listed j) {M:St} (m:Mt σ0 E (· ∈μ) M) :
  ∃o g ao,ops[i]?=W o/\QM P nt ops o (g,ao)/\its[i]?=W (g,ao)/\∀K:St->Prop,K (M.add (E i))->AK g M (AZ P ao K M) (match ao.dst with | some d=>K (M.set d .no) | none=>False):=by
 obtain⟨N,it,σi,hx,mi,ev⟩:=F i hs hk;obtain⟨o,ho,hit,hc,_⟩:=H.at hx;obtain⟨hg,hinc⟩:=H.gentle hx
 have comp_lt:∀j,s<=j->j<i->Bv (Bh ops.toList []) i j=V->j∈μ:=by
  intro j hsj hji hc;rcases Kd hc a9 with h|h
  .have:=(hL j).1 (GU hcl hw h);rcases this with h2|h2
   .omega
   .exact h2
  .have:=Il H h;omega
 have comp_M:∀j∈μ,Bv (Bh ops.toList []) i j=V->j<i:=by
  intro j hj hc;have hne:i≠j:=fun e=>hi (e▸hj)
  rcases Kd hc hne with h|h
  .exact Il H h
  .exfalso
   have hLj:An listed j:=(hL j).2 (.inr hj);have hLi:An listed i:=GU hcl (fun o' ho' x hx=>hcl j o' ho' hLj x hx) h;rcases(hL i).1 hLi with h2|h2
   .omega
   .exact hi h2
 have dst_in:∀j,s<=j->j<k->Bv (Bh ops.toList []) i j=O->(E j).d∉it.slots/\((E j).bx≠ []\/(E j).rows≠ []->(E j).d∈N):=by
  intro j hsj hjk hc;obtain⟨jt,k1,k2,k3,k4,k5⟩:=(F j hsj hjk).parts H;obtain⟨e2,e3⟩:=hinc j jt k1 hc _ k3;exact⟨e2,fun h=>e3 (k5 h)⟩
 obtain⟨g,ao⟩:=it;refine⟨o,g,ao,ho,hc,hit,fun K hK=>ev.move ?_ ?_ hK⟩
 .refine⟨fun q hq=> ?_,fun id cs hcs=> ?_,fun id r hr=> ?_⟩
  .rw[A0d];by_cases h:∃j,s<=j/\j<i/\(E j).d=q
   .obtain⟨j,h1,h2,rfl⟩:=h
    have hc':Bv (Bh ops.toList []) i j=V:=by
     cases hb:Bv (Bh ops.toList []) i j with
     | false=>rfl
     | true=>exact absurd hq (dst_in j h1 a9 hb).1
    rw[m.hit j (comp_lt j h1 h2 hc'),mi.hit j ⟨h1,h2⟩]
   .rw[mi.miss q fun j hj e=>h ⟨j,hj.1,hj.2,e⟩];refine m.miss q fun j hj e=> ?_
    obtain⟨hsj,hjk⟩:=hM j hj;cases hb:Bv (Bh ops.toList []) i j with
    | false=>exact h ⟨j,hsj,comp_M j hj hb,e⟩
    | true=>exact(dst_in j hsj hjk hb).1 (e▸hq)
  .obtain⟨hN,hf⟩:=A0c hcs;rw[<- hf];by_cases h:∃j,s<=j/\j<i/\(E j).bx≠ []/\(E j).d=id
   .obtain⟨j,h1,h2,hb,e⟩:=h
    have hc':Bv (Bh ops.toList []) i j=V:=by
     cases hb2:Bv (Bh ops.toList []) i j with
     | false=>rfl
     | true=>exact absurd (e▸(dst_in j h1 a9 hb2).2 (.inl hb)) hN
    rw[m.bhit j id (comp_lt j h1 h2 hc') hb e,mi.bhit j id ⟨h1,h2⟩ hb e]
   .rw[mi.bmiss id fun j hj hb e=>h ⟨j,hj.1,hj.2,hb,e⟩];refine m.bmiss id fun j hj hb e=> ?_
    obtain⟨hsj,hjk⟩:=hM j hj;cases hb2:Bv (Bh ops.toList []) i j with
    | false=>exact h ⟨j,hsj,comp_M j hj hb2,hb,e⟩
    | true=>exact hN (e▸(dst_in j hsj hjk hb2).2 (.inl hb))
  .obtain⟨hN,hf⟩:=A0f hr;rw[<- hf];by_cases h:∃j,s<=j/\j<i/\(E j).rows≠ []/\(E j).d=id / 64
   .obtain⟨j,h1,h2,hb,e⟩:=h
    have hc':Bv (Bh ops.toList []) i j=V:=by
     cases hb2:Bv (Bh ops.toList []) i j with
     | false=>rfl
     | true=>exact absurd (e▸(dst_in j h1 a9 hb2).2 (.inr hb)) hN
    rw[m.rhit j id (comp_lt j h1 h2 hc') hb e,mi.rhit j id ⟨h1,h2⟩ hb e]
   .rw[mi.rmiss id fun j hj hb e=>h ⟨j,hj.1,hj.2,hb,e⟩];refine m.rmiss id fun j hj hb e=> ?_
    obtain⟨hsj,hjk⟩:=hM j hj;cases hb2:Bv (Bh ops.toList []) i j with
    | false=>exact h ⟨j,hsj,comp_M j hj hb2,hb,e⟩
    | true=>exact hN (e▸(dst_in j hsj hjk hb2).2 (.inr hb))
 .intro hmk hfi;have hd:ao.dst=W (E i).d:=ev.dst;refine m.frs _ ?_ fun j hj=> ?_
  .have hmem:(W N,g,ao)∈ds.drop s:=by
    have:(ds.drop s)[i - s]?=W (W N,g,ao):=by rw[List.getElem?_drop,show s+(i - s)=i by omega]; exact hx
    exact zQ this
   have:=zI.1 hfr _ hmem;simp only[hmk,hd] at this
   exact this
  .obtain⟨hsj,hjk⟩:=hM j hj;have hne:i≠j:=fun e=>hi (e▸hj)
   have hdne:=Fact.ne H (F i hs hk) (F j hsj hjk) hne;cases hb:Bv (Bh ops.toList []) i j with
   | false=>
    have hji:=comp_M j hj hb;obtain⟨_,_,_,_,hgr,_⟩:=(F j hsj hjk).parts H;simp only[Eff.avoids,zH,zI];refine⟨fun c hc=> ?_,fun p hp=> ?_⟩
    .have:=St.fresh_uses hfi (c:=c) (.inl ⟨(E j).d,by rw[mi.hit j ⟨hsj,hji⟩]; exact hc⟩);simp[this]
    .rcases hgr.one with h0|⟨cs,h0⟩
     .rw[h0] at hp; simp at hp
     .rw[h0] at hp
      simp only[List.mem_singleton] at hp
      subst hp;refine⟨by simpa using fun e=>hdne e.symm,fun c hc=> ?_⟩
      have hfind:A1 σi.bx (E j).d=W cs:=by
       rw[mi.bhit j _ ⟨hsj,hji⟩ (by simp[h0]) rfl,h0];exact Bm _ _ _
      have:=St.fresh_uses hfi (c:=c) (.inr ⟨_,_,hfind,hc⟩);simp[this]
   | true=>
    obtain⟨N',it',σj,hxj,mj,evj⟩:=F j hsj hjk;obtain⟨e2,e3⟩:=(H.gentle hxj).2 i (g,ao) hit (xD hb) _ hd;exact evj.avoid (e3 hmk) hdne
def U2(H:DrawOk P nt ops its ds){k:zE}(hkn:k<=ops.size)(F:∀j,s<=j->j<k->Fact P ds σ0 E s j)(hfr:D3 (ds.drop s) σ0=O)(hsk:s<=k){σk:St}(mk:Mt σ0 E (fun j=>s<=j/\j<k) σk)
  (X:zE->Prop) (hafter:∀i,k<=i->i<ops.size->∀listed:Array zD,CY ops (An listed)->(∀o,ops[i]?=W o->∀j∈waits o,An listed j)->∀j,s<=j->j<k->(∀x,An listed x->x<k)->An listed j\/X i)
  (esc:∀(i f:zE) (μ:zA zE) (listed:Array zD) (a:Act) (w:World) (nm:Ac) (M:St),X i->¬An listed i->(∀o,ops[i]?=W o->∀j∈waits o,An listed j)->(∃j0,s<=j0/\j0<k/\j0∉μ)->μ.Nodup->(∀x∈μ,s<=x/\x<k)->listed.size=ops.size->
   (∀j,An listed j↔j<s\/j∈μ)->f+1+s+μ.length=ops.size->CY ops (An listed)->Mt σ0 E (· ∈μ) M->Rel A B w0 nm M a.tmps w->a.tmps.size=nt->a.defers=df->wpOp P ops Q i (wpAny P .any ops Q f (listed.setIfInBounds i O)) a w)
  (fin:∀fuel listed a w nm,fuel+k=ops.size->listed.size=ops.size->(∀i,An listed i↔i<k)->CY ops (An listed)->Rel A B w0 nm σk a.tmps w->a.tmps.size=nt->a.defers=df->wpAny P .any ops Q fuel listed a w) :
  ∀(fuel:zE) (μ:zA zE) (listed:Array zD) (a:Act) (w:World) (nm:Ac) (M:St),μ.Nodup->(∀x∈μ,s<=x/\x<k)->listed.size=ops.size->(∀j,An listed j↔j<s\/j∈μ)->fuel+s+μ.length=ops.size->CY ops (An listed)->
   Mt σ0 E (· ∈μ) M->Rel A B w0 nm M a.tmps w->a.tmps.size=nt->a.defers=df->wpAny P .any ops Q fuel listed a w:=by
 intro fuel
 induction fuel with
 | zero=>
  intro μ listed a w nm M hnd hM hsz hL hfuel hcl m R hnt hdf;have hle:μ.length<=(zV s (k - s)).length:=GF hnd fun x hx=>by have:=hM x hx; simp[zN]; exact⟨x - s,a9,a9⟩
  simp at hle
  have hall:∀j,s<=j->j<k->j∈μ:=by
   intro j h1 h2;refine Classical.byContradiction fun hj=> ?_
   have:(j::μ).length<=(zV s (k - s)).length:=GF (zS.2 ⟨hj,hnd⟩) fun x hx=>by
    rcases zL.1 hx with rfl|hx
    .simp[zN]; exact⟨x - s,a9,a9⟩
    .have:=hM x hx; simp[zN]; exact⟨x - s,a9,a9⟩
   simp at this
   omega
  have mm:Mt σ0 E (fun j=>s<=j/\j<k) M:=m.congr (fun i=>⟨hM i,fun h=>hall i h.1 h.2⟩) (fun _ _=>rfl);refine fin 0 listed a w nm a9 hsz (fun i=> ?_) hcl (R.same (mm.same mk)) hnt hdf;rw[hL i];constructor
  .rintro(h|h)
   .omega
   .exact(hM i h).2
  .intro h;by_cases his:i<s
   .exact .inl his
   .exact .inr (hall i a9 h)
 | succ f ih=>
  intro μ listed a w nm M hnd hM hsz hL hfuel hcl m R hnt hdf;by_cases hfull:∀j,s<=j->j<k->j∈μ
  .have mm:Mt σ0 E (fun j=>s<=j/\j<k) M:=m.congr (fun i=>⟨hM i,fun h=>hfull i h.1 h.2⟩) (fun _ _=>rfl);have hle:μ.length<=(zV s (k - s)).length:=GF hnd fun x hx=>by have:=hM x hx; simp[zN]; exact⟨x - s,a9,a9⟩
   have hge:(zV s (k - s)).length<=μ.length:=GF List.nodup_range' fun x hx=>by simp[zN] at hx; obtain⟨y,hy,rfl⟩:=hx; exact hfull _ a9 a9
   simp at hle hge
   refine fin (f+1) listed a w nm a9 hsz (fun i=> ?_) hcl (R.same (mm.same mk)) hnt hdf;rw[hL i];constructor
   .rintro(h|h)
    .omega
    .exact(hM i h).2
   .intro h;by_cases his:i<s
    .exact .inl his
    .exact .inr (hfull i a9 h)
  .obtain⟨j0,hj0⟩:=Classical.not_forall.1 hfull;obtain⟨h1,hj0⟩:=Classical.not_imp.1 hj0;obtain⟨h2,h3⟩:=Classical.not_imp.1 hj0
   have hlt:∀x,An listed x->x<k:=by
    intro x hx;rcases(hL x).1 hx with h|h
    .omega
    .exact(hM x h).2
   refine⟨fun hr=> ?_,fun i hi=> ?_⟩
   .exfalso
    have hn0:¬An listed j0:=fun h=>by
     rcases(hL j0).1 h with h|h
     .omega
     .exact h3 h
    obtain⟨mi,hmi,hmn,hmall⟩:=Vc (p:=An listed) hn0;have:mi∈Region.ready .any ops listed:=Fa.2 ⟨a9,(F9 a9).2 hmn,fun o ho j hj=>hmall j (H.back mi o ho j hj)⟩;rw[hr] at this
    simp at this
   .obtain⟨hin,hun,hw⟩:=Fa.1 hi;have hun':=(F9 a9).1 hun
    have hsi:s<=i:=by
     refine yP fun h=>hun' ((hL i).2 (.inl h))
    have hiM:i∉μ:=fun h=>hun' ((hL i).2 (.inr h))
    by_cases hik:i<k
    rotate_left
    .rcases hafter i a9 hin listed hcl hw j0 h1 h2 hlt with h|h
     .exfalso
      rcases(hL j0).1 h with h|h
      .omega
      .exact h3 h
     .exact esc i f μ listed a w nm M h hun' hw ⟨j0,h1,h2,h3⟩ hnd hM hsz hL hfuel hcl m R hnt hdf
    obtain⟨o,g,ao,ho,hc,_,hrun⟩:=di H F hfr hM hL hcl hsi hik hiM hw m
    have:=Sr (Q:=Q) (K:=wpAny P .any ops Q f (listed.setIfInBounds i O)) (K':=fun M'=>M'=M.add (E i)) R hnt hc (hrun _ rfl) (fun nm' M' a' w' hσ R' hs' hd'=>by
     subst hσ;obtain⟨_,_,_,_,hgr,_⟩:=(F i hsi hik).parts H;have m':Mt σ0 E (fun j=>j∈μ\/j=i) (M.add (E i)):=m.add (fun j hj=>Fact.ne H (F j (hM j hj).1 (hM j hj).2) (F i hsi hik) fun e=>hiM (e▸hj)) hgr;refine ih (i::μ) _ a' w' nm' _ (zS.2 ⟨hiM,hnd⟩) ?_ (by simpa using hsz) (fun j=> ?_) d3 ?_ (m'.congr (fun j=>by simp[or_comm]) (fun _ _=>rfl)) R' hs' (hd'.trans hdf)
     .intro x hx;rcases zL.1 hx with rfl|hx
      .exact⟨hsi,hik⟩
      .exact hM x hx
     .rw[HU a9,hL j];simp only[zL];constructor
      .rintro((h|h)|h)
       .exact .inl h
       .exact .inr (.inr h)
       .exact .inr (.inl h)
      .rintro(h|h|h)
       .exact .inl (.inl h)
       .exact .inr h
       .exact .inl (.inr h)
     .intro x o' ho' hx j hj;rw[HU a9] at hx ⊢
      rcases hx with hx|rfl
      .exact .inl (hcl x o' ho' hx j hj)
      .exact .inl (hw o' ho' j hj))
    unfold wpOp;rw[ho];exact this
def ef{M σ2:St}{n:zE}{X Y:AV}(h:M.storeV n X Y=W σ2)(e:zA (zE × AV)):({M with env:=e}:St).storeV n X Y=W {σ2 with env:=e}/\σ2.env=M.env:=by
 unfold St.storeV at h ⊢
 split at h
 .split at h
  .rename_i cs hcs
   split at h
   .rename_i hc
    cases h;simp only[hcs];rw[if_pos hc];exact⟨zF,⟨⟩⟩
   .cases h
  .cases h
 .split at h
  .rename_i sz es hes
   split at h
   .rename_i d ds h1 h2
    split at h
    .rename_i hc
     cases h;simp only[hes,h1,h2];rw[if_pos hc];exact⟨zF,⟨⟩⟩
    .cases h
   .cases h
  .cases h
 .rename_i c cs d
  cases hc:(n==1&&Mu c d) with
  | false=>rw[hc] at h; cases h
  | true=>rw[hc] at h; cases h; exact⟨by simp[hc],rfl⟩
 .cases h
def fU{M τ:St}{x:Opd}(h:∀q∈x.slots,τ.get q=M.get q):τ.val x=M.val x:=by
 cases x with
 | t q=>exact h q (by simp[Opd.slots])
 | c v=>rfl
def A2u{o:AOp}(he:o.envOnly=O){e:zA (zE × AV)}{b b':zA (zE × zA AC)}{r r':Rows}:(St.mk e b r).pure o=(St.mk e b' r').pure o:=by
 cases o<;>first | rfl | (simp[AOp.envOnly] at he; done) | (simp only[St.pure]; (repeat' (rename_i x; cases x))<;>rfl)
def nB{o:AOp}(he:o.envOnly=O){K:St->Prop}{M:St}:AZ P o K M=(match M.pure o with | some (d,v)=>K (M.set d v) | none=>False):=by
 cases o<;>first | (simp[AOp.envOnly] at he; done) | (simp only[AZ,St.step]; cases M.pure _ with | none=>simp[St.made] | some p=>rfl)
def sI{o:AOp}(he:o.envOnly=O){g:zB (zE × zD)}{e e1:zA (zE × AV)}{b b1 b':zA (zE × zA AC)}{r r1 r':Rows}
  (h:AK g ⟨e,b,r⟩ (AZ P o (fun τ=>τ=⟨e1,b1,r1⟩) ⟨e,b,r⟩) (match o.dst with | some d=>(St.mk e b r).set d .no=⟨e1,b1,r1⟩ | none=>False)) :
  AK g ⟨e,b',r'⟩ (AZ P o (fun τ=>τ=⟨e1,b',r'⟩) ⟨e,b',r'⟩) (match o.dst with | some d=>(St.mk e b' r').set d .no=⟨e1,b',r'⟩ | none=>False):=by
 have hy:AZ P o (fun τ=>τ=⟨e1,b1,r1⟩) ⟨e,b,r⟩->AZ P o (fun τ=>τ=⟨e1,b',r'⟩) ⟨e,b',r'⟩:=by
  intro h;rw[nB he] at h ⊢
  rw[A2u he (b':=b) (r':=r)];cases hp:(St.mk e b r).pure o with
  | none=>simp[hp] at h
  | some p=>
   simp only[hp] at h ⊢
   have:=congrArg St.env h;simp only[St.set] at this ⊢
   rw[this]
 have hn:(match o.dst with | some d=>(St.mk e b r).set d .no=⟨e1,b1,r1⟩ | none=>False)->(match o.dst with | some d=>(St.mk e b' r').set d .no=⟨e1,b',r'⟩ | none=>False):=by
  intro h;cases hd:o.dst with
  | none=>simp[hd] at h
  | some d=>
   simp only[hd] at h ⊢
   have:=congrArg St.env h;simp only[St.set] at this ⊢
   rw[this]
 rcases TC h with ⟨hw,h⟩|⟨t,want,rfl,hd,h⟩
 .exact KL (M:=⟨e,b',r'⟩) (by cases g<;>exact hw) (hy h)
 .exact TB (M:=⟨e,b',r'⟩) hd (hn h)
def zk(H:DrawOk P nt ops its ds){k:zE}(hkn:k<ops.size){J:zA zE}{σk σ2:St}(F:∀i,s<=i->i<k->Fact P ds σ0 E s i)(hfr:D3 (ds.drop s) σ0=O)(mk:Mt σ0 E (fun j=>s<=j/\j<k) σk)
  (hJ:∀j∈J,j<k/\∃jt,its[j]?=W jt/\jt.2.envOnly=O) (hlater:∀l,k<l->l<ops.size->∀j∈J,j∈(Bh ops.toList []).getD l []) (h2e:σ2.env=σk.env)
  (cont:∀(f:zE) (listed:Array zD) (a:Act) (w:World) (nm:Ac),f+(k+1)=ops.size->listed.size=ops.size->(∀i,An listed i↔i<k+1)->CY ops (An listed)->Rel A B w0 nm σ2 a.tmps w->a.tmps.size=nt->a.defers=df->wpAny P .any ops Q f listed a w) :
  ∀(f:zE) (μ:zA zE) (l0 listed:Array zD) (a:Act) (w:World) (nm:Ac) (M:St),μ.Nodup->(∀x∈μ,s<=x/\x<k)->(∀l,s<=l->l<k->l∉J->l∈μ)->(∀j,An l0 j↔j<s\/j∈μ)->CY ops (An l0)->
   listed.size=ops.size->l0.size=ops.size->(∀j,An listed j↔An l0 j\/j=k)->CY ops (An listed)->s<=k->f+(s+μ.length+1)=ops.size->Mt σ0 E (· ∈μ) M->Rel A B w0 nm ⟨M.env,σ2.bx,σ2.rows⟩ a.tmps w->a.tmps.size=nt->a.defers=df->wpAny P .any ops Q f listed a w:=by
 intro f
 induction f with
 | zero=>
  intro μ l0 listed a w nm M hnd hM hall hL0 hcl0 hsz hsz0 hL hcl hsk hfuel m R hnt hdf;have hle:μ.length<=(zV s (k - s)).length:=GF hnd fun x hx=>by have:=hM x hx; simp[zN]; exact⟨x - s,a9,a9⟩
  simp at hle
  have hfull:∀j,s<=j->j<k->j∈μ:=by
   intro j h1 h2;refine Classical.byContradiction fun hj=> ?_
   have:(j::μ).length<=(zV s (k - s)).length:=GF (zS.2 ⟨hj,hnd⟩) fun x hx=>by
    rcases zL.1 hx with rfl|hx
    .simp[zN]; exact⟨x - s,a9,a9⟩
    .have:=hM x hx; simp[zN]; exact⟨x - s,a9,a9⟩
   simp at this
   omega
  have sm:Same M σk:=(m.congr (fun i=>⟨hM i,fun h=>hfull i h.1 h.2⟩) (fun _ _=>rfl)).same mk;refine cont 0 listed a w nm a9 hsz (fun i=> ?_) hcl (R.same ⟨fun q=> ?_,fun _=>rfl,fun _=>rfl⟩) hnt hdf
  .rw[hL,hL0];constructor
   .rintro((h|h)|h)
    .omega
    .have:=hM i h; omega
    .omega
   .intro h;by_cases h1:i=k
    .exact .inr h1
    by_cases h2:i<s
    .exact .inl (.inl h2)
    .exact .inl (.inr (hfull i a9 a9))
  .have:σ2.get q=σk.get q:=by unfold St.get; rw[h2e]
   rw[this];exact sm.get q
 | succ f ih=>
  intro μ l0 listed a w nm M hnd hM hall hL0 hcl0 hsz hsz0 hL hcl hsk hfuel m R hnt hdf;by_cases hfull:∀j,s<=j->j<k->j∈μ
  .have hle:μ.length<=(zV s (k - s)).length:=GF hnd fun x hx=>by have:=hM x hx; simp[zN]; exact⟨x - s,a9,a9⟩
   have hge:(zV s (k - s)).length<=μ.length:=GF List.nodup_range' fun x hx=>by simp[zN] at hx; obtain⟨y,hy,rfl⟩:=hx; exact hfull _ a9 a9
   simp at hle hge
   have sm:Same M σk:=(m.congr (fun i=>⟨hM i,fun h=>hfull i h.1 h.2⟩) (fun _ _=>rfl)).same mk;refine cont (f+1) listed a w nm a9 hsz (fun i=> ?_) hcl (R.same ⟨fun q=> ?_,fun _=>rfl,fun _=>rfl⟩) hnt hdf
   .rw[hL,hL0];constructor
    .rintro((h|h)|h)
     .omega
     .have:=hM i h; omega
     .omega
    .intro h;by_cases h1:i=k
     .exact .inr h1
     by_cases h2:i<s
     .exact .inl (.inl h2)
     .exact .inl (.inr (hfull i a9 a9))
   .have:σ2.get q=σk.get q:=by unfold St.get; rw[h2e]
    rw[this];exact sm.get q
  .obtain⟨j0,hj0⟩:=Classical.not_forall.1 hfull;obtain⟨h1,hj0⟩:=Classical.not_imp.1 hj0;obtain⟨h2,h3⟩:=Classical.not_imp.1 hj0
   have hn0:¬An listed j0:=fun h=>by
    rcases(hL j0).1 h with h|h
    .rcases(hL0 j0).1 h with h|h
     .omega
     .exact h3 h
    .omega
   refine⟨fun hr=> ?_,fun i hi=> ?_⟩
   .exfalso
    obtain⟨mi,hmi,hmn,hmall⟩:=Vc (p:=An listed) hn0;have:mi∈Region.ready .any ops listed:=Fa.2 ⟨a9,(F9 a9).2 hmn,fun o ho j hj=>hmall j (H.back mi o ho j hj)⟩;rw[hr] at this
    simp at this
   .obtain⟨hin,hun,hw⟩:=Fa.1 hi;have hun':=(F9 a9).1 hun
    have hik:i<k:=by
     refine Nat.lt_of_not_le fun h=> ?_
     have hne:i≠k:=fun e=>hun' ((hL i).2 (.inr e))
     have hj0J:j0∈J:=Classical.byContradiction fun hn=>h3 (hall j0 h1 h2 hn)
     exact hn0 (GU hcl hw (hlater i a9 hin j0 hj0J))
    have hsi:s<=i:=yP fun h=>hun' ((hL i).2 (.inl ((hL0 i).2 (.inl h))))
    have hiM:i∉μ:=fun h=>hun' ((hL i).2 (.inl ((hL0 i).2 (.inr h))))
    have hiJ:i∈J:=Classical.byContradiction fun hn=>hiM (hall i hsi hik hn)
    have hw0:∀o,ops[i]?=W o->∀j∈waits o,An l0 j:=by
     intro o ho j hj;have:=H.back i o ho j hj;rcases(hL j).1 (hw o ho j hj) with h|h
     .exact h
     .omega
    obtain⟨o,g,ao,ho,hc,hit,hrun⟩:=di H F hfr hM hL0 hcl0 hsi hik hiM hw0 m;obtain⟨_,jt,hjt,he⟩:=hJ i hiJ;rw[hit] at hjt
    cases hjt;have hstep:=sI (P:=P) he (b':=σ2.bx) (r':=σ2.rows) (hrun (fun τ=>τ=M.add (E i)) rfl)
    have:=Sr (Q:=Q) (K:=wpAny P .any ops Q f (listed.setIfInBounds i O)) (K':=fun M'=>M'=⟨(M.add (E i)).env,σ2.bx,σ2.rows⟩) R hnt hc hstep (fun nm' M' a' w' hσ R' hs' hd'=>by
     subst hσ;obtain⟨_,_,_,_,hgr,_⟩:=(F i hsi hik).parts H;have m':Mt σ0 E (fun j=>j∈μ\/j=i) (M.add (E i)):=m.add (fun j hj=>Fact.ne H (F j (hM j hj).1 (hM j hj).2) (F i hsi hik) fun e=>hiM (e▸hj)) hgr;have hL2:∀q,An (listed.setIfInBounds i O) q↔(An listed q\/q=i):=fun q=>HU a9 q
     have hL3:∀q,An (l0.setIfInBounds i O) q↔(An l0 q\/q=i):=fun q=>HU a9 q
     refine ih (i::μ) (l0.setIfInBounds i O) _ a' w' nm' _ (zS.2 ⟨hiM,hnd⟩) ?_ (fun l g1 g2 g3=>zL.2 (.inr (hall l g1 g2 g3))) (fun j=> ?_) ?_ (by simpa using hsz) (by simpa using hsz0) (fun j=> ?_) ?_ hsk d3
      (m'.congr (fun j=>by simp[or_comm]) (fun _ _=>rfl)) R' hs' (hd'.trans hdf)
     .intro x hx;rcases zL.1 hx with rfl|hx
      .exact⟨hsi,hik⟩
      .exact hM x hx
     .rw[hL3,hL0 j];simp only[zL];constructor
      .rintro((h|h)|h)
       .exact .inl h
       .exact .inr (.inr h)
       .exact .inr (.inl h)
      .rintro(h|h|h)
       .exact .inl (.inl h)
       .exact .inr h
       .exact .inl (.inr h)
     .intro x o' ho' hx j hj;rw[hL3] at hx ⊢
      rcases hx with hx|rfl
      .exact .inl (hcl0 x o' ho' hx j hj)
      .exact .inl (hw0 o' ho' j hj)
     .rw[hL2,hL3,hL];constructor
      .rintro((h|h)|h)
       .exact .inl (.inl h)
       .exact .inr h
       .exact .inl (.inr h)
      .rintro((h|h)|h)
       .exact .inl (.inl h)
       .exact .inr h
       .exact .inl (.inr h)
     .intro x o' ho' hx j hj;rw[hL2] at hx ⊢
      rcases hx with hx|rfl
      .exact .inl (hcl x o' ho' hx j hj)
      .exact .inl (hw o' ho' j hj))
    unfold wpOp;rw[ho];exact this
def zj(H:DrawOk P nt ops its ds){k:zE}{it:AItem}{J:zA zE}{σk:St}(hsk:s<=k)(F:∀i,s<=i->i<k->Fact P ds σ0 E s i)(hfr:D3 (ds.drop s) σ0=O)(mk:Mt σ0 E (fun j=>s<=j/\j<k) σk)
  (hJ:∀j∈J,j<k/\∃jt,its[j]?=W jt/\Ms jt it=O) (hx:ds[k]?=W (I,it)) (hcomp:∀l,l<ops.size->l∉J->Bv (Bh ops.toList []) k l=V)
  (hlater:∀l,k<l->l<ops.size->∀j∈J,j∈(Bh ops.toList []).getD l []) {K:St->Prop} (h:AK it.1 σk (AZ P it.2 K σk) (match it.2.dst with | some d=>K (σk.set d .no) | none=>False))
  (cont:∀(σ2:St) (f:zE) (listed:Array zD) (a:Act) (w:World) (nm:Ac),K σ2->f+(k+1)=ops.size->listed.size=ops.size->(∀i,An listed i↔i<k+1)->CY ops (An listed)->Rel A B w0 nm σ2 a.tmps w->a.tmps.size=nt->a.defers=df->wpAny P .any ops Q f listed a w)
  (f:zE) (μ:zA zE) (listed:Array zD) (a:Act) (w:World) (nm:Ac) (M:St) (hnl:¬An listed k) (hw:∀o,ops[k]?=W o->∀j∈waits o,An listed j) (hex:∃j0,s<=j0/\j0<k/\j0∉μ) (hnd:μ.Nodup)
  (hM:∀x∈μ,s<=x/\x<k) (hsz:listed.size=ops.size) (hL:∀j,An listed j↔j<s\/j∈μ) (hfuel:f+1+s+μ.length=ops.size) (hcl:CY ops (An listed)) (m:Mt σ0 E (· ∈μ) M) (R:Rel A B w0 nm M a.tmps w) (hnt:a.tmps.size=nt) (hdf:a.defers=df) :
  wpOp P ops Q k (wpAny P .any ops Q f (listed.setIfInBounds k O)) a w:=by
 have hkn:k<ops.size:=by
  have:=(zJ.1 hx).1;have:=H.sizes.2;omega
 have hall:∀l,s<=l->l<k->l∉J->l∈μ:=by
  intro l h1 h2 h3;rcases Kd (hcomp l a9 h3) a9 with h4|h4
  .rcases(hL l).1 (GU hcl hw h4) with h5|h5
   .omega
   .exact h5
  .have:=Il H h4;omega
 obtain⟨j0,hj1,hj2,hj3⟩:=hex;have hj0J:j0∈J:=Classical.byContradiction fun hn=>hj3 (hall j0 hj1 hj2 hn)
 obtain⟨x,y,n,rfl⟩:∃x y n,it=(I,AOp.store x y n):=by
  obtain⟨_,jt,_,hp⟩:=hJ j0 hj0J;unfold Ms at hp
  simp only[zH] at hp
  obtain⟨_,hp⟩:=hp;split at hp
  .exact⟨_,_,_,zF⟩
  .cases hp
 have hJs:∀j∈J,∀jt,its[j]?=W jt->jt.2.envOnly=O/\∀d,jt.2.dst=W d->d∉x.slots/\d∉y.slots:=by
  intro j hj jt hjt;obtain⟨_,jt',hjt',hp⟩:=hJ j hj;rw[hjt] at hjt'
  cases hjt';unfold Ms at hp
  simp only[zH] at hp
  refine⟨hp.1,fun d hd=> ?_⟩;have:=hp.2;simp only[hd,zK,zM,decide_eq_false_iff_not,zP,not_or] at this
  exact this
 obtain⟨σ2,hst,hK⟩:∃σ2,σk.storeV n (σk.val x) (σk.val y)=W σ2/\K σ2:=by
  simp only[AK,AZ,St.step] at h;split at h
  .rename_i σ2 h2
   exact⟨σ2,h2,h⟩
  .exact h.elim
 have light:∀i,s<=i->i<k->i∉μ->(E i).bx= []/\(E i).rows= []/\(E i).d∉x.slots/\(E i).d∉y.slots:=by
  intro i h1 h2 h3;have hiJ:i∈J:=Classical.byContradiction fun hn=>h3 (hall i h1 h2 hn)
  obtain⟨jt,hjt,_,hd,_,hmk⟩:=(F i h1 h2).parts H;obtain⟨he,hds⟩:=hJs i hiJ jt hjt
  have hno:jt.2.maker=V:=by
   cases hjo:jt.2<;>first | rfl | (rw[hjo] at he; simp[AOp.envOnly] at he; done)
  have hb:¬((E i).bx≠ []\/(E i).rows≠ []):=fun h=>by rw[hmk h] at hno; cases hno
  refine⟨Classical.byContradiction fun h=>hb (.inl h),Classical.byContradiction fun h=>hb (.inr h),(hds _ hd).1,(hds _ hd).2⟩
 have sτ:Same M ⟨M.env,σk.bx,σk.rows⟩:=by
  refine⟨fun q=>rfl,fun id=> ?_,fun id=> ?_⟩
  .show A1 σk.bx id=A1 M.bx id
   by_cases h:∃i,i∈μ/\(E i).bx≠ []/\(E i).d=id
   .obtain⟨i,h1,h2,h3⟩:=h;rw[mk.bhit i id (hM i h1) h2 h3,m.bhit i id h1 h2 h3]
   .rw[mk.bmiss id fun i hi hb e=> ?_,m.bmiss id fun i hi hb e=>h ⟨i,hi,hb,e⟩];by_cases hiM:i∈μ
    .exact h ⟨i,hiM,hb,e⟩
    .exact hb (light i hi.1 hi.2 hiM).1
  .show A1 σk.rows id=A1 M.rows id
   by_cases h:∃i,i∈μ/\(E i).rows≠ []/\(E i).d=id / 64
   .obtain⟨i,h1,h2,h3⟩:=h;rw[mk.rhit i id (hM i h1) h2 h3,m.rhit i id h1 h2 h3]
   .rw[mk.rmiss id fun i hi hb e=> ?_,m.rmiss id fun i hi hb e=>h ⟨i,hi,hb,e⟩];by_cases hiM:i∈μ
    .exact h ⟨i,hiM,hb,e⟩
    .exact hb (light i hi.1 hi.2 hiM).2.1
 have gq:∀q,(q∈x.slots\/q∈y.slots)->M.get q=σk.get q:=by
  intro q hq;by_cases h:∃i,i∈μ/\(E i).d=q
  .obtain⟨i,h1,rfl⟩:=h;rw[m.hit i h1,mk.hit i (hM i h1)]
  .rw[m.miss q fun i hi e=>h ⟨i,hi,e⟩,mk.miss q fun i hi e=> ?_];by_cases hiM:i∈μ
   .exact h ⟨i,hiM,e⟩
   .have:=(light i hi.1 hi.2 hiM).2.2;rw[e] at this
    rcases hq with hq|hq
    .exact this.1 hq
    .exact this.2 hq
 have Rτ:=R.same sτ;have vx:(St.mk M.env σk.bx σk.rows).val x=σk.val x:=fU fun q hq=>gq q (.inl hq)
 have vy:(St.mk M.env σk.bx σk.rows).val y=σk.val y:=fU fun q hq=>gq q (.inr hq)
 have hst':(St.mk M.env σk.bx σk.rows).storeV n ((St.mk M.env σk.bx σk.rows).val x) ((St.mk M.env σk.bx σk.rows).val y)=W ⟨M.env,σ2.bx,σ2.rows⟩:=by
  rw[vx,vy];exact(ef hst M.env).1
 have henv:=(ef hst []).2;obtain⟨opk,hopk,hitk,hck,_⟩:=H.at hx;have hL2:∀q,An (listed.setIfInBounds k O) q↔(An listed q\/q=k):=fun q=>HU a9 q
 have:=Sr (Q:=Q) (K:=wpAny P .any ops Q f (listed.setIfInBounds k O)) (K':=fun M'=>M'=⟨M.env,σ2.bx,σ2.rows⟩) Rτ hnt hck (by
  simp only[AK,AZ,St.step,hst']) (fun nm' M' a' w' hσ R' hs' hd'=>by
  subst hσ;refine zk H hkn F hfr mk (fun j hj=>⟨(hJ j hj).1,by obtain⟨_,jt,hjt,_⟩:=hJ j hj; exact⟨jt,hjt,(hJs j hj jt hjt).1⟩⟩) hlater henv (fun f' l' a2 w2 nm2=>cont σ2 f' l' a2 w2 nm2 hK) f μ listed _ a' w' nm' M hnd hM hall hL hcl (by simpa using hsz) hsz hL2 ?_ hsk a9 m R' hs' (hd'.trans hdf);intro q o' ho' hq z hz;rw[hL2] at hq ⊢
  rcases hq with hq|rfl
  .exact .inl (hcl q o' ho' hq z hz)
  .exact .inl (hw o' ho' z hz))
 unfold wpOp;rw[hopk];exact this
def U4(H:DrawOk P nt ops its ds){K':St->Prop}(hQ:∀nm' M' a' w',K' M'->Rel A B w0 nm' M' a'.tmps w'->a'.tmps.size=nt->a'.defers=df->Q .normal a' w') :
  ∀(r:zA AY) (k s:zE) (σ0:St) (E:zE->Eff) (σk:St),ds.drop k=r->k<=ops.size->s<=k->Mt σ0 E (fun j=>s<=j/\j<k) σk->(∀i,s<=i->i<k->Fact P ds σ0 E s i)->D3 (ds.drop s) σ0=O->Co P r K' σk->
   ∀(fuel:zE) (μ:zA zE) (listed:Array zD) (a:Act) (w:World) (nm:Ac) (M:St),μ.Nodup->(∀x∈μ,s<=x/\x<k)->listed.size=ops.size->(∀j,An listed j↔j<s\/j∈μ)->fuel+s+μ.length=ops.size->CY ops (An listed)->
    Mt σ0 E (· ∈μ) M->Rel A B w0 nm M a.tmps w->a.tmps.size=nt->a.defers=df->wpAny P .any ops Q fuel listed a w
 | [],k,s,σ0,E,σk,hr,hkn,hsk,mk,F,hfr,h=>by
  have hlen:=H.sizes.2
  have hk:k=ops.size:=by
   have:=congrArg List.length hr;simp at this
   omega
  refine U2 H hkn F hfr hsk mk (fun _=>False) (fun i h1 h2=>by omega) (fun _ _ _ _ _ _ _ _ h=>h.elim) (fun fuel listed a w nm h1 h2 h3 h4 R hnt hdf=> ?_)
  have hready:Region.ready .any ops listed= []:=by
   refine yH.2 fun i hi=> ?_
   obtain⟨h5,h6,_⟩:=Fa.1 hi;exact(F9 a9).1 h6 ((h3 i).2 a9)
  obtain rfl:fuel=0:=by omega
  exact⟨hready,hQ nm σk a w h R hnt hdf⟩
 | (W N,g,o)::r,k,s,σ0,E,σk,hr,hkn,hsk,mk,F,hfr,h=>by
  have hlen:=H.sizes.2
  have hx:ds[k]?=W (W N,g,o):=by
   have:(ds.drop k)[0]?=W (W N,g,o):=by rw[hr]; rfl
   simpa using this
  have hk:k<ops.size:=by have:=(zJ.1 hx).1; omega
  have hr':ds.drop (k+1)=r:=by rw[<- yR,hr]; rfl
  obtain⟨e,hev,hK⟩:=sx h;let E':zE->Eff:=fun i=>if i=k then e else E i
  have eE:∀i,i≠k->E' i=E i:=fun i hi=>by simp[E',hi]
  have ek:E' k=e:=by simp[E']
  have mk':Mt σ0 E' (fun j=>s<=j/\j<k) σk:=mk.congr (fun _=>Iff.rfl) fun i hi=>eE i (by have:=hi.2; omega)
  have Fk:Fact P ds σ0 E' s k:=⟨N,(g,o),σk,hx,mk',by rw[ek]; exact hev⟩
  have F':∀i,s<=i->i<k+1->Fact P ds σ0 E' s i:=by
   intro i h1 h2;by_cases hik:i=k
   .subst hik; exact Fk
   .obtain⟨N',it',σi,hx',m',ev'⟩:=F i h1 a9;exact⟨N',it',σi,hx',m'.congr (fun _=>Iff.rfl) fun j hj=>eE j (by have:=hj.2; omega),by rw[eE i hik]; exact ev'⟩
  have m2:Mt σ0 E' (fun j=>s<=j/\j<k+1) (σk.add e):=by
   have:=mk'.add (i:=k) (fun j hj=>Fact.ne H (F' j hj.1 (by have:=hj.2; omega)) Fk (by have:=hj.2; omega)) (by rw[ek]; exact hev.grouped);rw[ek] at this
   refine this.congr (fun j=> ?_) (fun _ _=>rfl);constructor
   .rintro(h|h)
    .exact⟨h.1,by have:=h.2; omega⟩
    .exact⟨a9,a9⟩
   .rintro⟨h1,h2⟩
    by_cases hjk:j=k
    .exact .inr hjk
    .exact .inl ⟨h1,a9⟩
  intro fuel μ listed a w nm M hnd hM hsz hL hfuel hcl m R hnt hdf
  exact U4 H hQ r (k+1) s σ0 E' (σk.add e) hr' a9 a9 m2 F' hfr hK fuel μ listed a w nm M hnd (fun x hx=>⟨(hM x hx).1,by have:=(hM x hx).2; omega⟩) hsz hL hfuel hcl
   (m.congr (fun _=>Iff.rfl) fun i hi=>eE i (by have:=(hM i hi).2; omega)) R hnt hdf
 | (I,g,o)::r,k,s,σ0,E,σk,hr,hkn,hsk,mk,F,hfr,h=>by
  have hlen:=H.sizes.2
  have hx:ds[k]?=W (I,g,o):=by
   have:(ds.drop k)[0]?=W (I,g,o):=by rw[hr]; rfl
   simpa using this
  have hk:k<ops.size:=by have:=(zJ.1 hx).1; omega
  have hr':ds.drop (k+1)=r:=by rw[<- yR,hr]; rfl
  obtain⟨op,hop,hit,hc,_⟩:=H.at hx
  have cont:∀(σ2:St) (f:zE) (listed:Array zD) (a:Act) (w:World) (nm:Ac),(D3 r σ2=O/\Co P r K' σ2)->f+(k+1)=ops.size->listed.size=ops.size->(∀i,An listed i↔i<k+1)->CY ops (An listed)->Rel A B w0 nm σ2 a.tmps w->a.tmps.size=nt->a.defers=df->wpAny P .any ops Q f listed a w:=by
   intro σ2 f listed a w nm hσ h1 h2 h3 h4 R hnt hdf
   exact U4 H hQ r (k+1) (k+1) σ2 E σ2 hr' a9 (zU _) (Mt.none fun j hj=>by have:=hj.1; have:=hj.2; omega) (fun j h5 h6=>by omega) (by rw[hr']; exact hσ.1) hσ.2 f [] listed a w nm σ2 yT (fun x hx=>by simp at hx) h2
    (fun j=>by rw[h3 j]; simp) d3 h4 (Mt.none fun j hj=>by simp at hj) R hnt hdf
  have fin:(∀l,k<=l->l<ops.size->Bv (Bh ops.toList []) k l=V)->∀(fuel:zE) (listed:Array zD) (a:Act) (w:World) (nm:Ac),fuel+k=ops.size->listed.size=ops.size->(∀i,An listed i↔i<k)->CY ops (An listed)->Rel A B w0 nm σk a.tmps w->a.tmps.size=nt->a.defers=df->wpAny P .any ops Q fuel listed a w:=by
   intro hbar fuel listed a w nm h1 h2 h3 h4 R hnt hdf;obtain⟨f,rfl⟩:∃f,fuel=f+1:=⟨fuel - 1,a9⟩;have hunk:¬An listed k:=fun h=>by have:=(h3 k).1 h; omega
   refine⟨fun hrd=> ?_,fun i hi=> ?_⟩
   .exfalso
    have:k∈Region.ready .any ops listed:=Fa.2 ⟨hk,(F9 a9).2 hunk,fun o' ho' j hj=>(h3 j).2 (H.back k o' ho' j hj)⟩;rw[hrd] at this
    simp at this
   .obtain⟨hin,hun,hw⟩:=Fa.1 hi;have hun':=(F9 a9).1 hun
    have hik:i=k:=by
     have hki:k<=i:=yP fun h=>hun' ((h3 i).2 h)
     refine Classical.byContradiction fun hne=> ?_
     rcases Kd (hbar i hki hin) a9 with h|h
     .have:=Il H h; omega
     .exact hunk (GU h4 hw h)
    subst hik
    have:=Sr (Q:=Q) (K:=wpAny P .any ops Q f (listed.setIfInBounds i O)) (K':=fun M'=>D3 r M'=O/\Co P r K' M') R hnt hc h (fun nm' M' a' w' hσ R' hs' hd'=>by
     refine cont M' f _ a' w' nm' hσ a9 (by simpa using h2) (fun j=> ?_) ?_ R' hs' (hd'.trans hdf)
     .rw[HU a9,h3 j];omega
     .intro x o' ho' hx j hj;rw[HU a9] at hx ⊢
      rcases hx with hx|rfl
      .exact .inl (h4 x o' ho' hx j hj)
      .exact .inl (hw o' ho' j hj))
    unfold wpOp;rw[hop];exact this
  have plain:(∀l,s<=l->l<ops.size->Bv (Bh ops.toList []) k l=V)->_:=fun hbar=>U2 H hkn F hfr hsk mk (fun _=>False) (fun i h1 h2 listed hcl hw j h3 h4 hlt=>by
   left
   by_cases hik:i=k
   .subst hik;rcases Kd (hbar j h3 a9) a9 with h|h
    .exact GU hcl hw h
    .have:=Il H h; omega
   .rcases Kd (hbar i a9 h2) a9 with h|h
    .have:=Il H h; omega
    .have hLk:=GU hcl hw h;have:=hlt k hLk;omega) (fun _ _ _ _ _ _ _ _ h=>h.elim) (fin fun l h1 h2=>hbar l a9 h2)
  obtain⟨J,hJ,hcomp,hlater⟩:=H.bar hx;by_cases hJs:∀j∈J,j<s
  .exact plain fun l h1 hl=>hcomp l hl fun h=>by have:=hJs l h; omega
  .refine U2 H hkn F hfr hsk mk (fun i=>i=k) (fun i h1 h2 listed hcl hw l h3 h4 hlt=> ?_) (fun i f μ listed a w nm M hX=> ?_) (fin fun l h1 h2=>hcomp l h2 fun h=>by have:=(hJ l h).1; omega)
   .by_cases hik:i=k
    .exact .inr hik
    .left
     rcases Kd (hcomp i h2 fun h=>by have:=(hJ i h).1; omega) a9 with h|h
     .have:=Il H h; omega
     .have hLk:=GU hcl hw h;have:=hlt k hLk;omega
   .subst hX;exact zj H hsk F hfr mk hJ hx hcomp hlater h cont f μ listed a w nm M
def qh(hm:P.follows .mixedOrders=O){id:zE}{K':St->Prop}{nm:Ac}{M:St}{a:Act}{w:World}(R:Rel A B w0 nm M a.tmps w)(hnt:a.tmps.size=nt)(hc:N4 P nt ops=W ds)(h0:D3 ds M=O)(h:Co P ds K' M)
  (hQ:∀nm' M' a' w',K' M'->Rel A B w0 nm' M' a'.tmps w'->a'.tmps.size=nt->a'.defers=a.defers->Q .normal a' w'):(Code.region id ops O).wp P Q a w:=by
 obtain⟨its,H⟩:=qf hc
 have hno:∀j,¬An (Array.replicate ops.size V) j:=by
  intro j;unfold An;rw[Array.getD_eq_getD_getElem?,Array.getElem?_replicate];split<;>simp
 refine wp_region_any hm ?_
 refine U4 (df:=a.defers) H hQ ds 0 0 M (fun _=>⟨0,.undef,[],[]⟩) M d0 (yE _) (zU _) (Mt.none fun j hj=>by have:=hj.2; omega) (fun i h1 h2=>by omega) (by simpa using h0) h ops.size [] _ a _ nm M yT (fun x hx=>by simp at hx) d0
  (fun j=> ?_) d0 (fun i o ho hi=>absurd hi (hno i)) (Mt.none fun j hj=>by simp at hj) (R.drawn _) hnt rfl
 constructor
 .intro h; exact absurd h (hno j)
 .rintro(h|h)
  .omega
  .simp at h
end
end
section
section
variable {P : Program} {A : Ar} {B : zE} {w0 : Base} {nt : zE} {df : zA Deferred}
def post(A:Ar)(B:zE)(w0:Base)(nt:zE)(df:zA Deferred)(Q:Xl->St->Prop):Exit->Act->World->Prop:=fun e a w=>
 ∃e' nm M,Xl.Is e' e/\Q e' M/\Rel A B w0 nm M a.tmps w/\a.tmps.size=nt/\a.defers=df
def QX{K':St->Prop}:∀(its:zA AItem) (M:St) {nm:Ac} {tmps:Array Value} {w:World},(∀i∈its,i.2.idle=O)->Bk P its K' M->Rel A B w0 nm M tmps w->∃nm' M',K' M'/\Rel A B w0 nm' M' tmps w
 | [],M,nm,tmps,w,_,h,R=>⟨nm,M,h,R⟩
 | (g,o)::its,M,nm,tmps,w,hi,h,R=>by
  have ho:o.idle=O:=hi (g,o) d0;obtain⟨M',hs,hk⟩:=UU (P:=P) (K':=Bk P its K') ho h;obtain⟨nm',R'⟩:=So R ho hs;exact QX its M' (fun i h=>hi i (by simp[h])) hk R'
def A5q(x y:Xf):(∃its,x= .reg its/\(∀i∈its,i.2.idle=O)/\(Xf.seq x y).strip=y.strip)\/(Xf.seq x y).strip= .seq x.strip y.strip:=by
 cases x with
 | reg its=>
  cases hb:(!its.isEmpty&&its.all fun i=>i.2.idle) with
  | true=>
   simp only[zH,zI] at hb
   refine .inl ⟨its,zF,hb.2,?_⟩;simp only[Xf.strip];rw[show(!its.isEmpty&&its.all fun i=>i.2.idle)=O by simp only[zH,zI]; exact hb];rfl
  | false=>
   refine .inr ?_;simp only[Xf.strip,hb,cond_false]
 | _=>exact .inr rfl
def oL{X:Cx}{av:AV}{v:Value}{b:zD}(H:VRel X av v)(h:av= .v (.sc (.dat (.bool b)))):v= .bool b:=by
 subst h;cases H with | v hx=>
 cases hx with | sc hx=>
 cases hx with | dat hr=>
 cases hr;rfl
def Dn{ops:Array Oper}{c:Xf}(h:TT P nt ops=W c):(∃is,c= .reg is/\Bz P nt ops ops.toList=W is)\/
  (∃l o y x is,c= .pan is x/\ops.toList=l++ [o]/\o.guard=I/\o.op= .panic y/\AJ y=W x/\Bz P nt ops l=W is)\/
  (∃l o d f args is,c= .cal is d f args/\ops.toList=l++ [o]/\o.guard=I/\CN P nt o=W (.call d f args)/\Bz P nt ops l=W is):=by
 unfold TT at h;split at h
 .rename_i c' hl
  cases h;right
  unfold YD at hl
  split at hl
  .rename_i o ho
   have hops:ops.toList=ops.toList.dropLast++ [o]:=by
    have hne:ops.toList≠ []:=by intro e; rw[e] at ho; simp at ho
    have:=List.dropLast_concat_getLast hne;rw[List.getLast?_eq_some_getLast hne] at ho
    rw[<- zT ho,this]
   split at hl
   .rename_i hg
    have hg':o.guard=I:=by simpa using hg
    split at hl
    .rename_i x hx
     split at hl
     .rename_i y its h1 h2
      cases hl;exact .inl ⟨_,o,x,y,its,zF,hops,hg',hx,h1,h2⟩
     .cases hl
    .split at hl
     .rename_i d f args its h1 h2
      split at hl
      .cases hl;exact .inr ⟨_,o,d,f,args,its,zF,hops,hg',h1,h2⟩
      .cases hl
     .cases hl
    .cases hl
   .cases hl
  .cases hl
 .simp only[zG] at h;obtain⟨is,h1,rfl⟩:=h;exact .inl ⟨is,zF,h1⟩
def Rel.later{nm:Ac}{M:St}{tmps:Array Value}{w w':World}(R:Rel A B w0 nm M tmps w)(hb:RowKit.Below w.heap.size w w'):Rel A B w0 nm M tmps w':=by
 refine R.carry (f:=fun c=>c) (R.below.trans R.there hb R.size) (Nat.le_trans R.size hb.size) (fun i b h=> ?_) R.inj (fun _ _=>rfl) (fun k=>by rw[AV.mapId]) (fun id=>by simp) (fun id cs _ b hb2=>⟨hb2,hb.block b (R.names _ b hb2).2⟩) (fun c v _ hrel=> ?_)
 .obtain⟨h1,h2⟩:=R.names i b h;exact⟨h1,Nat.lt_of_lt_of_le h2 hb.size⟩
 .exact hrel.move (CW fun b hlt hn=>⟨hn,hb.block b hlt⟩) (fun id _=> .inr ⟨zF,zF,fun b hb2=>hb.block b (R.names _ b hb2).2⟩) (fun id _ b hb2=>hb2)
def gB{Q:Exit->Act->World->Prop}{ops:Array Oper}{o:Oper}{a:Act}{w:World}(hg:o.guard=I)(h:o.wp P a w (fun a w=>Q .normal a w) Q):wpList P ops Q [o] a w:=by
 have hw:Region.wanted o (yielded ops a.tmps)=O:=by simp[Region.wanted,hg]
 unfold wpList;rw[hw];exact .inl h
def A2h{Q:Xl->St->Prop}{ops:Array Oper}{o:Oper}{y:Operand}{x:Opd}{d:D}{nm:Ac}{M:St}{a:Act}{w:World}(R:Rel A B w0 nm M a.tmps w)(hnt:a.tmps.size=nt)(hdf:a.defers=df)
  (hg:o.guard=I) (ho:o.op= .panic y) (hy:AJ y=W x) (hx:M.val x= .v (.sc (.dat d))) (hf:d.flat=O) (hi:UZ d=O) (hq:Q (.pan d) M):wpList P ops (post A B w0 nt df Q) [o] a w:=by
 refine gB hg ?_;have hr:=Ax R hy;rw[hx] at hr
 have hd:Rep (A9 A nm w) d (a.eval y):=by
  have hc:=hr.inv_sc;cases hc with | dat h=>exact h
 have hv:∃t u,a.eval y= .iface t u:=by
  revert hi hd
  generalize a.eval y=v
  intro hi hd;cases hd<;>first | (cases hi; done) | exact⟨_,_,rfl⟩
 have hrun:(execOp a.eval o).run P w= .halt (.panic (a.eval y)) w:=by
  obtain⟨t,u,e⟩:=hv;have:(Instr.panic (a.eval y)).run P w= .halt (.panic (a.eval y)) w:=by rw[e]; rfl
  obtain⟨dst,op,ty,pos,after,guard⟩:=o;simp only at ho
  subst ho;simp[execOp,this,Result.andThen]
 unfold Oper.wp;rw[hrun,Oper.upon_panic];exact⟨.pan d,nm,M,⟨_,zF,hd.flat hf⟩,hq,R,hnt,hdf⟩
def oO{Q:Xl->St->Prop}{ops:Array Oper}{o:Oper}{d:zE}{f:FuncId}{args:zA Opd}{nm:Ac}{M:St}{a:Act}{w:World}(R:Rel A B w0 nm M a.tmps w)(hnt:a.tmps.size=nt)(hdf:a.defers=df)
  (hg:o.guard=I) (hc:CN P nt o=W (.call d f args)) (h:AZ P (.call d f args) (Q .normal) M\/∃ds pd,M.toDVs args=W ds/\MR P f ds pd/\Q (.pan pd) M):wpList P ops (post A B w0 nt df Q) [o] a w:=by
 refine gB hg ?_;rcases h with h|⟨ds,pd,hds,hfc,hq⟩
 .exact Ya R hnt hc h fun nm' M' a' w' hk R' hs hd=>⟨.normal,nm',M',zF,hk,R',hs,hd.trans hdf⟩
 .unfold CN at hc
  split at hc
  .rename_i d' hd
   split at hc
   .rename_i hlt
    have e:=(N3 hc).1;simp only[AOp.dst,yD] at e
    subst e;obtain⟨dst,op,ty,pos,after,guard⟩:=o;simp only at hd
    subst hd
    have hcall:∃xs tys,op= .call {callee:= .value (.func f),args:=xs,argTypes:=tys}/\C8 xs.toList=W args/\BQ P f=O:=by
     rcases TR (d':=d) rfl hc (.inl ⟨f,args,rfl⟩) with ⟨f',args',xs,tys,h1,h2,h3,h4⟩|⟨t,args',xs,tys,h1,_⟩
     .cases h1; exact⟨xs,tys,h2,h3,h4⟩
     .cases h1
    obtain⟨xs,tys,rfl,hxs,hok⟩:=hcall
    have hrun:(execOp a.eval {dst:=some d,op:= .call {callee:= .value (.func f),args:=xs,argTypes:=tys },type:=ty,pos,after,guard }).run P w= .ok (.enter f (xs.toList.map a.eval).toArray) w:=by
     have:=Vo (w:=w) hok (xs.map a.eval);have e2:(xs.toList.map a.eval).toArray=xs.map a.eval:=by apply Array.ext'; simp
     rw[e2];simp[execOp,resolve,Deferred.ofValue,invoke,Act.eval,this]
    unfold Oper.wp;rw[hrun,Oper.upon_enter];refine(hfc w (fun _ _=>True) _ (R.good w R.below) ((T5 R hxs hds).mono fun _ _ h=>Wp h)).mono fun e w' h=> ?_
    obtain⟨v,rfl,hb,hv⟩:=h;exact⟨.pan pd,nm,M,⟨v,zF,hv⟩,hq,R.later hb,hnt,hdf⟩
   .cases hc
  .split at hc
   .split at hc<;>cases hc
   ·(repeat' split at hc)<;>cases hc
   .cases hc
def Ug:∀(env:zA (zE × AV)) (ds:zA zE) (k:zE),(A1 (env++ds.map fun d=>(d,AV.undef)) k).getD .undef=(A1 env k).getD .undef
 | [],[],k=>rfl
 | [],d::ds,k=>by
  have:=Ug [] ds k;simp only[List.nil_append] at this ⊢
  simp only[List.map_cons,A1];cases d==k
  .exact this
  .rfl
 | (i,v)::env,ds,k=>by
  have:=Ug env ds k;simp only[List.cons_append,A1];cases i==k
  .exact this
  .rfl
def A2g{M:St}{ds:zA zE}:Same M (M.pad ds):=⟨fun k=>Ug _ _ _,fun _=>rfl,fun _=>rfl⟩
def YI:∀{ms:zA zD} {i:zE},ms[i]?=W V->(ms.set i O).count V+1=ms.count V
 | [],_,h=>by simp at h
 | b::ms,0,h=>by
  simp at h;subst h;simp
 | b::ms,i+1,h=>by
  simp at h;have:=YI h;cases b<;>simp<;>omega
def YH{α:Type}:∀(l:zA α),(l.map fun _=>V).count V=l.length
 | []=>rfl
 | x::l=>by simp[YH l]
def mz{ops:Array Oper}{its:zA (zA zE × AItem)}{is:zA AItem}{T:St->Prop}{Q:Exit->Act->World->Prop}(hc:Bz P nt ops ops.toList=W is)(hw:KE 0 ops.toList=O)(hits:its=(ops.toList.map waits).zip is)
  (hQ:∀nm τ a w,T τ->Rel A B w0 nm τ a.tmps w->a.tmps.size=nt->a.defers=df->Q .normal a w) :
  ∀(f:zE) (ms:zA zD) (listed:Array zD) (M:St) (a:Act) (w:World) (nm:Ac),CL P its T f ms M->ms.length=ops.size->ms.count V=f->listed.size=ops.size->(∀j,An listed j↔ms[j]?=W O)->Rel A B w0 nm M a.tmps w->a.tmps.size=nt->a.defers=df->wpAny P .any ops Q f listed a w:=by
 intro f
 induction f with
 | zero=>
  intro ms listed M a w nm h hlen hcount hsz hL R hnt hdf
  have hall:∀b∈ms,b=O:=fun b hb=>by
   cases b with
   | true=>rfl
   | false=>exact absurd hb (List.count_eq_zero.1 hcount)
  have hστ:T M:=h (zI.2 fun b hb=>hall b hb);refine⟨?_,hQ nm M a w hστ R hnt hdf⟩;refine yH.2 fun i hi=> ?_
  obtain⟨h5,h6,_⟩:=Fa.1 hi;refine(F9 a9).1 h6 ((hL i).2 ?_);have hlt:i<ms.length:=by omega
  rw[zO hlt,hall _ (List.getElem_mem hlt)]
 | succ f ih=>
  intro ms listed M a w nm h hlen hcount hsz hL R hnt hdf
  have back:∀(i:zE) (o:Oper),ops[i]?=W o->∀j∈waits o,j<i:=fun i o ho j hj=>by
   have:=Wt hw i o (by simpa using ho) j hj;omega
  refine⟨fun hr=> ?_,fun i hi=> ?_⟩
  .exfalso
   have hmem:V∈ms:=by
    refine Classical.byContradiction fun hn=> ?_
    have:=List.count_eq_zero.2 hn;omega
   obtain⟨i,hi,hif⟩:=List.getElem_of_mem hmem
   have hn0:¬An listed i:=fun hl=>by
    have:=(hL i).1 hl;rw[zO hi,hif] at this
    cases this
   obtain⟨mi,hmi,hmn,hmall⟩:=Vc (p:=An listed) hn0;have:mi∈Region.ready .any ops listed:=Fa.2 ⟨a9,(F9 a9).2 hmn,fun o ho j hj=>hmall j (back mi o ho j hj)⟩;rw[hr] at this
   simp at this
  .obtain⟨hin,hun,hwt⟩:=Fa.1 hi;have hun':=(F9 a9).1 hun;obtain⟨hl1,hl2⟩:=N5 hc;have ho:ops[i]?=W ops[i]:=Array.getElem?_eq_getElem hin;obtain⟨it,hit,hci⟩:=hl2 i ops[i] d0
   have hmi:ms[i]?=W V:=by
    have hlt:i<ms.length:=by omega
    rw[zO hlt];cases hb:ms[i] with
    | false=>rfl
    | true=>exact absurd ((hL i).2 (by rw[zO hlt,hb])) hun'
   have hzip:its[i]?=W (waits ops[i],it):=by
    rw[hits,List.getElem?_zip_eq_some];exact⟨by simp[ho],hit⟩
   obtain⟨pre,post,hpre,hpost,h2⟩:=h i _ hzip hmi fun j hj=>(hL j).1 (hwt _ ho j hj)
   obtain⟨nm1,σ1,h2,R1⟩:=QX pre M (fun i hi=>zI.1 hpre i hi) h2 R
   have cont:∀(nm':Ac) (M':St) (a':Act) (w':World),Bk P post (CL P its T f (ms.set i O)) M'->Rel A B w0 nm' M' a'.tmps w'->a'.tmps.size=nt->a'.defers=a.defers->wpAny P .any ops Q f (listed.setIfInBounds i O) a' w':=fun nm' M' a' w' hk R' hs' hd'=>by
    obtain⟨nm',M',hk,R'⟩:=QX post M' (fun i hi=>zI.1 hpost i hi) hk R';refine ih _ _ _ a' w' nm' hk d3 ?_ d3 (fun j=> ?_) R' hs' (hd'.trans hdf)
    .have:=YI hmi;omega
    .rw[HU a9,hL j,List.getElem?_set];by_cases hj:i=j
     .subst hj;have hlt:i<ms.length:=by omega
      simp[hlt]
     .have:¬j=i:=fun e=>hj e.symm
      simp[hj,this]
   have:=Sq (Q:=Q) (K:=wpAny P .any ops Q f (listed.setIfInBounds i O)) R1 hnt hci h2 cont;unfold wpOp;rw[ho];exact this
def nA(hm:P.follows .mixedOrders=O){id:zE}{ops:Array Oper}{its:zA (zA zE × AItem)}{T:St->Prop}{Q:Exit->Act->World->Prop}{nm:Ac}{M:St}{a:Act}{w:World}(R:Rel A B w0 nm M a.tmps w)(hnt:a.tmps.size=nt)(hdf:a.defers=df)(hc:KW P nt ops=W its)(h:CL P its T its.length (its.map fun _=>V) M)
  (hQ:∀nm τ a w,T τ->Rel A B w0 nm τ a.tmps w->a.tmps.size=nt->a.defers=df->Q .normal a w):(Code.region id ops O).wp P Q a w:=by
 unfold KW at hc
 split at hc
 .rename_i is his
  split at hc
  .rename_i hw
   have hits:=(zT hc).symm
   have hlen:its.length=ops.size:=by
    have:=(N5 his).1;rw[hits];simp[this]
   refine wp_region_any hm ?_;rw[hlen] at h;refine mz his hw hits hQ ops.size _ _ M a _ nm h d3 ?_ d0 (fun j=> ?_) (R.drawn _) hnt hdf
   .rw[<- hlen];exact YH its
   .constructor
    .intro hl;exfalso
     unfold An at hl
     rw[Array.getD_eq_getD_getElem?,Array.getElem?_replicate] at hl
     split at hl<;>simp at hl
    .intro hl;simp at hl
  .cases hc
 .cases hc
def Do{id:zE}{ops:Array Oper}{c:Xf}(h:Bc P nt (.region id ops O)=W c):(∃is,N4 P nt ops=W is/\c= .drw is)\/(∃is,KW P nt ops=W is/\c= .any is):=by
 unfold Bc at h;cases hp:dJ P ops with
 | true=>
  simp only[hp,cond_true,zG] at h;obtain⟨is,h1,rfl⟩:=h;exact .inr ⟨is,h1,zF⟩
 | false=>
  simp only[hp,cond_false] at h;split at h
  .rename_i is h1
   cases ho:ck P is with
   | true=>
    simp only[ho,cond_true,zG] at h;obtain⟨is,h1,rfl⟩:=h;exact .inr ⟨is,h1,zF⟩
   | false=>
    simp only[ho,cond_false] at h;cases h;exact .inl ⟨is,h1,zF⟩
  .simp only[zG] at h;obtain⟨is,h1,rfl⟩:=h;exact .inr ⟨is,h1,zF⟩
def Iq(hm:P.follows .mixedOrders=O):∀(c:Xf) (C:Code) (Q:Xl->St->Prop) (nm:Ac) (M:St) (a:Act) (w:World),Bc P nt C=W c.strip->B0 P c Q M->Rel A B w0 nm M a.tmps w->a.tmps.size=nt->a.defers=df->
  C.wp P (post A B w0 nt df Q) a w:=by
 intro c
 induction c with
 | skip=>
  intro C Q nm M a w hc h R hnt hdf;cases C<;>simp only[Bc,Xf.strip,zG] at hc
  case skip=>exact wp_skip ⟨.normal,nm,M,rfl,h,R,hnt,hdf⟩
  case label=>exact wp_label ⟨.normal,nm,M,rfl,h,R,hnt,hdf⟩
  case region id ops d=>
   cases d
   .rcases(Du hc).imp_left Dn with (⟨is,h2,h1⟩|⟨_,_,_,_,_,h2,_⟩|⟨_,_,_,_,_,_,h2,_⟩)|h2<;>cases h2
   .rcases Do hc with ⟨is,h1,h2⟩|⟨is,h1,h2⟩<;>cases h2
  case seq=>split at hc<;>cases hc
  case cond=>split at hc<;>cases hc
  all_goals (first | (cases hc; done) | (obtain⟨_,_,hc⟩:=hc; cases hc))
 | reg its=>
  intro C Q nm M a w hc h R hnt hdf;cases C<;>simp only[Bc,Xf.strip,zG] at hc
  case region id ops d=>
   cases d
   case false=>
    simp only[Bc] at hc
    rcases(Du hc).imp_left Dn with (⟨is,h2,h1⟩|⟨_,_,_,_,_,h2,_⟩|⟨_,_,_,_,_,_,h2,_⟩)|h2<;>cases h2
    refine wp_region_list (TG its ops.toList M a w nm R hnt h1 h fun nm' M' a' w' k1 k2 k3 k4=>⟨.normal,nm',M',zF,k1,k2,k3,k4.trans hdf⟩)
   case true=>
    rcases Do hc with ⟨is,h1,h2⟩|⟨is,h1,h2⟩<;>cases h2
  case seq=>split at hc<;>cases hc
  case cond=>split at hc<;>cases hc
  all_goals (first | (cases hc; done) | (obtain⟨_,_,hc⟩:=hc; cases hc))
 | drw its=>
  intro C Q nm M a w hc h R hnt hdf;cases C<;>simp only[Bc,Xf.strip,zG] at hc
  case region id ops d=>
   cases d
   case false=>
    simp only[Bc] at hc
    rcases(Du hc).imp_left Dn with (⟨is,h2,h1⟩|⟨_,_,_,_,_,h2,_⟩|⟨_,_,_,_,_,_,h2,_⟩)|h2<;>cases h2
   case true=>
    rcases Do hc with ⟨is,h1,h2⟩|⟨is,h1,h2⟩<;>cases h2
    exact qh hm R hnt h1 h.1 h.2 fun nm' M' a' w' k1 k2 k3 k4=>⟨.normal,nm',M',zF,k1,k2,k3,k4.trans hdf⟩
  case seq=>split at hc<;>cases hc
  case cond=>split at hc<;>cases hc
  all_goals (first | (cases hc; done) | (obtain⟨_,_,hc⟩:=hc; cases hc))
 | any its=>
  intro C Q nm M a w hc h R hnt hdf;cases C<;>simp only[Bc,Xf.strip,zG] at hc
  case region id ops d=>
   cases d
   case false=>
    simp only[Bc] at hc
    rcases(Du hc).imp_left Dn with (⟨is,h2,h1⟩|⟨_,_,_,_,_,h2,_⟩|⟨_,_,_,_,_,_,h2,_⟩)|h2<;>cases h2
   case true=>
    rcases Do hc with ⟨is,h1,h2⟩|⟨is,h1,h2⟩<;>cases h2
    obtain⟨ks,bs,rs,T,h3,h4⟩:=h;obtain⟨nm2,R2⟩:=So (o:= .keep ks bs rs) R rfl rfl;exact nA hm (R2.same A2g) hnt hdf h1 h3 fun nm' τ a' w' k1 k2 k3 k4=>⟨.normal,nm',τ,zF,h4 τ k1,k2,k3,k4⟩
  case seq=>split at hc<;>cases hc
  case cond=>split at hc<;>cases hc
  all_goals (first | (cases hc; done) | (obtain⟨_,_,hc⟩:=hc; cases hc))
 | hook nt0 C0=>
  intro C Q nm M a w hc h R hnt hdf;cases C<;>simp only[Bc,Xf.strip,zG] at hc
  case region id ops d=>
   cases d
   case false=>
    simp only[Bc] at hc
    rcases(Du hc).imp_left Dn with (⟨is,h2,h1⟩|⟨_,_,_,_,_,h2,_⟩|⟨_,_,_,_,_,_,h2,_⟩)|h2<;>cases h2
    obtain⟨τ,h3,h4⟩:=h;exact wp_mono (h3 A B w0 nm a w R hnt) fun e a' w' ⟨he,⟨nm',R'⟩,k1,k2⟩=>⟨.normal,nm',τ,he,h4,R',k1,k2.trans hdf⟩
   case true=>
    rcases Do hc with ⟨is,h1,h2⟩|⟨is,h1,h2⟩<;>cases h2
  case seq=>split at hc<;>cases hc
  case cond=>split at hc<;>cases hc
  all_goals (first | (cases hc; done) | (obtain⟨_,_,hc⟩:=hc; cases hc))
 | seq x y ihx ihy=>
  intro C Q nm M a w hc h R hnt hdf;rcases A5q x y with ⟨its,rfl,hidle,hst⟩|hst
  .rw[hst] at hc
   obtain⟨nm',M',hk,R'⟩:=QX its M hidle h R;exact ihy C Q nm' M' a w hc hk R' hnt hdf
  .rw[hst] at hc
   cases C<;>try simp only[Bc,zG] at hc
   case seq X Y=>
    split at hc
    .rename_i x' y' h1 h2
     cases hc;refine wp_seq ?_;refine wp_mono (ihx X _ nm M a w h1 h R hnt hdf) fun e a' w' hp=> ?_
     obtain⟨e',nm',M',he,hq,R',k1,k2⟩:=hp;cases e' with
     | normal=>obtain rfl:e= .normal:=he; exact ihy Y Q nm' M' a' w' h2 hq R' k1 k2
     | exit id=>obtain rfl:e= .exit id:=he; exact⟨.exit id,nm',M',rfl,hq,R',k1,k2⟩
     | ret=>obtain rfl:e= .ret:=he; exact⟨.ret,nm',M',rfl,hq,R',k1,k2⟩
     | pan d=>obtain⟨v,rfl,hv⟩:=he; exact⟨.pan d,nm',M',⟨v,rfl,hv⟩,hq,R',k1,k2⟩
    .cases hc
   case region id ops d=>cases d<;>first | (rcases(Du hc).imp_left Dn with (⟨is,h2,h1⟩ | ⟨_,_,_,_,_,h2,_⟩ | ⟨_,_,_,_,_,_,h2,_⟩) | h2<;>(cases h2; done)) | (rcases Do hc with ⟨is,h1,h2⟩ | ⟨is,h1,h2⟩<;>(cases h2; done))
   case cond=>split at hc<;>cases hc
   all_goals (first | (cases hc; done) | (obtain⟨_,_,hc⟩:=hc; cases hc))
 | cond c x y ihx ihy=>
  intro C Q nm M a w hc h R hnt hdf;cases C<;>simp only[Bc,Xf.strip,zG] at hc
  case cond c' X Y=>
   split at hc
   .rename_i h1 h2 h3
    cases hc;simp only[B0] at h;split at h
    .rename_i b hb
     have hv:=oL (Ax R h1) hb;refine wp_cond hv ?_;cases b
     .exact ihy Y Q nm M a w h3 (by simpa using h) R hnt hdf
     .exact ihx X Q nm M a w h2 (by simpa using h) R hnt hdf
    .exact h.elim
   .cases hc
  case region id ops d=>cases d<;>first | (rcases(Du hc).imp_left Dn with (⟨is,h2,h1⟩ | ⟨_,_,_,_,_,h2,_⟩ | ⟨_,_,_,_,_,_,h2,_⟩) | h2<;>(cases h2; done)) | (rcases Do hc with ⟨is,h1,h2⟩ | ⟨is,h1,h2⟩<;>(cases h2; done))
  case seq=>split at hc<;>cases hc
  all_goals (first | (cases hc; done) | (obtain⟨_,_,hc⟩:=hc; cases hc))
 | block id c ih=>
  intro C Q nm M a w hc h R hnt hdf;cases C<;>simp only[Bc,Xf.strip,zG] at hc
  case block id' X=>
   obtain⟨x',h1,h2⟩:=hc;cases h2;refine wp_block (wp_mono (ih X _ nm M a w h1 h R hnt hdf) fun e a' w' hp=> ?_);obtain⟨e',nm',M',he,hq,R',k1,k2⟩:=hp;cases e' with
   | normal=>obtain rfl:e= .normal:=he; exact⟨.normal,nm',M',rfl,hq,R',k1,k2⟩
   | ret=>obtain rfl:e= .ret:=he; exact⟨.ret,nm',M',rfl,hq,R',k1,k2⟩
   | pan d=>obtain⟨v,rfl,hv⟩:=he; exact⟨.pan d,nm',M',⟨v,rfl,hv⟩,hq,R',k1,k2⟩
   | exit i=>
    obtain rfl:e= .exit i:=he;simp only[Exit.inBlock];change (if i=id then Q .normal M' else Q (.exit i) M') at hq
    split
    .rename_i e
     rw[if_pos e] at hq
     exact⟨.normal,nm',M',zF,hq,R',k1,k2⟩
    .rename_i e
     rw[if_neg e] at hq
     exact⟨.exit i,nm',M',zF,hq,R',k1,k2⟩
  case region id ops d=>cases d<;>first | (rcases(Du hc).imp_left Dn with (⟨is,h2,h1⟩ | ⟨_,_,_,_,_,h2,_⟩ | ⟨_,_,_,_,_,_,h2,_⟩) | h2<;>(cases h2; done)) | (rcases Do hc with ⟨is,h1,h2⟩ | ⟨is,h1,h2⟩<;>(cases h2; done))
  case seq=>split at hc<;>cases hc
  case cond=>split at hc<;>cases hc
  all_goals (first | (cases hc; done) | (obtain⟨_,_,hc⟩:=hc; cases hc))
 | loop c ih=>
  intro C Q nm M a w hc h R hnt hdf;cases C<;>simp only[Bc,Xf.strip,zG] at hc
  case loop X=>
   obtain⟨x',h1,h2⟩:=hc;cases h2
   have key:=h (fun M=>∀(nm:Ac) (a:Act) (w:World),Rel A B w0 nm M a.tmps w->a.tmps.size=nt->a.defers=df->∀(b:Frame) (k:zA Item) (cs:zA Frame),
    ∃e a' w',post A B w0 nt df Q e a' w'/\Arrives P (lone (b.at a (.code X:: .inLoop X::k)) cs w) b k cs e a' w') (fun M' h' nm a w R hnt hdf b k cs=>by
     obtain⟨e,a₁,w₁,hq,harr⟩:=ih X _ nm M' a w h1 h' R hnt hdf b (.inLoop X::k) cs;obtain⟨e',nm',M'',he,hq,R',k1,k2⟩:=hq;cases e' with
     | pan d=>obtain⟨v,rfl,hv⟩:=he; exact⟨_,a₁,w₁,⟨.pan d,nm',M'',⟨v,rfl,hv⟩,hq,R',k1,k2⟩,.pass (x:= .inLoop X) rfl (fun _ _=> .inl d0) harr⟩
     | normal=>
      obtain rfl:e= .normal:=he;obtain⟨e₂,a₂,w₂,hq₂,harr₂⟩:=hq nm' a₁ w₁ R' k1 k2 b k cs;exact⟨e₂,a₂,w₂,hq₂,.of_steps (Steps.trans harr (.one step_inLoop)) harr₂⟩
     | exit id=>obtain rfl:e= .exit id:=he; exact⟨_,a₁,w₁,⟨.exit id,nm',M'',rfl,hq,R',k1,k2⟩,.pass (x:= .inLoop X) rfl (fun _ _=> .inl d0) harr⟩
     | ret=>obtain rfl:e= .ret:=he; exact⟨_,a₁,w₁,⟨.ret,nm',M'',rfl,hq,R',k1,k2⟩,.pass (x:= .inLoop X) rfl (fun _ _=> .inl d0) harr⟩)
   intro b k cs;obtain⟨e,a',w',hq,harr⟩:=key nm a w R hnt hdf b k cs;exact⟨e,a',w',hq,.of_steps (.one step_loop) harr⟩
  case region id ops d=>cases d<;>first | (rcases(Du hc).imp_left Dn with (⟨is,h2,h1⟩ | ⟨_,_,_,_,_,h2,_⟩ | ⟨_,_,_,_,_,_,h2,_⟩) | h2<;>(cases h2; done)) | (rcases Do hc with ⟨is,h1,h2⟩ | ⟨is,h1,h2⟩<;>(cases h2; done))
  case seq=>split at hc<;>cases hc
  case cond=>split at hc<;>cases hc
  all_goals (first | (cases hc; done) | (obtain⟨_,_,hc⟩:=hc; cases hc))
 | pan its x=>
  intro C Q nm M a w hc h R hnt hdf;cases C<;>simp only[Bc,Xf.strip,zG] at hc
  case region id ops d=>
   cases d
   case false=>
    simp only[Bc] at hc
    rcases(Du hc).imp_left Dn with (⟨is,h2,h1⟩|⟨l,o,y,x',is,h2,hl,hg,ho,hy,h1⟩|⟨_,_,_,_,_,_,h2,_⟩)|h2<;>cases h2
    refine wp_region_list ?_;rw[hl];refine QY its l M a w nm R hnt h1 h fun nm' M' a' w' hk R' hs hd=> ?_
    obtain⟨d,hx,hf,hi,hq⟩:=hk;exact A2h R' hs (hd.trans hdf) hg ho hy hx hf hi hq
   case true=>
    rcases Do hc with ⟨is,h1,h2⟩|⟨is,h1,h2⟩<;>cases h2
  case seq=>split at hc<;>cases hc
  case cond=>split at hc<;>cases hc
  all_goals (first | (cases hc; done) | (obtain⟨_,_,hc⟩:=hc; cases hc))
 | cal its dd f args=>
  intro C Q nm M a w hc h R hnt hdf;cases C<;>simp only[Bc,Xf.strip,zG] at hc
  case region id ops d=>
   cases d
   case false=>
    simp only[Bc] at hc
    rcases(Du hc).imp_left Dn with (⟨is,h2,h1⟩|⟨_,_,_,_,_,h2,_⟩|⟨l,o,d2,f2,args2,is,h2,hl,hg,ho,h1⟩)|h2<;>cases h2
    refine wp_region_list ?_;rw[hl];exact QY its l M a w nm R hnt h1 h fun nm' M' a' w' hk R' hs hd=>oO R' hs (hd.trans hdf) hg ho hk
   case true=>
    rcases Do hc with ⟨is,h1,h2⟩|⟨is,h1,h2⟩<;>cases h2
  case seq=>split at hc<;>cases hc
  case cond=>split at hc<;>cases hc
  all_goals (first | (cases hc; done) | (obtain⟨_,_,hc⟩:=hc; cases hc))
 | exit id=>
  intro C Q nm M a w hc h R hnt hdf;cases C<;>simp only[Bc,Xf.strip,zG] at hc
  case exit id'=>cases hc; exact wp_exit ⟨.exit id,nm,M,rfl,h,R,hnt,hdf⟩
  case region id ops d=>cases d<;>first | (rcases(Du hc).imp_left Dn with (⟨is,h2,h1⟩ | ⟨_,_,_,_,_,h2,_⟩ | ⟨_,_,_,_,_,_,h2,_⟩) | h2<;>(cases h2; done)) | (rcases Do hc with ⟨is,h1,h2⟩ | ⟨is,h1,h2⟩<;>(cases h2; done))
  case seq=>split at hc<;>cases hc
  case cond=>split at hc<;>cases hc
  all_goals (first | (cases hc; done) | (obtain⟨_,_,hc⟩:=hc; cases hc))
 | ret=>
  intro C Q nm M a w hc h R hnt hdf;cases C<;>simp only[Bc,Xf.strip,zG] at hc
  case ret=>exact wp_ret ⟨.ret,nm,M,rfl,h,R,hnt,hdf⟩
  case region id ops d=>cases d<;>first | (rcases(Du hc).imp_left Dn with (⟨is,h2,h1⟩ | ⟨_,_,_,_,_,h2,_⟩ | ⟨_,_,_,_,_,_,h2,_⟩) | h2<;>(cases h2; done)) | (rcases Do hc with ⟨is,h1,h2⟩ | ⟨is,h1,h2⟩<;>(cases h2; done))
  case seq=>split at hc<;>cases hc
  case cond=>split at hc<;>cases hc
  all_goals (first | (cases hc; done) | (obtain⟨_,_,hc⟩:=hc; cases hc))
end
end
section
def DV.av:DV->AV
 | .sc d=> .v (.sc (.dat d))
 | .ag ds=> .v (.ag (ds.map .dat))
def Gt:zE->zA DV->zA (zE × AV)
 | _,[]=> []
 | k,d::ds=>(k,d.av)::Gt (k+1) ds
def St.init(ds:zA DV):St:=⟨Gt 0 ds,[],[]⟩
def QQ(rows:Rows):AC->RC->Prop
 | .dat d,.v d'=>d=d'
 | .nil,.o _ es=>es= []
 | .nil,.v d=>d= .sl []
 | .own id,.o sz es=>A1 rows id=W (sz,es)
 | _,_=>False
def Vs:AC->RC->zB zE
 | .own id,.o _ _=>W id
 | _,_=>I
def Tt(rows:Rows):zA AC->zA RC->Prop
 | [],[]=>True
 | c::cs,r::rs=>QQ rows c r/\Tt rows cs rs
 | _,_=>False
def Vu:zA AC->zA RC->zA (zB zE)
 | c::cs,r::rs=>Vs c r::Vu cs rs
 | _,_=> []
def QR(rows:Rows):AV->R1->Prop
 | .v (.sc c),.sc r=>QQ rows c r
 | .v (.ag cs),.ag rs=>Tt rows cs rs
 | _,_=>False
def Vt:AV->R1->zA (zB zE)
 | .v (.sc c),.sc r=> [Vs c r]
 | .v (.ag cs),.ag rs=>Vu cs rs
 | _,_=> []
inductive RV where
 | t (n:zE)
 | c (a:zE) (g:zD) (n:zE)
instance {n:zE}:OfNat RV n:=⟨.t n⟩
def ME(M:St):RV->AV
 | .t n=>M.get n
 | .c a g n=>(CS M g n (M.get a)).getD .undef
def OutVs(M:St):zA RV->zA R1->Prop
 | [],[]=>True
 | t::ts,r::rs=>QR M.rows (ME M t) r/\OutVs M ts rs
 | _,_=>False
def D4(M:St):zA RV->zA R1->zA (zB zE)
 | t::ts,r::rs=>Vt (ME M t) r++D4 M ts rs
 | _,_=> []
def Fc:zA (zB zE)->zD
 | []=>O
 | none::r=>Fc r
 | some i::r=> !r.contains (W i)&&Fc r
def QS(ts:zA RV)(rs:zA R1)(M:St):Prop:=OutVs M ts rs/\Fc (D4 M ts rs)=O
def DY(P:Program):zA ResultVar->zB (zA RV)
 | []=>W []
 | .tmp t::r=>(DY P r).map (.t t:: ·)
 | .cell a t::r=>match EG P t,DY P r with
  | some (g,n),W ts=>W (.c a g n::ts)
  | _,_=>I
def A5(ts:zA RV)(rs:zA R1)(e:Xl)(M:St):Prop:=
 match e with
 | .exit _=>False
 | .pan _=>False
 | _=>QS ts rs M
section
variable {P : Program}
def CRels.of_dat{X:Cx}:∀{ds:zA D} {vs:zA Value},Reps X.h ds vs->ds.length=vs.length->CRels X (ds.map .dat) vs
 | [],vs,_,hl=>by
  obtain rfl:vs= []:=List.length_eq_zero_iff.1 (by simpa using hl.symm);exact .nil
 | _::_,_,.cons a b,hl=> .cons (.dat a) (CRels.of_dat b (by simpa using hl))
def DVRel.vrel{X:Cx}{d:DV}{v:Value}(h:DVRel X.h d v):VRel X d.av v:=by
 cases h with
 | sc hr=>exact .v (.sc (.dat hr))
 | ag hr hl=>exact .v (.ag (CRels.of_dat hr hl))
def DVRels.len{h:A6}:∀{ds vs},DVRels h ds vs->ds.length=vs.length
 | _,_,.nil=>rfl
 | _,_,.cons _ b=>by simp[b.len]
def DVRels.get{h:A6}:∀{ds:zA DV} {vs:zA Value} (i:zE) {d:DV} {v:Value},DVRels h ds vs->ds[i]?=W d->vs[i]?=W v->DVRel h d v
 | _,_,_,_,_,.nil,hd,_=>by simp at hd
 | _,_,0,_,_,.cons a _,hd,hv=>by simp at hd hv; subst hd hv; exact a
 | _,_,i+1,_,_,.cons _ b,hd,hv=>DVRels.get i b (by simpa using hd) (by simpa using hv)
def YY:∀(ds:zA DV) (k i:zE),A1 (Gt k ds) i=if k<=i then(ds[i - k]?).map DV.av else I
 | [],k,i=>by simp[Gt,A1]
 | d::ds,k,i=>by
  simp only[Gt,A1];by_cases hk:k=i
  .subst hk; simp
  .have h':=Cg hk;rw[h',cond_false,YY ds (k+1) i];by_cases h1:k<=i
   .rw[if_pos a9,if_pos h1,show i - k=(i - (k+1))+1 by omega]; simp
   .rw[if_neg a9,if_neg h1]
def Glob.mk1{A:B9}{B:zE}{w:World}{np:Ac}(h:∀b,B<=b->A b (0,0)):Glob (.of A) B (.of w np):=
 ⟨fun b hb=>hb.elim (h b) fun h=>h.elim,fun _ _ h=>h.elim,fun _ _ h=>h.elim,fun _ _ h=>h.elim,fun h=>by cases h⟩
def xK{w:World}{A0:B9}{ds:zA DV}{vs:zA Value}(nt:zE)(hG:GoodW w)(h:DVRels (Al A0 w) ds vs) :
  Rel (.of fun b fr=>A0 b fr\/(w.heap.size<=b/\fr=(0,0))) w.heap.size (.of w (fun _=>I)) (fun _=>I) (St.init ds) (vs.toArray++Array.replicate (nt - vs.toArray.size) undef) w:=by
 refine⟨BelowX.start _ _ (fun _ h=>h.elim),zU _,Glob.mk1 fun b hb=> .inr ⟨hb,zF⟩,fun w2 hb=>hG.below (hb.plain fun _=>rfl),fun i b h=>(by cases h),fun i j b h=>(by cases h),fun i _=>rfl,fun k=> ?_,fun id cs h=>by simp[St.init,A1] at h⟩;unfold St.get St.init;simp only;rw[YY ds 0 k];simp only[yE,if_true,Nat.sub_zero];cases hd:ds[k]? with
 | none=>exact .undef
 | some d=>
  have hk:k<vs.length:=by rw[<- h.len]; exact(zJ.1 hd).1
  have hv:vs[k]?=W (vs[k]'hk):=zO hk
  have e:(vs.toArray++Array.replicate (nt - vs.toArray.size) undef).getD k undef=vs[k]'hk:=by
   rw[Array.getD_eq_getD_getElem?,Array.getElem?_append_left (by simpa using hk)];simp[hk]
  rw[e];have hr:=(h.get k hd hv);have hh:DVRel (A9 (fun b fr=>A0 b fr\/(w.heap.size<=b/\fr=(0,0))) (fun _=>I) w) d (vs[k]'hk):=hr.mono fun b C ⟨c,t,fr,h0,h1,h2⟩=>⟨fun _=>by simp,c,t,fr,.inl h0,h1,h2⟩
  exact DVRel.vrel (X:=cx (.of fun b fr=>A0 b fr\/(w.heap.size<=b/\fr=(0,0))) (fun _=>I) (St.init ds) w) hh
section
variable {A : Ar} {nm : Ac} {M : St} {w : World} {h' : A6}
def Ba(nm:Ac)(o:zB zE):zB zE:=o.bind fun id=>nm (2*id+1)
def ct(hh:∀b C,A9 A nm w b C->h' b C){c:AC}{r:RC}{v:Value}(H:CRel (cx A nm M w) c v)(ho:QQ M.rows c r):RCRel h' w r v (Ba nm (Vs c r)):=by
 cases c<;>cases r<;>simp only[QQ] at ho<;>try exact ho.elim
 case dat.v d d'=>
  subst ho;cases H with | dat hr=>exact .v (hr.mono hh)
 case nil.v d=>
  subst ho;cases H;exact .v .nil
 case nil.o sz es=>
  subst ho;cases H;exact .nil
 case own.o id sz es=>
  cases H with
  | ownNil h1 h2=>
   have:=(zT (h1.symm.trans ho));cases this;show RCRel h' w (.o _ []) _ (nm (2*id+1))
   rw[show nm (2*id+1)=I from h2];exact .nil
  | own h1 h2 h3 h4=>
   have:=(zT (h1.symm.trans ho));cases this;show RCRel h' w (.o _ _) _ (nm (2*id+1))
   rw[show nm (2*id+1)=W _ from h2];exact .o (h3.move hh zF) h4
  | ownDead h1 _=>exact absurd (h1.symm.trans ho) d0
def cu(hh:∀b C,A9 A nm w b C->h' b C):∀{cs:zA AC} {rs:zA RC} {vs:zA Value},CRels (cx A nm M w) cs vs->Tt M.rows cs rs->RCRels h' w rs vs ((Vu cs rs).map (Ba nm))
 | [],[],_,.nil,_=> .nil
 | [],_::_,_,_,h=>h.elim
 | _::_,[],_,_,h=>h.elim
 | _::_,_::_,_,.cons a b,h=> .cons (ct hh a h.1) (cu hh b h.2)
def cv(hh:∀b C,A9 A nm w b C->h' b C){av:AV}{r:R1}{v:Value}(H:VRel (cx A nm M w) av v)(ho:QR M.rows av r):R1Rel h' w r v ((Vt av r).map (Ba nm)):=by
 cases H with
 | undef=>cases r<;>exact ho.elim
 | no=>cases r<;>exact ho.elim
 | tup=>cases r<;>exact ho.elim
 | ev=>cases r<;>exact ho.elim
 | v hx=>
  cases hx with
  | sc hc=>
   cases r with
   | sc r=>exact .sc (ct hh hc ho)
   | ag rs=>exact ho.elim
  | ag hcs=>
   cases r with
   | sc r=>exact ho.elim
   | ag rs=>exact .ag (cu hh hcs ho)
def I0{P:Program}{B:zE}{w0:Base}{act:Act}(R:Rel A B w0 nm M act.tmps w)(hh:∀b C,A9 A nm w b C->h' b C){f:ResultVar->Sem Value}(hf:∀t,f (.tmp t)=pure (act.tmps.getD t undef))
  (hg:∀a t,f (.cell a t)=(do loadVar t (<- asAddr (act.tmps.getD a undef)))):∀{vars:zA ResultVar} {ts:zA RV} {rs:zA R1},DY P vars=W ts->OutVs M ts rs->
  ∃vs:zA Value,(vars.mapM f).run P w= .ok vs w/\vs.length=ts.length/\R1Rels h' w rs vs ((D4 M ts rs).map (Ba nm))
 | [],ts,rs,hc,ho=>by
  simp[DY] at hc
  subst hc;cases rs with
  | nil=>exact⟨[],d0,rfl,.nil⟩
  | cons=>exact ho.elim
 | .tmp t::r,ts,rs,hc,ho=>by
  simp only[DY,zG] at hc
  obtain⟨ts',h1,rfl⟩:=hc;cases rs with
  | nil=>exact ho.elim
  | cons r1 rs=>
   obtain⟨vs,h2,h3,h4⟩:=I0 R hh hf hg h1 ho.2;refine⟨act.tmps.getD t undef::vs,?_,by simp[h3],?_⟩
   .simp only[yQ,hf,Sem.run_bind,Sem.run_pure,Result.andThen_ok,h2]
   .simp only[D4,List.map_append];exact .cons (cv hh (R.env t) ho.1) h4
 | .cell a t::r,ts,rs,hc,ho=>by
  simp only[DY] at hc
  split at hc
  .rename_i g n ts' h0 h1
   cases hc;cases rs with
   | nil=>exact ho.elim
   | cons r1 rs=>
    obtain⟨vs,h2,h3,h4⟩:=I0 R hh hf hg h1 ho.2;have ho1:QR M.rows ((CS M g n (M.get a)).getD .undef) r1:=ho.1;cases hl:CS M g n (M.get a) with
    | none=>rw[hl] at ho1; cases r1<;>exact ho1.elim
    | some av=>
     rw[hl] at ho1
     obtain⟨v,hv,hrel⟩:=cF (P:=P) R h0 (R.env a) hl
     have hv2:(f (.cell a t)).run P w= .ok v w:=by
      rw[hg];unfold Instr.loadAt Instr.sureAddr at hv
      unfold asAddr;revert hv
      cases act.tmps.getD a undef with
      | pointer p=>cases p<;>simp
      | _=>simp
     refine⟨v::vs,?_,by simp[h3],?_⟩
     .simp only[yQ,Sem.run_bind,hv2,Sem.run_pure,Result.andThen_ok,h2]
     .simp only[D4,ME,hl,yO,List.map_append];exact .cons (cv hh hrel ho1) h4
  .cases hc
end
def SV:∀{l:zA (zB zE)},Fc l=O->∀(i j id:zE),l[i]?=W (W id)->l[j]?=W (W id)->i=j
 | [],_,i,_,_,h1,_=>by simp at h1
 | x::r,h,0,0,_,_,_=>rfl
 | x::r,h,i+1,j+1,id,h1,h2=>by
  have hr:Fc r=O:=by
   cases x with
   | none=>exact h
   | some y=>simp only[Fc,zH] at h; exact h.2
  have:=SV hr i j id (by simpa using h1) (by simpa using h2);omega
 | x::r,h,0,j+1,id,h1,h2=>by
  simp at h1 h2
  subst h1;simp only[Fc,zH,zK,zM,decide_eq_false_iff_not] at h;exact absurd (zQ h2) h.1
 | x::r,h,i+1,0,id,h1,h2=>by
  simp at h1 h2
  subst h2;simp only[Fc,zH,zK,zM,decide_eq_false_iff_not] at h;exact absurd (zQ h1) h.1
def OutVs.len{M:St}:∀{ts:zA RV} {rs:zA R1},OutVs M ts rs->rs.length=ts.length
 | [],[],_=>rfl
 | [],_::_,h=>h.elim
 | _::_,[],h=>h.elim
 | _::_,_::_,h=>by simp[OutVs.len h.2]
def iH(hm:P.follows .mixedOrders=O){f:FuncId}{fn:Func}{C:Code}{c:Xf}{ts:zA RV}{ds:zA DV}{rs:zA R1}(hf:P.funcs[f]?=W fn)(hb:fn.body=W C)(hc:Bc P fn.ntmps C=W c.strip)
  (hr:DY P fn.results.toList=W ts) (hl:ds.length<=fn.ntmps) (h:B0 P c (A5 ts rs) (St.init ds)):FC P f ds rs:=by
 intro w A0 vs hG hvs;refine calls_of_wp hf hb ?_;have hlen:=hvs.len;refine wp_mono (Iq (df:= []) hm c C _ (fun _=>I) (St.init ds) _ w hc h (xK fn.ntmps hG hvs) d3 zF) fun e a w' hp=> ?_
 obtain⟨e',nm,M,he,hq,R,hnt,hdf⟩:=hp
 have key:QS ts rs M->a.defers= []/\∃v,(results fn a.tmps).run P w'= .ok v w'/\∃(v':Value) (bs:zA (zB zE)),Ending.returned v= .returned v'/\RowKit.Below w.heap.size w w'/\
   RRel (Al (fun b fr=>W b∉bs/\((w.heap.size<=b/\fr=(0,0))\/A0 b fr)) w') w' rs v' bs/\(∀b,W b∈bs->w.heap.size<=b/\b<w'.heap.size)/\(∀(i j b:zE),bs[i]?=W (W b)->bs[j]?=W (W b)->i=j):=by
  rintro⟨ho,hnd⟩
  let ids:=D4 M ts rs
  have hbs:∀b,W b∈ids.map (Ba nm)->∃id,W id∈ids/\nm (2*id+1)=W b:=by
   intro b hb;obtain⟨o,ho,hb⟩:=yM.1 hb;cases o with
   | none=>simp[Ba] at hb
   | some id=>exact⟨id,ho,hb⟩
  have hview:∀b C,A9 (fun b fr=>A0 b fr\/(w.heap.size<=b/\fr=(0,0))) nm w' b C->Al (fun b fr=>W b∉ids.map (Ba nm)/\((w.heap.size<=b/\fr=(0,0))\/A0 b fr)) w' b C:=by
   rintro b C ⟨h1,c,t,fr,h2,h3⟩
   refine⟨c,t,fr,⟨fun hb=> ?_,h2.symm⟩,h3⟩;obtain⟨id,_,hn⟩:=hbs b hb;exact h1 _ hn
  obtain⟨vs',hrun,hvl,hrel⟩:=I0 (P:=P) (f:=fun | .tmp t=>pure (a.tmps.getD t undef) | .cell c t=>do loadVar t (<- asAddr (a.tmps.getD c undef))) R hview (fun _=>rfl) (fun _ _=>rfl) hr ho;refine⟨hdf,(if h:vs'.length=1 then vs'[0] else .tuple vs'.toArray),?_,_,ids.map (Ba nm),zF,R.below.plain (fun _=>rfl),?_,fun b hb=> ?_,fun i j b hi hj=> ?_⟩
  .unfold results;rw[<- Array.toArray_toList (xs:=fn.results)];simp only[List.mapM_toArray,Sem.run_bind,map_eq_pure_bind];erw [hrun]
   simp only[Result.andThen_ok,Sem.run_pure];simp
  .split
   .rename_i h1
    obtain⟨v1,rfl⟩:=yF.1 h1;have hrl:rs.length=1:=by rw[ho.len,<- hvl]; exact h1
    obtain⟨r,rfl⟩:=yF.1 hrl;revert hrel
    show R1Rels _ _ [r] [v1] (ids.map (Ba nm))->_
    generalize ids.map (Ba nm)=bs
    intro hrel;cases hrel with
    | cons h1 h2=>
     cases h2;simp only[List.append_nil] at h1 ⊢
     exact .one h1
   .rename_i h1
    refine .many ?_ hrel;rw[ho.len,<- hvl];exact h1
  .obtain⟨id,_,hn⟩:=hbs b hb;obtain⟨k1,k2⟩:=R.names _ _ hn;refine⟨k1.resolve_right ?_,k2⟩;intro hmm;obtain⟨i,_,hi⟩:=Base.of_M hmm;cases hi
  .simp only[yL,zG] at hi hj
   obtain⟨x,hx,hxb⟩:=hi;obtain⟨y,hy,hyb⟩:=hj;cases x with
   | none=>simp[Ba] at hxb
   | some x=>
    cases y with
    | none=>simp[Ba] at hyb
    | some y=>
     have:=R.inj _ _ _ hxb hyb;have e:x=y:=by omega
     subst e;exact SV hnd i j x hx hy
 cases e' with
 | normal=>obtain rfl:e= .normal:=he; exact key hq
 | ret=>obtain rfl:e= .ret:=he; exact key hq
 | exit id=>exact hq.elim
 | pan d=>exact hq.elim
end
def XC.ac:XC->AC
 | .d x=> .dat x
 | .r j=> .own (99999999999+j)
def XV.av:XV->AV
 | .sc c=> .v (.sc c.ac)
 | .ag cs=> .v (.ag (cs.map XC.ac))
def Mm:zE->zA XV->zA (zE × AV)
 | _,[]=> []
 | k,x::xs=>(k,x.av)::Mm (k+1) xs
def Qo:zE->Ao->Rows
 | _,[]=> []
 | k,r::R=>(99999999999+k,r)::Qo (k+1) R
def St.initX(xs:zA XV)(R0:Ao):St:=⟨Mm 0 xs,[],Qo 0 R0⟩
def Z1:∀(xs:zA XV) (k i:zE),A1 (Mm k xs) i=if k<=i then(xs[i - k]?).map XV.av else I
 | [],k,i=>by simp[Mm,A1]
 | x::xs,k,i=>by
  simp only[Mm,A1];by_cases hk:k=i
  .subst hk; simp
  .have h':=Cg hk;rw[h',cond_false,Z1 xs (k+1) i];by_cases h1:k<=i
   .rw[if_pos a9,if_pos h1,show i - k=(i - (k+1))+1 by omega]; simp
   .rw[if_neg a9,if_neg h1]
def Z7:∀(R:Ao) (k j:zE),k<=j->A1 (Qo k R) (99999999999+j)=R[j - k]?
 | [],k,j,_=>by simp[Qo,A1]
 | r::R,k,j,h=>by
  simp only[Qo,A1];by_cases hk:k=j
  .subst hk; simp
  .have h':(99999999999+k==99999999999+j)=V:=by simpa using hk
   rw[h',cond_false,Z7 R (k+1) j a9,show j - k=(j - (k+1))+1 by omega]; simp
def RowsOut(M:St):zE->Ao->zA (zE × zE)->Prop
 | j,row::R,(k,p)::ps=>((∃x,M.get k= .v x/\x.cells[p]?=W (.own (99999999999+j)))/\A1 M.rows (99999999999+j)=W row)/\RowsOut M (j+1) R ps
 | _,[],[]=>True
 | _,_,_=>False
def RowsOut.there{M:St}:∀{R:Ao} {ps:zA (zE × zE)} {k j:zE},RowsOut M k R ps->j<R.length->∃(row:zE × zA (zA D)) (l p:zE) (x:V1),R[j]?=W row/\M.get l= .v x/\x.cells[p]?=W (AC.own (99999999999+(k+j)))/\A1 M.rows (99999999999+(k+j))=W row
 | [],ps,_,j,_,h=>by simp at h
 | row::R,[],_,_,h,_=>h.elim
 | row::R,(l,p)::ps,k,j,h,hj=>by
  obtain⟨⟨⟨x,h1,h2⟩,h3⟩,h4⟩:=h;cases j with
  | zero=>exact⟨row,l,p,x,d0,h1,h2,h3⟩
  | succ j=>
   obtain⟨row',l',p',x',k1,k2,k3,k4⟩:=RowsOut.there (j:=j) h4 (by simpa using hj);exact⟨row',l',p',x',by simpa using k1,k2,by rw[show k+(j+1)=k+1+j by omega]; exact k3,by rw[show k+(j+1)=k+1+j by omega]; exact k4⟩
def CZ(ts:zA RV)(r:D)(R1:Ao)(ps:zA (zE × zE))(e:Xl)(M:St):Prop:=
 match e with
 | .exit _=>False
 | .pan _=>False
 | _=>OutVs M ts [.sc (.v r)]/\RowsOut M 0 R1 ps
section
variable {P : Program}
def Xo.get{w:World}{bs:zA (zB zE)}{R:Ao}:∀{xs:zA XV} {vs:zA Value} (i:zE) {x:XV} {v:Value},Xo w bs R xs vs->xs[i]?=W x->vs[i]?=W v->Xr w bs R x v
 | _,_,_,_,_,.nil,hd,_=>by simp at hd
 | _,_,0,_,_,.cons a _,hd,hv=>by simp at hd hv; subst hd hv; exact a
 | _,_,i+1,_,_,.cons _ b,hd,hv=>Xo.get i b (by simpa using hd) (by simpa using hv)
def Xq.crel{w:World}{bs:zA (zB zE)}{R0:Ao}{xs:zA XV}{c:XC}{v:Value}(H:Xq w bs R0 c v):CRel (cx (.of fun _ _=>True) (Bg bs) (St.initX xs R0) w) c.ac v:=by
 have hf:∀j,A1 (St.initX xs R0).rows (99999999999+j)=R0[j]?:=fun j=>Z7 R0 0 j (yE _)
 have hn:∀(j:zE) (o:zB zE),bs[j]?=W o->Bg bs (2*(99999999999+j)+1)=o:=fun j o h=>by
  have:=MB h;rwa [show AG+2*j+1=2*(99999999999+j)+1 by unfold AG; omega] at this
 cases H with
 | d h=>exact .dat (h.mono GE)
 | @nil j sz a0 h1 h2=>exact .ownNil ((hf j).trans h1) (hn j _ h2)
 | @r j sz es b cap len h1 h2 h3 h4=>exact .own ((hf j).trans h1) (hn j _ h2) h3.any h4
def Xp.crels{w:World}{bs:zA (zB zE)}{R0:Ao}{xs:zA XV}:∀{cs:zA XC} {vs:zA Value},Xp w bs R0 cs vs->CRels (cx (.of fun _ _=>True) (Bg bs) (St.initX xs R0) w) (cs.map XC.ac) vs
 | _,_,.nil=> .nil
 | _,_,.cons a b=> .cons a.crel b.crels
def Xr.vrel{w:World}{bs:zA (zB zE)}{R0:Ao}{xs:zA XV}{x:XV}{v:Value}(H:Xr w bs R0 x v):VRel (cx (.of fun _ _=>True) (Bg bs) (St.initX xs R0) w) x.av v:=by
 cases H with
 | sc h=>exact .v (.sc h.crel)
 | ag h=>exact .v (.ag h.crels)
def xG{w:World}{bs:zA (zB zE)}{xs:zA XV}{R0:Ao}{vs:zA Value}(nt:zE)(hinj:∀(i j b:zE),bs[i]?=W (W b)->bs[j]?=W (W b)->i=j)(hlt:∀b,W b∈bs->b<w.heap.size)
  (hG:∀w2,BelowX w.heap.size (.of w (Bg bs)) w2->GoodW w2) (h:Xo w bs R0 xs vs) :
  Rel (.of fun _ _=>True) w.heap.size (.of w (Bg bs)) (Bg bs) (St.initX xs R0) (vs.toArray++Array.replicate (nt - vs.toArray.size) undef) w:=by
 refine⟨BelowX.start _ _ (fun _ h=>h.elim),zU _,Glob.mk1 fun _ _=>trivial,hG,fun i b hi=> ?_,fun i j b hi hj=> ?_,fun i _=>rfl,fun k=> ?_,fun id cs h=>by simp[St.initX,A1] at h⟩
 .obtain⟨j,h1,h2⟩:=HY hi;exact⟨.inr (.inl ⟨i,a9,hi⟩),hlt b (zQ h2)⟩
 .obtain⟨x,h1,h2⟩:=HY hi;obtain⟨y,h3,h4⟩:=HY hj;have:=hinj x y b h2 h4;omega
 .unfold St.get;rw[show(St.initX xs R0).env=Mm 0 xs from rfl,Z1 xs 0 k];simp only[yE,if_true,Nat.sub_zero];cases hd:xs[k]? with
  | none=>exact .undef
  | some x=>
   have hk:k<vs.length:=by rw[<- h.len]; exact(zJ.1 hd).1
   have hv:vs[k]?=W (vs[k]'hk):=zO hk
   have e:(vs.toArray++Array.replicate (nt - vs.toArray.size) undef).getD k undef=vs[k]'hk:=by
    rw[Array.getD_eq_getD_getElem?,Array.getElem?_append_left (by simpa using hk)];simp[hk]
   rw[e];exact(Xo.get k h hd hv).vrel
def iT(hm:P.follows .mixedOrders=O){f:FuncId}{fn:Func}{C:Code}{c:Xf}{ts:zA RV}{xs:zA XV}{R0 R1:Ao}{r:D}{ps:zA (zE × zE)}(hf:P.funcs[f]?=W fn)(hb:fn.body=W C)(hc:Bc P fn.ntmps C=W c.strip)
  (hr:DY P fn.results.toList=W ts) (hl:xs.length<=fn.ntmps) (hlen:R1.length=R0.length) (hrf:r.flat=O) (hR1:DJ R1) (h:B0 P c (CZ ts r R1 ps) (St.initX xs R0)):FCx P f xs R0 R1 r:=by
 intro w vs bs hbl hinj hlt hG hvs;refine calls_of_wp hf hb ?_;have hlv:=hvs.len;refine wp_mono (Iq (df:= []) hm c C _ (Bg bs) (St.initX xs R0) _ w hc h (xG fn.ntmps hinj hlt hG hvs) d3 zF) fun e a w' hp=> ?_
 obtain⟨e',nm,M,he,hq,R,hnt,hdf⟩:=hp
 have key:OutVs M ts [.sc (.v r)]/\RowsOut M 0 R1 ps->a.defers= []/\∃v,(results fn a.tmps).run P w'= .ok v w'/\∃v':Value,Ending.returned v= .returned v'/\BelowX w.heap.size (.of w (Bg bs)) w'/\Rep BP r v'/\
   ∀(j b:zE),bs[j]?=W (W b)->∃sz es cap,R1[j]?=W (sz,es)/\OwnB BP w' b sz cap es:=by
  rintro⟨ho,hro⟩
  obtain⟨vs',hrun,hvl,hrel⟩:=I0 (P:=P) (h':=A9 (fun _ _=>True) nm w') (f:=fun | .tmp t=>pure (a.tmps.getD t undef) | .cell c t=>do loadVar t (<- asAddr (a.tmps.getD c undef))) R (fun _ _ h=>h) (fun _=>rfl) (fun _ _=>rfl) hr ho;have h1:vs'.length=1:=by rw[hvl,<- ho.len]; rfl
  obtain⟨v1,rfl⟩:=yF.1 h1
  have hv1:Rep BP r v1:=by
   generalize List.map (Ba nm) _=q at hrel
   cases hrel with | cons a b=>
   cases a with | sc a=>
   cases a with | v a=>exact a.flat hrf
  refine⟨hdf,v1,?_,v1,zF,R.below,hv1,fun j b hj=> ?_⟩
  .unfold results;rw[<- Array.toArray_toList (xs:=fn.results)];simp only[List.mapM_toArray,Sem.run_bind,map_eq_pure_bind];erw [hrun]
   simp only[Result.andThen_ok,Sem.run_pure];simp
  .have hjl:j<R1.length:=by rw[hlen,<- hbl]; exact(zJ.1 hj).1
   obtain⟨row,l,p,x,k1,k2,k3,k4⟩:=hro.there hjl;obtain⟨sz,es⟩:=row;rw[yG] at k3 k4
   have hv:=R.env l;rw[k2] at hv
   have hy:V1Rel (cx (.of fun _ _=>True) nm M w') x (a.tmps.getD l undef):=by cases hv with | v H=>exact H
   obtain⟨v,_,hcr⟩:=hy.cells.get k3
   have hpin:nm (2*(99999999999+j)+1)=W b:=by
    have e:AG+2*j+1=2*(99999999999+j)+1:=by unfold AG; omega
    rw[<- e,R.pin _ a9];exact MB hj
   rcases hcr.inv_own k4 with ⟨_,k5,_⟩|⟨b',cap,k5,k6,_⟩
   .rw[show(cx (.of fun _ _=>True) nm M w').nm=nm from rfl,hpin] at k5; cases k5
   .rw[show(cx (.of fun _ _=>True) nm M w').nm=nm from rfl,hpin] at k5
    cases k5;exact⟨sz,es,cap,k1,Z9 k6 fun e he d hd=>hR1 _ (zQ k1) e he d hd⟩
 cases e' with
 | normal=>obtain rfl:e= .normal:=he; exact key hq
 | ret=>obtain rfl:e= .ret:=he; exact key hq
 | exit id=>exact hq.elim
 | pan d=>exact hq.elim
end
end
section
def AF(P:Program)(f:FuncId):zB (Xf × zA RV × zE):=
 match P.funcs[f]? with
 | some fn=>match fn.body,DY P fn.results.toList with
  | some C,W ts=>(Bc P fn.ntmps C).map fun c=>(c,ts,fn.ntmps)
  | _,_=>I
 | none=>I
def iF{P:Program}(hm:P.follows .mixedOrders=O){f:FuncId}{c:Xf}{ts:zA RV}{nt:zE}{ds:zA DV}{rs:zA R1}(he:AF P f=W (c.strip,ts,nt))(hl:ds.length<=nt)(h:B0 P c (A5 ts rs) (St.init ds)):FC P f ds rs:=by
 unfold AF at he
 split at he
 .rename_i fn hf
  split at he
  .rename_i C ts' hb hr
   simp only[zG] at he
   obtain⟨c',hc,e⟩:=he;cases e;exact iH hm hf hb hc hr hl h
  .cases he
 .cases he
def iS{P:Program}(hm:P.follows .mixedOrders=O){f:FuncId}{c:Xf}{ts:zA RV}{nt:zE}{xs:zA XV}{R0 R1:Ao}{r:D}{ps:zA (zE × zE)}(he:AF P f=W (c.strip,ts,nt))(hl:xs.length<=nt)(hlen:R1.length=R0.length)(hrf:r.flat=O)(hR1:DJ R1)
  (h:B0 P c (CZ ts r R1 ps) (St.initX xs R0)):FCx P f xs R0 R1 r:=by
 unfold AF at he
 split at he
 .rename_i fn hf
  split at he
  .rename_i C ts' hb hr
   simp only[zG] at he
   obtain⟨c',hc,e⟩:=he;cases e;exact iT hm hf hb hc hr hl hlen hrf hR1 h
  .cases he
 .cases he
section
variable {P : Program} {Q : Xl -> St -> Prop} {M : St} {K : St -> Prop} {r : zA AItem}
def TA{g:zB (zE × zD)}{y y' n n':Prop}(h1:y->y')(h2:n->n')(h:AK g M y n):AK g M y' n':=by
 rcases TC h with ⟨hw,h⟩|⟨t,want,rfl,hd,h⟩
 .exact KL hw (h1 h)
 .exact TB hd (h2 h)
def TF{o:AOp}{K K':St->Prop}(hk:∀M,K M->K' M)(h:AZ P o K M):AZ P o K' M:=by
 have plain:(match M.step o with | some M'=>K M' | none=>False)->(match M.step o with | some M'=>K' M' | none=>False):=by
  intro h;split at h
  .exact hk _ h
  .exact h.elim
 cases o<;>first
  | exact plain h
  | skip
 case call=>
  rcases h with ⟨ds,rs,h1,h2,h3,h4,h5⟩|⟨ids,xs,R0,R1,r,h1,h2,h3⟩|⟨S,h1,h2⟩
  .exact .inl ⟨ds,rs,h1,h2,h3,h4,hk _ h5⟩
  .exact .inr (.inl ⟨ids,xs,R0,R1,r,h1,h2,hk _ h3⟩)
  .exact .inr (.inr ⟨S,h1,fun M' r hs=>hk _ (h2 M' r hs)⟩)
 case callv=>
  rcases h with ⟨f,caps,ds,rs,h1,h0,h2,h3,h4,h5⟩|⟨f,ids,M',r,h1,h0,h2,h3⟩
  .exact .inl ⟨f,caps,ds,rs,h1,h0,h2,h3,h4,hk _ h5⟩
  .exact .inr ⟨f,ids,M',r,h1,h0,h2,hk _ h3⟩
def mg{N:zA zE}{o:AOp}{K K':St->Prop}(hk:∀M,K M->K' M)(h:GS P N o K M):GS P N o K' M:=by
 have plain:(match (M.less N).pure o with
   | some (d,v)=>v.avoids N=O/\K (M.set d v)
   | none=>match (M.less N).made o with
    | some m=>(match m with | .box _ cs=>cs.all (·.avoids N) | _=>O)=O/\(match M.make m with
     | some M'=>K M'
     | none=>False)
    | none=>False)->(match (M.less N).pure o with
   | some (d,v)=>v.avoids N=O/\K' (M.set d v)
   | none=>match (M.less N).made o with
    | some m=>(match m with | .box _ cs=>cs.all (·.avoids N) | _=>O)=O/\(match M.make m with
     | some M'=>K' M'
     | none=>False)
    | none=>False):=by
  intro h;split at h
  .exact⟨h.1,hk _ h.2⟩
  .split at h
   .refine⟨h.1,?_⟩;have h2:=h.2;split at h2
    .exact hk _ h2
    .exact h2.elim
   .exact h.elim
 cases o<;>first
  | exact plain h
  | skip
 case call=>
  obtain⟨ds,rs,h1,h2,h3,h4,h5⟩:=h;exact⟨ds,rs,h1,h2,h3,h4,hk _ h5⟩
 case callv=>
  obtain⟨f,caps,ds,rs,h1,h0,h2,h3,h4,h5⟩:=h;exact⟨f,caps,ds,rs,h1,h0,h2,h3,h4,hk _ h5⟩
def MY{K K':St->Prop}(hk:∀M,K M->K' M):∀{its:zA AItem} {M:St},Bk P its K M->Bk P its K' M
 | [],_,h=>hk _ h
 | (g,o)::r,M,h=>by
  refine TA (TF fun M h=>MY hk h) (fun h=> ?_) h;split at h
  .exact MY hk h
  .exact h
def MU{K K':St->Prop}(hk:∀M,K M->K' M):∀{its:zA AY} {M:St},Co P its K M->Co P its K' M
 | [],_,h=>hk _ h
 | (I,g,o)::r,M,h=>by
  refine TA (TF fun M h=>⟨h.1,MU hk h.2⟩) (fun h=> ?_) h;split at h
  .exact⟨h.1,MU hk h.2⟩
  .exact h
 | (W N,g,o)::r,M,h=>by
  refine TA (mg fun M h=>MU hk h) (fun h=> ?_) h;split at h
  .exact MU hk h
  .exact h
def Yh:∀(c:Xf) {Q Q':Xl->St->Prop} {M:St},(∀e M,Q e M->Q' e M)->B0 P c Q M->B0 P c Q' M:=by
 intro c
 induction c with
 | skip=>exact fun hq h=>hq _ _ h
 | reg its=>exact fun hq h=>MY (fun M=>hq _ M) h
 | drw its=>exact fun hq h=>⟨h.1,MU (fun M=>hq _ M) h.2⟩
 | any its=>exact fun hq ⟨ks,bs,rs,T,h1,h2⟩=>⟨ks,bs,rs,T,h1,fun τ k=>hq _ _ (h2 τ k)⟩
 | hook nt C=>exact fun hq ⟨τ,h1,h2⟩=>⟨τ,h1,hq _ _ h2⟩
 | seq x y ihx ihy=>
  intro Q Q' M hq h;refine ihx (fun e M' h=> ?_) h;cases e with
  | normal=>exact ihy hq h
  | exit id=>exact hq _ _ h
  | ret=>exact hq _ _ h
  | pan d=>exact hq _ _ h
 | cond c x y ihx ihy=>
  intro Q Q' M hq h;simp only[B0] at h ⊢
  split
  .rename_i b hb
   rw[hb] at h;simp only at h;split
   .rename_i e; rw[if_pos e] at h; exact ihx hq h
   .rename_i e; rw[if_neg e] at h; exact ihy hq h
  .rename_i hne
   split at h
   .rename_i b hb; exact(hne b hb).elim
   .exact h
 | block id c ih=>
  intro Q Q' M hq h;refine ih (fun e M' h=> ?_) h;cases e with
  | normal=>exact hq _ _ h
  | ret=>exact hq _ _ h
  | pan d=>exact hq _ _ h
  | exit i=>
   change (if i=id then Q .normal M' else Q (.exit i) M') at h
   change (if i=id then Q' .normal M' else Q' (.exit i) M')
   split
   .rename_i e; rw[if_pos e] at h; exact hq _ _ h
   .rename_i e; rw[if_neg e] at h; exact hq _ _ h
 | loop c ih=>
  intro Q Q' M hq h;intro X hX;refine h X fun M' h'=>hX M' (ih (fun e M'' h=> ?_) h')
  cases e with
  | normal=>exact h
  | exit id=>exact hq _ _ h
  | ret=>exact hq _ _ h
  | pan d=>exact hq _ _ h
 | pan its x=>exact fun hq h=>MY (fun M ⟨d,h1,h2,h3,h4⟩=>⟨d,h1,h2,h3,hq _ _ h4⟩) h
 | cal its d f args=>exact fun hq h=>MY (fun M h=>h.imp (fun h=>TF (fun M=>hq _ M) h) fun⟨ds,pd,h1,h2,h3⟩=>⟨ds,pd,h1,h2,hq _ _ h3⟩) h
 | exit id=>exact fun hq h=>hq _ _ h
 | ret=>exact fun hq h=>hq _ _ h
end
end
section
inductive Fr where
 | code (c:Xf)
 | ops (its:zA AItem)
 | dops (its:zA AY)
 | blk (id:zE)
 | pick (v:AV) (x y:Xf)
 | gd (v:AV) (want:zD) (o:AOp) (its:zA AItem)
 | gdd (v:AV) (want:zD) (N:zB (zA zE)) (o:AOp) (its:zA AY)
 | fr (b:zD)
 | frs (its:zA AY)
 | panF (x:Opd)
 | calF (d:zE) (f:FuncId) (args:zA Opd)
def Cj{α:Type}(o:zB α)(f:α->Prop):Prop:=
 match o with
 | some a=>f a
 | none=>False
def BM(v:AV)(X Y Z:Prop):Prop:=
 match v with
 | .v (.sc (.dat (.bool b)))=>if b=O then X else Y
 | .no=>Z
 | _=>False
def AB(M:St)(d:zE):zB AV->zB St
 | some v=>W (M.set d v)
 | none=>I
def CV(M:St):zB zE->zB St
 | some d=>W (M.set d .no)
 | none=>I
def mk1(M:St):zB Mk->zB St
 | some m=>M.make m
 | none=>I
def AL(P:Program):zA Fr->(Xl->St->Prop)->Xl->St->Prop
 | [],Q,e,M=>Q e M
 | .code c::k,Q,.normal,M=>B0 P c (AL P k Q) M
 | .ops its::k,Q,.normal,M=>Bk P its (AL P k Q .normal) M
 | .dops its::k,Q,.normal,M=>Co P its (AL P k Q .normal) M
 | .pick v x y::k,Q,.normal,M=>BM v (B0 P x (AL P k Q) M) (B0 P y (AL P k Q) M) False
 | .gd v want o its::k,Q,.normal,M=>BM v (bif want then AZ P o (Bk P its (AL P k Q .normal)) M else Cj o.dst fun d=>Bk P its (AL P k Q .normal) (M.set d .no))
   (bif want then Cj o.dst fun d=>Bk P its (AL P k Q .normal) (M.set d .no) else AZ P o (Bk P its (AL P k Q .normal)) M)
   (Cj o.dst fun d=>Bk P its (AL P k Q .normal) (M.set d .no))
 | .gdd v want N o its::k,Q,.normal,M=>BM v (bif want then Co P ((N,I,o)::its) (AL P k Q .normal) M else Cj o.dst fun d=>Co P its (AL P k Q .normal) (M.set d .no))
   (bif want then Cj o.dst fun d=>Co P its (AL P k Q .normal) (M.set d .no) else Co P ((N,I,o)::its) (AL P k Q .normal) M)
   (Cj o.dst fun d=>Co P its (AL P k Q .normal) (M.set d .no))
 | .fr b::k,Q,.normal,M=>b=O/\AL P k Q .normal M
 | .frs its::k,Q,.normal,M=>D3 its M=O/\Co P its (AL P k Q .normal) M
 | .panF x::k,Q,.normal,M=>∃d,M.val x= .v (.sc (.dat d))/\d.flat=O/\UZ d=O/\AL P k Q (.pan d) M
 | .calF d f args::k,Q,.normal,M=>AZ P (.call d f args) (AL P k Q .normal) M\/∃ds pd,M.toDVs args=W ds/\MR P f ds pd/\AL P k Q (.pan pd) M
 | .blk id::k,Q,.exit i,M=>if i=id then AL P k Q .normal M else AL P k Q (.exit i) M
 | _::k,Q,e,M=>AL P k Q e M
def go(P:Program)(k:zA Fr)(Q:Xl->St->Prop)(e:Xl):zB St->Prop
 | some M=>AL P k Q e M
 | none=>False
def AOp.isPure:AOp->zD
 | .mv .. | .pick .. | .build .. | .load .. | .nilc .. | .bin .. | .beq .. | .geq .. | .un .. | .conv .. | .slc .. | .sslc .. | .faddr .. | .field .. | .iaddr .. | .aaddr .. | .idx .. | .extr .. | .len .. | .slen .. | .sconv .. | .mm .. | .mkf .. | .zsl _ | .mkif .. | .tass .. =>O
 | _=>V
def AOp.isMade:AOp->zD
 | .box .. | .alloc .. | .bslice .. | .mksl .. | .zap .. =>O
 | _=>V
def AOp.isCall:AOp->zD
 | .call .. | .callv .. =>O
 | .mv .. | .pick .. | .box .. | .alloc .. | .build .. | .bslice .. | .load .. | .store .. | .clr .. | .nilc .. | .bin .. | .beq .. | .geq .. | .un .. | .conv .. | .mksl .. | .slc .. | .sslc .. | .faddr .. | .field .. | .iaddr .. | .aaddr .. | .idx .. | .extr .. | .len .. | .slen .. | .sconv .. | .app .. | .mm .. | .mkf .. | .zsl _ | .zap .. | .mkif .. | .tass .. =>V
 | .drop _ | .own .. | .ownb .. | .ren .. | .frz _ | .frzb _ | .forget _ | .keep .. | .cut _=>V
section
variable {P : Program} {k : zA Fr} {Q : Xl -> St -> Prop} {M : St} {its : zA AItem} {ds : zA AY} {o : AOp} {N : zA zE}
def Kb{c:Xf}(h:go P [.code c] Q .normal (W M)):B0 P c Q M:=Yh c (fun _ _ h=>h) h
def vO{e}:go P k Q e I=False:=rfl
def vM{e}:go P [] Q e (W M)=Q e M:=rfl
def vg:go P (.code .skip::k) Q .normal (W M)=go P k Q .normal (W M):=rfl
def vY:go P (.code (.reg its)::k) Q .normal (W M)=go P (.ops its::k) Q .normal (W M):=rfl
def ui:go P (.code (.drw ds)::k) Q .normal (W M)=go P (.fr (D3 ds M):: .dops ds::k) Q .normal (W M):=rfl
def uq:go P (.fr O::k) Q .normal (W M)=go P k Q .normal (W M):=by simp[go,AL]
def vf{x y:Xf}:go P (.code (.seq x y)::k) Q .normal (W M)=go P (.code x:: .code y::k) Q .normal (W M):=by
 simp only[go,AL,B0];congr 1
 funext e M'
 cases e<;>simp only[AL]
def uU{id:zE}{c:Xf}:go P (.code (.block id c)::k) Q .normal (W M)=go P (.code c:: .blk id::k) Q .normal (W M):=by
 simp only[go,AL,B0];congr 1
 funext e M'
 cases e<;>simp only[AL]
def uj{id:zE}:go P (.code (.exit id)::k) Q .normal (W M)=go P k Q (.exit id) (W M):=rfl
def vd:go P (.code .ret::k) Q .normal (W M)=go P k Q .ret (W M):=rfl
def ub{c:Opd}{x y:Xf}:go P (.code (.cond c x y)::k) Q .normal (W M)=go P (.pick (M.val c) x y::k) Q .normal (W M):=by
 show(match M.val c with | .v (.sc (.dat (.bool b)))=>if b=O then B0 P x (AL P k Q) M else B0 P y (AL P k Q) M | _=>False)=BM (M.val c) _ _ _
 unfold BM;generalize M.val c=v
 cases v with
 | v x=>cases x with
  | sc c=>cases c with
   | dat d=>cases d<;>rfl
   | _=>rfl
  | ag=>rfl
 | _=>rfl
def vX{x y:Xf}:go P (.pick (.v (.sc (.dat (.bool O)))) x y::k) Q .normal (W M)=go P (.code x::k) Q .normal (W M):=by simp[go,AL,BM]
def vW{x y:Xf}:go P (.pick (.v (.sc (.dat (.bool V)))) x y::k) Q .normal (W M)=go P (.code y::k) Q .normal (W M):=by simp[go,AL,BM]
def vS{x:Opd}:go P (.code (.pan its x)::k) Q .normal (W M)=go P (.ops its:: .panF x::k) Q .normal (W M):=rfl
def uX{d f args}:go P (.code (.cal its d f args)::k) Q .normal (W M)=go P (.ops its:: .calF d f args::k) Q .normal (W M):=rfl
def S8{d f args}(H:go P (.ops [(I,.call d f args)]::k) Q .normal (W M)):go P (.calF d f args::k) Q .normal (W M):= .inl H
def vU{c:Xf}{d:D}:go P (.code c::k) Q (.pan d) (W M)=go P k Q (.pan d) (W M):=rfl
def uS{id:zE}{d:D}:go P (.blk id::k) Q (.pan d) (W M)=go P k Q (.pan d) (W M):=rfl
def DL{its:zA (zA zE × AItem)}{τ σ2:St}{ks bs rs:zA zE}(h0:(M.kept ks bs rs).pad (its.filterMap fun i=>i.2.2.dst)=σ2)(h1:Dl P its τ its.length (its.map fun _=>V) σ2)(h2:go P k Q .normal (W τ)):go P (.code (.any its)::k) Q .normal (W M):=
 ⟨ks,bs,rs,fun M=>M=τ,by subst h0; exact h1,fun _ e=>by cases e; exact h2⟩
def uK{its:zA (zA zE × AItem)}{T:St->Prop}{σ2:St}{ks bs rs:zA zE}(h0:(M.kept ks bs rs).pad (its.filterMap fun i=>i.2.2.dst)=σ2)(h1:CL P its T its.length (its.map fun _=>V) σ2)(h2:∀τ,T τ->go P k Q .normal (W τ)):go P (.code (.any its)::k) Q .normal (W M):=
 ⟨ks,bs,rs,_,h0▸h1,h2⟩
def VP(P:Program)(its:zA (zA zE × AItem))(T:St->Prop)(f:zE)(ms:zA zD)(M:St):zA (zA zE × AItem)->zE->Prop
 | [],_=>True
 | it::r,i=>(ms[i]?=W V->(∀j∈it.1,ms[j]?=W O)->∃pre post:zA AItem,pre.all (fun i=>i.2.idle)=O/\post.all (fun i=>i.2.idle)=O/\go P [.ops (pre++it.2::post)] (fun _=>CL P its T f (ms.set i O)) .normal (W M))/\VP P its T f ms M r (i+1)
def eA{its:zA (zA zE × AItem)}{T:St->Prop}{f:zE}{ms:zA zD}:∀{r:zA (zA zE × AItem)} {n:zE},VP P its T f ms M r n->∀(i:zE) (it:zA zE × AItem),r[i]?=W it->ms[n+i]?=W V->(∀j∈it.1,ms[j]?=W O)->∃pre post:zA AItem,pre.all (fun i=>i.2.idle)=O/\post.all (fun i=>i.2.idle)=O/\go P [.ops (pre++it.2::post)] (fun _=>CL P its T f (ms.set (n+i) O)) .normal (W M)
 | [],_,_,i,it,hi,_,_=>by simp at hi
 | x::r,n,h,0,it,hi,h1,h2=>by
  simp at hi
  subst hi;exact h.1 h1 h2
 | x::r,n,h,i+1,it,hi,h1,h2=>by
  have:=eA h.2 i it (by simpa using hi) (by rw[show n+1+i=n+(i+1) by omega]; exact h1) h2;rw[show n+1+i=n+(i+1) by omega] at this
  exact this
def Yc{it:AItem}{post:zA AItem}{K:St->Prop}:∀(pre:zA AItem) (M:St),pre.all (fun i=>i.2.idle)=O->Bk P (pre++it::post) K M->Bk P pre (fun M=>AK it.1 M (AZ P it.2 (Bk P post K) M) (match it.2.dst with | some d=>Bk P post K (M.set d .no) | none=>False)) M
 | [],_,_,h=>h
 | (g,o)::pre,M,hp,h=>by
  have hi:o.idle=O:=by simp only[zY,zH] at hp; exact hp.1
  have hp':pre.all (fun i=>i.2.idle)=O:=by simp only[zY,zH] at hp; exact hp.2
  have h':AK g M (AZ P o (Bk P (pre++it::post) K) M) (match o.dst with | some d=>Bk P (pre++it::post) K (M.set d .no) | none=>False):=h;show AK g M (AZ P o (Bk P pre _) M) _
  have hno:o.dst=I:=by cases o<;>first | rfl | (simp[AOp.idle] at hi; done)
  simp only[hno] at h' ⊢
  have key:∀X Y:St->Prop,(∀M,X M->Y M)->AZ P o X M->AZ P o Y M:=fun X Y hXY hx=>by
   cases o<;>first
    | (simp[AOp.idle] at hi; done)
    | (simp only[AZ] at hx ⊢; split at hx<;>simp_all)
  have mono:∀{X Y:Prop},(X->Y)->AK g M X False->AK g M Y False:=fun hXY hx=>by
   unfold AK at hx ⊢
   cases g with
   | none=>exact hXY hx
   | some g=>
    simp only at hx ⊢
    split
    .rename_i b hb
     rw[hb] at hx
     simp only at hx
     split at hx
     .rename_i e
      rw[if_pos e];exact hXY hx
     .exact hx.elim
    .rename_i hb
     rw[hb] at hx
     exact hx
    .rename_i h1 h2
     split at hx
     .rename_i b hb
      exact h1 b hb
     .rename_i hb
      exact h2 hb
     .exact hx
  exact mono (key _ _ fun M h=>Yc pre M hp' h) h'
def Ae{its:zA (zA zE × AItem)}{T:St->Prop}{f:zE}{ms:zA zD}(h:VP P its T f ms M its 0):CL P its T (f+1) ms M:=by
 intro i it hi h1 h2;obtain⟨pre,post,hp,hq,this⟩:=eA h i it hi (by simpa using h1) h2;rw[yG] at this
 exact⟨pre,post,hp,hq,Yc pre _ hp this⟩
def np{it:AItem}{Q:Xl->St->Prop}(h:go P [.ops [it]] Q .normal (W M)):∃pre post:zA AItem,pre.all (fun i=>i.2.idle)=O/\post.all (fun i=>i.2.idle)=O/\go P [.ops (pre++it::post)] Q .normal (W M):=⟨[],[],rfl,rfl,h⟩
def A7{α:Type}{a b:α}:(bif O then a else b)=a:=rfl
def A8{α:Type}{a b:α}:(bif V then a else b)=b:=rfl
def hq{ms:zA zD}{N:zA zE}{a:zD}(hw:∀j∈N,ms[j]?=W O)(j:zE)(h:N.elem j=O)(e:ms[j]?=W a):a=O:=by
 have:=hw j (List.elem_iff.1 h);rw[e] at this
 exact zT this
def hz{ms:zA zD}{i:zE}{a:zD}(h:ms[i]?=W V)(e:ms[i]?=W a):a=V:=zT (e.symm.trans h)
def vT{c:Xf}{i:zE}:go P (.code c::k) Q (.exit i) (W M)=go P k Q (.exit i) (W M):=rfl
def vV{c:Xf}:go P (.code c::k) Q .ret (W M)=go P k Q .ret (W M):=rfl
def uQ{id:zE}:go P (.blk id::k) Q .normal (W M)=go P k Q .normal (W M):=rfl
def uT{id:zE}:go P (.blk id::k) Q .ret (W M)=go P k Q .ret (W M):=rfl
def uR{id i:zE}:go P (.blk id::k) Q (.exit i) (W M)=go P k Q (bif i==id then .normal else .exit i) (W M):=by
 by_cases h:i=id
 .simp[go,AL,h]
 .have h':(i==id)=V:=by simpa using h
  simp[go,AL,h,h']
def vQ:go P (.ops []::k) Q .normal (W M)=go P k Q .normal (W M):=rfl
def uh:go P (.dops []::k) Q .normal (W M)=go P k Q .normal (W M):=rfl
def Yb{K:St->Prop}(h1:∀d f args,o≠ .call d f args)(h2:∀d x args,o≠ .callv d x args):AZ P o K M=Cj (M.step o) K:=by
 cases o<;>first
  | rfl
  | (show(match St.step M _ with | some M'=>K M' | none=>False)=Cj (St.step M _) K; generalize St.step M _=x; cases x<;>rfl)
  | exact absurd rfl (h1 _ _ _)
  | exact absurd rfl (h2 _ _ _)
def eU(h:o.isPure=O):M.step o=(M.pure o).map fun p=>M.set p.1 p.2:=by
 cases o<;>first
  | (simp[AOp.isPure] at h; done)
  | skip
 all_goals
  simp only[St.step,St.made];generalize M.pure _=x
  cases x<;>rfl
def A5b(h:o.isMade=O):M.step o=(M.made o).bind M.make:=by
 cases o<;>first
  | (simp[AOp.isMade] at h; done)
  | skip
 all_goals
  simp only[St.step,St.pure];generalize M.made _=x
  cases x<;>rfl
def Bd(h:o.isCall=V):go P (.ops ((I,o)::its)::k) Q .normal (W M)=go P (.ops its::k) Q .normal (M.step o):=by
 show AZ P o (Bk P its (AL P k Q .normal)) M=_
 rw[Yb (by rintro _ _ _ rfl; simp[AOp.isCall] at h) (by rintro _ _ _ rfl; simp[AOp.isCall] at h)];cases M.step o<;>rfl
def SU:zA zE->zD
 | []=>O
 | x::r=> !r.contains x&&SU r
def cg:∀{l:zA zE},SU l=O->l.Nodup
 | [],_=>yT
 | x::r,h=>by
  simp only[SU,zH,zK,zM,decide_eq_false_iff_not] at h;exact zS.2 ⟨h.1,cg h.2⟩
def B8{d f args}{xs:zA DV}{rs:zA R1}(hf:FC P f xs rs)(h1:M.toDVs args=W xs)(h2:CB rs)(h3:M.fresh d=O)(h4:(rs.flatMap R1.cells).length<=64)(h5:go P (.ops its::k) Q .normal (W (M.inst d rs))) :
  go P (.ops ((I,.call d f args)::its)::k) Q .normal (W M):= .inl ⟨xs,rs,.inl ⟨h1,.inl h2⟩,hf,h3,h4,h5⟩
def K9{d f args}{xs:zA DV}{rs:zA R1}(hf:FC P f xs rs)(h1:M.toIVs args=W xs)(h3:M.fresh d=O)(h4:(rs.flatMap R1.cells).length<=64)(h5:go P (.ops its::k) Q .normal (W (M.inst d rs))) :
  go P (.ops ((I,.call d f args)::its)::k) Q .normal (W M):= .inl ⟨xs,rs,.inr h1,hf,h3,h4,h5⟩
def DM{d f args}{ids:zA zE}{xs:zA XV}{R0 R1:Ao}{r:D}(hf:FCx P f xs R0 R1 r)(h0:SU ids=O)(h1:M.toXVs ids args=W xs)(h2:CF M.rows ids=W R0)(h3:DJ R0)(h4:DZ R0 R1=O)(h5:go P (.ops its::k) Q .normal (W (M.instX d ids R1 r))) :
  go P (.ops ((I,.call d f args)::its)::k) Q .normal (W M):= .inr (.inl ⟨ids,xs,R0,R1,r,⟨cg h0,h1,h2,h3,h4⟩,hf,h5⟩)
def Pv{d f args}{M':St}{r:AV}(hf:CallC P f (args.map M.val) M M' r)(h5:go P (.ops its::k) Q .normal (W (M'.set d r))):go P (.ops ((I,.call d f args)::its)::k) Q .normal (W M):= .inr (.inr ⟨_,hf.s,fun _ _ ⟨e1,e2⟩=>by subst e1 e2; exact h5⟩)
def ua{d x args f caps}{xs:zA DV}{rs:zA R1}(hf:FC P f (xs++caps.map .sc) rs)(h0:BQ P f=O)(hx:M.toDV (M.val x)=W (.sc (.clo f caps)))(h1:M.toDVs args=W xs)(h2:CB rs)(h3:M.fresh d=O)(h4:(rs.flatMap R1.cells).length<=64)
  (h5:go P (.ops its::k) Q .normal (W (M.inst d rs))):go P (.ops ((I,.callv d x args)::its)::k) Q .normal (W M):= .inl ⟨f,caps,xs,rs,.inl ⟨hx,h1,h2⟩,h0,hf,h3,h4,h5⟩
def BJ(h:o.isPure=O):M.step o=(M.pure o).bind fun p=>AB M p.1 (W p.2):=by
 rw[eU h];cases M.pure o<;>rfl
def tag{d:zE}{x:zB AV}:((x.map (Prod.mk d)).bind fun p=>AB M p.1 (W p.2))=AB M d x:=by cases x<;>rfl
def eR{d x}:M.step (.mv d x)=W (M.set d (M.val x)):=rfl
def eT{d c a b}:M.step (.pick d c a b)=AB M d (MG (M.val c) (M.val a) (M.val b)):=(BJ rfl).trans tag
def eD{d zs ps}:M.step (.build d zs ps)=AB M d ((Db zs (ps.map fun p=>(p.1,p.2.1,M.val p.2.2))).map fun cs=> .v (.ag cs)):=by
 rw[BJ rfl];simp only[St.pure];cases Db zs (ps.map fun p=>(p.1,p.2.1,M.val p.2.2))<;>rfl
def eN{d x g n}:M.step (.load d x g n)=AB M d (CS M g n (M.val x)):=(BJ rfl).trans tag
def eS{d x}:M.step (.nilc d x)=AB M d (GD (M.val x)):=(BJ rfl).trans tag
def eC{d op x y}:M.step (.bin d op x y)=AB M d (CM op (M.val x) (M.val y)):=(BJ rfl).trans tag
def eJ{d g ks x y}:M.step (.geq d g ks x y)=AB M d (Md g ks (M.val x) (M.val y)):=(BJ rfl).trans tag
def eB{d g x y}:M.step (.beq d g x y)=AB M d (KP g (M.val x) (M.val y)):=(BJ rfl).trans tag
def ee{d op x}:M.step (.un d op x)=AB M d (KC op (M.val x)):=(BJ rfl).trans tag
def TX(k:IntKind):AV->zB AV
 | .v (.sc (.dat (.int _ n)))=>W (.v (.sc (.dat (.int k (k.wrap n)))))
 | _=>I
def eF{d kd x}:M.step (.conv d kd x)=AB M d (TX kd (M.val x)):=by
 rw[BJ rfl];simp only[St.pure];generalize M.val x=v
 cases v with
 | v x=>cases x with
  | sc c=>cases c with
   | dat d=>cases d<;>rfl
   | _=>rfl
  | ag=>rfl
 | _=>rfl
def eW{d sz x lo hi mx}:M.step (.slc d sz x lo hi mx)=AB M d (Ez M sz (M.val x) lo hi mx):=(BJ rfl).trans tag
def eY{d x lo hi}:M.step (.sslc d x lo hi)=AB M d (I5 M (M.val x) lo hi):=(BJ rfl).trans tag
def eH{d x off}:M.step (.faddr d x off)=AB M d (CA M.rows off (M.val x)):=(BJ rfl).trans tag
def eI{d x off g n}:M.step (.field d x off g n)=AB M d (HJ off g n (M.val x)):=(BJ rfl).trans tag
def eK{d x i sz}:M.step (.iaddr d x i sz)=AB M d (Dc M.rows sz (M.val x) (M.val i)):=(BJ rfl).trans tag
def eL{d x i}:M.step (.idx d x i)=AB M d (Mg (M.val x) (M.val i)):=(BJ rfl).trans tag
def eP{d t x}:M.step (.mkif d t x)=AB M d (HW t (M.val x)):=(BJ rfl).trans tag
def eZ{d x t zc}:M.step (.tass d x t zc)=AB M d (MI t zc (M.val x)):=(BJ rfl).trans tag
def eG{d x i}:M.step (.extr d x i)=AB M d (L4 i (M.val x)):=(BJ rfl).trans tag
def eM{d x}:M.step (.len d x)=AB M d (Et M.rows (M.val x)):=(BJ rfl).trans tag
def eV{d x}:M.step (.sconv d x)=AB M d (I4 M.rows (M.val x)):=(BJ rfl).trans tag
def eX{d x}:M.step (.slen d x)=AB M d (MH (M.val x)):=(BJ rfl).trans tag
def eQ{d m x y}:M.step (.mm d m x y)=AB M d (Kj m (M.val x) (M.val y)):=(BJ rfl).trans tag
def eO{d f caps}:M.step (.mkf d f caps)=AB M d ((GA f (caps.map M.val)).map fun c=> .v (.sc c)):=by
 rw[BJ rfl];simp only[St.pure];cases GA f (caps.map M.val)<;>rfl
def A5c(h:o.isMade=O):M.step o=mk1 M (M.made o):=by
 rw[A5b h];cases M.made o<;>rfl
def A5e{x y n}:M.step (.store x y n)=M.storeV n (M.val x) (M.val y):=rfl
def A49{d sz b x y}:M.step (.app d sz b x y)=M.appV d sz b (M.val x) (M.val y):=rfl
def dL{d v}:AB M d (W v)=W (M.set d v):=rfl
def Y3{t:zE}{yes no:Prop}:AK (W (t,O)) M yes no=BM (M.get t) yes no no:=by
 simp only[AK,BM]
 all_goals
  generalize M.get t=v
  cases v with
  | v x=>cases x with
   | sc c=>cases c with
    | dat d=>cases d<;>rfl
    | _=>rfl
   | ag=>rfl
  | _=>rfl
def Y2{t:zE}{yes no:Prop}:AK (W (t,V)) M yes no=BM (M.get t) no yes no:=by
 simp only[AK,BM]
 all_goals
  generalize M.get t=v
  cases v with
  | v x=>cases x with
   | sc c=>cases c with
    | dat d=>cases d with
     | bool b=>cases b<;>simp
     | _=>rfl
    | _=>rfl
   | ag=>rfl
  | _=>rfl
def vC{t}:go P (.ops ((W (t,O),o)::its)::k) Q .normal (W M)=go P (.gd (M.get t) O o its::k) Q .normal (W M):=by
 show AK (W (t,O)) M _ _=_
 rw[Y3];show _=BM _ _ _ _
 simp only[cond_true];congr 1<;>(cases o.dst<;>rfl)
def vB{t}:go P (.ops ((W (t,V),o)::its)::k) Q .normal (W M)=go P (.gd (M.get t) V o its::k) Q .normal (W M):=by
 show AK (W (t,V)) M _ _=_
 rw[Y2];show _=BM _ _ _ _
 simp only[cond_false];congr 1<;>(cases o.dst<;>rfl)
def uz{b:zD}:go P (.gd (.v (.sc (.dat (.bool b)))) b o its::k) Q .normal (W M)=go P (.ops ((I,o)::its)::k) Q .normal (W M):=by
 cases b<;>(simp only[go,AL,BM,cond_true,cond_false]; simp[Bk,AK])
def uy:go P (.gd (.v (.sc (.dat (.bool V)))) O o its::k) Q .normal (W M)=go P (.ops its::k) Q .normal (CV M o.dst):=by
 simp only[go,AL,BM,cond_true];cases o.dst<;>simp[Cj,CV]
def ux:go P (.gd (.v (.sc (.dat (.bool O)))) V o its::k) Q .normal (W M)=go P (.ops its::k) Q .normal (CV M o.dst):=by
 simp only[go,AL,BM,cond_false];cases o.dst<;>simp[Cj,CV]
def vL{d x}:go P (.ops ((I,.mv d x)::its)::k) Q .normal (W M)=go P (.ops its::k) Q .normal (W (M.set d (M.val x))):=by
 rw[Bd rfl,eR]
def vP{d c a b}:go P (.ops ((I,.pick d c a b)::its)::k) Q .normal (W M)=go P (.ops its::k) Q .normal (AB M d (MG (M.val c) (M.val a) (M.val b))):=by
 rw[Bd rfl,eT]
def uV{d zs ps}:go P (.ops ((I,.build d zs ps)::its)::k) Q .normal (W M)=go P (.ops its::k) Q .normal (AB M d ((Db zs (ps.map fun p=>(p.1,p.2.1,M.val p.2.2))).map fun cs=> .v (.ag cs))):=by
 rw[Bd rfl,eD]
def vH{d x g n}:go P (.ops ((I,.load d x g n)::its)::k) Q .normal (W M)=go P (.ops its::k) Q .normal (AB M d (CS M g n (M.val x))):=by
 rw[Bd rfl,eN]
def vN{d x}:go P (.ops ((I,.nilc d x)::its)::k) Q .normal (W M)=go P (.ops its::k) Q .normal (AB M d (GD (M.val x))):=by
 rw[Bd rfl,eS]
def uO{d op x y}:go P (.ops ((I,.bin d op x y)::its)::k) Q .normal (W M)=go P (.ops its::k) Q .normal (AB M d (CM op (M.val x) (M.val y))):=by
 rw[Bd rfl,eC]
def vA{d g ks x y}:go P (.ops ((I,.geq d g ks x y)::its)::k) Q .normal (W M)=go P (.ops its::k) Q .normal (AB M d (Md g ks (M.val x) (M.val y))):=by
 rw[Bd rfl,eJ]
def uN{d g x y}:go P (.ops ((I,.beq d g x y)::its)::k) Q .normal (W M)=go P (.ops its::k) Q .normal (AB M d (KP g (M.val x) (M.val y))):=by
 rw[Bd rfl,eB]
def vo{d op x}:go P (.ops ((I,.un d op x)::its)::k) Q .normal (W M)=go P (.ops its::k) Q .normal (AB M d (KC op (M.val x))):=by
 rw[Bd rfl,ee]
def uc{d kd x}:go P (.ops ((I,.conv d kd x)::its)::k) Q .normal (W M)=go P (.ops its::k) Q .normal (AB M d (TX kd (M.val x))):=by
 rw[Bd rfl,eF]
def vh{d sz x lo hi mx}:go P (.ops ((I,.slc d sz x lo hi mx)::its)::k) Q .normal (W M)=go P (.ops its::k) Q .normal (AB M d (Ez M sz (M.val x) lo hi mx)):=by
 rw[Bd rfl,eW]
def vk{d x lo hi}:go P (.ops ((I,.sslc d x lo hi)::its)::k) Q .normal (W M)=go P (.ops its::k) Q .normal (AB M d (I5 M (M.val x) lo hi)):=by
 rw[Bd rfl,eY]
def um{d x off}:go P (.ops ((I,.faddr d x off)::its)::k) Q .normal (W M)=go P (.ops its::k) Q .normal (AB M d (CA M.rows off (M.val x))):=by
 rw[Bd rfl,eH]
def uo{d x off g n}:go P (.ops ((I,.field d x off g n)::its)::k) Q .normal (W M)=go P (.ops its::k) Q .normal (AB M d (HJ off g n (M.val x))):=by
 rw[Bd rfl,eI]
def vD{d x i sz}:go P (.ops ((I,.iaddr d x i sz)::its)::k) Q .normal (W M)=go P (.ops its::k) Q .normal (AB M d (Dc M.rows sz (M.val x) (M.val i))):=by
 rw[Bd rfl,eK]
def uI{d x i len sz}:go P (.ops ((I,.aaddr d x i len sz)::its)::k) Q .normal (W M)=go P (.ops its::k) Q .normal (AB M d (MT len sz (M.val x) (M.val i))):=by
 rw[Bd rfl,(BJ (o:= .aaddr d x i len sz) rfl).trans tag]
def vE{d x i}:go P (.ops ((I,.idx d x i)::its)::k) Q .normal (W M)=go P (.ops its::k) Q .normal (AB M d (Mg (M.val x) (M.val i))):=by
 rw[Bd rfl,eL]
def vJ{d t x}:go P (.ops ((I,.mkif d t x)::its)::k) Q .normal (W M)=go P (.ops its::k) Q .normal (AB M d (HW t (M.val x))):=by
 rw[Bd rfl,eP]
def vn{d x t zc}:go P (.ops ((I,.tass d x t zc)::its)::k) Q .normal (W M)=go P (.ops its::k) Q .normal (AB M d (MI t zc (M.val x))):=by
 rw[Bd rfl,eZ]
def uk{d x i}:go P (.ops ((I,.extr d x i)::its)::k) Q .normal (W M)=go P (.ops its::k) Q .normal (AB M d (L4 i (M.val x))):=by
 rw[Bd rfl,eG]
def vG{d x}:go P (.ops ((I,.len d x)::its)::k) Q .normal (W M)=go P (.ops its::k) Q .normal (AB M d (Et M.rows (M.val x))):=by
 rw[Bd rfl,eM]
def ve{d x}:go P (.ops ((I,.sconv d x)::its)::k) Q .normal (W M)=go P (.ops its::k) Q .normal (AB M d (I4 M.rows (M.val x))):=by
 rw[Bd rfl,eV]
def vj{d x}:go P (.ops ((I,.slen d x)::its)::k) Q .normal (W M)=go P (.ops its::k) Q .normal (AB M d (MH (M.val x))):=by
 rw[Bd rfl,eX]
def vK{d m x y}:go P (.ops ((I,.mm d m x y)::its)::k) Q .normal (W M)=go P (.ops its::k) Q .normal (AB M d (Kj m (M.val x) (M.val y))):=by
 rw[Bd rfl,eQ]
def vI{d f caps}:go P (.ops ((I,.mkf d f caps)::its)::k) Q .normal (W M)=go P (.ops its::k) Q .normal (AB M d ((GA f (caps.map M.val)).map fun c=> .v (.sc c))):=by
 rw[Bd rfl,eO]
def vl{x y n}:go P (.ops ((I,.store x y n)::its)::k) Q .normal (W M)=go P (.ops its::k) Q .normal (M.storeV n (M.val x) (M.val y)):=by
 rw[Bd rfl,A5e]
def uL{d sz b x y}:go P (.ops ((I,.app d sz b x y)::its)::k) Q .normal (W M)=go P (.ops its::k) Q .normal (M.appV d sz b (M.val x) (M.val y)):=by
 rw[Bd rfl,A49]
def vR{d j id sz}:go P (.ops ((I,.ownb d j id sz)::its)::k) Q .normal (W M)=go P (.ops its::k) Q .normal (M.step (.ownb d j id sz)):=Bd rfl
def vZ{a b}:go P (.ops ((I,.ren a b)::its)::k) Q .normal (W M)=go P (.ops its::k) Q .normal (M.step (.ren a b)):=Bd rfl
def uu{id}:go P (.ops ((I,.frz id)::its)::k) Q .normal (W M)=go P (.ops its::k) Q .normal (M.step (.frz id)):=Bd rfl
def ut{its:zA AY}:go P (.frs its::k) Q .normal (W M)=go P (.fr (D3 its M):: .dops its::k) Q .normal (W M):=rfl
def ur{b:zD}(hb:b=O)(h:go P k Q .normal (W M)):go P (.fr b::k) Q .normal (W M):=⟨hb,h⟩
def uM{its:zA AY}:go P (.dops ((I,I,o)::its)::k) Q .normal (W M)=go P (.ops [(I,o)]:: .frs its::k) Q .normal (W M):=rfl
def Y5{α:Type}{l:zA α}{f:α->zD}(h:∀x,f x=O):l.all f=O:=zI.2 fun x _=>h x
def S6(τ M:St)(N:zA zE)(o:AOp)(K:St->Prop):Prop:=
 match τ.pure o with
 | some (d,v)=>v.avoids N=O/\K (M.set d v)
 | none=>match τ.made o with
  | some m=>(match m with | .box _ cs=>cs.all (·.avoids N) | _=>O)=O/\(match M.make m with
   | some M'=>K M'
   | none=>False)
  | none=>False
def Ty{K:St->Prop}(hc:o.isCall=V):GS P N o K M=S6 (M.less N) M N o K:=by
 cases o<;>first
  | rfl
  | (simp[AOp.isCall] at hc; done)
def A5a(hc:o.isCall=V)(hg:o.gentle=O):M.step o=(match M.pure o with
  | some (d,v)=>W (M.set d v)
  | none=>match M.made o with
   | some m=>M.make m
   | none=>I):=by
 cases o<;>first
  | rfl
  | (simp[AOp.isCall] at hc; done)
  | (simp[AOp.gentle] at hg; done)
def mh{K:St->Prop}(hg:o.gentle=O)(hc:o.isCall=V):GS P [] o K M=AZ P o K M:=by
 cases hc:o.isCall with
 | true=>simp_all
 | false=>
  rw[Ty hc,Yb (by rintro _ _ _ rfl; simp[AOp.isCall] at hc) (by rintro _ _ _ rfl; simp[AOp.isCall] at hc),A5a hc hg];unfold S6;show(match M.pure o with | some (d,v)=>v.avoids []=O/\K (M.set d v) | none=>_)=_
  cases hp:M.pure o with
  | some p=>
   have hav:p.2.avoids []=O:=Y5 fun c=>rfl
   simp only[Cj,hav,true_and]
  | none=>
   show(match M.made o with | some m=>_ | none=>False)=_
   cases hm:M.made o with
   | none=>rfl
   | some m=>
    cases m with
    | box d cs=>
     have hav:cs.all (·.avoids [])=O:=Y5 fun c=>rfl
     show(cs.all (·.avoids [])=O/\(match M.make (.box d cs) with | some M'=>K M' | none=>False))=Cj (M.make (.box d cs)) K
     rw[hav];cases M.make (.box d cs)<;>simp[Cj]
    | row d sz es=>
     show(O=O/\(match M.make (.row d sz es) with | some M'=>K M' | none=>False))=Cj (M.make (.row d sz es)) K
     cases M.make (.row d sz es)<;>simp[Cj]
def Bo{its:zA AY}(hg:o.gentle=O)(hc:o.isCall=V):go P (.dops ((W [],I,o)::its)::k) Q .normal (W M)=go P (.ops [(I,o)]:: .dops its::k) Q .normal (W M):=
 mh hg hc
def Bx(M:St)(N:zA zE):zB zE->zB St->zB St
 | some d,W τ=>bif (τ.get d).avoids N then W (M.set d (τ.get d)) else I
 | _,_=>I
def BA{its:zA AY}(hp:o.isPure=O):go P (.dops ((W N,I,o)::its)::k) Q .normal (W M)=go P (.dops its::k) Q .normal (Bx M N o.dst ((M.less N).step o)):=by
 have hc:o.isCall=V:=by cases o<;>first | rfl | (simp[AOp.isPure] at hp; done)
 show GS P N o _ M=_
 rw[Ty hc,eU hp];unfold S6;cases h:(M.less N).pure o with
 | some p=>
  obtain⟨d,v⟩:=p;rw[(VB h).1];show(v.avoids N=O/\_)=go P (.dops its::k) Q .normal (bif (((M.less N).set d v).get d).avoids N then W (M.set d (((M.less N).set d v).get d)) else I)
  rw[St.get_set_same];cases v.avoids N with
  | true=>simp[go,AL]
  | false=>simp[go]
 | none=>
  have hm:(M.less N).made o=I:=by cases o<;>first | rfl | (simp[AOp.isPure] at hp; done)
  show(match (M.less N).made o with | some m=>_ | none=>False)=_
  rw[hm];cases o.dst<;>rfl
def cQ(N:zA zE):Mk->zD
 | .box _ cs=>cs.all (·.avoids N)
 | _=>O
def ug{its:zA AY}{m:Mk}(hm:(M.less N).made o=W m)(hv:cQ N m=O){M':St}(hmk:M.make m=W M')(h:go P (.dops its::k) Q .normal (W M')) :
  go P (.dops ((W N,I,o)::its)::k) Q .normal (W M):=by
 have hc:o.isCall=V:=by cases o<;>first | rfl | (simp[St.made] at hm; done)
 show GS P N o _ M
 rw[Ty hc];unfold S6;rw[cI hm];simp only[hm,hmk];cases m with
 | box d cs=>exact⟨hv,h⟩
 | row d sz es=>exact⟨rfl,h⟩
def Ui{its:zA AY}{d f args}{xs:zA DV}{rs:zA R1}(hf:FC P f xs rs)(h1:(M.less N).toDVs args=W xs)(h2:CB rs)(h3:M.fresh d=O)(h4:(rs.flatMap R1.cells).length<=64)(h5:go P (.dops its::k) Q .normal (W (M.inst d rs))) :
  go P (.dops ((W N,I,.call d f args)::its)::k) Q .normal (W M):=⟨xs,rs,.inl ⟨h1,.inl h2⟩,hf,h3,h4,h5⟩
def ue{its:zA AY}{d x args f caps}{xs:zA DV}{rs:zA R1}(hf:FC P f (xs++caps.map .sc) rs)(h0:BQ P f=O)(hx:(M.less N).toDV ((M.less N).val x)=W (.sc (.clo f caps)))(h1:(M.less N).toDVs args=W xs)(h2:CB rs)(h3:M.fresh d=O)(h4:(rs.flatMap R1.cells).length<=64)
  (h5:go P (.dops its::k) Q .normal (W (M.inst d rs))):go P (.dops ((W N,I,.callv d x args)::its)::k) Q .normal (W M):=⟨f,caps,xs,rs,.inl ⟨hx,h1,h2⟩,h0,hf,h3,h4,h5⟩
def ud{its:zA AY}{d f args}{xs:zA DV}{rs:zA R1}(hf:FC P f xs rs)(h1:(M.less N).toIVs args=W xs)(h3:M.fresh d=O)(h4:(rs.flatMap R1.cells).length<=64)(h5:go P (.dops its::k) Q .normal (W (M.inst d rs))) :
  go P (.dops ((W N,I,.call d f args)::its)::k) Q .normal (W M):=⟨xs,rs,.inr h1,hf,h3,h4,h5⟩
end
end
section
section
variable {P : Program}
end
def tV{α:Type}{n:zE}:A1 ([]:zA (zE × α)) n=I:=rfl
def tU{α:Type}{k n:zE}{v:α}{r:zA (zE × α)}:A1 ((k,v)::r) n=bif k==n then W v else A1 r n:=rfl
def A21{α:Type}{n:zE}{v:α}:put ([]:zA (zE × α)) n v= [(n,v)]:=rfl
def A20{α:Type}{k n:zE}{u v:α}{r:zA (zE × α)}:put ((k,u)::r) n v=bif k==n then(k,v)::r else(k,u)::put r n v:=rfl
def A69{M:St}{n:zE}:M.val (.t n)=M.get n:=rfl
def A68{M:St}{v:AV}:M.val (.c v)=v:=rfl
def uE{env bx rows}{k:zE}:(St.mk env bx rows).get k=(A1 env k).getD .undef:=rfl
def A4a{env bx rows}{k:zE}{v:AV}:(St.mk env bx rows).set k v=⟨put env k v,bx,rows⟩:=rfl
def getD_some{α:Type}{a b:α}:(W a).getD b=a:=rfl
def getD_none{α:Type}{b:α}:(I:zB α).getD b=b:=rfl
def map_some{α β:Type}{f:α->β}{a:α}:(W a).map f=W (f a):=rfl
def map_none{α β:Type}{f:α->β}:(I:zB α).map f=I:=rfl
def ov{α:Type}{a b:α}:cond O a b=a:=rfl
def ou{α:Type}{a b:α}:cond V a b=b:=rfl
def A4i{s:zA UInt8}:MH (.v (.sc (.dat (.str s))))=W (.v (.sc (.dat (.int .i64 s.length)))):=rfl
def zz{rs:Rows}{es:zA (zA D)}:Et rs (.v (.sc (.dat (.sl es))))=W (.v (.sc (.dat (.int .i64 es.length)))):=rfl
def A31{rs:Rows}{es:zA (zA D)}:I4 rs (.v (.sc (.dat (.sl es))))=(Dm es).map fun b=> .v (.sc (.dat (.str b))):=rfl
def A30{rs:Rows}{id:zE}:I4 rs (.v (.sc (.own id)))=match A1 rs id with | some (_,es)=>(Dm es).map fun b=> .v (.sc (.dat (.str b))) | none=>I:=rfl
def zw{rs:Rows}:Et rs (.v (.sc .nil))=W (.v (.sc (.dat (.int .i64 0)))):=rfl
def ox{k k':IntKind}{n:Int}:TX k (.v (.sc (.dat (.int k' n))))=W (.v (.sc (.dat (.int k (k.wrap n))))):=rfl
def nu{op:BinOp}{k:IntKind}{x y:Int}:CM op (.v (.sc (.dat (.int k x)))) (.v (.sc (.dat (.int k y))))=(AX op k x y).map fun d=> .v (.sc (.dat d)):=by simp[CM]
def oC{op:BinOp}{x y:zA UInt8}:CM op (.v (.sc (.dat (.str x)))) (.v (.sc (.dat (.str y))))=(I6 op x y).map fun d=> .v (.sc (.dat d)):=rfl
def xY{k:IntKind}{x y:Int}:AX .add k x y=W (.int k (k.wrap (x+y))):=rfl
def xr{k:IntKind}{x y:Int}:AX .sub k x y=W (.int k (k.wrap (x - y))):=rfl
def xg{k:IntKind}{x y:Int}:AX .mul k x y=W (.int k (k.wrap (x*y))):=rfl
def xj{k:IntKind}{x y:Int}:AX .quo k x y=bif y==0 then I else W (.int k (k.wrap (x.tdiv y))):=by
 by_cases h:y=0
 .simp[AX,h]
 .have h':(y==0)=V:=by simpa using h
  simp[AX,h,h']
def xk{k:IntKind}{x y:Int}:AX .rem k x y=bif y==0 then I else W (.int k (k.wrap (x.tmod y))):=by
 by_cases h:y=0
 .simp[AX,h]
 .have h':(y==0)=V:=by simpa using h
  simp[AX,h,h']
def xb{k:IntKind}{x y:Int}:AX .eql k x y=W (.bool (x==y)):=rfl
def xh{k:IntKind}{x y:Int}:AX .neq k x y=W (.bool (x !=y)):=rfl
def xf{k:IntKind}{x y:Int}:AX .lss k x y=W (.bool (decide (x<y))):=rfl
def xe{k:IntKind}{x y:Int}:AX .leq k x y=W (.bool (decide (x<=y))):=rfl
def xd{k:IntKind}{x y:Int}:AX .gtr k x y=W (.bool (decide (y<x))):=rfl
def xc{k:IntKind}{x y:Int}:AX .geq k x y=W (.bool (decide (y<=x))):=rfl
def A5n{x y:zA UInt8}:I6 .eql x y=W (.bool (x==y)):=rfl
def A5o{x y:zA UInt8}:I6 .neq x y=W (.bool (!(x==y))):=rfl
def A60{b:zD}:KC .not (.v (.sc (.dat (.bool b))))=W (.v (.sc (.dat (.bool (!b))))):=rfl
def wg{s:zA UInt8}{k:IntKind}{i:Int}:Mg (.v (.sc (.dat (.str s)))) (.v (.sc (.dat (.int k i))))=(ix s i).map fun b=> .v (.sc (.dat (.int .u8 b.toNat))):=rfl
def xw{α:Type}{l:zA α}{i:zE}(h:i<l.length):ix l (i:Int)=W l[i]:=by simp[ix,h]
def tQ{off:zE}{g:zD}{n:zE}{cs:zA AC}:HJ off g n (.v (.ag cs))=D1 cs off g n:=rfl
def oV{cs:zA AC}{off n:zE}:D1 cs off V n=(cs[off]?).map fun c=> .v (.sc c):=rfl
def xU{env bx rows}{d:zE}{rs:zA R1}:(St.mk env bx rows).inst d rs=⟨put env d (BN d rs),bx,Bj rows (BI d rs)⟩:=rfl
def xM{g:zE}{r:R1}:BN g [r]= .v (r.inst g 0):=rfl
def xN{g:zE}{r r':R1}{rs:zA R1}:BN g (r::r'::rs)= .tup (Dv g 0 (r::r'::rs)):=rfl
def xR{g j:zE}:Dv g j []= []:=rfl
def xQ{g j:zE}{r:R1}{rs:zA R1}:Dv g j (r::rs)=r.inst g j::Dv g (j+r.width) rs:=rfl
def A9o{c:RC}:R1.width (.sc c)=1:=rfl
def A9n{cs:zA RC}:R1.width (.ag cs)=cs.length:=rfl
def xX{g j:zE}{d:D}:RC.inst g j (.v d)= .dat d:=rfl
def xV{g j sz:zE}{es:zA (zA D)}:RC.inst g j (.o sz es)= .own (g*64+j):=rfl
def xW{g j:zE}{c:RC}:R1.inst g j (.sc c)= .sc (c.inst g j):=rfl
def xT{g j:zE}{cs:zA RC}:R1.inst g j (.ag cs)= .ag (Er g j cs):=rfl
def xP{g j:zE}:Er g j []= []:=rfl
def xO{g j:zE}{c:RC}{cs:zA RC}:Er g j (c::cs)=c.inst g j::Er g (j+1) cs:=rfl
def A3k{g:zE}:BI g []= []:=rfl
def A3l{g:zE}{r:R1}:BI g [r]=BR g 0 r.cells:=by simp[BI]
def A3n{g:zE}{r r':R1}:BI g [r,r']=BR g 0 (r.cells++r'.cells):=by simp[BI]
def oX{c:RC}:R1.cells (.sc c)= [c]:=rfl
def oT{cs:zA RC}:R1.cells (.ag cs)=cs:=rfl
def A3p{g j:zE}:BR g j []= []:=rfl
def A3r{g j:zE}{d:D}{cs:zA RC}:BR g j (.v d::cs)=BR g (j+1) cs:=rfl
def A3q{g j sz:zE}{es:zA (zA D)}{cs:zA RC}:BR g j (.o sz es::cs)=(g*64+j,sz,es)::BR g (j+1) cs:=rfl
def A2x{rows:Rows}:Bj rows []=rows:=rfl
def A2w{rows r:Rows}{k:zE}{x:zE × zA (zA D)}:Bj rows ((k,x)::r)=put (Bj rows r) k x:=rfl
def nE{α:Type}{l:zA α}: []++l=l:=rfl
def nD{α:Type}{a:α}{l m:zA α}:(a::l)++m=a::(l++m):=rfl
def oK{x:Int}:(x !=x)=V:=by simp
def nh{x:Int}:(x==x)=O:=by simp
section
variable {P : Program} {k : zA Fr} {Q : Xl -> St -> Prop} {M : St} {its : zA AY} {n : zE} {N : zA zE}
def pg{d x}:go P (.dops ((W [],I,.mv d x)::its)::k) Q .normal (W M)=go P (.ops [(I,.mv d x)]:: .dops its::k) Q .normal (W M):=Bo rfl rfl
def pi{d c a b}:go P (.dops ((W [],I,.pick d c a b)::its)::k) Q .normal (W M)=go P (.ops [(I,.pick d c a b)]:: .dops its::k) Q .normal (W M):=Bo rfl rfl
def pN{d zs ps}:go P (.dops ((W [],I,.build d zs ps)::its)::k) Q .normal (W M)=go P (.ops [(I,.build d zs ps)]:: .dops its::k) Q .normal (W M):=Bo rfl rfl
def pX{d x g n}:go P (.dops ((W [],I,.load d x g n)::its)::k) Q .normal (W M)=go P (.ops [(I,.load d x g n)]:: .dops its::k) Q .normal (W M):=Bo rfl rfl
def ph{d x}:go P (.dops ((W [],I,.nilc d x)::its)::k) Q .normal (W M)=go P (.ops [(I,.nilc d x)]:: .dops its::k) Q .normal (W M):=Bo rfl rfl
def pJ{d op x y}:go P (.dops ((W [],I,.bin d op x y)::its)::k) Q .normal (W M)=go P (.ops [(I,.bin d op x y)]:: .dops its::k) Q .normal (W M):=Bo rfl rfl
def pS{d g ks x y}:go P (.dops ((W [],I,.geq d g ks x y)::its)::k) Q .normal (W M)=go P (.ops [(I,.geq d g ks x y)]:: .dops its::k) Q .normal (W M):=Bo rfl rfl
def pH{d g x y}:go P (.dops ((W [],I,.beq d g x y)::its)::k) Q .normal (W M)=go P (.ops [(I,.beq d g x y)]:: .dops its::k) Q .normal (W M):=Bo rfl rfl
def pr{d op x}:go P (.dops ((W [],I,.un d op x)::its)::k) Q .normal (W M)=go P (.ops [(I,.un d op x)]:: .dops its::k) Q .normal (W M):=Bo rfl rfl
def pO{d kd x}:go P (.dops ((W [],I,.conv d kd x)::its)::k) Q .normal (W M)=go P (.ops [(I,.conv d kd x)]:: .dops its::k) Q .normal (W M):=Bo rfl rfl
def pk{d sz x lo hi mx}:go P (.dops ((W [],I,.slc d sz x lo hi mx)::its)::k) Q .normal (W M)=go P (.ops [(I,.slc d sz x lo hi mx)]:: .dops its::k) Q .normal (W M):=Bo rfl rfl
def pp{d x lo hi}:go P (.dops ((W [],I,.sslc d x lo hi)::its)::k) Q .normal (W M)=go P (.ops [(I,.sslc d x lo hi)]:: .dops its::k) Q .normal (W M):=Bo rfl rfl
def pQ{d x off}:go P (.dops ((W [],I,.faddr d x off)::its)::k) Q .normal (W M)=go P (.ops [(I,.faddr d x off)]:: .dops its::k) Q .normal (W M):=Bo rfl rfl
def pR{d x off g n}:go P (.dops ((W [],I,.field d x off g n)::its)::k) Q .normal (W M)=go P (.ops [(I,.field d x off g n)]:: .dops its::k) Q .normal (W M):=Bo rfl rfl
def pT{d x i sz}:go P (.dops ((W [],I,.iaddr d x i sz)::its)::k) Q .normal (W M)=go P (.ops [(I,.iaddr d x i sz)]:: .dops its::k) Q .normal (W M):=Bo rfl rfl
def pF{d x i len sz}:go P (.dops ((W [],I,.aaddr d x i len sz)::its)::k) Q .normal (W M)=go P (.ops [(I,.aaddr d x i len sz)]:: .dops its::k) Q .normal (W M):=Bo rfl rfl
def pU{d x i}:go P (.dops ((W [],I,.idx d x i)::its)::k) Q .normal (W M)=go P (.ops [(I,.idx d x i)]:: .dops its::k) Q .normal (W M):=Bo rfl rfl
def pP{d x i}:go P (.dops ((W [],I,.extr d x i)::its)::k) Q .normal (W M)=go P (.ops [(I,.extr d x i)]:: .dops its::k) Q .normal (W M):=Bo rfl rfl
def pZ{d t x}:go P (.dops ((W [],I,.mkif d t x)::its)::k) Q .normal (W M)=go P (.ops [(I,.mkif d t x)]:: .dops its::k) Q .normal (W M):=Bo rfl rfl
def pq{d x t zc}:go P (.dops ((W [],I,.tass d x t zc)::its)::k) Q .normal (W M)=go P (.ops [(I,.tass d x t zc)]:: .dops its::k) Q .normal (W M):=Bo rfl rfl
def pV{d x}:go P (.dops ((W [],I,.len d x)::its)::k) Q .normal (W M)=go P (.ops [(I,.len d x)]:: .dops its::k) Q .normal (W M):=Bo rfl rfl
def pm{d x}:go P (.dops ((W [],I,.slen d x)::its)::k) Q .normal (W M)=go P (.ops [(I,.slen d x)]:: .dops its::k) Q .normal (W M):=Bo rfl rfl
def pj{d x}:go P (.dops ((W [],I,.sconv d x)::its)::k) Q .normal (W M)=go P (.ops [(I,.sconv d x)]:: .dops its::k) Q .normal (W M):=Bo rfl rfl
def pf{d m x y}:go P (.dops ((W [],I,.mm d m x y)::its)::k) Q .normal (W M)=go P (.ops [(I,.mm d m x y)]:: .dops its::k) Q .normal (W M):=Bo rfl rfl
def pY{d f caps}:go P (.dops ((W [],I,.mkf d f caps)::its)::k) Q .normal (W M)=go P (.ops [(I,.mkf d f caps)]:: .dops its::k) Q .normal (W M):=Bo rfl rfl
def pK{d x}:go P (.dops ((W [],I,.box d x)::its)::k) Q .normal (W M)=go P (.ops [(I,.box d x)]:: .dops its::k) Q .normal (W M):=Bo rfl rfl
def pG{d cs}:go P (.dops ((W [],I,.alloc d cs)::its)::k) Q .normal (W M)=go P (.ops [(I,.alloc d cs)]:: .dops its::k) Q .normal (W M):=Bo rfl rfl
def pM{d sz zs len ps}:go P (.dops ((W [],I,.bslice d sz zs len ps)::its)::k) Q .normal (W M)=go P (.ops [(I,.bslice d sz zs len ps)]:: .dops its::k) Q .normal (W M):=Bo rfl rfl
def pc{d sz b zs x y}:go P (.dops ((W [],I,.mksl d sz b zs x y)::its)::k) Q .normal (W M)=go P (.ops [(I,.mksl d sz b zs x y)]:: .dops its::k) Q .normal (W M):=Bo rfl rfl
def qK{d x}:go P (.dops ((W (n::N),I,.mv d x)::its)::k) Q .normal (W M)=go P (.dops its::k) Q .normal (Bx M (n::N) (W d) ((M.less (n::N)).step (.mv d x))):=BA rfl
def qM{d c a b}:go P (.dops ((W (n::N),I,.pick d c a b)::its)::k) Q .normal (W M)=go P (.dops its::k) Q .normal (Bx M (n::N) (W d) ((M.less (n::N)).step (.pick d c a b))):=BA rfl
def px{d zs ps}:go P (.dops ((W (n::N),I,.build d zs ps)::its)::k) Q .normal (W M)=go P (.dops its::k) Q .normal (Bx M (n::N) (W d) ((M.less (n::N)).step (.build d zs ps))):=BA rfl
def qG{d x g m}:go P (.dops ((W (n::N),I,.load d x g m)::its)::k) Q .normal (W M)=go P (.dops its::k) Q .normal (Bx M (n::N) (W d) ((M.less (n::N)).step (.load d x g m))):=BA rfl
def qL{d x}:go P (.dops ((W (n::N),I,.nilc d x)::its)::k) Q .normal (W M)=go P (.dops its::k) Q .normal (Bx M (n::N) (W d) ((M.less (n::N)).step (.nilc d x))):=BA rfl
def pw{d op x y}:go P (.dops ((W (n::N),I,.bin d op x y)::its)::k) Q .normal (W M)=go P (.dops its::k) Q .normal (Bx M (n::N) (W d) ((M.less (n::N)).step (.bin d op x y))):=BA rfl
def qC{d g ks x y}:go P (.dops ((W (n::N),I,.geq d g ks x y)::its)::k) Q .normal (W M)=go P (.dops its::k) Q .normal (Bx M (n::N) (W d) ((M.less (n::N)).step (.geq d g ks x y))):=BA rfl
def pv{d g x y}:go P (.dops ((W (n::N),I,.beq d g x y)::its)::k) Q .normal (W M)=go P (.dops its::k) Q .normal (Bx M (n::N) (W d) ((M.less (n::N)).step (.beq d g x y))):=BA rfl
def qS{d op x}:go P (.dops ((W (n::N),I,.un d op x)::its)::k) Q .normal (W M)=go P (.dops its::k) Q .normal (Bx M (n::N) (W d) ((M.less (n::N)).step (.un d op x))):=BA rfl
def py{d kd x}:go P (.dops ((W (n::N),I,.conv d kd x)::its)::k) Q .normal (W M)=go P (.dops its::k) Q .normal (Bx M (n::N) (W d) ((M.less (n::N)).step (.conv d kd x))):=BA rfl
def qO{d sz x lo hi mx}:go P (.dops ((W (n::N),I,.slc d sz x lo hi mx)::its)::k) Q .normal (W M)=go P (.dops its::k) Q .normal (Bx M (n::N) (W d) ((M.less (n::N)).step (.slc d sz x lo hi mx))):=BA rfl
def qQ{d x lo hi}:go P (.dops ((W (n::N),I,.sslc d x lo hi)::its)::k) Q .normal (W M)=go P (.dops its::k) Q .normal (Bx M (n::N) (W d) ((M.less (n::N)).step (.sslc d x lo hi))):=BA rfl
def qA{d x off}:go P (.dops ((W (n::N),I,.faddr d x off)::its)::k) Q .normal (W M)=go P (.dops its::k) Q .normal (Bx M (n::N) (W d) ((M.less (n::N)).step (.faddr d x off))):=BA rfl
def qB{d x off g m}:go P (.dops ((W (n::N),I,.field d x off g m)::its)::k) Q .normal (W M)=go P (.dops its::k) Q .normal (Bx M (n::N) (W d) ((M.less (n::N)).step (.field d x off g m))):=BA rfl
def qD{d x i sz}:go P (.dops ((W (n::N),I,.iaddr d x i sz)::its)::k) Q .normal (W M)=go P (.dops its::k) Q .normal (Bx M (n::N) (W d) ((M.less (n::N)).step (.iaddr d x i sz))):=BA rfl
def pu{d x i len sz}:go P (.dops ((W (n::N),I,.aaddr d x i len sz)::its)::k) Q .normal (W M)=go P (.dops its::k) Q .normal (Bx M (n::N) (W d) ((M.less (n::N)).step (.aaddr d x i len sz))):=BA rfl
def qE{d x i}:go P (.dops ((W (n::N),I,.idx d x i)::its)::k) Q .normal (W M)=go P (.dops its::k) Q .normal (Bx M (n::N) (W d) ((M.less (n::N)).step (.idx d x i))):=BA rfl
def pz{d x i}:go P (.dops ((W (n::N),I,.extr d x i)::its)::k) Q .normal (W M)=go P (.dops its::k) Q .normal (Bx M (n::N) (W d) ((M.less (n::N)).step (.extr d x i))):=BA rfl
def qI{d t x}:go P (.dops ((W (n::N),I,.mkif d t x)::its)::k) Q .normal (W M)=go P (.dops its::k) Q .normal (Bx M (n::N) (W d) ((M.less (n::N)).step (.mkif d t x))):=BA rfl
def qR{d x t zc}:go P (.dops ((W (n::N),I,.tass d x t zc)::its)::k) Q .normal (W M)=go P (.dops its::k) Q .normal (Bx M (n::N) (W d) ((M.less (n::N)).step (.tass d x t zc))):=BA rfl
def qF{d x}:go P (.dops ((W (n::N),I,.len d x)::its)::k) Q .normal (W M)=go P (.dops its::k) Q .normal (Bx M (n::N) (W d) ((M.less (n::N)).step (.len d x))):=BA rfl
def qP{d x}:go P (.dops ((W (n::N),I,.slen d x)::its)::k) Q .normal (W M)=go P (.dops its::k) Q .normal (Bx M (n::N) (W d) ((M.less (n::N)).step (.slen d x))):=BA rfl
def qN{d x}:go P (.dops ((W (n::N),I,.sconv d x)::its)::k) Q .normal (W M)=go P (.dops its::k) Q .normal (Bx M (n::N) (W d) ((M.less (n::N)).step (.sconv d x))):=BA rfl
def qJ{d m x y}:go P (.dops ((W (n::N),I,.mm d m x y)::its)::k) Q .normal (W M)=go P (.dops its::k) Q .normal (Bx M (n::N) (W d) ((M.less (n::N)).step (.mm d m x y))):=BA rfl
def qH{d f caps}:go P (.dops ((W (n::N),I,.mkf d f caps)::its)::k) Q .normal (W M)=go P (.dops its::k) Q .normal (Bx M (n::N) (W d) ((M.less (n::N)).step (.mkf d f caps))):=BA rfl
def qU{t:zE}{o:AOp}{N:zA zE}:go P (.dops ((W N,W (t,O),o)::its)::k) Q .normal (W M)=go P (.gdd (M.get t) O (W N) o its::k) Q .normal (W M):=by
 show AK (W (t,O)) M _ _=_
 rw[Y3];show _=BM _ _ _ _
 simp only[cond_true];congr 1<;>(cases o.dst<;>rfl)
def qT{t:zE}{o:AOp}{N:zA zE}:go P (.dops ((W N,W (t,V),o)::its)::k) Q .normal (W M)=go P (.gdd (M.get t) V (W N) o its::k) Q .normal (W M):=by
 show AK (W (t,V)) M _ _=_
 rw[Y2];show _=BM _ _ _ _
 simp only[cond_false];congr 1<;>(cases o.dst<;>rfl)
def qY{b:zD}{o:AOp}{N:zB (zA zE)}:go P (.gdd (.v (.sc (.dat (.bool b)))) b N o its::k) Q .normal (W M)=go P (.dops ((N,I,o)::its)::k) Q .normal (W M):=by
 cases b<;>simp[go,AL,BM]
def qX{o:AOp}{N:zB (zA zE)}:go P (.gdd (.v (.sc (.dat (.bool V)))) O N o its::k) Q .normal (W M)=go P (.dops its::k) Q .normal (CV M o.dst):=by
 simp only[go,AL,BM,cond_true];cases o.dst<;>simp[Cj,CV]
def qW{o:AOp}{N:zB (zA zE)}:go P (.gdd (.v (.sc (.dat (.bool O)))) V N o its::k) Q .normal (W M)=go P (.dops its::k) Q .normal (CV M o.dst):=by
 simp only[go,AL,BM,cond_false];cases o.dst<;>simp[Cj,CV]
def qV{w:zD}{o:AOp}{N:zB (zA zE)}:go P (.gdd .no w N o its::k) Q .normal (W M)=go P (.dops its::k) Q .normal (CV M o.dst):=by
 simp only[go,AL,BM];cases o.dst<;>simp[Cj,CV]
def uw{w:zD}{o:AOp}{its:zA AItem}:go P (.gd .no w o its::k) Q .normal (W M)=go P (.ops its::k) Q .normal (CV M o.dst):=by
 simp only[go,AL,BM];cases o.dst<;>simp[Cj,CV]
end
def DP(k:zE):zA zE->zD
 | []=>V
 | n::r=>bif k==n then O else DP k r
def Dx{α:Type}(f:zE->zE)(N:zA zE):zA (zE × α)->zA (zE × α)
 | []=> []
 | (k,v)::r=>bif DP (f k) N then Dx f N r else(k,v)::Dx f N r
def Q9(k:zE):∀N:zA zE,DP k N=N.contains k
 | []=>rfl
 | n::r=>by
  simp only[DP,yC,Q9 k r];cases k==n<;>rfl
def V2{α:Type}(f:zE->zE)(N:zA zE):∀l:zA (zE × α),Dx f N l=l.filter fun p=> !N.contains (f p.1)
 | []=>rfl
 | (k,v)::r=>by
  simp only[Dx,Q9,List.filter_cons,V2 f N r];cases N.contains (f k)<;>rfl
def A0e{env bx rows}{n:zE}{N:zA zE}:(St.mk env bx rows).less (n::N)=⟨env,Dx id (n::N) bx,Dx (· / 64) (n::N) rows⟩:=by
 rw[V2,V2];rfl
def A00{k:zE}:DP k []=V:=rfl
def A0z{k n:zE}{r:zA zE}:DP k (n::r)=bif k==n then O else DP k r:=rfl
def ya{α:Type}{f:zE->zE}{N:zA zE}:Dx f N ([]:zA (zE × α))= []:=rfl
def xz{α:Type}{N:zA zE}{k:zE}{v:α}{r:zA (zE × α)}:Dx id N ((k,v)::r)=bif DP k N then Dx id N r else(k,v)::Dx id N r:=rfl
def xy{α:Type}{N:zA zE}{k:zE}{v:α}{r:zA (zE × α)}:Dx (· / 64) N ((k,v)::r)=bif DP (k / 64) N then Dx (· / 64) N r else(k,v)::Dx (· / 64) N r:=rfl
def A59{M τ:St}{N:zA zE}{d:zE}:Bx M N (W d) (W τ)=bif (τ.get d).avoids N then W (M.set d (τ.get d)) else I:=rfl
def A62{M:St}{d:zE}:CV M (W d)=W (M.set d .no):=rfl
def nL{N:zA zE}{d:D}:AV.avoids N (.v (.sc (.dat d)))=O:=by simp[AV.avoids,AV.cells,V1.cells,AC.avoids,AC.uses]
def nM{N:zA zE}:AV.avoids N (.v (.sc .nil))=O:=by simp[AV.avoids,AV.cells,V1.cells,AC.avoids,AC.uses]
def nO{N:zA zE}{i:zE}:AV.avoids N (.v (.sc (.own i)))= !DP (i / 64) N:=by
 rw[Q9]
 induction N with
 | nil=>rfl
 | cons n N ih=>
  simp only[AV.avoids,AV.cells,V1.cells,AC.avoids,AC.uses,zY,zX,zR,yC] at ih ⊢
  rw[ih];cases(i / 64==n)<;>simp
def nP{N:zA zE}{i o:zE}:AV.avoids N (.v (.sc (.pb i o)))= !DP i N:=by
 rw[Q9]
 induction N with
 | nil=>rfl
 | cons n N ih=>
  simp only[AV.avoids,AV.cells,V1.cells,AC.avoids,AC.uses,zY,zX,zR,yC] at ih ⊢
  rw[ih];cases(i==n)<;>simp
def nQ{N:zA zE}{i x o:zE}:AV.avoids N (.v (.sc (.pe i x o)))= !DP (i / 64) N:=by
 rw[Q9]
 induction N with
 | nil=>rfl
 | cons n N ih=>
  simp only[AV.avoids,AV.cells,V1.cells,AC.avoids,AC.uses,zY,zX,zR,yC] at ih ⊢
  rw[ih];cases(i / 64==n)<;>simp
def nK{N:zA zE}:AV.avoids N (.v (.ag []))=O:=rfl
def nJ{N:zA zE}{c:AC}{cs:zA AC}:AV.avoids N (.v (.ag (c::cs)))=((AV.v (.sc c)).avoids N&&(AV.v (.ag cs)).avoids N):=by simp[AV.avoids,AV.cells,V1.cells]
def A1r:(!V)=O:=rfl
def A1s:(!O)=V:=rfl
def mw:(O&&O)=O:=rfl
def rK{d x}:AOp.dst (.mv d x)=W d:=rfl
def rN{d c a b}:AOp.dst (.pick d c a b)=W d:=rfl
def qr{d zs ps}:AOp.dst (.build d zs ps)=W d:=rfl
def rE{d x g n}:AOp.dst (.load d x g n)=W d:=rfl
def rM{d x}:AOp.dst (.nilc d x)=W d:=rfl
def qo{d op x y}:AOp.dst (.bin d op x y)=W d:=rfl
def qz{d g ks x y}:AOp.dst (.geq d g ks x y)=W d:=rfl
def qn{d g x y}:AOp.dst (.beq d g x y)=W d:=rfl
def rV{d op x}:AOp.dst (.un d op x)=W d:=rfl
def qv{d kd x}:AOp.dst (.conv d kd x)=W d:=rfl
def rP{d sz x lo hi mx}:AOp.dst (.slc d sz x lo hi mx)=W d:=rfl
def rR{d x lo hi}:AOp.dst (.sslc d x lo hi)=W d:=rfl
def qx{d x off}:AOp.dst (.faddr d x off)=W d:=rfl
def qy{d x off g n}:AOp.dst (.field d x off g n)=W d:=rfl
def rA{d x i sz}:AOp.dst (.iaddr d x i sz)=W d:=rfl
def qk{d x i len sz}:AOp.dst (.aaddr d x i len sz)=W d:=rfl
def rC{d x i}:AOp.dst (.idx d x i)=W d:=rfl
def qw{d x i}:AOp.dst (.extr d x i)=W d:=rfl
def rG{d t x}:AOp.dst (.mkif d t x)=W d:=rfl
def rT{d x t zc}:AOp.dst (.tass d x t zc)=W d:=rfl
def rD{d x}:AOp.dst (.len d x)=W d:=rfl
def rQ{d x}:AOp.dst (.slen d x)=W d:=rfl
def rO{d x}:AOp.dst (.sconv d x)=W d:=rfl
def rJ{d m x y}:AOp.dst (.mm d m x y)=W d:=rfl
def rF{d f caps}:AOp.dst (.mkf d f caps)=W d:=rfl
def qp{d x}:AOp.dst (.box d x)=W d:=rfl
def qm{d cs}:AOp.dst (.alloc d cs)=W d:=rfl
def qq{d sz zs len ps}:AOp.dst (.bslice d sz zs len ps)=W d:=rfl
def rH{d sz b zs x y}:AOp.dst (.mksl d sz b zs x y)=W d:=rfl
def qt{d f args}:AOp.dst (.call d f args)=W d:=rfl
def qu{d x args}:AOp.dst (.callv d x args)=W d:=rfl
def ta(rs:zA R1):zD:=(rs.flatMap R1.cells).all fun | .v d=>d.flat | .o _ _=>V
def Br{rs:zA R1}(h:ta rs=O):CB rs:=by
 intro c hc;have:=zI.1 h c hc;cases c with
 | v d=>exact this
 | o=>cases this
end
def D.Ok(d:D):Prop:=∃h v,Rep h d v
def DsOk(ds:zA DV):Prop:=∃h vs,DVRels h ds vs
def D.Ok.int{k:IntKind}{n:Int}(h:(D.int k n).Ok):k.min<=n/\n<=k.max:=by
 obtain⟨_,_,h⟩:=h;cases h with | int a b=>exact⟨a,b⟩
def D.Ok.str{s:zA UInt8}(h:(D.str s).Ok):s.length<=maxLen:=by
 obtain⟨_,_,h⟩:=h;cases h with | str a=>exact a
def Reps.ok{h:A6}:∀{ds:zA D} {vs:zA Value},Reps h ds vs->∀d∈ds,d.Ok
 | _,_,.nil,d,hd=>by simp at hd
 | _,_,.cons a b,d,hd=>by
  rcases zL.1 hd with rfl|hd
  .exact⟨_,_,a⟩
  .exact Reps.ok b d hd
def RepRows.ok{h:A6}{sz:zE}:∀{es:zA (zA D)} {vs:zA Value},RepRows h sz es vs->∀r∈es,r.length=sz/\∀d∈r,d.Ok
 | _,_,.nil,r,hr=>by simp at hr
 | _,_,.cons a b c,r,hr=>by
  rcases zL.1 hr with rfl|hr
  .exact⟨a,b.ok⟩
  .exact RepRows.ok c r hr
def D.Ok.sl{es:zA (zA D)}(h:(D.sl es).Ok):es.length<=maxLen/\∀r∈es,∀d∈r,d.Ok:=by
 obtain⟨_,_,h⟩:=h;cases h with
 | nil=>exact⟨yE _,d0⟩
 | sl a b c d e f=>exact⟨a9,fun r hr=>(c.ok r hr).2⟩
def D.Ok.pd{cs:zA D}(h:(D.pd cs).Ok):∀d∈cs,d.Ok:=by
 obtain⟨_,_,h⟩:=h;cases h with | pd a b=>exact b.ok
def DsOk.sc{d:D}{ds:zA DV}(h:DsOk (.sc d::ds)):d.Ok/\DsOk ds:=by
 obtain⟨_,_,h⟩:=h;cases h with | cons a b=>
 cases a with | sc a=>exact⟨⟨_,_,a⟩,⟨_,_,b⟩⟩
def DsOk.ag{cs:zA D}{ds:zA DV}(h:DsOk (.ag cs::ds)):(∀d∈cs,d.Ok)/\DsOk ds:=by
 obtain⟨_,_,h⟩:=h;cases h with | cons a b=>
 cases a with | ag a _=>exact⟨a.ok,⟨_,_,b⟩⟩
def iI{P:Program}(hm:P.follows .mixedOrders=O){f:FuncId}{c:Xf}{ts:zA RV}{nt:zE}{ds:zA DV}{rs:zA R1}(he:AF P f=W (c.strip,ts,nt))(hl:ds.length<=nt)(h:DsOk ds->B0 P c (A5 ts rs) (St.init ds)):FC P f ds rs:=
 fun w A vs hG hvs=>iF hm he hl (h ⟨_,_,hvs⟩) w A vs hG hvs
def Ai{n:Int}(h1: -9223372036854775808<=n)(h2:n<=9223372036854775807):IntKind.i64.wrap n=n:=IntWalk.i64_in n ⟨h1,h2⟩
def gD{i n:zE}(h1:i<n)(h2:n<=maxLen):IntKind.i64.wrap ((i:Int)+1)=((i+1:zE):Int):=by
 unfold maxLen at h2
 rw[Ai a9 a9];rfl
def law_true{P:Program}{f:FuncId}{ds:zA DV}(hf:FC P f ds [.sc (.v (.bool O))]){w:World}(hG:GoodW w){vs:zA Value}(hv:DVRels (B7 w) ds vs) :
  Calls P f vs.toArray w fun e w'=>e= .returned (.bool O)/\RowKit.Below w.heap.size w w':=by
 refine(hf w (fun _ _=>True) vs hG (hv.mono fun b C h=>by
  obtain⟨c,t,fr,h1,h2⟩:=h;exact⟨c,t,fr,trivial,h1,h2⟩)).mono fun e w' h=> ?_
 obtain⟨v,bs,rfl,hb,hr,_⟩:=h;refine⟨?_,hb⟩;cases hr with
 | one hr=>
  cases hr with | sc hr=>
  cases hr with | v hr=>
  cases hr;rfl
 | many h=>simp at h
end Go.Vi
