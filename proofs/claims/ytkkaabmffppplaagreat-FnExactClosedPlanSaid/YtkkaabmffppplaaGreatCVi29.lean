/-
The value level. No condition.
-/
import Derived.Test.YtkkaabmffppplaaGreatCVi15
import Derived.Tactics
import Derived.Orders
import Derived.IntWalk
namespace Go.Vi
set_option linter.all false
open Option renaming map_eq_some_iff → zE, bind_some → yL, getD_some → yM, some → U, none → V
open Bool renaming and_eq_true → zF, not_eq_true' → zI, and_true → zP, true → T, false → O
open List renaming all_eq_true → zG, getElem?_eq_some_iff → zH, mem_cons → zJ, contains_eq_mem → zK, mem_range' → zL, getElem?_eq_getElem → zM, mem_append → zN, mem_of_getElem? → zO, nodup_cons → zQ, range' → zT, flatMap_cons → zU, all_nil → zV, all_cons → zW, getD_eq_getElem?_getD → zX, getElem?_append_left → zY, mem_filter → zZ, contains_cons → yA, length_eq_one_iff → yD, eq_nil_iff_forall_not_mem → yF, map_congr_left → yG, filterMap_cons → yH, getElem?_append_right → yI, getElem?_map → yJ, mem_map → yK, mapM_cons → yO, drop_drop → yP, mem_range → yQ, nodup_nil → yR, range → yS
open Option.some renaming inj → zR, injEq → yB
open Nat renaming le_refl → zS, zero_le → yC, zero_add → yE, le_of_not_lt → yN
open _root_ renaming List → W, Option → I, Bool → zB, Nat → zC, rfl → zD
section
abbrev AItem:=I (zC × zB) × AOp
abbrev AZ:=I (W zC) × AItem
inductive Xg where
 | skip
 | reg (its:W AItem)
 | drw (its:W AZ)
 | seq (x y:Xg)
 | cond (c:Opd) (x y:Xg)
 | block (id:zC) (c:Xg)
 | loop (c:Xg)
 | exit (id:zC)
 | ret
 | pan (its:W AItem) (x:Opd)
 | cal (its:W AItem) (d:zC) (f:FuncId) (args:W Opd)
 | any (its:W (W zC × AItem))
 | hook (nt:zC) (C:Code)
 deriving Inhabited
inductive Xl where
 | normal
 | exit (id:zC)
 | ret
 | pan (d:D)
def Xl.Is:Xl→Exit→Prop
 | .normal,e=>e= .normal
 | .exit id,e=>e= .exit id
 | .ret,e=>e= .ret
 | .pan d,e=>∃v,e= .panic [{v:=v,recovered:=false }]∧Rep (fun _ _=>False) d v
def AW(P:Program)(f:FuncId):zB:=
 match P.funcs[f]? with
 | some fn => fn.body.isSome && !(fn.name == "runtime.NumGoroutine")
 | none=>O
def St.handed(σ:St)(P:Program)(f:FuncId)(args:W Opd)(ds:W DV)(rs:W R1):Prop:=(σ.toDVs args=U ds∧(Cu rs∨FCf P f ds rs))∨σ.toIVs args=U ds
def St.handedV(σ:St)(x:Opd)(args:W Opd)(f:FuncId)(caps:W D)(ds:W DV)(rs:W R1):Prop:=
 (σ.toDV (σ.val x)=U (.sc (.clo f caps))∧σ.toDVs args=U ds∧Cu rs)∨(σ.val x= .v (.sc (.dat (.clo f caps)))∧σ.toIVs args=U ds)
def VsRel(X:Cx)(avs:W AV)(vs:W Value):Prop:=avs.length=vs.length∧∀(i:zC) (u:AV) (v:Value),avs[i]?=U u→vs[i]?=U v→VRel X u v
def CallC(P:Program)(f:FuncId)(avs:W AV)(σ σ':St)(r:AV):Prop:=
 ∀(A:Ar) (B:zC) (w0:Base) (w:World) (nm:Aa) (tmps:Array Value) (vs:W Value),Rel A B w0 nm σ tmps w→VsRel (cx A nm σ w) avs vs→Calls P f vs.toArray w fun e w'=>
  ∃(v:Value) (nm':Aa),e= .returned v∧Rel A B w0 nm' σ' tmps w'∧VRel (cx A nm' σ' w') r v
def Qq(P:Program)(f:FuncId)(avs:W AV)(σ:St)(S:St→AV→Prop):Prop:=
 ∀(A:Ar) (B:zC) (w0:Base) (w:World) (nm:Aa) (tmps:Array Value) (vs:W Value),Rel A B w0 nm σ tmps w→VsRel (cx A nm σ w) avs vs→Calls P f vs.toArray w fun e w'=>
  ∃(v:Value) (nm':Aa) (σ':St) (r:AV),e= .returned v∧S σ' r∧Rel A B w0 nm' σ' tmps w'∧VRel (cx A nm' σ' w') r v
theorem CallC.s{P:Program}{f:FuncId}{avs:W AV}{σ σ':St}{r:AV}(H:CallC P f avs σ σ' r):Qq P f avs σ (fun a b=>a=σ'∧b=r):=fun A B w0 w nm tmps vs R hv=>(H A B w0 w nm tmps vs R hv).mono fun e w' ⟨v,nm',h1,h2,h3⟩=>⟨v,nm',σ',r,h1,⟨rfl,rfl⟩,h2,h3⟩
def AY(P:Program)(o:AOp)(K:St→Prop)(σ:St):Prop:=
 match o with
 | .call d f args=>(∃ds rs,σ.handed P f args ds rs∧FC P f ds rs∧σ.fresh d=T∧(rs.flatMap R1.cells).length≤64∧K (σ.inst d rs))∨
   (∃ids xs R0 R1 r,σ.handedX args ids xs R0 R1∧FCx P f xs R0 R1 r∧K (σ.instX d ids R1 r))∨
   (∃S,Qq P f (args.map σ.val) σ S∧∀σ' r,S σ' r→K (σ'.set d r))
 | .callv d x args=>(∃f caps ds rs,σ.handedV x args f caps ds rs∧AW P f=T∧FC P f (ds++caps.map .sc) rs∧σ.fresh d=T∧(rs.flatMap R1.cells).length≤64∧K (σ.inst d rs))∨
   (∃f ids σ' r,σ.val x= .v (.sc (.clo f ids))∧AW P f=T∧CallC P f (args.map σ.val++ids.map fun i=> .v (.sc (.pb i 0))) σ σ' r∧K (σ'.set d r))
 | o=>match σ.step o with
  | some σ'=>K σ'
  | none=>False
def AM(g:I (zC × zB))(σ:St)(yes no:Prop):Prop:=
 match g with
 | none=>yes
 | some (t,want)=>match σ.get t with
  | .v (.sc (.dat (.bool b)))=>if b=want then yes else no
  | .no=>no
  | _=>False
def AOp.dst:AOp→I zC
 | .mv d _ | .pick d _ _ _ | .box d _ | .alloc d _ | .build d _ _ | .bslice d _ _ _ _ | .load d _ _ _ | .nilc d _ | .bin d _ _ _ | .beq d _ _ _ | .geq d _ _ _ _ | .un d _ _ | .conv d _ _ | .mksl d _ _ _ _ _ | .slc d _ _ _ _ _ | .sslc d _ _ _
 | .faddr d _ _ | .field d _ _ _ _ | .iaddr d _ _ _ | .aaddr d _ _ _ _ | .idx d _ _ | .extr d _ _ | .len d _ | .slen d _ | .sconv d _ | .app d _ _ _ _ | .mm d _ _ _ | .mkf d _ _ | .call d _ _ | .callv d _ _ | .zsl d | .zap d _ _ _ _ | .mkif d _ _ | .tass d _ _ _=>U d
 | _=>V
def Bj(P:Program):W AItem→(St→Prop)→St→Prop
 | [],K,σ=>K σ
 | (g,o)::r,K,σ=>AM g σ (AY P o (Bj P r K) σ) (match o.dst with | some d=>Bj P r K (σ.set d .no) | none=>False)
def St.less(σ:St):W zC→St
 | []=>σ
 | N=>{σ with bx:=σ.bx.filter fun p=> !N.contains p.1,rows:=σ.rows.filter fun p=> !N.contains (p.1 / 64)}
def AC.avoids(N:W zC)(c:AC):zB:=N.all fun n=> !c.uses n
def AV.avoids(N:W zC)(v:AV):zB:=v.cells.all (·.avoids N)
def GB(P:Program)(N:W zC)(o:AOp)(K:St→Prop)(σ:St):Prop:=
 match o with
 | .call d f args=>∃ds rs,(σ.less N).handed P f args ds rs∧FC P f ds rs∧σ.fresh d=T∧(rs.flatMap R1.cells).length≤64∧K (σ.inst d rs)
 | .callv d x args=>∃f caps ds rs,(σ.less N).handedV x args f caps ds rs∧AW P f=T∧FC P f (ds++caps.map .sc) rs∧σ.fresh d=T∧(rs.flatMap R1.cells).length≤64∧K (σ.inst d rs)
 | o=>match (σ.less N).pure o with
  | some (d,v)=>v.avoids N=T∧K (σ.set d v)
  | none=>match (σ.less N).made o with
   | some m=>(match m with | .box _ cs=>cs.all (·.avoids N) | _=>T)=T∧(match σ.make m with
    | some σ'=>K σ'
    | none=>False)
   | none=>False
def AOp.maker:AOp→zB
 | .box .. | .alloc .. | .bslice .. | .mksl .. | .call .. | .callv .. | .zap .. =>T
 | _=>O
def CZ(its:W AZ)(σ:St):zB:=its.all fun i=>match i.1,i.2.2.maker,i.2.2.dst with
 | some _,T,U d=>σ.fresh d
 | _,_,_=>T
def Ck(P:Program):W AZ→(St→Prop)→St→Prop
 | [],K,σ=>K σ
 | (V,g,o)::r,K,σ=>AM g σ (AY P o (fun σ'=>CZ r σ'=T∧Ck P r K σ') σ) (match o.dst with | some d=>CZ r (σ.set d .no)=T∧Ck P r K (σ.set d .no) | none=>False)
 | (U N,g,o)::r,K,σ=>AM g σ (GB P N o (Ck P r K) σ) (match o.dst with | some d=>Ck P r K (σ.set d .no) | none=>False)
def BZ(P:Program)(its:W (W zC × AItem))(τ:St):zC→W zB→St→Prop
 | 0,ms,σ=>ms.all id=T→σ=τ
 | f+1,ms,σ=>∀(i:zC) (it:W zC × AItem),its[i]?=U it→ms[i]?=U O→(∀j∈it.1,ms[j]?=U T)→
   ∃pre post:W AItem,pre.all (fun i=>i.2.idle)=T∧post.all (fun i=>i.2.idle)=T∧
    Bj P pre (fun σ=>AM it.2.1 σ (AY P it.2.2 (Bj P post (BZ P its τ f (ms.set i T))) σ) (match it.2.2.dst with | some d=>Bj P post (BZ P its τ f (ms.set i T)) (σ.set d .no) | none=>False)) σ
def St.pad(σ:St)(ds:W zC):St:={σ with env:=σ.env++ds.map fun d=>(d,.undef)}
def UN:D→zB
 | .ifc .. | .ifs .. =>T
 | _=>O
def gb(P:Program)(nt:zC)(C:Code)(σ σ':St):Prop:=∀(A:Ar) (B:zC) (w0:Base) (nm:Aa) (a:Act) (w:World),Rel A B w0 nm σ a.tmps w→a.tmps.size=nt→
 C.wp P (fun e a' w'=>e= .normal∧(∃nm',Rel A B w0 nm' σ' a'.tmps w')∧a'.tmps.size=nt∧a'.defers=a.defers) a w
def B5(P:Program):Xg→(Xl→St→Prop)→St→Prop
 | .skip,Q,σ=>Q .normal σ
 | .reg its,Q,σ=>Bj P its (Q .normal) σ
 | .drw its,Q,σ=>CZ its σ=T∧Ck P its (Q .normal) σ
 | .seq x y,Q,σ=>B5 P x (fun e σ'=>match e with | .normal=>B5 P y Q σ' | e=>Q e σ') σ
 | .cond c x y,Q,σ=>match σ.val c with
  | .v (.sc (.dat (.bool b)))=>if b=T then B5 P x Q σ else B5 P y Q σ
  | _=>False
 | .block id c,Q,σ=>B5 P c (fun e σ'=>match e with | .exit i=>if i=id then Q .normal σ' else Q (.exit i) σ' | e=>Q e σ') σ
 | .loop c,Q,σ=>∀X:St→Prop,(∀σ',B5 P c (fun e σ''=>match e with | .normal=>X σ'' | e=>Q e σ'') σ'→X σ')→X σ
 | .exit id,Q,σ=>Q (.exit id) σ
 | .ret,Q,σ=>Q .ret σ
 | .any its,Q,σ=>∃ks bs rs τ,BZ P its τ its.length (its.map fun _=>O) ((σ.kept ks bs rs).pad (its.filterMap fun i=>i.2.2.dst))∧Q .normal τ
 | .pan its x,Q,σ=>Bj P its (fun σ'=>∃d,σ'.val x= .v (.sc (.dat d))∧d.flat=T∧UN d=T∧Q (.pan d) σ') σ
 | .cal its d f args,Q,σ=>Bj P its (fun σ'=>AY P (.call d f args) (Q .normal) σ'∨∃ds pd,σ'.toDVs args=U ds∧MD P f ds pd∧Q (.pan pd) σ') σ
 | .hook nt C,Q,σ=>∃σ',gb P nt C σ σ'∧Q .normal σ'
def Ie(ops:Array Oper):I (zC × zB)→I (I (zC × zB))
 | none=>U V
 | some (j,want)=>match (ops[j]?).bind (·.dst) with
  | some t=>U (U (t,want))
  | none=>V
def If(P:Program)(nt:zC)(ops:Array Oper)(o:Oper):I AItem:=
 match Ie ops o.guard,CG P nt o with
 | some g,U ao=>U (g,ao)
 | _,_=>V
def BB(P:Program)(nt:zC)(ops:Array Oper):W Oper→I (W AItem)
 | []=>U []
 | o::r=>match If P nt ops o,BB P nt ops r with
  | some i,U is=>U (i::is)
  | _,_=>V
def Opd.slots:Opd→W zC
 | .t n=> [n]
 | .c _=> []
def F6:I Opd→W zC
 | some x=>x.slots
 | none=> []
def AOp.slots:AOp→W zC
 | .mv _ x | .box _ x | .load _ x _ _ | .nilc _ x | .un _ _ x | .conv _ _ x | .faddr _ x _ | .field _ x _ _ _ | .extr _ x _ | .len _ x | .slen _ x | .sconv _ x | .mkif _ _ x | .tass _ x _ _=>x.slots
 | .pick _ c a b=>c.slots++a.slots++b.slots
 | .clr x _ _=>x.slots
 | .alloc _ _ | .zsl _=> []
 | .build _ _ ps=>ps.flatMap fun p=>p.2.2.slots
 | .bslice _ _ _ _ ps=>ps.flatMap fun p=>p.2.slots
 | .store x y _ | .bin _ _ x y | .beq _ _ x y | .geq _ _ _ x y | .mksl _ _ _ _ x y | .iaddr _ x y _ | .aaddr _ x y _ _ | .idx _ x y | .app _ _ _ x y | .mm _ _ x y | .zap _ _ _ x y=>x.slots++y.slots
 | .slc _ _ x lo hi mx=>x.slots++F6 lo++F6 hi++F6 mx
 | .sslc _ x lo hi=>x.slots++F6 lo++F6 hi
 | .mkf _ _ xs | .call _ _ xs=>xs.flatMap Opd.slots
 | .callv _ x xs=>x.slots++xs.flatMap Opd.slots
 | .drop _ | .own _ _ _ _ | .ownb _ _ _ _ | .ren _ _ | .frz _ | .frzb _ | .forget _ | .keep .. | .cut _=> []
def AItem.slots(i:AItem):W zC:=(match i.1 with | some g=> [g.1] | none=> [])++i.2.slots
def AOp.gentle:AOp→zB
 | .store .. | .clr .. | .app .. | .drop _ | .own .. | .ownb .. | .ren .. | .frz _ | .frzb _ | .forget _ | .keep .. | .cut _=>O
 | _=>T
def waits(o:Oper):W zC:=(o.after.toList.filter (Region.binds .any)).map (·.on)
def W3(l m:W zC):W zC:=l.foldr (fun x acc=>if acc.contains x then acc else x::acc) m
def EE(acc:W (W zC)):W zC→W zC
 | []=> []
 | j::r=>W3 (j::acc.getD j []) (EE acc r)
def Bg:W Oper→W (W zC)→W (W zC)
 | [],acc=>acc
 | o::r,acc=>Bg r (acc++ [EE acc (waits o)])
def Bx(an:W (W zC))(i j:zC):zB:=i !=j&& !(an.getD i []).contains j&& !(an.getD j []).contains i
def qX(its:W AItem)(js:W zC):W zC:=js.filterMap fun j=>(its[j]?).bind fun i=>if i.2.maker then i.2.dst else V
def AOp.envOnly:AOp→zB
 | .mv .. | .pick .. | .extr .. | .un .. | .bin .. | .beq .. | .geq .. =>T
 | _=>O
def Mc(jt it:AItem):zB:=jt.2.envOnly&&(match it with
 | (V,.store x y _)=>(match jt.2.dst with | some d=> !(x.slots++y.slots).contains d | none=>O)
 | _=>O)
def bO(an:W (W zC))(its:W AItem)(i:zC)(it:AItem)(js:W zC):zB:=
 (js.all fun j=>decide (j<i)&&(match its[j]? with | some jt=>Mc jt it | none=>O))&&(yS its.length).all fun l=>decide (l≤i) || js.all fun j=>(an.getD l []).contains j
def AOp.calls:AOp→zB
 | .call .. =>T
 | _=>O
def KE(an:W (W zC))(its:W AItem)(i:zC)(it:AItem):I AZ:=
 let js:=(yS its.length).filter (Bx an i)
 if it.2.gentle&& !(js.isEmpty&&it.2.calls) then
  if js.all fun j=>match its[j]? with | some jt=>(match jt.2.dst with | some d=> !it.slots.contains d | none=>Mc it jt) | none=>O then U (U (qX its js),it) else V
 else if bO an its i it js then U (V,it) else V
def KF(an:W (W zC))(its:W AItem):zC→W AItem→I (W AZ)
 | _,[]=>U []
 | i,it::r=>match KE an its i it,KF an its (i+1) r with
  | some x,U xs=>U (x::xs)
  | _,_=>V
def KD:W zC→zB
 | []=>T
 | x::r=> !r.contains x&&KD r
def Km:zC→W Oper→zB
 | _,[]=>T
 | i,o::r=>(waits o).all (· < i)&&Km (i+1) r
def Qo(z:W zC):AItem→AItem
 | (g,.bslice d sz zs 0 [])=>if z.contains d then(g,.zsl d) else(g,.bslice d sz zs 0 [])
 | (g,.app d sz b (.t q) y)=>if z.contains q then(g,.zap d sz b (.t q) y) else(g,.app d sz b (.t q) y)
 | it=>it
def gI(its:W AItem):W zC:=its.filterMap fun i=>match i.2 with
 | .app _ _ _ (.t q) _=>if its.any fun k=>match k.2 with | .bslice d _ _ 0 []=>d==q | _=>O then U q else V
 | _=>V
def QM(ops:Array Oper)(its:W AItem):I (W AZ):=
 if Km 0 ops.toList&&KD (its.filterMap fun i=>if i.2.gentle then i.2.dst else V) then KF (Bg ops.toList []) its 0 its else V
def MS(P:Program)(nt:zC)(ops:Array Oper):I (W AZ):=
 match BB P nt ops ops.toList with
 | some its=>match QM ops its with
  | some ds=>U ds
  | none=>QM ops (its.map (Qo (gI its)))
 | none=>V
def cX(P:Program)(ops:Array Oper):zB:=ops.toList.any fun o=>match o.op with
 | .call {callee:= .value (.func f),.. }=>(match P.funcs[f]? with
  | some fn=>fn.params.toList.any fun t=>match P.underlying t with | some (.pointer _)=>T | _=>O
  | none=>O)
 | _=>O
def MQ(P:Program)(nt:zC)(ops:Array Oper):I (W (W zC × AItem)):=
 match BB P nt ops ops.toList with
 | some its=>if Km 0 ops.toList then U ((ops.toList.map waits).zip its) else V
 | none=>V
def A1l(P:Program)(f:FuncId):zB:=match P.funcs[f]? with
 | some fn=>fn.results.isEmpty
 | none=>O
def Ye(P:Program)(nt:zC)(ops:Array Oper):I Xg:=
 match ops.toList.getLast? with
 | some o=>if o.guard.isNone then(match o.op with
  | .panic x=>(match AL x,BB P nt ops ops.toList.dropLast with
   | some y,U its=>U (.pan its y)
   | _,_=>V)
  | .call _=>(match CG P nt o,BB P nt ops ops.toList.dropLast with
   | some (.call d f args),U its=>if A1l P f then U (.cal its d f args) else V
   | _,_=>V)
  | _=>V) else V
 | none=>V
def TG(P:Program)(nt:zC)(ops:Array Oper):I Xg:=
 match Ye P nt ops with
 | some c=>U c
 | none=>(BB P nt ops ops.toList).map .reg
def cJ(nt:zC)(C:Code):I Xg→I Xg
 | some c=>U c
 | none=>U (.hook nt C)
theorem Ds{nt:zC}{C:Code}{o:I Xg}{c:Xg}(h:cJ nt C o=U c):o=U c∨c= .hook nt C:=by
 cases o with
 | some x=>exact .inl h
 | none=>cases h; exact .inr rfl
def Bd(P:Program)(nt:zC):Code→I Xg
 | .skip=>U .skip
 | .label _=>U .skip
 | .region id ops O=>cJ nt (.region id ops O) (TG P nt ops)
 | .region _ ops T=>bif cX P ops then(MQ P nt ops).map .any else match MS P nt ops with
  | some is=>U (.drw is)
  | none=>(MQ P nt ops).map .any
 | .seq x y=>match Bd P nt x,Bd P nt y with
  | some x,U y=>U (.seq x y)
  | _,_=>V
 | .cond c x y=>match AL c,Bd P nt x,Bd P nt y with
  | some c,U x,U y=>U (.cond c x y)
  | _,_,_=>V
 | .block id c=>(Bd P nt c).map (.block id)
 | .loop c=>(Bd P nt c).map .loop
 | .exit id=>U (.exit id)
 | .ret=>U .ret
 | _=>V
def Xg.strip:Xg→Xg
 | .reg its=> .reg (its.filter fun i=> !i.2.idle)
 | .seq (.reg its) y=>bif !its.isEmpty&&its.all (fun i=>i.2.idle) then y.strip else .seq (.reg (its.filter fun i=> !i.2.idle)) y.strip
 | .seq x y=> .seq x.strip y.strip
 | .cond c x y=> .cond c x.strip y.strip
 | .block id c=> .block id c.strip
 | .loop c=> .loop c.strip
 | .pan its x=> .pan (its.filter fun i=> !i.2.idle) x
 | .cal its d f args=> .cal (its.filter fun i=> !i.2.idle) d f args
 | c=>c
section
variable {P : Program} {A : Ar} {B : zC} {w0 : Base} {w : World} {nm : Aa} {σ : St} {a : Act}
theorem MR{d:zC}{o:Oper}{ao:AOp}(h:Ac P d o=U ao):ao.dst=U d∧ao.idle=O:=by
 obtain⟨dst,op,ty,pos,after,guard⟩:=o;cases op<;>simp only[Ac] at h
 case move | assign | box | nilCheck | unOp | extract=>simp only[zE] at h; obtain⟨_,_,rfl⟩:=h; exact⟨rfl,rfl⟩
 case alloc=>split at h<;>first | (cases h; done) | (simp only[zE] at h; obtain⟨_,_,rfl⟩:=h; exact⟨rfl,rfl⟩)
 case pick=>split at h<;>first | (cases h; done) | (cases h; exact⟨rfl,rfl⟩)
 case indexAddr=>
  split at h
  ·cases h; exact⟨rfl,rfl⟩
  ·split at h
   ·split at h
    ·split at h
     ·split at h
      ·cases h; exact⟨rfl,rfl⟩
      ·cases h
     ·cases h; exact⟨rfl,rfl⟩
    ·cases h
   ·cases h
  ·cases h
 case index=>
  split at h
  ·cases h; exact⟨rfl,rfl⟩
  ·split at h
   ·split at h
    ·cases h; exact⟨rfl,rfl⟩
    ·cases h
   ·cases h
  ·cases h
 case convert=>
  split at h
  ·cases h; exact⟨rfl,rfl⟩
  ·split at h
   ·cases h; exact⟨rfl,rfl⟩
   ·cases h
  ·cases h
 case build=>
  split at h
  ·split at h
   ·split at h<;>first | (cases h; done) | (cases h; exact⟨rfl,rfl⟩)
   ·cases h
  ·split at h
   ·split at h<;>first | (cases h; done) | (cases h; exact⟨rfl,rfl⟩)
   ·cases h
  ·cases h
 case buildSlice | makeSlice=>
  split at h
  ·split at h
   ·split at h<;>first | (cases h; done) | (cases h; exact⟨rfl,rfl⟩)
   ·cases h
  ·cases h
 case load=>
  split at h
  ·split at h<;>first | (cases h; done) | (cases h; exact⟨rfl,rfl⟩)
  ·cases h
 case binOp=>
  split at h
  ·split at h<;>first
    | (cases h; exact⟨rfl,rfl⟩; done)
    | (simp only[zE] at h; obtain⟨_,_,rfl⟩:=h; exact⟨rfl,rfl⟩)
  ·cases h
 case slice=>
  split at h
  ·split at h
   ·cases h
   ·split at h
    ·split at h<;>first | (cases h; done) | (cases h; exact⟨rfl,rfl⟩)
    ·simp only[zE] at h; obtain⟨_,_,rfl⟩:=h; exact⟨rfl,rfl⟩
    ·cases h
  ·cases h
 case makeInterface=>split at h<;>first | (cases h; done) | (cases h; exact⟨rfl,rfl⟩)
 case typeAssert=>
  split at h<;>first | (cases h; done) | (split at h<;>first | (cases h; done) | (cases h; exact⟨rfl,rfl⟩))
 case fieldAddr=>
  split at h
  ·split at h
   ·split at h
    ·split at h<;>first | (cases h; done) | (cases h; exact⟨rfl,rfl⟩)
    ·cases h
   ·cases h
  ·cases h
 case field=>
  split at h
  ·split at h
   ·split at h
    ·split at h<;>first | (cases h; done) | (cases h; exact⟨rfl,rfl⟩)
    ·cases h
   ·cases h
  ·cases h
 case makeFunc fn _ _=>
  cases fn<;>simp only[reduceCtorEq] at h;split at h
  ·simp only[zE] at h; obtain⟨_,_,rfl⟩:=h; exact⟨rfl,rfl⟩
  ·cases h
 case call c=>
  obtain⟨callee,args,argTypes⟩:=c;cases callee with
  | value f=>
   cases f<;>simp only[reduceCtorEq] at h
   case func=>
    split at h
    ·split at h
     ·simp only[zE] at h; obtain⟨_,_,rfl⟩:=h; exact⟨rfl,rfl⟩
     ·cases h
    ·cases h
   case tmp=>simp only[zE] at h; obtain⟨_,_,rfl⟩:=h; exact⟨rfl,rfl⟩
  | invoke r m=>simp at h
  | builtin bi=>
   cases bi<;>simp only[reduceCtorEq] at h
   all_goals
    split at h
    ·split at h
     all_goals first
      | (cases h; done)
      | (cases h; exact⟨rfl,rfl⟩)
      | (split at h<;>first | (cases h; done) | (cases h; exact⟨rfl,rfl⟩))
    ·cases h
 all_goals (cases h)
theorem ry{t:TypeId}{x y:Operand}{o:Oper}(h:o.op= .store t x y):execOp a.eval o=(do Instr.storeAt t (a.eval x) (a.eval y); pure .skip:Sem Next):=by
 unfold execOp;rw[h]
theorem A37{Q:Exit→Act→World→Prop}{K:Act→World→Prop}{nt:zC}{o:Oper}{ao:AOp}{σ':St}(R:Rel A B w0 nm σ a.tmps w)(hnt:a.tmps.size=nt)(hc:CG P nt o=U ao)(hs:σ.step ao=U σ')
  (hK:∀nm' a' w',Rel A B w0 nm' σ' a'.tmps w'→a'.tmps.size=nt→a'.defers=a.defers→K a' w'):o.wp P a w K Q:=by
 have put_size:∀(x:I zC) (v:Value),(a.put x v).tmps.size=nt:=by intro x v; cases x<;>simp[Act.put,hnt]
 have put_def:∀(x:I zC) (v:Value),(a.put x v).defers=a.defers:=by intro x v; cases x<;>rfl
 have value:∀{d v w' nm'},o.dst=U d→(execOp a.eval o).run P w= .ok (.value v) w'→Rel A B w0 nm' σ' (a.put (U d) v).tmps w'→o.wp P a w K Q:=by
  intro d v w' nm' hd hrun R';unfold Oper.wp;rw[hrun,Oper.upon_value,hd];exact hK nm' _ _ R' (put_size _ _) (put_def _ _)
 unfold CG at hc
 split at hc
 ·rename_i d hd
  split at hc
  ·rename_i hlt
   obtain⟨h1,h2⟩:=MR hc
   have rest:(match σ.pure ao with
     | some (d,v)=>U (σ.set d v)
     | none=>match σ.made ao with
      | some m=>σ.make m
      | none=>V)=U σ'→o.wp P a w K Q:=by
    intro h;split at h
    ·rename_i d' v hp
     cases h;obtain⟨rfl,u,hrun,hrel⟩:=A1n (P:=P) R hc hp;exact value hd hrun (R.put (by rw[hnt]; exact hlt) hrel)
    ·split at h
     ·rename_i m hm
      obtain⟨v,w',nm',hrun,R'⟩:=yz (P:=P) R (by rw[hnt]; exact hlt) hd hc hm h;exact value hd hrun (by rw[hd] at R'; exact R')
     ·cases h
   cases ao<;>first
    | (cases h2; done)
    | (cases h1; done)
    | exact rest hs
    | skip
   case app d' sz bytes x y=>
    obtain⟨dst,op,ty,pos,after,guard⟩:=o;simp only at hd
    subst hd;cases op<;>try (simp[Ac] at hc; done)
    case call c=>
     obtain⟨callee,args,argTypes⟩:=c;cases callee with
     | builtin bi=>
      cases bi<;>try (simp[Ac] at hc; done)
      case append=>
       simp only[Ac] at hc
       split at hc
       ·rename_i X Y t t' hargs htys
        have e1:args= #[X,Y]:=by apply Array.ext'; simpa using hargs
        have e2:argTypes= #[t,t']:=by apply Array.ext'; simpa using htys
        subst e1 e2;split at hc
        ·rename_i i z e' x' y' hz hu' hx hy
         split at hc
         ·rename_i hcond
          cases hc;obtain⟨e,hu,hi,hz2⟩:=KI hz;obtain⟨v,w',nm',hrun,R'⟩:=mD (P:=P) (ty:=ty) R hu hu' hi hz2 hcond.1 hcond.2.1 (show d<a.tmps.size by rw[hnt]; exact hlt) (Ay R hx) (Ay R hy) hs;refine value zD ?_ R';simp[execOp,resolve,invoke,builtin,hrun]
         ·cases hc
        ·cases hc
       ·cases hc
      case len=>simp only[Ac] at hc; split at hc<;>first | (cases hc; done) | (split at hc<;>cases hc)
      case max=>simp only[Ac] at hc; split at hc<;>first | (cases hc; done) | (split at hc<;>cases hc)
      case min=>simp only[Ac] at hc; split at hc<;>first | (cases hc; done) | (split at hc<;>cases hc)
     | value f=>
      cases f<;>simp only[Ac,reduceCtorEq] at hc
      ·simp only[zE] at hc; obtain⟨_,_,h⟩:=hc; cases h
      ·split at hc
       ·split at hc
        ·simp only[zE] at hc; obtain⟨_,_,h⟩:=hc; cases h
        ·cases hc
       ·cases hc
     | invoke r m=>simp[Ac] at hc
    case makeFunc fn first caps=>
     exfalso
     cases fn<;>simp only[Ac,reduceCtorEq] at hc
     split at hc
     ·simp only[zE] at hc; obtain⟨_,_,h⟩:=hc; cases h
     ·cases hc
    all_goals
     exfalso
     simp only[Ac] at hc
     first
      | (simp only[zE] at hc; obtain⟨_,_,h⟩:=hc; cases h; done)
      | ((repeat' (split at hc))<;>first | (cases hc; done) | (simp only[zE] at hc; obtain⟨_,_,h⟩:=hc; cases h; done))
  ·cases hc
 ·rename_i hd
  split at hc
  ·rename_i t x y hop
   split at hc
   ·rename_i i ax ay hi hx hy
    cases hc;have hxr:=Ay R hx;have hyr:=Ay R hy
    have skip:∀{w' nm'},(Instr.storeAt t (a.eval x) (a.eval y)).run P w= .ok () w'→Rel A B w0 nm' σ' a.tmps w'→o.wp P a w K Q:=by
     intro w' nm' hrun R';unfold Oper.wp;rw[ry hop];simp only[Sem.run_bind,hrun,Result.andThen_ok,Sem.run_pure];rw[Oper.upon_skip,hd];exact hK nm' a w' R' hnt zD
    simp only[St.step,St.storeV] at hs
    split at hs
    ·rename_i id off y' e1 e2
     split at hs
     ·rename_i cs hf
      split at hs
      ·rename_i hcond
       cases hs;rw[e1] at hxr
       rw[e2] at hyr
       obtain⟨w',hrun,R'⟩:=A39 (P:=P) R hi rfl hxr hyr hf hcond.1 hcond.2;exact skip hrun R'
      ·cases hs
     ·cases hs
    ·rename_i id k off y' e1 e2
     split at hs
     ·rename_i sz es hf
      split at hs
      ·rename_i d ds h1 h2
       split at hs
       ·rename_i hcond
        cases hs;rw[e1] at hxr
        rw[e2] at hyr
        obtain⟨w',hrun,R'⟩:=A4b (P:=P) R hi rfl hxr hyr hf h1 h2 hcond.1 hcond.2;exact skip hrun R'
       ·cases hs
      ·cases hs
     ·cases hs
    ·rename_i c cs d e1 e2
     cases hcond:(i.size==1&&Md c d) with
     | false=>rw[hcond] at hs; cases hs
     | true=>
      rw[hcond] at hs
      cases hs;simp only[zF,beq_iff_eq] at hcond
      rw[e1] at hxr
      rw[e2] at hyr
      obtain⟨w',hrun,R'⟩:=A4c (P:=P) R hi hcond.1 hxr hyr hcond.2;exact skip hrun R'
    ·cases hs
   ·cases hc
  ·rename_i args argTypes hop
   split at hc
   ·rename_i x t hargs htys
    have e1:args= #[x]:=by apply Array.ext'; simpa using hargs
    have e2:argTypes= #[t]:=by apply Array.ext'; simpa using htys
    subst e1 e2;split at hc
    ·rename_i i z y hz hy
     split at hc
     ·rename_i hcond
      split at hc
      ·rename_i zs hzs
       cases hc;obtain⟨e,hu,hi,hz2⟩:=KI hz;obtain⟨v,w',hrun,R'⟩:=nk (P:=P) (ty:=o.type) R hu hi hz2 hcond.1 hcond.2 (Ws (X:=cx A nm σ w) hzs hcond.1) (Ay R hy) hs
       have hex:(execOp a.eval o).run P w= .ok (.value v) w':=by
        obtain⟨dst,op,ty,pos,after,guard⟩:=o;simp only at hop hrun
        subst hop;simp[execOp,resolve,invoke,builtin,hrun]
       unfold Oper.wp;rw[hex,Oper.upon_value,hd];exact hK nm _ _ R' (put_size _ _) (put_def _ _)
      ·cases hc
     ·cases hc
    ·cases hc
   ·cases hc
  ·cases hc
end
end
section
section
variable {P : Program} {A : Ar} {B : zC} {w0 : Base} {w : World} {nm : Aa} {σ : St} {a : Act}
theorem eX{w:World}:Ai (fun _ _=>True) w=B7 w:=by
 funext b C
 simp[Ai,B7]
theorem E2{w:World}:Ai (fun b fr=>(∀i,nm i≠U b)∧A b fr) w=A9 A nm w:=by
 funext b C
 simp[Ai,A9,and_assoc]
theorem Y4{Q:Exit→Act→World→Prop}{K:Act→World→Prop}{nt d:zC}{f:FuncId}{vs:W Value}{ds:W DV}{rs:W R1}(R:Rel A B w0 nm σ a.tmps w)(hnt:a.tmps.size=nt)(hd:d<nt)
  (hargs:(DVRels (B7 w) ds vs∧(Cu rs∨FCf P f ds rs))∨DVRels (A9 A nm w) ds vs) (hf:FC P f ds rs) (hfr:σ.fresh d=T) (h64:(rs.flatMap R1.cells).length≤64)
  (hK:∀nm' a' w',Rel A B w0 nm' (σ.inst d rs) a'.tmps w'→a'.tmps.size=nt→a'.defers=a.defers→K a' w') :
  Calls P f vs.toArray w fun
   | .returned v,w''=>K (a.put (U d) v) w''
   | .panicked chain,w''=>Q (.panic chain) a w''
   | .outgrown,_=>LetsOut Q:=by
 have key:∀{A':B9},DVRels (Ai A' w) ds vs→((∀b fr,A' b fr→(∀i,nm i≠U b)∧A b fr)∨Cu rs)→Calls P f vs.toArray w fun
   | .returned v,w''=>K (a.put (U d) v) w''
   | .panicked chain,w''=>Q (.panic chain) a w''
   | .outgrown,_=>LetsOut Q:=by
  intro A' hv hA;refine(hf w A' vs (R.good w R.below) hv).mono fun e w' h=> ?_
  obtain⟨v,bs,rfl,hb,hr,hn,hdis⟩:=h;obtain⟨nm',R'⟩:=R.behind (by rw[hnt]; exact hd) hfr h64 hA hb hr hn hdis;exact hK nm' _ w' R' (by simp[Act.put,hnt]) zD
 rcases hargs with ⟨h1,h2|h2⟩|h1
 ·exact key (by rw[eX]; exact h1) (.inr h2)
 ·refine(h2 w (fun _ _=>True) vs (R.good w R.below) (by rw[eX]; exact h1)).mono fun e w' h=> ?_
  obtain⟨v,bs,rfl,hb,hr,hn,hdis⟩:=h;obtain⟨nm',R'⟩:=R.behind (A':=fun _ _=>False) (by rw[hnt]; exact hd) hfr h64 (.inl fun _ _ h=>h.elim) hb hr hn hdis;exact hK nm' _ w' R' (by simp[Act.put,hnt]) zD
 ·exact key (by rw[E2]; exact h1) (.inl fun b fr hb=>hb)
theorem Vc{f:FuncId}(h:AW P f=T)(args:Array Value):(callFunc f args).run P w= .ok (.enter f args) w:=by
 unfold AW at h;split at h
 ·rename_i fn hfn
  simp only[zF,zI,beq_eq_false_iff_ne,ne_eq] at h;cases hb:fn.body with
  | none=>simp[hb] at h
  | some c=>simp[callFunc,hfn,hb,h.2]
 ·cases h
theorem VsRel.app{X:Cx}{l1 bs:W AV}{us vs:W Value}(h1:VsRel X l1 us)(h2:VsRel X bs vs):VsRel X (l1++bs) (us++vs):=by
 refine⟨by simp[h1.1,h2.1],fun i u v hu hv=> ?_⟩;by_cases hi:i<l1.length
 ·rw[zY hi] at hu
  rw[zY (by rw[← h1.1]; exact hi)] at hv
  exact h1.2 i u v hu hv
 ·rw[yI (by omega)] at hu
  rw[yI (by rw[← h1.1]; omega)] at hv
  rw[← h1.1] at hv
  exact h2.2 _ u v hu hv
theorem Y9{X:Cx}:∀{ids bs:W zC},ids.mapM (fun i=>X.nm (2*i))=U bs→VsRel X (ids.map fun i=>AV.v (.sc (.pb i 0))) (bs.map fun b=>Value.pointer (U ⟨b,0,V⟩))
 | [],bs,h=>by
  simp at h;subst h;exact⟨zD,fun i u v hu=>by simp at hu⟩
 | i::ids,bs,h=>by
  simp only[yO] at h;cases h1:X.nm (2*i) with
  | none=>rw[h1] at h; cases h
  | some b=>
   rw[h1] at h;cases h2:ids.mapM (fun i=>X.nm (2*i)) with
   | none=>rw[h2] at h; cases h
   | some bs'=>
    rw[h2] at h;cases h;obtain⟨e,H⟩:=Y9 h2;refine⟨by simpa using e,fun j u v hu hv=> ?_⟩;cases j with
    | zero=>
     simp at hu hv
     subst hu hv;exact .v (.sc (.pb h1))
    | succ j=>exact H j u v (by simpa using hu) (by simpa using hv)
theorem TE{d d':zC}{op:Op}{o:Oper}{ao:AOp}(ho:o.op=op)(h:Ac P d o=U ao)(hcl:(∃f args,ao= .call d' f args)∨(∃x args,ao= .callv d' x args)) :
  (∃f args xs tys,ao= .call d f args∧op= .call {callee:= .value (.func f),args:=xs,argTypes:=tys}∧C6 xs.toList=U args∧AW P f=T)∨
  (∃t args xs tys,ao= .callv d (.t t) args∧op= .call {callee:= .value (.tmp t),args:=xs,argTypes:=tys}∧C6 xs.toList=U args):=by
 subst ho;obtain⟨dst,op,ty,pos,after,guard⟩:=o;cases op
 case call c=>
  obtain⟨callee,args,argTypes⟩:=c;cases callee with
  | value f=>
   cases f with
   | func f=>
    simp only[Ac] at h;split at h
    ·rename_i fn hfn
     split at h
     ·rename_i hcond
      simp only[zE] at h;obtain⟨ys,hy,rfl⟩:=h;refine .inl ⟨f,ys,args,argTypes,zD,zD,hy,?_⟩;unfold AW;rw[hfn];simp[hcond.1,hcond.2]
     ·cases h
    ·cases h
   | tmp t=>
    simp only[Ac,zE] at h;obtain⟨ys,hy,rfl⟩:=h;exact .inr ⟨t,ys,args,argTypes,zD,zD,hy⟩
   | _=>simp[Ac] at h
  | invoke r m=>simp[Ac] at h
  | builtin bi=>
   exfalso
   cases bi<;>try (simp[Ac] at h; done)
   all_goals
    simp only[Ac] at h;(repeat' (split at h))<;>first | (cases h; done) | (cases h; rcases hcl with ⟨_,_,h2⟩ | ⟨_,_,h2⟩<;>cases h2)
 case makeFunc fn first caps=>
  exfalso
  cases fn<;>simp only[Ac,reduceCtorEq] at h;split at h
  ·simp only[zE] at h;obtain⟨_,_,rfl⟩:=h;rcases hcl with ⟨_,_,h2⟩|⟨_,_,h2⟩<;>cases h2
  ·cases h
 all_goals
  exfalso
  simp only[Ac] at h
  first
   | (cases h; done)
   | (simp only[zE] at h; obtain⟨_,_,h⟩:=h; cases h; rcases hcl with ⟨_,_,h2⟩ | ⟨_,_,h2⟩<;>cases h2; done)
   | ((repeat' (split at h))<;>first | (cases h; done) | (cases h; rcases hcl with ⟨_,_,h2⟩ | ⟨_,_,h2⟩<;>cases h2; done) | (simp only[zE] at h; obtain⟨_,_,h⟩:=h; cases h; rcases hcl with ⟨_,_,h2⟩ | ⟨_,_,h2⟩<;>cases h2; done))
theorem XK{Q:Exit→Act→World→Prop}{K:Act→World→Prop}{K':St→Prop}{nt:zC}{o:Oper}{ao:AOp}(R:Rel A B w0 nm σ a.tmps w)(hnt:a.tmps.size=nt)(hc:CG P nt o=U ao)(hs:AY P ao K' σ)
  (hK:∀nm' σ' a' w',K' σ'→Rel A B w0 nm' σ' a'.tmps w'→a'.tmps.size=nt→a'.defers=a.defers→K a' w'):o.wp P a w K Q:=by
 have plain:(match σ.step ao with | some σ'=>K' σ' | none=>False)→o.wp P a w K Q:=by
  intro h;split at h
  ·rename_i σ' hst
   exact A37 R hnt hc hst fun nm' a' w' R' h1 h2=>hK nm' σ' a' w' h R' h1 h2
  ·exact h.elim
 cases ao<;>try exact plain hs
 case call d f args=>
  unfold CG at hc
  split at hc
  ·rename_i d' hd
   split at hc
   ·rename_i hlt
    have e:=(MR hc).1;simp only[AOp.dst,yB] at e
    subst e;obtain⟨dst,op,ty,pos,after,guard⟩:=o;simp only at hd
    subst hd
    have hcall:∃xs tys,op= .call {callee:= .value (.func f),args:=xs,argTypes:=tys}∧C6 xs.toList=U args∧AW P f=T:=by
     rcases TE (d':=d) rfl hc (.inl ⟨f,args,rfl⟩) with ⟨f',args',xs,tys,h1,h2,h3,h4⟩|⟨t,args',xs,tys,h1,_⟩
     ·cases h1; exact⟨xs,tys,h2,h3,h4⟩
     ·cases h1
    obtain⟨xs,tys,rfl,hxs,hok⟩:=hcall
    have hrun:(execOp a.eval {dst:=some d,op:= .call {callee:= .value (.func f),args:=xs,argTypes:=tys },type:=ty,pos,after,guard }).run P w= .ok (.enter f (xs.toList.map a.eval).toArray) w:=by
     have:=Vc (w:=w) hok (xs.map a.eval);have e2:(xs.toList.map a.eval).toArray=xs.map a.eval:=by apply Array.ext'; simp
     rw[e2];simp[execOp,resolve,Deferred.ofValue,invoke,Act.eval,this]
    unfold Oper.wp;rw[hrun,Oper.upon_enter];rcases hs with ⟨ds,rs,hh,hfc,hfr,h64,hk⟩|⟨ids,ys,R0,R1,r,⟨hnd,hys,hrows,hflat,hsame⟩,hfx,hk⟩|⟨S,hcc,hk⟩
    rotate_left
    rotate_left
    ·obtain⟨hl,H⟩:=SA R hxs;refine(hcc A B w0 w nm a.tmps _ R ⟨by simp[hl],H⟩).mono fun e w' h=> ?_
     obtain⟨v,nm',σ',r,rfl,hS,R',hv⟩:=h;exact hK nm' _ (a.put (U d) v) w' (hk _ _ hS) (R'.put (by rw[hnt]; exact hlt) hv) (by simp[Act.put,hnt]) zD
    rotate_left
    ·have hlen:=(Kd hrows).1;refine(hfx w _ (AQ nm ids) (by simp[AQ,hlen]) (fun i j b hi hj=> ?_) (fun b hb=> ?_) (fun w2 hb2=>R.good w2 ?_) (eP R hrows hflat hxs hys)).mono fun e w' h=> ?_
     ·simp only[AQ,yJ,zE] at hi hj
      obtain⟨x,hx,hxb⟩:=hi;obtain⟨y,hy,hyb⟩:=hj;have:=R.inj _ _ _ hxb hyb;have e:x=y:=by omega
      subst e;have hi1:=zH.1 hx;have hj1:=zH.1 hy;obtain⟨hil,hie⟩:=hi1;obtain⟨hjl,hje⟩:=hj1;have hp:=List.pairwise_iff_getElem.1 hnd;rcases Nat.lt_trichotomy i j with hlt|he|hgt
      ·exact absurd (hie.trans hje.symm) (hp i j hil hjl hlt)
      ·exact he
      ·exact absurd (hje.trans hie.symm) (hp j i hjl hil hgt)
     ·simp only[AQ,yK] at hb
      obtain⟨id,_,hb⟩:=hb;exact(R.names _ _ hb).2
     ·refine R.below.after hb2 R.size R.there fun i b e=> ?_
      obtain⟨j,_,h2⟩:=HP e;simp only[AQ,yJ,zE] at h2
      obtain⟨id,_,h4⟩:=h2;exact(R.names _ _ h4).1
     ·obtain⟨v,rfl,hb2,hv,hrow⟩:=h;exact hK nm _ (a.put (U d) v) w' hk (R.behindX (by rw[hnt]; exact hlt) hnd hrows hsame hb2 hv hrow) (by simp[Act.put,hnt]) zD
    refine Y4 (Q:=Q) R hnt hlt ?_ hfc hfr h64 (fun nm' a' w' R' h1 h2=>hK nm' _ a' w' hk R' h1 h2);rcases hh with ⟨h1,h2⟩|h1
    ·exact .inl ⟨SN R hxs h1,h2⟩
    ·exact .inr (VH R hxs h1)
   ·cases hc
  ·split at hc
   ·split at hc<;>cases hc
   ·(repeat' split at hc)<;>cases hc
   ·cases hc
 case callv d x args=>
  unfold CG at hc
  split at hc
  ·rename_i d' hd
   split at hc
   ·rename_i hlt
    have e:=(MR hc).1;simp only[AOp.dst,yB] at e
    subst e;obtain⟨dst,op,ty,pos,after,guard⟩:=o;simp only at hd
    subst hd
    have hcall:∃t xs tys,x= .t t∧op= .call {callee:= .value (.tmp t),args:=xs,argTypes:=tys}∧C6 xs.toList=U args:=by
     rcases TE (d':=d) rfl hc (.inr ⟨x,args,rfl⟩) with ⟨f',args',xs,tys,h1,_⟩|⟨t,args',xs,tys,h1,h2,h3⟩
     ·cases h1
     ·cases h1; exact⟨t,xs,tys,rfl,h2,h3⟩
    obtain⟨t,xs,tys,rfl,rfl,hxs⟩:=hcall;have hx:VRel (cx A nm σ w) (σ.val (.t t)) (a.tmps.getD t undef):=R.env t
    have hrun:∀f cvs,AW P f=T→a.tmps.getD t undef= .func (.func f) #[] cvs.toArray→(execOp a.eval {dst:=some d,op:= .call {callee:= .value (.tmp t),args:=xs,argTypes:=tys },type:=ty,pos,after,guard }).run P w= .ok (.enter f (xs.toList.map a.eval++cvs).toArray) w:=by
     intro f cvs hok hcv;have:=Vc (w:=w) hok (xs.map a.eval++cvs.toArray);have e2:(xs.toList.map a.eval++cvs).toArray=xs.map a.eval++cvs.toArray:=by apply Array.ext'; simp
     rw[e2];have e3:a.eval (.tmp t)= .func (.func f) #[] cvs.toArray:=hcv;simp[execOp,resolve,Deferred.ofValue,invoke,e3,this]
    unfold Oper.wp;rcases hs with ⟨f,caps,ds,rs,hh,hok,hfc,hfr,h64,hk⟩|⟨f,ids,σ',r,hv,hok,hcc,hk⟩
    rotate_left
    ·rw[hv] at hx
     generalize hgv:a.tmps.getD t undef=gv at hx
     cases hx with | v hx=>
     cases hx with | sc hx=>
     cases hx with | @clo _ _ bs hbs=>
     rw[hrun f _ hok hgv,Oper.upon_enter];obtain⟨hl,H⟩:=SA R hxs;refine(hcc A B w0 w nm a.tmps _ R (VsRel.app ⟨by simp[hl],H⟩ (Y9 hbs))).mono fun e w' h=> ?_
     obtain⟨v,nm',rfl,R',hv⟩:=h;exact hK nm' _ (a.put (U d) v) w' hk (R'.put (by rw[hnt]; exact hlt) hv) (by simp[Act.put,hnt]) zD
    have hfun:∃cvs,a.tmps.getD t undef= .func (.func f) #[] cvs.toArray∧((DVRels (B7 w) (ds++caps.map .sc) (xs.toList.map a.eval++cvs)∧Cu rs)∨DVRels (A9 A nm w) (ds++caps.map .sc) (xs.toList.map a.eval++cvs)):=by
     rcases hh with ⟨h1,h2,h3⟩|⟨h1,h2⟩
     ·have:=VG R hx h1;cases this with | sc hr=>
      generalize hgv:a.tmps.getD t undef=gv at hr
      cases hr with | clo hrs hl=>
      exact⟨_,zD,.inl ⟨(SN R hxs h2).append (.of_reps hrs hl),h3⟩⟩
     ·rw[h1] at hx
      generalize hgv:a.tmps.getD t undef=gv at hx
      cases hx with | v hx=>
      cases hx with | sc hx=>
      cases hx with | dat hr=>
      cases hr with | clo hrs hl=>
      exact⟨_,zD,.inr ((VH R hxs h2).append (.of_reps hrs hl))⟩
    obtain⟨cvs,hcv,hcall⟩:=hfun;rw[hrun f _ hok hcv,Oper.upon_enter];exact Y4 (Q:=Q) R hnt hlt (hcall.imp (fun h=>⟨h.1,.inl h.2⟩) id) hfc hfr h64 (fun nm' a' w' R' h1 h2=>hK nm' _ a' w' hk R' h1 h2)
   ·cases hc
  ·split at hc
   ·split at hc<;>cases hc
   ·(repeat' split at hc)<;>cases hc
   ·cases hc
end
end
section
section
variable {P : Program} {A : Ar} {B : zC} {w0 : Base} {w : World} {nm : Aa} {σ : St} {a : Act}
theorem B5l(R:Rel A B w0 nm σ a.tmps w){ops:Array Oper}{j t:zC}{b:zB}(hj:(ops[j]?).bind (·.dst)=U t)(h:σ.get t= .v (.sc (.dat (.bool b)))):yielded ops a.tmps j=U b:=by
 have hx:=R.env t;rw[h] at hx
 have hv:a.tmps.getD t undef= .bool b:=by
  generalize a.tmps.getD t undef=v at hx
  cases hx with | v hx=>
  cases hx with | sc hx=>
  cases hx with | dat hr=>
  cases hr;rfl
 unfold yielded;rw[hj];simp only[yL];by_cases ht:t<a.tmps.size
 ·have e:a.tmps[t]?=U (.bool b):=by
   rw[Array.getD_eq_getD_getElem?] at hv
   rw[Array.getElem?_eq_getElem ht] at hv ⊢
   simpa using hv
  rw[e]
 ·exfalso
  have e:a.tmps.getD t undef=undef:=by simp[Array.getD,ht]
  rw[e] at hv
  cases hv
theorem B5k(R:Rel A B w0 nm σ a.tmps w){ops:Array Oper}{j t:zC}(hj:(ops[j]?).bind (·.dst)=U t)(h:σ.get t= .no):yielded ops a.tmps j=V:=by
 have hx:=R.env t;rw[h] at hx
 have hv:a.tmps.getD t undef=undef:=by
  generalize a.tmps.getD t undef=v at hx
  cases hx;rfl
 unfold yielded;rw[hj];simp only[yL];by_cases ht:t<a.tmps.size
 ·have e:a.tmps[t]?=U undef:=by
   rw[Array.getD_eq_getD_getElem?] at hv
   rw[Array.getElem?_eq_getElem ht] at hv ⊢
   simpa using hv
  rw[e];rfl
 ·have e:a.tmps[t]?=V:=Array.getElem?_eq_none (by omega);rw[e]
theorem U8(R:Rel A B w0 nm σ a.tmps w){ops:Array Oper}{o:Oper}{g:I (zC × zB)}{yes no:Prop}(hg:Ie ops o.guard=U g)(h:AM g σ yes no) :
  (Region.wanted o (yielded ops a.tmps)=T∧yes)∨(Region.wanted o (yielded ops a.tmps)=O∧no):=by
 unfold Region.wanted;generalize o.guard=og at hg ⊢
 cases og with
 | none=>
  simp[Ie] at hg
  subst hg;exact .inl ⟨zD,h⟩
 | some p=>
  obtain⟨j,want⟩:=p;simp only[Ie] at hg
  split at hg
  ·rename_i t ht
   cases hg;simp only[AM] at h;split at h
   ·rename_i b hb
    dsimp only
    rw[B5l R ht hb];split at h
    ·rename_i e
     subst e;exact .inl ⟨by simp,h⟩
    ·rename_i e
     exact .inr ⟨by simpa using e,h⟩
   ·rename_i hb
    dsimp only
    rw[B5k R ht hb];exact .inr ⟨by simp,h⟩
   ·exact h.elim
  ·cases hg
theorem TF{nt:zC}{o:Oper}{ao:AOp}(h:CG P nt o=U ao):ao.dst=o.dst∧ao.idle=O∧∀d,o.dst=U d→d<nt:=by
 unfold CG at h;split at h
 ·rename_i d hd
  split at h
  ·rename_i hlt
   obtain⟨h1,h2⟩:=MR h;exact⟨by rw[h1,hd],h2,fun d' hd'=>by rw[hd] at hd'; cases hd'; exact hlt⟩
  ·cases h
 ·rename_i hd
  split at h
  ·split at h
   ·cases h;exact⟨by rw[hd]; rfl,zD,fun d' hd'=>by rw[hd] at hd'; cases hd'⟩
   ·cases h
  ·(repeat' split at h)<;>first
    | (cases h; done)
    | (cases h; exact⟨by rw[hd]; rfl,rfl,fun d' hd'=>by rw[hd] at hd'; cases hd'⟩)
  ·cases h
theorem Yb{nt:zC}{ops:Array Oper}{o:Oper}{g:I (zC × zB)}{ao:AOp}(h:If P nt ops o=U (g,ao)):Ie ops o.guard=U g∧CG P nt o=U ao:=by
 unfold If at h;split at h
 ·rename_i h1 h2
  cases h;exact⟨h1,h2⟩
 ·cases h
theorem eT(R:Rel A B w0 nm σ a.tmps w){nt d:zC}{o:Oper}{ao:AOp}(hnt:a.tmps.size=nt)(hc:CG P nt o=U ao)(hd:ao.dst=U d) :
  Rel A B w0 nm (σ.set d .no) (a.put o.dst undef).tmps w∧(a.put o.dst undef).tmps.size=nt∧(a.put o.dst undef).defers=a.defers:=by
 obtain⟨h1,h2,h3⟩:=TF hc;rw[hd] at h1
 rw[← h1];refine⟨R.put ?_ .no,by simp[Act.put,hnt],zD⟩;rw[hnt];exact h3 d h1.symm
theorem S7{Q:Exit→Act→World→Prop}{K:Act→World→Prop}{K':St→Prop}{nt:zC}{ops:Array Oper}{o:Oper}{g:I (zC × zB)}{ao:AOp}(R:Rel A B w0 nm σ a.tmps w)(hnt:a.tmps.size=nt)
  (hc:If P nt ops o=U (g,ao)) (h:AM g σ (AY P ao K' σ) (match ao.dst with | some d=>K' (σ.set d .no) | none=>False))
  (hK:∀nm' σ' a' w',K' σ'→Rel A B w0 nm' σ' a'.tmps w'→a'.tmps.size=nt→a'.defers=a.defers→K a' w') :
  if Region.wanted o (yielded ops a.tmps) then o.wp P a w K Q∨(o.asks P a w∧LetsOut Q) else K (a.put o.dst undef) w:=by
 obtain⟨h1,h2⟩:=Yb hc;rcases U8 R h1 h with ⟨hw,hy⟩|⟨hw,hn⟩
 ·rw[hw];exact .inl (XK R hnt h2 hy hK)
 ·rw[hw];cases hd:ao.dst with
  | none=>simp[hd] at hn
  | some d=>
   simp only[hd] at hn
   obtain⟨r1,r2,r3⟩:=eT R hnt h2 hd;exact hK nm _ _ w hn r1 r2 r3
theorem UG{K':St→Prop}{g:I (zC × zB)}{ao:AOp}(hi:ao.idle=T)(h:AM g σ (AY P ao K' σ) (match ao.dst with | some d=>K' (σ.set d .no) | none=>False)):∃σ',σ.step ao=U σ'∧K' σ':=by
 have hno:ao.dst=V:=by cases ao<;>first | rfl | (simp[AOp.idle] at hi; done)
 have hyes:AY P ao K' σ→∃σ',σ.step ao=U σ'∧K' σ':=by
  intro h
  have h':(match σ.step ao with | some σ'=>K' σ' | none=>False):=by
   cases ao<;>first | exact h | (simp[AOp.idle] at hi; done)
  split at h'
  ·rename_i σ' hs
   exact⟨σ',hs,h'⟩
  ·exact h'.elim
 rw[hno] at h;unfold AM at h;split at h
 ·exact hyes h
 ·split at h
  ·split at h
   ·exact hyes h
   ·exact h.elim
  ·exact h.elim
  ·exact h.elim
theorem Yc{nt:zC}{ops:Array Oper}{l:W Oper}{i:AItem}{is:W AItem}(h:BB P nt ops l=U (i::is)):∃o l',l=o::l'∧If P nt ops o=U i∧BB P nt ops l'=U is:=by
 cases l with
 | nil=>simp[BB] at h
 | cons o l'=>
  simp only[BB] at h;split at h
  ·rename_i h1 h2
   cases h;exact⟨o,l',zD,h1,h2⟩
  ·cases h
theorem Yd{nt:zC}{ops:Array Oper}{l:W Oper}(h:BB P nt ops l=U []):l= []:=by
 cases l with
 | nil=>rfl
 | cons o l'=>
  simp only[BB] at h;split at h<;>cases h
theorem Tt{Q:Exit→Act→World→Prop}{K':St→Prop}{nt:zC}{ops:Array Oper}:∀(its:W AItem) (l:W Oper) (σ:St) (a:Act) (w:World) (nm:Aa),Rel A B w0 nm σ a.tmps w→a.tmps.size=nt→
  BB P nt ops l=U (its.filter fun i=> !i.2.idle)→Bj P its K' σ→(∀nm' σ' a' w',K' σ'→Rel A B w0 nm' σ' a'.tmps w'→a'.tmps.size=nt→a'.defers=a.defers→Q .normal a' w')→wpList P ops Q l a w
 | [],l,σ,a,w,nm,R,hnt,hc,h,hK=>by
  obtain rfl:=Yd hc;exact hK nm σ a w h R hnt zD
 | (g,ao)::its,l,σ,a,w,nm,R,hnt,hc,h,hK=>by
  cases hi:ao.idle with
  | true=>
   have hc':BB P nt ops l=U (its.filter fun i=> !i.2.idle):=by simpa[hi] using hc
   obtain⟨σ',hs,hk⟩:=UG hi h;obtain⟨nm',R'⟩:=S5 R hi hs;exact Tt its l σ' a w nm' R' hnt hc' hk hK
  | false=>
   have hc':BB P nt ops l=U ((g,ao)::its.filter fun i=> !i.2.idle):=by simpa[hi] using hc
   obtain⟨o,l',rfl,h1,h2⟩:=Yc hc';have:=S7 (Q:=Q) (K:=wpList P ops Q l') R hnt h1 h (fun nm' σ' a' w' hk R' hs hd=>Tt its l' σ' a' w' nm' R' hs h2 hk (fun nm'' σ'' a'' w'' k1 k2 k3 k4=>hK nm'' σ'' a'' w'' k1 k2 k3 (k4.trans hd)));exact this
theorem QA{Q:Exit→Act→World→Prop}{K':St→Prop}{nt:zC}{ops:Array Oper}{l2:W Oper}:∀(its:W AItem) (l:W Oper) (σ:St) (a:Act) (w:World) (nm:Aa),Rel A B w0 nm σ a.tmps w→a.tmps.size=nt→
  BB P nt ops l=U (its.filter fun i=> !i.2.idle)→Bj P its K' σ→(∀nm' σ' a' w',K' σ'→Rel A B w0 nm' σ' a'.tmps w'→a'.tmps.size=nt→a'.defers=a.defers→wpList P ops Q l2 a' w')→wpList P ops Q (l++l2) a w
 | [],l,σ,a,w,nm,R,hnt,hc,h,hK=>by
  obtain rfl:=Yd hc;exact hK nm σ a w h R hnt zD
 | (g,ao)::its,l,σ,a,w,nm,R,hnt,hc,h,hK=>by
  cases hi:ao.idle with
  | true=>
   have hc':BB P nt ops l=U (its.filter fun i=> !i.2.idle):=by simpa[hi] using hc
   obtain⟨σ',hs,hk⟩:=UG hi h;obtain⟨nm',R'⟩:=S5 R hi hs;exact QA its l σ' a w nm' R' hnt hc' hk hK
  | false=>
   have hc':BB P nt ops l=U ((g,ao)::its.filter fun i=> !i.2.idle):=by simpa[hi] using hc
   obtain⟨o,l',rfl,h1,h2⟩:=Yc hc';have:=S7 (Q:=Q) (K:=wpList P ops Q (l'++l2)) R hnt h1 h (fun nm' σ' a' w' hk R' hs hd=>QA its l' σ' a' w' nm' R' hs h2 hk (fun nm'' σ'' a'' w'' k1 k2 k3 k4=>hK nm'' σ'' a'' w'' k1 k2 k3 (k4.trans hd)));exact this
end
end
section
structure Sub (τ σ:St) (S:W zC):Prop where
 slot:∀q∈S,σ.get q=τ.get q
 bx:∀id cs,A1 τ.bx id=U cs→A1 σ.bx id=U cs
 rows:∀id r,A1 τ.rows id=U r→A1 σ.rows id=U r
section
variable {τ σ : St} {S : W zC}
theorem Sub.val(H:Sub τ σ S){x:Opd}(hx:∀q∈x.slots,q∈S):σ.val x=τ.val x:=by
 cases x with
 | t n=>exact H.slot n (hx n (by simp[Opd.slots]))
 | c v=>rfl
theorem Sub.mono(H:Sub τ σ S){S':W zC}(h:∀q∈S',q∈S):Sub τ σ S':=⟨fun q hq=>H.slot q (h q hq),H.bx,H.rows⟩
theorem Sub.bnd(H:Sub τ σ S){lo hi mx:I Opd}(h1:∀q∈F6 lo,q∈S)(h2:∀q∈F6 hi,q∈S)(h3:∀q∈F6 mx,q∈S)(n:zC):E6 σ lo hi mx n=E6 τ lo hi mx n:=by
 have e:∀x:Opd,(∀q∈F6 (U x),q∈S)→σ.val x=τ.val x:=fun x hx=>H.val hx
 unfold E6;cases mx<;>cases hi<;>cases lo<;>dsimp only<;>(try rw[e _ h1])<;>(try rw[e _ h2])<;>(try rw[e _ h3])
theorem Sub.pure(H:Sub τ σ S){o:AOp}{p:zC × AV}(hS:∀q∈o.slots,q∈S)(h:τ.pure o=U p):σ.pure o=U p:=by
 cases o<;>simp only[AOp.slots,zN,List.mem_flatMap] at hS
 case load d x agg n=>
  simp only[St.pure] at h ⊢
  rw[H.val hS];simp only[zE] at h ⊢
  obtain⟨v,h1,h2⟩:=h;refine⟨v,?_,h2⟩;unfold CL at h1 ⊢
  split at h1
  ·rename_i id off e
   split at h1
   ·rename_i cs hf
    simp only[H.bx _ _ hf];exact h1
   ·cases h1
  ·rename_i id i off e
   split at h1
   ·rename_i sz es hf
    simp only[H.rows _ _ hf];exact h1
   ·cases h1
  ·exact h1
  ·exact h1
  ·exact h1
  ·cases h1
 case faddr d x off=>
  simp only[St.pure] at h ⊢
  rw[H.val hS];simp only[zE] at h ⊢
  obtain⟨v,h1,h2⟩:=h;refine⟨v,?_,h2⟩;unfold Cs at h1 ⊢
  split at h1
  ·exact h1
  ·rename_i id i off e
   split at h1
   ·rename_i r hf
    simp only[H.rows _ _ hf];exact h1
   ·cases h1
  ·exact h1
  ·exact h1
  ·exact h1
  ·cases h1
 case iaddr d x i sz=>
  simp only[St.pure] at h ⊢
  rw[H.val fun q hq=>hS q (.inl hq),H.val fun q hq=>hS q (.inr hq)];simp only[zE] at h ⊢
  obtain⟨v,h1,h2⟩:=h;refine⟨v,?_,h2⟩;unfold Da at h1 ⊢
  split at h1
  ·exact h1
  ·exact h1
  ·exact h1
  ·rename_i id k i e1 e2
   split at h1
   ·rename_i sz' es hf
    simp only[H.rows _ _ hf];exact h1
   ·cases h1
  ·cases h1
 case aaddr d x i len sz=>
  simp only[St.pure] at h ⊢
  rw[H.val fun q hq=>hS q (.inl hq),H.val fun q hq=>hS q (.inr hq)];exact h
 case len d x=>
  simp only[St.pure] at h ⊢
  rw[H.val hS];simp only[zE] at h ⊢
  obtain⟨v,h1,h2⟩:=h;refine⟨v,?_,h2⟩;unfold Ep at h1 ⊢
  split at h1
  ·exact h1
  ·rename_i id e
   split at h1
   ·rename_i sz es hf
    simp only[H.rows _ _ hf];exact h1
   ·cases h1
  ·exact h1
  ·exact h1
  ·exact h1
  ·cases h1
 case sconv d x=>
  simp only[St.pure] at h ⊢
  rw[H.val hS];simp only[zE] at h ⊢
  obtain⟨v,h1,h2⟩:=h;refine⟨v,?_,h2⟩;unfold HV at h1 ⊢
  split at h1
  ·exact h1
  ·rename_i id e
   split at h1
   ·rename_i sz es hf
    simp only[H.rows _ _ hf];exact h1
   ·cases h1
  ·cases h1
 case slc d sz x lo hi mx=>
  simp only[St.pure] at h ⊢
  rw[H.val fun q hq=>hS q (.inl (.inl (.inl hq)))];simp only[zE] at h ⊢
  obtain⟨v,h1,h2⟩:=h;refine⟨v,?_,h2⟩;have hb:=H.bnd (lo:=lo) (hi:=hi) (mx:=mx) (fun q hq=>hS q (.inl (.inl (.inr hq)))) (fun q hq=>hS q (.inl (.inr hq))) (fun q hq=>hS q (.inr hq));unfold Dd at h1 ⊢
  split at h1
  ·simp only[hb]; exact h1
  ·rename_i id e
   split at h1
   ·rename_i sz es hf
    simp only[H.rows _ _ hf,hb];exact h1
   ·cases h1
  ·simp only[hb]; exact h1
  ·cases h1
 case sslc d x lo hi=>
  simp only[St.pure] at h ⊢
  rw[H.val fun q hq=>hS q (.inl (.inl hq))];have hb:=H.bnd (lo:=lo) (hi:=hi) (mx:=none) (fun q hq=>hS q (.inl (.inr hq))) (fun q hq=>hS q (.inr hq)) (fun q hq=>by simp[F6] at hq);unfold HW at h ⊢
  simp only[hb];exact h
 case pick d c a b=>
  simp only[St.pure] at h ⊢
  rw[H.val fun q hq=>hS q (.inl (.inl hq)),H.val fun q hq=>hS q (.inl (.inr hq)),H.val fun q hq=>hS q (.inr hq)];exact h
 case build d zs ps=>
  simp only[St.pure] at h ⊢
  have e:(ps.map fun p=>(p.1,p.2.1,σ.val p.2.2))=ps.map fun p=>(p.1,p.2.1,τ.val p.2.2):=by
   refine yG fun p hp=> ?_
   rw[H.val fun q hq=>hS q ⟨p,hp,hq⟩]
  rw[e];exact h
 case mkf d f caps=>
  simp only[St.pure] at h ⊢
  have e:caps.map σ.val=caps.map τ.val:=yG fun p hp=>H.val fun q hq=>hS q ⟨p,hp,hq⟩
  rw[e];exact h
 case mv | nilc | un | field | extr | slen | mkif | tass=>simp only[St.pure] at h ⊢; rw[H.val hS]; exact h
 case conv d k x=>simp only[St.pure] at h ⊢; rw[H.val hS]; exact h
 case zsl=>exact h
 case bin | beq | geq | idx | mm=>simp only[St.pure] at h ⊢; rw[H.val fun q hq=>hS q (.inl hq),H.val fun q hq=>hS q (.inr hq)]; exact h
 all_goals (simp[St.pure] at h)
theorem Sub.toD0(H:Sub τ σ S){c:AC}{d:D}(h:toD0 τ.rows c=U d):toD0 σ.rows c=U d:=by
 cases c<;>simp only[Vi.toD0] at h ⊢
 case own id=>
  split at h
  ·rename_i hf; rw[H.rows _ _ hf]; exact h
  ·cases h
 case osub id lo hi=>
  split at h
  ·rename_i hf; rw[H.rows _ _ hf]; exact h
  ·cases h
 all_goals exact h
theorem Sub.toD1(H:Sub τ σ S){c:AC}{d:D}(h:toD1 τ.rows c=U d):toD1 σ.rows c=U d:=by
 cases c with
 | old d'=>exact h
 | mix d'=>exact h
 | own id=>exact H.toD0 (c:= .own id) h
 | osub id lo hi=>exact H.toD0 (c:= .osub id lo hi) h
 | _=>exact h
theorem Sub.appSrc(H:Sub τ σ S){y:AV}{es:W (W D)}(h:appSrc τ.rows y=U es):appSrc σ.rows y=U es:=by
 unfold Vi.appSrc at h ⊢
 split at h
 ·split at h
  ·rename_i hd
   simp only[H.toD0 hd];exact h
  ·cases h
 ·cases h
theorem Sub.zapV(H:Sub τ σ S){d sz b:zC}{X Y:AV}{p:zC × zC × W (W D)}(h:zapV τ.rows d sz b X Y=U p):zapV σ.rows d sz b X Y=U p:=by
 unfold Vi.zapV at h ⊢
 split at h
 ·split at h
  ·rename_i he
   simp only[H.appSrc he];exact h
  ·cases h
 ·cases h
theorem Sub.made(H:Sub τ σ S){o:AOp}{m:Mk}(hS:∀q∈o.slots,q∈S)(h:τ.made o=U m):σ.made o=U m:=by
 cases o<;>simp only[AOp.slots,zN,List.mem_flatMap] at hS
 case box d x=>simp only[St.made] at h ⊢; rw[H.val hS]; exact h
 case alloc=>exact h
 case bslice d sz zs len ps=>
  simp only[St.made] at h ⊢
  have e:(ps.map fun p=>(p.1,σ.val p.2))=ps.map fun p=>(p.1,τ.val p.2):=by
   refine yG fun p hp=> ?_
   rw[H.val fun q hq=>hS q ⟨p,hp,hq⟩]
  rw[e];exact h
 case mksl d sz bytes zs x y=>simp only[St.made] at h ⊢; rw[H.val fun q hq=>hS q (.inl hq),H.val fun q hq=>hS q (.inr hq)]; exact h
 case zap d sz b x y=>
  simp only[St.made,zE] at h ⊢
  rw[H.val fun q hq=>hS q (.inl hq),H.val fun q hq=>hS q (.inr hq)];obtain⟨p,h1,h2⟩:=h;exact⟨p,H.zapV h1,h2⟩
 all_goals (simp[St.made] at h)
theorem bZ{o:AOp}{m:Mk}(h:τ.made o=U m):σ.pure o=V:=by
 cases o<;>first | rfl | (simp[St.made] at h; done)
theorem Sub.toD0s(H:Sub τ σ S):∀{cs:W AC} {ds:W D},toD0s τ.rows cs=U ds→toD0s σ.rows cs=U ds
 | [],ds,h=>h
 | c::cs,ds,h=>by
  simp only[Vi.toD0s] at h ⊢
  split at h
  ·rename_i h1 h2
   rw[H.toD1 h1,H.toD0s h2];exact h
  ·cases h
theorem Sub.pdOf(H:Sub τ σ S){id off:zC}{d:D}(h:τ.pdOf id off=U d):σ.pdOf id off=U d:=by
 unfold St.pdOf at h ⊢
 split at h
 ·rename_i hf
  rw[H.bx _ _ hf];simp only[zE] at h ⊢
  obtain⟨ds,h1,h2⟩:=h;exact⟨ds,H.toD0s h1,h2⟩
 ·cases h
theorem Sub.pdsOf(H:Sub τ σ S):∀{ids:W zC} {ds:W D},τ.pdsOf ids=U ds→σ.pdsOf ids=U ds
 | [],ds,h=>h
 | c::cs,ds,h=>by
  simp only[St.pdsOf] at h ⊢
  split at h
  ·rename_i h1 h2
   rw[H.pdOf h1,H.pdsOf h2];exact h
  ·cases h
theorem Sub.toD(H:Sub τ σ S){c:AC}{d:D}(h:τ.toD c=U d):σ.toD c=U d:=by
 cases c<;>simp only[St.toD] at h ⊢
 case pb=>exact H.pdOf h
 case pe id idx off=>
  split at h
  ·rename_i hf; rw[H.rows _ _ hf]; exact h
  ·cases h
 case clo f ids=>
  simp only[zE] at h ⊢
  obtain⟨ds,h1,h2⟩:=h;exact⟨ds,H.pdsOf h1,h2⟩
 all_goals exact H.toD1 h
theorem Sub.toDV(H:Sub τ σ S){v:AV}{d:DV}(h:τ.toDV v=U d):σ.toDV v=U d:=by
 unfold St.toDV at h ⊢
 split at h
 ·simp only[zE] at h ⊢
  obtain⟨x,h1,h2⟩:=h;exact⟨x,H.toD h1,h2⟩
 ·simp only[zE] at h ⊢
  obtain⟨x,h1,h2⟩:=h;exact⟨x,H.toD0s h1,h2⟩
 ·cases h
theorem Sub.toDVs(H:Sub τ σ S):∀{xs:W Opd} {ds:W DV},(∀q∈xs.flatMap Opd.slots,q∈S)→τ.toDVs xs=U ds→σ.toDVs xs=U ds
 | [],ds,_,h=>h
 | x::xs,ds,hS,h=>by
  simp only[zU,zN] at hS
  simp only[St.toDVs] at h ⊢
  split at h
  ·rename_i h1 h2
   rw[H.val fun q hq=>hS q (.inl hq),H.toDV h1,H.toDVs (fun q hq=>hS q (.inr hq)) h2];exact h
  ·cases h
theorem Sub.toIVs(H:Sub τ σ S):∀{xs:W Opd} {ds:W DV},(∀q∈xs.flatMap Opd.slots,q∈S)→τ.toIVs xs=U ds→σ.toIVs xs=U ds
 | [],ds,_,h=>h
 | x::xs,ds,hS,h=>by
  simp only[zU,zN] at hS
  simp only[St.toIVs] at h ⊢
  split at h
  ·rename_i h1 h2
   rw[H.val fun q hq=>hS q (.inl hq),h1,H.toIVs (fun q hq=>hS q (.inr hq)) h2];exact h
  ·cases h
theorem Sub.handed(H:Sub τ σ S){P:Program}{f:FuncId}{xs:W Opd}{ds:W DV}{rs:W R1}(hS:∀q∈xs.flatMap Opd.slots,q∈S)(h:τ.handed P f xs ds rs):σ.handed P f xs ds rs:=
 h.imp (fun h=>⟨H.toDVs hS h.1,h.2⟩) fun h=>H.toIVs hS h
theorem Sub.handedV(H:Sub τ σ S){x:Opd}{xs:W Opd}{f:FuncId}{caps:W D}{ds:W DV}{rs:W R1}(hx:∀q∈x.slots,q∈S)(hS:∀q∈xs.flatMap Opd.slots,q∈S)(h:τ.handedV x xs f caps ds rs):σ.handedV x xs f caps ds rs:=by
 unfold St.handedV at h ⊢
 rw[H.val hx];exact h.imp (fun h=>⟨H.toDV h.1,H.toDVs hS h.2.1,h.2.2⟩) fun h=>⟨h.1,H.toIVs hS h.2⟩
end
end
section
structure Eff where
 d:zC
 v:AV
 bx:W (zC × W AC)
 rows:Rows
def DR(bx:W (zC × W AC)):W (zC × W AC)→W (zC × W AC)
 | []=>bx
 | (k,x)::r=>put (DR bx r) k x
def St.add(σ:St)(e:Eff):St:={env:=put σ.env e.d e.v,bx:=DR σ.bx e.bx,rows:=Bi σ.rows e.rows}
def Mk.eff:Mk→Eff
 | .box d cs=>⟨d,.v (.sc (.pb d 0)),[(d,cs)],[]⟩
 | .row d sz es=>⟨d,.v (.sc (.own (d*64))),[],[(d*64,sz,es)]⟩
def Eff.avoids(e:Eff)(n:zC):zB:=e.v.cells.all (fun c=> !c.uses n)&&e.bx.all fun p=>p.1 !=n&&p.2.all fun c=> !c.uses n
structure Eff.Grouped (e:Eff):Prop where
 bx:∀p∈e.bx,p.1=e.d
 one:e.bx= []∨∃cs,e.bx= [(e.d,cs)]
 rows:∀p∈e.rows,p.1 / 64=e.d
theorem V9{α:Type}:∀{l:W (zC × α)} {n:zC} {v:α} {p:zC × α},p∈put l n v→p∈l∨p=(n,v)
 | [],n,v,p,h=>by simp[put] at h; exact .inr h
 | (k,u)::r,n,v,p,h=>by
  by_cases hk:k=n
  ·subst hk;simp[put] at h;rcases h with h|h
   ·exact .inr h
   ·exact .inl (by simp[h])
  ·have h':(k==n)=O:=by simpa using hk
   simp[put,h'] at h;rcases h with h|h
   ·exact .inl (by simp[h])
   ·rcases V9 h with h|h
    ·exact .inl (by simp[h])
    ·exact .inr h
theorem bh:∀{l m:W (zC × W AC)} {p:zC × W AC},p∈DR l m→p∈l∨p∈m
 | l,[],p,h=> .inl h
 | l,(k,x)::r,p,h=>by
  simp only[DR] at h;rcases V9 h with h|h
  ·rcases bh h with h|h
   ·exact .inl h
   ·exact .inr (by simp[h])
  ·exact .inr (by simp[h])
theorem YB:∀{rows l:Rows} {id:zC},(∀p∈l,p.1≠id)→A1 (Bi rows l) id=A1 rows id
 | rows,[],id,_=>rfl
 | rows,(k,x)::r,id,h=>by
  simp only[Bi];rw[Bn _ _ (fun e=>h (k,x) (by simp) e.symm)];exact YB fun p hp=>h p (by simp[hp])
theorem YA:∀{rows rows' l:Rows} {id:zC},A1 rows id=A1 rows' id→A1 (Bi rows l) id=A1 (Bi rows' l) id
 | rows,rows',[],id,h=>h
 | rows,rows',(k,x)::r,id,h=>by
  simp only[Bi];by_cases hk:id=k
  ·subst hk; rw[Bl,Bl]
  ·rw[Bn _ _ hk,Bn _ _ hk]; exact YA h
theorem YD:∀{bx l:W (zC × W AC)} {id:zC},(∀p∈l,p.1≠id)→A1 (DR bx l) id=A1 bx id
 | bx,[],id,_=>rfl
 | bx,(k,x)::r,id,h=>by
  simp only[DR];rw[Bn _ _ (fun e=>h (k,x) (by simp) e.symm)];exact YD fun p hp=>h p (by simp[hp])
theorem YC:∀{bx bx' l:W (zC × W AC)} {id:zC},A1 bx id=A1 bx' id→A1 (DR bx l) id=A1 (DR bx' l) id
 | bx,bx',[],id,h=>h
 | bx,bx',(k,x)::r,id,h=>by
  simp only[DR];by_cases hk:id=k
  ·subst hk; rw[Bl,Bl]
  ·rw[Bn _ _ hk,Bn _ _ hk]; exact YC h
structure Same (σ σ':St):Prop where
 get:∀k,σ'.get k=σ.get k
 bx:∀id,A1 σ'.bx id=A1 σ.bx id
 rows:∀id,A1 σ'.rows id=A1 σ.rows id
section
variable {A : Ar} {B : zC} {w0 : Base} {w : World} {nm : Aa} {σ σ' : St} {tmps : Array Value}
theorem CRel.same{X Y:Cx}{c:AC}{v:Value}(H:CRel X c v)(hn:Y.nm=X.nm)(hr:∀id,A1 Y.rs id=A1 X.rs id)(hh:∀b C,X.h b C→Y.h b C)(hw:Y.w.heap=X.w.heap)(hz:Y.o=X.o∧Y.v=X.v∧Y.new=X.new:=by exact⟨rfl,rfl,rfl⟩):CRel Y c v:=by
 refine H.move hh (fun id _=> .inr ⟨hr id,by rw[hn],fun b _=>by rw[hw]⟩) (fun id _ b hb=>by rw[hn]; exact hb) hz
theorem Rel.same(R:Rel A B w0 nm σ tmps w)(H:Same σ σ'):Rel A B w0 nm σ' tmps w:=by
 refine R.carry (f:=fun c=>c) R.below R.size R.names R.inj (fun _ _=>rfl) (fun k=>by rw[AV.mapId,H.get k]) (fun id=>by rw[H.bx id]; simp) (fun id cs _ b hb=>⟨hb,zD⟩) (fun c v _ hrel=> ?_);exact hrel.same zD H.rows (fun b C h=>h) zD
theorem Rel.drawn(R:Rel A B w0 nm σ tmps w)(n:zC):Rel A B w0 nm σ tmps {w with drawn:=n}:=by
 have hb:RowKit.Below w.heap.size w {w with drawn:=n}:=⟨rfl,rfl,rfl,zS _,fun _ _=>rfl⟩;refine R.carry (f:=fun c=>c) (R.below.trans R.there (hb.mono (zS _)) R.size) R.size R.names R.inj (fun _ _=>rfl) (fun k=>by rw[AV.mapId]) (fun id=>by simp) (fun id cs _ b hb=>⟨hb,zD⟩) (fun c v _ hrel=> ?_);exact hrel.same zD (fun _=>rfl) (fun b C h=>h) zD
end
structure Mt (σ0:St) (E:zC→Eff) (M:zC→Prop) (σ:St):Prop where
 hit:∀i,M i→σ.get (E i).d=(E i).v
 miss:∀k,(∀i,M i→(E i).d≠k)→σ.get k=σ0.get k
 bhit:∀i id,M i→(E i).bx≠ []→(E i).d=id→A1 σ.bx id=A1 (DR σ0.bx (E i).bx) id
 bmiss:∀id,(∀i,M i→(E i).bx≠ []→(E i).d≠id)→A1 σ.bx id=A1 σ0.bx id
 rhit:∀i id,M i→(E i).rows≠ []→(E i).d=id / 64→A1 σ.rows id=A1 (Bi σ0.rows (E i).rows) id
 rmiss:∀id,(∀i,M i→(E i).rows≠ []→(E i).d≠id / 64)→A1 σ.rows id=A1 σ0.rows id
 frs:∀g,σ0.fresh g=T→(∀i,M i→(E i).avoids g=T)→σ.fresh g=T
section
variable {σ0 σ σ' : St} {E E' : zC → Eff} {M M' : zC → Prop}
theorem Mt.none(hM:∀i,¬M i):Mt σ0 E M σ0:=
 ⟨fun i h=>absurd h (hM i),fun _ _=>rfl,fun i _ h=>absurd h (hM i),fun _ _=>rfl,fun i _ h=>absurd h (hM i),fun _ _=>rfl,fun _ h _=>h⟩
theorem Mt.congr(H:Mt σ0 E M σ)(hM:∀i,M i↔M' i)(hE:∀i,M i→E' i=E i):Mt σ0 E' M' σ:=by
 refine⟨fun i h=> ?_,fun k h=> ?_,fun i id h=> ?_,fun id h=> ?_,fun i id h=> ?_,fun id h=> ?_,fun g h0 h=> ?_⟩
 ·rw[hE i ((hM i).2 h)]; exact H.hit i ((hM i).2 h)
 ·exact H.miss k fun i hi=>by rw[← hE i hi]; exact h i ((hM i).1 hi)
 ·rw[hE i ((hM i).2 h)]; exact H.bhit i id ((hM i).2 h)
 ·exact H.bmiss id fun i hi=>by rw[← hE i hi]; exact h i ((hM i).1 hi)
 ·rw[hE i ((hM i).2 h)]; exact H.rhit i id ((hM i).2 h)
 ·exact H.rmiss id fun i hi=>by rw[← hE i hi]; exact h i ((hM i).1 hi)
 ·exact H.frs g h0 fun i hi=>by rw[← hE i hi]; exact h i ((hM i).1 hi)
theorem Mt.same(H:Mt σ0 E M σ)(H':Mt σ0 E M σ'):Same σ σ':=by
 refine⟨fun k=> ?_,fun id=> ?_,fun id=> ?_⟩
 ·by_cases h:∃i,M i∧(E i).d=k
  ·obtain⟨i,hi,rfl⟩:=h;rw[H.hit i hi,H'.hit i hi]
  ·have h':∀i,M i→(E i).d≠k:=fun i hi e=>h ⟨i,hi,e⟩
   rw[H.miss k h',H'.miss k h']
 ·by_cases h:∃i,M i∧(E i).bx≠ []∧(E i).d=id
  ·obtain⟨i,hi,hb,e⟩:=h;rw[H.bhit i id hi hb e,H'.bhit i id hi hb e]
  ·have h':∀i,M i→(E i).bx≠ []→(E i).d≠id:=fun i hi hb e=>h ⟨i,hi,hb,e⟩
   rw[H.bmiss id h',H'.bmiss id h']
 ·by_cases h:∃i,M i∧(E i).rows≠ []∧(E i).d=id / 64
  ·obtain⟨i,hi,hb,e⟩:=h;rw[H.rhit i id hi hb e,H'.rhit i id hi hb e]
  ·have h':∀i,M i→(E i).rows≠ []→(E i).d≠id / 64:=fun i hi hb e=>h ⟨i,hi,hb,e⟩
   rw[H.rmiss id h',H'.rmiss id h']
theorem Mt.add(H:Mt σ0 E M σ){i:zC}(hd:∀j,M j→(E j).d≠(E i).d)(hg:(E i).Grouped):Mt σ0 E (fun j=>M j∨j=i) (σ.add (E i)):=by
 have get_same:(σ.add (E i)).get (E i).d=(E i).v:=by simp[St.add,St.get,Bl]
 have get_ne:∀k,k≠(E i).d→(σ.add (E i)).get k=σ.get k:=fun k hk=>by simp[St.add,St.get,Bn _ _ hk]
 have bx_ne:∀id,(E i).bx= []∨(E i).d≠id→A1 (σ.add (E i)).bx id=A1 σ.bx id:=by
  intro id h;rcases h with h|h
  ·simp[St.add,h,DR]
  ·exact YD fun p hp=>by rw[hg.bx p hp]; exact h
 have rows_ne:∀id,(E i).rows= []∨(E i).d≠id / 64→A1 (σ.add (E i)).rows id=A1 σ.rows id:=by
  intro id h;rcases h with h|h
  ·simp[St.add,h,Bi]
  ·exact YB fun p hp e=>h (by rw[← hg.rows p hp,e])
 refine⟨fun j h=> ?_,fun k h=> ?_,fun j id h hb e=> ?_,fun id h=> ?_,fun j id h hb e=> ?_,fun id h=> ?_,fun g h0 h=> ?_⟩
 ·rcases h with h|rfl
  ·rw[get_ne _ (hd j h)]; exact H.hit j h
  ·exact get_same
 ·rw[get_ne k (fun e=>h i (.inr rfl) e.symm)];exact H.miss k fun j hj=>h j (.inl hj)
 ·rcases h with h|rfl
  ·rw[bx_ne id (.inr fun e'=>hd j h (e.trans e'.symm))]; exact H.bhit j id h hb e
  ·show A1 (DR σ.bx (E j).bx) id=_
   refine YC (H.bmiss id fun l hl hlb e'=>hd l hl (e'.trans e.symm))
 ·rw[bx_ne id (by
   by_cases hb:(E i).bx= []
   ·exact .inl hb
   ·exact .inr (h i (.inr zD) hb))]
  exact H.bmiss id fun j hj=>h j (.inl hj)
 ·rcases h with h|rfl
  ·rw[rows_ne id (.inr fun e'=>hd j h (e.trans e'.symm))]; exact H.rhit j id h hb e
  ·show A1 (Bi σ.rows (E j).rows) id=_
   refine YA (H.rmiss id fun l hl hlb e'=>hd l hl (e'.trans e.symm))
 ·rw[rows_ne id (by
   by_cases hb:(E i).rows= []
   ·exact .inl hb
   ·exact .inr (h i (.inr zD) hb))]
  exact H.rmiss id fun j hj=>h j (.inl hj)
 ·have h1:=H.frs g h0 fun j hj=>h j (.inl hj)
  have h2:=h i (.inr rfl);simp only[St.fresh,Eff.avoids,zF,zG] at h1 h2 ⊢
  refine⟨h1.1,fun p hp=> ?_,fun p hp=> ?_⟩
  ·rcases V9 hp with hp|rfl
   ·exact h1.2.1 p hp
   ·exact h2.1
  ·rcases bh hp with hp|hp
   ·exact h1.2.2 p hp
   ·exact h2.2 p hp
end
def Fg(g:I (zC × zB))(σ:St):Prop:=
 match g with
 | none=>True
 | some (t,want)=>σ.get t= .v (.sc (.dat (.bool want)))
def QL(σ:St)(t:zC)(want:zB):Prop:=(∃b,σ.get t= .v (.sc (.dat (.bool b)))∧b≠want)∨σ.get t= .no
def Mk.d:Mk→zC
 | .box d _=>d
 | .row d _ _=>d
inductive Ev (P:Program) (N:W zC) (σ:St):AItem→Eff→Prop
 | no {t want o d}:QL σ t want→o.dst=U d→Ev P N σ (U (t,want),o) ⟨d,.no,[],[]⟩
 | pure {g o d v}:Fg g σ→(σ.less N).pure o=U (d,v)→v.avoids N=T→Ev P N σ (g,o) ⟨d,v,[],[]⟩
 | made {g o m}:Fg g σ→(σ.less N).made o=U m→(match m with | .box d cs=>cs.all (·.avoids N)=T∧cs.all (fun c=> !c.uses d)=T | _=>True)→σ.fresh m.d=T→Ev P N σ (g,o) m.eff
 | call {g d f args ds rs}:Fg g σ→(σ.less N).handed P f args ds rs→FC P f ds rs→σ.fresh d=T→(rs.flatMap R1.cells).length≤64→Ev P N σ (g,.call d f args) ⟨d,BK d rs,[],BH d rs⟩
 | callv {g d x args f caps ds rs}:Fg g σ→(σ.less N).handedV x args f caps ds rs→AW P f=T→FC P f (ds++caps.map .sc) rs→σ.fresh d=T→(rs.flatMap R1.cells).length≤64→
   Ev P N σ (g,.callv d x args) ⟨d,BK d rs,[],BH d rs⟩
section
variable {P : Program} {N : W zC} {σ σ' : St}
theorem Tp{g:I (zC × zB)}{yes no:Prop}(h:AM g σ yes no):(Fg g σ∧yes)∨(∃t want,g=U (t,want)∧QL σ t want∧no):=by
 cases g with
 | none=>exact .inl ⟨trivial,h⟩
 | some p=>
  obtain⟨t,want⟩:=p;simp only[AM] at h;split at h
  ·rename_i b hb
   split at h
   ·rename_i e
    subst e;exact .inl ⟨hb,h⟩
   ·rename_i e
    exact .inr ⟨t,want,zD,.inl ⟨b,hb,e⟩,h⟩
  ·rename_i hb
   exact .inr ⟨t,want,zD,.inr hb,h⟩
  ·exact h.elim
theorem Tn{t:zC}{want:zB}{yes no:Prop}(hd:QL σ t want)(h:no):AM (U (t,want)) σ yes no:=by
 rcases hd with ⟨b,hb,hne⟩|hb
 ·simp only[AM,hb];rw[if_neg hne];exact h
 ·simp only[AM,hb];exact h
theorem Kt{g:I (zC × zB)}{yes no:Prop}(hw:Fg g σ)(h:yes):AM g σ yes no:=by
 cases g with
 | none=>exact h
 | some p=>
  obtain⟨t,want⟩:=p;simp only[Fg] at hw
  simp only[AM,hw,if_true];exact h
theorem Vp{o:AOp}{d:zC}{v:AV}(h:σ.pure o=U (d,v)):o.dst=U d∧o.idle=O:=by
 cases o<;>simp only[St.pure,zE] at h
 case conv=>
  split at h
  ·cases h; exact⟨rfl,rfl⟩
  ·cases h
 case mv=>cases h; exact⟨rfl,rfl⟩
 case zsl=>cases h; exact⟨rfl,rfl⟩
 all_goals first
  | (obtain⟨_,_,h2⟩:=h; cases h2; exact⟨rfl,rfl⟩)
  | cases h
theorem V4{o:AOp}{m:Mk}(h:σ.made o=U m):o.dst=U m.d∧o.maker=T:=by
 cases o<;>simp only[St.made] at h
 case box=>
  split at h
  ·cases h; exact⟨rfl,rfl⟩
  ·cases h
 case alloc=>cases h; exact⟨rfl,rfl⟩
 case bslice=>
  split at h
  ·split at h
   ·cases h; exact⟨rfl,rfl⟩
   ·cases h
  ·cases h
 case mksl=>
  split at h
  ·split at h
   ·cases h; exact⟨rfl,rfl⟩
   ·cases h
  ·cases h
 case zap=>
  simp only[zE] at h;obtain⟨p,h1,h2⟩:=h;unfold zapV at h1
  split at h1
  ·split at h1
   ·split at h1
    ·cases h1; cases h2; exact⟨rfl,rfl⟩
    ·cases h1
   ·cases h1
  ·cases h1
 all_goals (cases h)
theorem SF{g:zC}:∀{cs:W RC} {j:zC},j+cs.length≤64→∀p∈BP g j cs,p.1 / 64=g
 | [],j,_,p,hp=>by simp[BP] at hp
 | .v d::cs,j,hl,p,hp=>by
  simp only[BP] at hp
  simp at hl
  exact SF (by omega) p hp
 | .o sz es::cs,j,hl,p,hp=>by
  simp only[BP,zJ] at hp
  simp at hl
  rcases hp with rfl|hp
  ·show(g*64+j) / 64=g; omega
  ·exact SF (by omega) p hp
theorem Ev.dst{it:AItem}{e:Eff}(H:Ev P N σ it e):it.2.dst=U e.d:=by
 cases H with
 | no _ h=>exact h
 | pure _ h _=>exact(Vp h).1
 | @made g o m _ h _ _=>
  rw[(V4 h).1];cases m<;>rfl
 | call=>rfl
 | callv=>rfl
theorem Ev.grouped{it:AItem}{e:Eff}(H:Ev P N σ it e):e.Grouped:=by
 cases H with
 | no=>exact⟨by simp,.inl rfl,by simp⟩
 | pure=>exact⟨by simp,.inl rfl,by simp⟩
 | @made g o m _ h _ _=>
  cases m with
  | box d cs=>exact⟨by simp[Mk.eff],.inr ⟨cs,rfl⟩,by simp[Mk.eff]⟩
  | row d sz es=>exact⟨by simp[Mk.eff],.inl rfl,by simp[Mk.eff]⟩
 | call _ _ _ _ h=>exact⟨by simp,.inl rfl,SF (by omega)⟩
 | callv _ _ _ _ _ h=>exact⟨by simp,.inl rfl,SF (by omega)⟩
theorem Ev.maker{it:AItem}{e:Eff}(H:Ev P N σ it e)(h:e.bx≠ []∨e.rows≠ []):it.2.maker=T∧σ.fresh e.d=T:=by
 cases H with
 | no=>simp at h
 | pure=>simp at h
 | @made g o m _ hm _ hf=>exact⟨(V4 hm).2,by cases m<;>exact hf⟩
 | call _ _ _ hf=>exact⟨rfl,hf⟩
 | callv _ _ _ _ hf=>exact⟨rfl,hf⟩
theorem bF{g n:zC}(hn:n≠g):∀{cs:W RC} {j:zC},j+cs.length≤64→∀c∈Eo g j cs,c.uses n=O
 | [],j,_,c,hc=>by simp[Eo] at hc
 | r::cs,j,hl,c,hc=>by
  simp at hl
  simp only[Eo,zJ] at hc
  rcases hc with rfl|hc
  ·cases r with
   | v d=>rfl
   | o sz es=>simp[RC.inst,AC.uses]; omega
  ·exact bF hn (by omega) c hc
theorem az{g n:zC}(hn:n≠g){r:R1}{j:zC}(hl:j+r.width≤64):∀c∈(r.inst g j).cells,c.uses n=O:=by
 intro c hc;cases r with
 | sc r=>
  simp only[R1.inst,V1.cells,List.mem_singleton] at hc
  simp only[R1.width] at hl
  subst hc;cases r with
  | v d=>rfl
  | o sz es=>simp[RC.inst,AC.uses]; omega
 | ag cs=>exact bF hn hl c hc
theorem bI{g n:zC}(hn:n≠g):∀{rs:W R1} {j:zC},j+(rs.flatMap R1.cells).length≤64→∀c∈(Dt g j rs).flatMap V1.cells,c.uses n=O
 | [],j,_,c,hc=>by simp[Dt] at hc
 | r::rs,j,hl,c,hc=>by
  simp only[zU,List.length_append] at hl
  rw[← R1.width_eq] at hl
  simp only[Dt,zU,zN] at hc
  rcases hc with hc|hc
  ·exact az hn (by omega) c hc
  ·exact bI hn (by omega) c hc
theorem bB{g n:zC}(hn:n≠g){rs:W R1}(hl:(rs.flatMap R1.cells).length≤64):∀c∈(BK g rs).cells,c.uses n=O:=by
 intro c hc;unfold BK at hc
 split at hc
 ·rename_i r
  simp only[zU,List.flatMap_nil,List.append_nil] at hl
  rw[← R1.width_eq] at hl
  exact az hn (by omega) c hc
 ·exact bI hn (by omega) c hc
theorem Ev.avoid{it:AItem}{e:Eff}(H:Ev P N σ it e){n:zC}(hn:n∈N)(hne:n≠e.d):e.avoids n=T:=by
 have av:∀{v:AV},v.avoids N=T→v.cells.all (fun c=> !c.uses n)=T:=by
  intro v h;simp only[AV.avoids,AC.avoids,zG] at h ⊢
  exact fun c hc=>h c hc n hn
 cases H with
 | no=>rfl
 | pure _ _ h=>simp only[Eff.avoids,zV,zP]; exact av h
 | @made g o m _ h hm _=>
  cases m with
  | box d cs=>
   have hne':n≠d:=hne;simp only[AC.avoids,zG] at hm
   have h1:(d==n)=O:=by simpa using fun e=>hne' e.symm
   simp only[Mk.eff,Eff.avoids,AV.cells,V1.cells,AC.uses,zW,zV,zP,zF,h1];exact⟨zD,by simpa using fun e=>hne' e.symm,zG.2 fun c hc=>hm.1 c hc n hn⟩
  | row d sz es=>
   have hne':n≠d:=hne;have h1:(d*64 / 64==n)=O:=by simp; omega
   simp[Mk.eff,Eff.avoids,AV.cells,V1.cells,AC.uses];omega
 | @call g d f args ds rs _ _ _ _ hl=>
  simp only[Eff.avoids,zV,zP,zG];intro c hc;simp[bB hne hl c hc]
 | @callv g d x args f caps ds rs _ _ _ _ _ hl=>
  simp only[Eff.avoids,zV,zP,zG];intro c hc;simp[bB hne hl c hc]
theorem rv{K:St→Prop}{g:I (zC × zB)}{o:AOp}(h:AM g σ (GB P N o K σ) (match o.dst with | some d=>K (σ.set d .no) | none=>False)):∃e,Ev P N σ (g,o) e∧K (σ.add e):=by
 rcases Tp h with ⟨hw,hy⟩|⟨t,want,rfl,hb,hn⟩
 ·have plain:(match (σ.less N).pure o with
    | some (d,v)=>v.avoids N=T∧K (σ.set d v)
    | none=>match (σ.less N).made o with
     | some m=>(match m with | .box _ cs=>cs.all (·.avoids N) | _=>T)=T∧(match σ.make m with
      | some σ'=>K σ'
      | none=>False)
     | none=>False)→∃e,Ev P N σ (g,o) e∧K (σ.add e):=by
   intro h;split at h
   ·rename_i d v hp
    exact⟨_,.pure hw hp h.1,h.2⟩
   ·split at h
    ·rename_i m hm
     obtain⟨h1,h2⟩:=h;split at h2
     ·rename_i σ' hmk
      cases m with
      | box d cs=>
       simp only[St.make] at hmk
       split at hmk
       ·rename_i hcond
        cases hmk;simp only[zF] at hcond
        exact⟨_,.made hw hm ⟨h1,hcond.2⟩ hcond.1,h2⟩
       ·cases hmk
      | row d sz es=>
       simp only[St.make] at hmk
       split at hmk
       ·rename_i hcond
        cases hmk;exact⟨_,.made hw hm trivial hcond,h2⟩
       ·cases hmk
     ·exact h2.elim
    ·exact h.elim
  cases o<;>first
   | exact plain hy
   | skip
  case call d f args=>
   obtain⟨ds,rs,h1,h2,h3,h4,h5⟩:=hy;exact⟨_,.call hw h1 h2 h3 h4,h5⟩
  case callv d x args=>
   obtain⟨f,caps,ds,rs,h1,h0,h2,h3,h4,h5⟩:=hy;exact⟨_,.callv hw h1 h0 h2 h3 h4,h5⟩
 ·cases hd:o.dst with
  | none=>simp[hd] at hn
  | some d=>
   simp only[hd] at hn
   exact⟨_,.no hb hd,hn⟩
theorem Ev.move{g:I (zC × zB)}{o:AOp}{e:Eff}(H:Ev P N σ (g,o) e)(hs:Sub (σ.less N) σ' (AItem.slots (g,o)))(hf:o.maker=T→σ.fresh e.d=T→σ'.fresh e.d=T){K:St→Prop}(hK:K (σ'.add e)) :
  AM g σ' (AY P o K σ') (match o.dst with | some d=>K (σ'.set d .no) | none=>False):=by
 have lessGet:∀q,(σ.less N).get q=σ.get q:=by
  intro q;cases N<;>rfl
 have hgs:∀t want,g=U (t,want)→σ'.get t=σ.get t:=by
  rintro t want rfl
  rw[hs.slot t (by simp[AItem.slots]),lessGet]
 have hw:Fg g σ→Fg g σ':=by
  intro h;cases g with
  | none=>trivial
  | some p=>obtain⟨t,want⟩:=p; simp only[Fg] at h ⊢; rw[hgs t want rfl]; exact h
 have hS:∀q∈o.slots,q∈AItem.slots (g,o):=fun q hq=>by simp[AItem.slots,hq]
 cases H with
 | @no t want o d h1 h3=>
  refine Tn ?_ ?_
  ·unfold QL at h1 ⊢
   rw[hgs t want rfl];exact h1
  ·simp only[h3];exact hK
 | @pure g o d v h1 h2 h3=>
  refine Kt (hw h1) ?_;have h4:=hs.pure hS h2;have hid:=(Vp h2).2
  have hstep:σ'.step o=U (σ'.set d v):=by
   cases o<;>first
    | (simp[AOp.idle] at hid; done)
    | (simp[St.pure] at h4; done)
    | (simp only[St.step,h4])
  cases o<;>first
   | (simp[St.pure] at h4; done)
   | (simp only[AY,hstep]; exact hK)
 | @made g o m h1 h2 h3 h4=>
  refine Kt (hw h1) ?_;have h5:=hs.made hS h2;have hp:σ'.pure o=V:=bZ h5;have hmk:=(V4 h2).2
  have hfr:σ'.fresh m.d=T:=by
   have:=hf hmk (by cases m<;>exact h4);cases m<;>exact this
  have hmake:σ'.make m=U (σ'.add m.eff):=by
   cases m with
   | box d cs=>
    have hfr':σ'.fresh d=T:=hfr;simp only[St.make,hfr',h3.2,Bool.and_self,if_true];rfl
   | row d sz es=>
    have hfr':σ'.fresh d=T:=hfr;simp only[St.make,hfr',if_true];rfl
  have hstep:σ'.step o=U (σ'.add m.eff):=by
   cases o<;>first
    | (simp[St.made] at h5; done)
    | (simp only[St.step,hp,h5,hmake])
  cases o<;>first
   | (simp[St.made] at h5; done)
   | (simp only[AY,hstep]; exact hK)
 | @call g d f args ds rs h1 h2 h3 h4 h5=>
  refine Kt (hw h1) (.inl ⟨ds,rs,hs.handed (fun q hq=>hS q hq) h2,h3,hf zD h4,h5,hK⟩)
 | @callv g d x args f caps ds rs h1 h2 h0 h3 h4 h5=>
  exact Kt (hw h1) (.inl ⟨f,caps,ds,rs,hs.handedV (fun q hq=>hS q (by simp only[AOp.slots,zN]; exact .inl hq)) (fun q hq=>hS q (by simp only[AOp.slots,zN]; exact .inr hq)) h2,h0,h3,hf zD h4,h5,hK⟩)
end
end
section
inductive Zed:AOp→AOp→Prop
 | refl {o}:Zed o o
 | sl {d sz zs}:Zed (.bslice d sz zs 0 []) (.zsl d)
 | ap {d sz b x y}:Zed (.app d sz b x y) (.zap d sz b x y)
def Qr(P:Program)(nt:zC)(ops:Array Oper)(o:Oper)(it:AItem):Prop:=∃o0,If P nt ops o=U (it.1,o0)∧Zed o0 it.2
theorem B5m(z:W zC)(it:AItem):(Qo z it).1=it.1∧Zed it.2 (Qo z it).2:=by
 unfold Qo;split
 ·split
  ·exact⟨zD,.sl⟩
  ·exact⟨zD,.refl⟩
 ·split
  ·exact⟨zD,.ap⟩
  ·exact⟨zD,.refl⟩
 ·exact⟨zD,.refl⟩
theorem Zed.dst{o0 o:AOp}(h:Zed o0 o):o.dst=o0.dst:=by cases h<;>rfl
section
variable {P : Program} {A : Ar} {B : zC} {w0 : Base} {w : World} {nm : Aa} {σ : St} {tmps : Array Value} {a : Act} {nt : zC}
theorem Rel.spare(R:Rel A B w0 nm σ tmps w)(ob:Obj):Rel A B w0 nm σ tmps (w.alloc ob):=by
 have hb:RowKit.Below w.heap.size w (w.alloc ob):=(RowKit.Below.refl w.heap.size w).alloc (zS _) _;refine R.carry (f:=fun c=>c) (R.below.trans R.there hb R.size) (by simp; have:=R.size; omega) (fun i b h=> ?_) R.inj (fun _ _=>rfl) (fun k=>by rw[AV.mapId]) (fun id=>by simp) (fun id cs _ b hb=>⟨hb,heap_alloc_old w _ b (R.names _ b hb).2⟩) (fun c v _ hrel=> ?_)
 ·obtain⟨k1,k2⟩:=R.names i b h;exact⟨k1,by simp; omega⟩
 ·exact hrel.move (CS fun b hb hn=>⟨hn,heap_alloc_old w _ b hb⟩) (fun id _=> .inr ⟨zD,zD,fun b hb=>heap_alloc_old w _ b (R.names _ b hb).2⟩) (fun id _ b hb=>hb)
theorem B50(R:Rel A B w0 nm σ a.tmps w){d sz len:zC}{zs:W D}{qs:W (zC × Opd)}{o:Oper}(hd:d<a.tmps.size)(hod:o.dst=U d)(hc:Ac P d o=U (.bslice d sz zs len qs))(h0:len=0)(hq0:qs= []) :
  ∃v w',(execOp a.eval o).run P w= .ok (.value v) w'∧Rel A B w0 nm (σ.set d (.v (.sc .z))) (a.put o.dst v).tmps w':=by
 obtain⟨dst,op,ty,pos,after,guard⟩:=o;simp only at hod
 subst hod;cases op
 case buildSlice t len' ps=>
  simp only[Ac] at hc
  split at hc
  ·rename_i i z hz
   obtain⟨e,hu,hi,hz2⟩:=KI hz;split at hc
   ·rename_i hcond
    split at hc
    ·rename_i zs' qs' hzs hqs
     cases hc;subst h0 hq0
     have hps:ps.toList= []:=by
      cases hl:ps.toList with
      | nil=>rfl
      | cons p r=>
       rw[hl] at hqs
       simp only[Mo] at hqs
       split at hqs<;>cases hqs
     refine⟨.slice (U ⟨w.heap.size,0,V⟩) 0 0,w.alloc (.cells #[] e),?_,(R.spare _).put hd (Br .z)⟩;simp[Instr.buildSlice,execOp,run_underlying hu,sizeOf,typeInfo,hi,newRow,hps,Instr.fill,Array.range_zero']
    ·cases hc
   ·cases hc
  ·cases hc
 case call c=>
  obtain⟨callee,args,argTypes⟩:=c;cases callee with
  | value f=>cases f<;>(try simp only[Ac] at hc)<;>(repeat' (split at hc))<;>first | (cases hc; done) | (simp only[zE] at hc; obtain⟨_,_,h⟩:=hc; cases h; done) | (simp at hc; done)
  | invoke r m=>simp[Ac] at hc
  | builtin bi=>cases bi<;>simp only[Ac] at hc<;>(repeat' (split at hc))<;>first | (cases hc; done) | (simp at hc; done)
 case makeFunc fn _ _=>cases fn<;>simp only[Ac] at hc<;>(repeat' (split at hc))<;>first | (cases hc; done) | (simp only[zE] at hc; obtain⟨_,_,h⟩:=hc; cases h; done) | (simp at hc; done)
 all_goals (simp only[Ac] at hc)
 all_goals (repeat' (split at hc))
 all_goals first | (cases hc; done) | (simp only[zE] at hc; obtain⟨_,_,h⟩:=hc; cases h; done)
theorem sX{g:zC}(h:σ.fresh g=T):σ.has (g*64)=O:=by
 have key:∀c:AC,c.uses g=O→c.has (g*64)=O:=by
  intro c hc;cases c<;>simp only[AC.uses,AC.has,beq_eq_false_iff_ne,ne_eq] at hc ⊢
  all_goals (intro e; subst e; exact hc (by omega))
 simp only[St.fresh,zF,zG,zI] at h;simp only[St.has,Bool.or_eq_false_iff,List.any_eq_false,Bool.not_eq_true];refine⟨fun p hp=> ?_,fun p hp=> ?_⟩
 ·exact fun c hc=>key c (h.2.1 p hp c hc)
 ·exact fun c hc=>key c ((h.2.2 p hp).2 c hc)
theorem B5u(R:Rel A B w0 nm σ a.tmps w){t t' ty e e':TypeId}{i:TypeInfo}{z:Value}{d:zC}{ay:AV}{vx vy:Value}{es:W (W D)}(ht:P.underlying t=U (.slice e))(ht':P.underlying t'=U (.slice e'))
  (hi:P.info? e=U i) (hz:i.zero=U z) (hzs:z.cells.size=i.size) (hpos:0<i.size) (hd:d<a.tmps.size) (hx:VRel (cx A nm σ w) (.v (.sc .z)) vx) (hy:VRel (cx A nm σ w) ay vy) (hes:appSrc σ.rows ay=U es)
  (hall:es.all (fun r=>r.length==i.size)=T) (hb47:es.length*i.bytes≤140737488355328) (h62:es.length≤4611686018427387904) (hf:σ.fresh d=T) :
  ∃v w' nm',(Builtin.append_ #[t,t'] ty #[vx,vy]).run P w= .ok v w'∧Rel A B w0 nm' {(σ.set d (.v (.sc (.own (d*64))))) with rows:=put σ.rows (d*64) (i.size,es)} (a.put (U d) v).tmps w':=by
 obtain⟨a0,rfl⟩:∃a0,vx= .slice a0 0 0:=by
  cases hx.inv_sc with | z=>exact⟨_,rfl⟩
 obtain⟨p,c,news,rfl,hnl,hnr,hload⟩:=XN (P:=P) hy hes hall hpos
 have hd30:d<1073741824:=by
  simp only[St.fresh,zF,decide_eq_true_eq] at hf
  exact hf.1
 by_cases he:es= []
 ·subst he;have hl0:=hload w rfl;have hn0:news= []:=List.length_eq_zero_iff.1 (by simpa using hnl);subst hn0;obtain⟨R1,_⟩:=R.nilRow (id:=d*64) (sz:=i.size) (sX hf) (by omega);refine⟨_,w,_,cv (base:=a0) ht ht' hi zD hl0 zD,R1.put hd (Br (.ownNil (Bl _ _ _) ?_))⟩;show(if 2*(d*64)+1=2*(d*64)+1 then V else nm (2*(d*64)+1))=V
  rw[if_pos rfl]
 ·have hp0:0<es.length:=List.length_pos_iff.2 he;have hrun:=cu (P:=P) (w:=w) (ty:=ty) ht ht' hi hz (base:=a0) (n:=0) (cap:=0) (olds:= []) (x:= .slice p es.length c) rfl (by cases a0<;>simp[Builtin.firstCells,loadCells,loadCellsFrom]) (hload w.drew rfl) (by omega) (by omega) (by simpa using hb47);have hge:=grownCap_ge w (0+es.length) 0 e;have hcm:grownCap w (0+es.length) 0 e≤maxLen:=grownCap_le_maxLen w (0+es.length) 0 e (by unfold maxLen; omega);generalize grownCap w (0+es.length) 0 e=gc at hrun hge hcm
  rw[yE] at hrun hge
  have R0:Rel A B w0 nm σ a.tmps w.drew:=R.drawn _
  obtain⟨nm',R2⟩:=R0.newRow (t:=e) (C:= #[]++news.toArray++Builtin.zeroCells z.cells (gc - es.length)) (cap:=gc) (len:=es.length) hd hf hpos (by
   simp only[Array.size_append,List.size_toArray,size_zeroCells,hzs,hnl,List.length_nil,yE];rw[← Nat.add_mul];congr 1
   omega) hcm rfl hge (by
   simp only[Array.toList_append];exact hnr.more _)
  exact⟨_,_,nm',hrun,R2⟩
theorem B5t(R:Rel A B w0 nm σ a.tmps w){d sz b:zC}{x y:Opd}{o:Oper}{m:Mk}{σ':St}(hd:d<a.tmps.size)(hod:o.dst=U d)(hc:Ac P d o=U (.app d sz b x y))(hm:σ.made (.zap d sz b x y)=U m)(hs:σ.make m=U σ') :
  ∃v w' nm',(execOp a.eval o).run P w= .ok (.value v) w'∧Rel A B w0 nm' σ' (a.put o.dst v).tmps w':=by
 obtain⟨dst,op,ty,pos,after,guard⟩:=o;simp only at hod
 subst hod;cases op<;>try (simp[Ac] at hc; done)
 case call c=>
  obtain⟨callee,args,argTypes⟩:=c;cases callee with
  | builtin bi=>
   cases bi<;>try (simp[Ac] at hc; done)
   case append=>
    simp only[Ac] at hc
    split at hc
    ·rename_i X Y t t' hargs htys
     have e1:args= #[X,Y]:=by apply Array.ext'; simpa using hargs
     have e2:argTypes= #[t,t']:=by apply Array.ext'; simpa using htys
     subst e1 e2;split at hc
     ·rename_i i z e' x' y' hz hu' hx hy
      split at hc
      ·rename_i hcond
       cases hc;obtain⟨e,hu,hi,hz2⟩:=KI hz;simp only[St.made,zE] at hm
       obtain⟨p,hzv,rfl⟩:=hm;have hX:=Ay R hx;have hY:=Ay R hy;unfold zapV at hzv
       split at hzv
       ·rename_i ay hxv
        split at hzv
        ·rename_i es hes
         split at hzv
         ·rename_i hb
          cases hzv;simp only[St.make] at hs
          split at hs
          ·rename_i hf
           cases hs;rw[hxv] at hX
           obtain⟨v,w',nm',hrun,R'⟩:=B5u (P:=P) (ty:=ty) R hu hu' hi hz2 hcond.1 hcond.2.1 hd hX hY hes hb.1 hb.2.1 hb.2.2 hf;refine⟨v,w',nm',?_,R'⟩;simp[execOp,resolve,invoke,builtin,hrun]
          ·cases hs
         ·cases hzv
        ·cases hzv
       ·cases hzv
      ·cases hc
     ·cases hc
    ·cases hc
   all_goals ((try simp only[Ac] at hc)<;>(repeat' (split at hc))<;>first | (cases hc; done) | (simp at hc; done))
  | value f=>cases f<;>(try simp only[Ac] at hc)<;>(repeat' (split at hc))<;>first | (cases hc; done) | (obtain⟨_,_,h⟩:=zE.1 hc; cases h; done) | (simp at hc; done)
  | invoke r m=>simp[Ac] at hc
 case makeFunc fn _ _=>cases fn<;>(try simp only[Ac] at hc)<;>(repeat' (split at hc))<;>first | (cases hc; done) | (obtain⟨_,_,h⟩:=zE.1 hc; cases h; done) | (simp at hc; done)
 all_goals (simp only[Ac] at hc)
 all_goals (repeat' (split at hc))
 all_goals first | (cases hc; done) | (simp only[zE] at hc; obtain⟨_,_,h⟩:=hc; cases h; done)
theorem S8{Q:Exit→Act→World→Prop}{K:Act→World→Prop}{K':St→Prop}{ops:Array Oper}{o:Oper}{g:I (zC × zB)}{ao:AOp}(R:Rel A B w0 nm σ a.tmps w)(hnt:a.tmps.size=nt)
  (hc:Qr P nt ops o (g,ao)) (h:AM g σ (AY P ao K' σ) (match ao.dst with | some d=>K' (σ.set d .no) | none=>False))
  (hK:∀nm' σ' a' w',K' σ'→Rel A B w0 nm' σ' a'.tmps w'→a'.tmps.size=nt→a'.defers=a.defers→K a' w') :
  if Region.wanted o (yielded ops a.tmps) then o.wp P a w K Q∨(o.asks P a w∧LetsOut Q) else K (a.put o.dst undef) w:=by
 obtain⟨o0,hc0,hz⟩:=hc;simp only at hc0 hz
 obtain⟨h1,h2⟩:=Yb hc0
 have CR:Region.wanted o (yielded ops a.tmps)=O→(match ao.dst with | some d=>K' (σ.set d .no) | none=>False)→K (a.put o.dst undef) w:=by
  intro _ hn;cases hd:ao.dst with
  | none=>simp[hd] at hn
  | some d=>
   simp only[hd] at hn
   obtain⟨r1,r2,r3⟩:=eT R hnt h2 (hz.dst.symm.trans hd);exact hK nm _ _ w hn r1 r2 r3
 have value:∀{d:zC} {v:Value} {w':World} {nm':Aa} {σ':St},o.dst=U d→K' σ'→(execOp a.eval o).run P w= .ok (.value v) w'→Rel A B w0 nm' σ' (a.put o.dst v).tmps w'→o.wp P a w K Q:=by
  intro d v w' nm' σ' hd hk hrun R';unfold Oper.wp;rw[hrun,Oper.upon_value,hd];rw[hd] at R'
  exact hK nm' _ _ _ hk R' (by simp[Act.put,hnt]) zD
 cases hz with
 | refl=>exact S7 R hnt hc0 h hK
 | @sl d sz zs=>
  rcases U8 R h1 h with ⟨hw,hy⟩|⟨hw,hn⟩
  ·rw[hw];obtain⟨e1,_,e3⟩:=TF h2;have hod:o.dst=U d:=e1.symm
   have hca:Ac P d o=U (.bslice d sz zs 0 []):=by
    unfold CG at h2
    rw[hod] at h2
    simp only at h2
    split at h2
    ·exact h2
    ·cases h2
   obtain⟨v,w',hrun,R'⟩:=B50 R (by rw[hnt]; exact e3 d hod) hod hca rfl rfl;exact .inl (value hod hy hrun R')
  ·rw[hw];exact CR hw hn
 | @ap d sz b x y=>
  rcases U8 R h1 h with ⟨hw,hy⟩|⟨hw,hn⟩
  ·rw[hw];obtain⟨e1,_,e3⟩:=TF h2;have hod:o.dst=U d:=e1.symm
   have hca:Ac P d o=U (.app d sz b x y):=by
    unfold CG at h2
    rw[hod] at h2
    simp only at h2
    split at h2
    ·exact h2
    ·cases h2
   obtain⟨m,σ',hm,hs,hk⟩:∃m σ',σ.made (.zap d sz b x y)=U m∧σ.make m=U σ'∧K' σ':=by
    simp only[AY,St.step] at hy
    have hp:σ.pure (.zap d sz b x y)=V:=rfl;simp only[hp] at hy
    cases hm:σ.made (.zap d sz b x y) with
    | none=>simp[hm] at hy
    | some m=>
     simp only[hm,yL] at hy
     cases hs:σ.make m with
     | none=>simp[hs] at hy
     | some σ'=>simp only[hs] at hy; exact⟨m,σ',rfl,hs,hy⟩
   obtain⟨v,w',nm',hrun,R'⟩:=B5t R (by rw[hnt]; exact e3 d hod) hod hca hm hs;exact .inl (value hod hk hrun R')
  ·rw[hw];exact CR hw hn
end
theorem Gn:∀{l m:W zC},l.Nodup→(∀x∈l,x∈m)→l.length≤m.length
 | [],m,_,_=>yC _
 | x::l,m,hn,h=>by
  have hx:x∈m:=h x (by simp);have hn':=zQ.1 hn
  have:=Gn (l:=l) (m:=m.erase x) hn'.2 fun y hy=>by
   have hne:y≠x:=fun e=>hn'.1 (e▸hy)
   exact(List.mem_erase_of_ne hne).2 (h y (by simp[hy]))
  rw[List.length_erase_of_mem hx] at this
  have hpos:0<m.length:=List.length_pos_of_mem hx;simp only[List.length_cons];omega
theorem V0{p:zC→Prop}:∀{i:zC},¬p i→∃m,m≤i∧¬p m∧∀j,j<m→p j:=by
 intro i
 induction i using Nat.strongRecOn with
 | _ i ih=>
  intro h;by_cases hall:∀j,j<i→p j
  ·exact⟨i,zS _,h,hall⟩
  ·obtain⟨j,hj⟩:=Classical.not_forall.1 hall;obtain⟨hj1,hj2⟩:=Classical.not_imp.1 hj;obtain⟨m,h1,h2,h3⟩:=ih j hj1 hj2;exact⟨m,by omega,h2,h3⟩
def CU(ops:Array Oper)(L:zC→Prop):Prop:=∀i o,ops[i]?=U o→L i→∀j∈waits o,L j
def Ww(ops:Array Oper)(i:zC)(s:W zC):Prop:=∀L:zC→Prop,CU ops L→(∀o,ops[i]?=U o→∀j∈waits o,L j)→∀x∈s,L x
theorem Va{x:zC}:∀{l m:W zC},x∈W3 l m→x∈l∨x∈m
 | [],m,h=> .inr h
 | y::l,m,h=>by
  simp only[W3,List.foldr_cons] at h;split at h
  ·rcases Va (l:=l) h with h|h
   ·exact .inl (by simp[h])
   ·exact .inr h
  ·rcases zJ.1 h with h|h
   ·exact .inl (by simp[h])
   ·rcases Va (l:=l) h with h|h
    ·exact .inl (by simp[h])
    ·exact .inr h
theorem bg{acc:W (W zC)}{x:zC}:∀{ws:W zC},x∈EE acc ws→∃j∈ws,x=j∨x∈acc.getD j []
 | [],h=>by simp[EE] at h
 | j::r,h=>by
  simp only[EE] at h;rcases Va h with h|h
  ·exact⟨j,by simp,zJ.1 h⟩
  ·obtain⟨k,hk,h⟩:=bg h;exact⟨k,by simp[hk],h⟩
theorem Tq{ops:Array Oper}:∀(l:W Oper) (acc:W (W zC)),ops.toList.drop acc.length=l→(∀i,Ww ops i (acc.getD i []))→∀i,Ww ops i ((Bg l acc).getD i [])
 | [],acc,_,h=>h
 | o::r,acc,hl,h=>by
  have ho:ops[acc.length]?=U o:=by
   have:(ops.toList.drop acc.length)[0]?=U o:=by rw[hl]; rfl
   simpa using this
  refine Tq r (acc++ [EE acc (waits o)]) ?_ fun i=> ?_
  ·have:ops.toList.drop (acc.length+1)=r:=by rw[← yP,hl]; rfl
   simpa using this
  ·by_cases hi:i<acc.length
   ·have e:(acc++ [EE acc (waits o)]).getD i []=acc.getD i []:=by simp[zX,zY hi]
    rw[e];exact h i
   ·by_cases hi2:i=acc.length
    ·subst hi2;have e:(acc++ [EE acc (waits o)]).getD acc.length []=EE acc (waits o):=by simp[zX]
     rw[e];intro L hL hw x hx;obtain⟨j,hj,hx⟩:=bg hx;have hLj:=hw o ho j hj;rcases hx with rfl|hx
     ·exact hLj
     ·exact h j L hL (fun o' ho' k hk=>hL j o' ho' hLj k hk) x hx
    ·have e:(acc++ [EE acc (waits o)]).getD i []= []:=by
      rw[zX,List.getElem?_eq_none (by simp; omega)]; rfl
     rw[e];intro L _ _ x hx;simp at hx
def Ao(listed:Array zB)(i:zC):Prop:=listed.getD i O=T
theorem F3{ops:Array Oper}{listed:Array zB}{i:zC}:i∈Region.ready .any ops listed↔i<ops.size∧listed.getD i T=O∧∀o,ops[i]?=U o→∀j∈waits o,Ao listed j:=by
 unfold Region.ready;simp only[zZ,yQ,zF,zI];constructor
 ·rintro⟨h1,h2,h3⟩
  refine⟨h1,h2,fun o ho j hj=> ?_⟩;simp only[ho,Option.map_some,yM,Array.all_eq_true'] at h3
  simp only[waits,yK,zZ] at hj
  obtain⟨e,⟨he,hb⟩,rfl⟩:=hj;have:=h3 e (by simpa using he);simpa[hb,Ao] using this
 ·rintro⟨h1,h2,h3⟩
  refine⟨h1,h2,?_⟩;have ho:=Array.getElem?_eq_getElem h1;simp only[ho,Option.map_some,yM,Array.all_eq_true'];intro e he;by_cases hb:Region.binds .any e=T
  ·have:=h3 _ ho e.on (by simp only[waits,yK,zZ]; exact⟨e,⟨by simpa using he,hb⟩,rfl⟩);rw[hb,show listed.getD e.on O=T from this];rfl
  ·simp[hb]
theorem F2{listed:Array zB}{i:zC}(h:i<listed.size):listed.getD i T=O↔¬Ao listed i:=by
 simp[Ao,Array.getD,h]
theorem HI{listed:Array zB}{i:zC}(h:i<listed.size)(j:zC):Ao (listed.setIfInBounds i T) j↔(Ao listed j∨j=i):=by
 unfold Ao;rw[Array.getD_eq_getD_getElem?,Array.getD_eq_getD_getElem?,Array.getElem?_setIfInBounds];by_cases hij:i=j
 ·subst hij; simp[h]
 ·rw[if_neg hij];have:j≠i:=fun e=>hij e.symm
  simp[this]
structure DrawOk (P:Program) (nt:zC) (ops:Array Oper) (its:W AItem) (ds:W AZ):Prop where
 items:∃its0,BB P nt ops ops.toList=U its0∧∃f:AItem→AItem,its=its0.map f∧∀it,(f it).1=it.1∧Zed it.2 (f it).2
 back:∀(i:zC) (o:Oper),ops[i]?=U o→∀j∈waits o,j<i
 dist:∀(i j:zC) (it jt:AItem) (d:zC),its[i]?=U it→its[j]?=U jt→i≠j→it.2.gentle=T→jt.2.gentle=T→it.2.dst=U d→jt.2.dst=U d→False
 draw:KF (Bg ops.toList []) its 0 its=U ds
theorem Wc:∀{l:W Oper} {k:zC},Km k l=T→∀(i:zC) (o:Oper),l[i]?=U o→∀j∈waits o,j<k+i
 | [],_,_,i,o,h=>by simp at h
 | x::l,k,hw,0,o,h=>by
  simp at h;subst h;simp only[Km,zF,zG,decide_eq_true_eq] at hw
  exact fun j hj=>hw.1 j hj
 | x::l,k,hw,i+1,o,h=>by
  simp at h;simp only[Km,zF] at hw
  intro j hj;have:=Wc hw.2 i o h j hj;omega
theorem TL{f:AItem→I zC}:∀{its:W AItem},KD (its.filterMap f)=T→∀(i j:zC) (it jt:AItem) (d:zC),its[i]?=U it→its[j]?=U jt→i<j→f it=U d→f jt=U d→False
 | [],_,i,j,it,jt,d,h1,_,_,_,_=>by simp at h1
 | x::l,h,0,j+1,it,jt,d,h1,h2,_,h3,h4=>by
  simp at h1 h2
  subst h1;simp only[yH,h3,KD,zF,zI,zK,decide_eq_false_iff_not] at h;exact h.1 (List.mem_filterMap.2 ⟨jt,zO h2,h4⟩)
 | x::l,h,i+1,j+1,it,jt,d,h1,h2,hij,h3,h4=>by
  simp at h1 h2
  have h':KD (l.filterMap f)=T:=by
   cases hx:f x with
   | none=>simpa[yH,hx] using h
   | some d'=>
    simp only[yH,hx,KD,zF] at h;exact h.2
  exact TL h' i j it jt d h1 h2 (by omega) h3 h4
 | x::l,_,i,0,_,_,_,_,_,hij,_,_=>by omega
theorem pj{P:Program}{nt:zC}{ops:Array Oper}{ds:W AZ}(h:MS P nt ops=U ds):∃its,DrawOk P nt ops its ds:=by
 unfold MS at h;split at h
 ·rename_i its0 Cv
  have key:∀its,QM ops its=U ds→(∃f:AItem→AItem,its=its0.map f∧∀it,(f it).1=it.1∧Zed it.2 (f it).2)→∃its,DrawOk P nt ops its ds:=by
   intro its h hf;unfold QM at h;split at h
   ·rename_i hc
    simp only[zF] at hc
    refine⟨its,⟨its0,Cv,hf⟩,fun i o ho j hj=> ?_,fun i j it jt d h1 h2 hij g1 g2 d1 d2=> ?_,h⟩
    ·have:=Wc hc.1 i o (by simpa using ho) j hj;omega
    ·rcases Nat.lt_or_gt_of_ne hij with hlt|hlt
     ·exact TL hc.2 i j it jt d h1 h2 hlt (by simp[g1,d1]) (by simp[g2,d2])
     ·exact TL hc.2 j i jt it d h2 h1 hlt (by simp[g2,d2]) (by simp[g1,d1])
   ·cases h
  split at h
  ·rename_i ds' hd
   cases h;exact key its0 hd ⟨fun it=>it,by simp,fun it=>⟨zD,.refl⟩⟩
  ·exact key _ h ⟨Qo (gI its0),zD,B5m _⟩
 ·cases h
theorem MT{P:Program}{nt:zC}{ops:Array Oper}:∀{l:W Oper} {its:W AItem},BB P nt ops l=U its→its.length=l.length∧∀(i:zC) (o:Oper),l[i]?=U o→∃it,its[i]?=U it∧If P nt ops o=U it
 | [],its,h=>by simp[BB] at h; subst h; exact⟨rfl,fun i o h=>by simp at h⟩
 | o::l,its,h=>by
  simp only[BB] at h;split at h
  ·rename_i i is h1 h2
   cases h;obtain⟨h3,h4⟩:=MT h2;refine⟨by simp[h3],fun k o' hk=> ?_⟩;cases k with
   | zero=>simp at hk; subst hk; exact⟨i,rfl,h1⟩
   | succ k=>simp at hk; simpa using h4 k o' hk
  ·cases h
theorem TN{an:W (W zC)}{its:W AItem}:∀{l:W AItem} {k:zC} {ds:W AZ},KF an its k l=U ds→ds.length=l.length∧∀(i:zC) (it:AItem),l[i]?=U it→∃x,ds[i]?=U x∧KE an its (k+i) it=U x
 | [],k,ds,h=>by simp[KF] at h; subst h; exact⟨rfl,fun i o h=>by simp at h⟩
 | o::l,k,ds,h=>by
  simp only[KF] at h;split at h
  ·rename_i x xs h1 h2
   cases h;obtain⟨h3,h4⟩:=TN h2;refine⟨by simp[h3],fun i it hi=> ?_⟩;cases i with
   | zero=>simp at hi; subst hi; exact⟨x,rfl,h1⟩
   | succ i=>
    simp at hi
    obtain⟨y,h5,h6⟩:=h4 i it hi;exact⟨y,by simpa using h5,by rw[show k+(i+1)=k+1+i by omega]; exact h6⟩
  ·cases h
section
variable {P : Program} {nt : zC} {ops : Array Oper} {its : W AItem} {ds : W AZ}
theorem DrawOk.sizes(H:DrawOk P nt ops its ds):its.length=ops.size∧ds.length=ops.size:=by
 obtain⟨its0,h0,f,rfl,_⟩:=H.items;obtain⟨h1,_⟩:=MT h0;obtain⟨h2,_⟩:=TN H.draw;simp at h1 h2 ⊢
 omega
theorem DrawOk.at(H:DrawOk P nt ops its ds){i:zC}{x:AZ}(hx:ds[i]?=U x):∃o,ops[i]?=U o∧its[i]?=U x.2∧Qr P nt ops o x.2∧KE (Bg ops.toList []) its i x.2=U x:=by
 obtain⟨s1,s2⟩:=H.sizes;obtain⟨its0,h0,f,hf,hz⟩:=H.items;obtain⟨_,h1⟩:=MT h0;obtain⟨_,h2⟩:=TN H.draw;have hi:i<ds.length:=(zH.1 hx).1;obtain⟨o,ho⟩:∃o,ops[i]?=U o:=⟨_,Array.getElem?_eq_getElem (by omega:i<ops.size)⟩;obtain⟨it0,hit0,hc0⟩:=h1 i o (by simpa using ho);have hit:its[i]?=U (f it0):=by rw[hf]; simp[hit0]
 have hc:Qr P nt ops o (f it0):=⟨it0.2,by rw[(hz it0).1]; exact hc0,(hz it0).2⟩;generalize f it0=it at hit hc
 obtain⟨y,hy,hd⟩:=h2 i it hit;rw[hx] at hy
 cases hy;rw[yE] at hd
 have e:x.2=it:=by
  unfold KE at hd
  simp only at hd
  split at hd
  ·split at hd<;>cases hd
   rfl
  ·split at hd<;>cases hd
   rfl
 subst e;exact⟨_,ho,hit,hc,hd⟩
theorem DrawOk.gentle(H:DrawOk P nt ops its ds){i:zC}{N:W zC}{it:AItem}(hx:ds[i]?=U (U N,it)):it.2.gentle=T∧
  ∀(j:zC) (jt:AItem),its[j]?=U jt→Bx (Bg ops.toList []) i j=T→∀d,jt.2.dst=U d→d∉it.slots∧(jt.2.maker=T→d∈N):=by
 obtain⟨o,_,hit,_,hd⟩:=H.at hx;unfold KE at hd
 simp only at hd
 split at hd
 ·rename_i hg
  split at hd
  ·rename_i hall
   simp only[yB,Prod.mk.injEq,and_true] at hd
   refine⟨(by simp only[zF] at hg; exact hg.1),fun j jt hj hinc d hdj=> ?_⟩;have hjl:j<its.length:=(zH.1 hj).1;have hjm:j∈(yS its.length).filter (Bx (Bg ops.toList []) i):=zZ.2 ⟨by simpa using hjl,hinc⟩;have:=zG.1 hall j hjm;simp only[hj,hdj,zI,zK,decide_eq_false_iff_not] at this
   refine⟨this,fun hm=> ?_⟩;subst hd;exact List.mem_filterMap.2 ⟨j,hjm,by simp[hj,hm,hdj]⟩
  ·cases hd
 ·split at hd<;>cases hd
theorem DrawOk.bar(H:DrawOk P nt ops its ds){i:zC}{it:AItem}(hx:ds[i]?=U (V,it)) :
  ∃J:W zC,(∀j∈J,j<i∧∃jt,its[j]?=U jt∧Mc jt it=T)∧(∀l,l<ops.size→l∉J→Bx (Bg ops.toList []) i l=O)∧∀l,i<l→l<ops.size→∀j∈J,j∈(Bg ops.toList []).getD l []:=by
 obtain⟨o,_,hit,_,hd⟩:=H.at hx;unfold KE at hd
 simp only at hd
 split at hd
 ·split at hd<;>cases hd
 ·split at hd
  ·rename_i he
   unfold bO at he
   simp only[zF,zG,decide_eq_true_eq] at he
   obtain⟨h1,h2⟩:=he;refine⟨(yS its.length).filter (Bx (Bg ops.toList []) i),fun j hj=> ?_,fun l hl hn=> ?_,fun l hil hl j hj=> ?_⟩
   ·obtain⟨k1,k2⟩:=h1 j hj;split at k2
    ·rename_i jt hjt
     exact⟨k1,jt,hjt,k2⟩
    ·cases k2
   ·cases hb:Bx (Bg ops.toList []) i l with
    | false=>rfl
    | true=>exact absurd (zZ.2 ⟨by rw[yQ,H.sizes.1]; exact hl,hb⟩) hn
   ·have:=h2 l (by rw[yQ,H.sizes.1]; exact hl);simp only[Bool.or_eq_true,decide_eq_true_eq,zG,zK] at this
    rcases this with h|h
    ·omega
    ·exact h j hj
  ·cases hd
theorem I9(H:DrawOk P nt ops its ds){i x:zC}(hx:x∈(Bg ops.toList []).getD i []):x<i:=by
 refine Tq ops.toList [] (by simp) (fun i=>by intro L _ _ x hx; simp at hx) i (· < i) (fun k o ho hk j hj=> ?_) (fun o ho j hj=>H.back i o ho j hj) x hx;have:=H.back k o ho j hj;simp only at hk ⊢
 omega
theorem GD{listed:Array zB}(hcl:CU ops (Ao listed)){i x:zC}(hw:∀o,ops[i]?=U o→∀j∈waits o,Ao listed j)(hx:x∈(Bg ops.toList []).getD i []):Ao listed x:=
 Tq ops.toList [] (by simp) (fun i=>by intro L _ _ x hx; simp at hx) i (Ao listed) hcl hw x hx
theorem JX{an:W (W zC)}{i j:zC}(h:Bx an i j=O)(hne:i≠j):j∈an.getD i []∨i∈an.getD j []:=by
 unfold Bx at h;simp only[Bool.and_eq_false_iff,bne_eq_false_iff_eq,Bool.not_eq_false',zK,decide_eq_true_eq] at h;rcases h with (h|h)|h
 ·exact absurd h hne
 ·exact .inl h
 ·exact .inr h
theorem wG{an:W (W zC)}{i j:zC}(h:Bx an i j=T):Bx an j i=T:=by
 unfold Bx at h ⊢
 simp only[zF,bne_iff_ne,ne_eq,zI] at h ⊢
 exact⟨⟨fun e=>h.1.1 e.symm,h.2⟩,h.1.2⟩
end
end
section
theorem yj{σ:St}{N:W zC}{id:zC}{x:zC × W (W D)}(h:A1 (σ.less N).rows id=U x):id / 64∉N∧A1 σ.rows id=U x:=by
 cases N with
 | nil=>exact⟨by simp,h⟩
 | cons n N=>
  obtain⟨h1,h2⟩:=P7 (p:=fun k=> !(n::N).contains (k / 64)) h;exact⟨by simpa using h1,h2⟩
theorem yg{σ:St}{N:W zC}{id:zC}{x:W AC}(h:A1 (σ.less N).bx id=U x):id∉N∧A1 σ.bx id=U x:=by
 cases N with
 | nil=>exact⟨by simp,h⟩
 | cons n N=>
  obtain⟨h1,h2⟩:=P7 (p:=fun k=> !(n::N).contains k) h;exact⟨by simpa using h1,h2⟩
theorem yh{σ:St}{N:W zC}(k:zC):(σ.less N).get k=σ.get k:=by cases N<;>rfl
section
variable {P : Program} {nt : zC} {ops : Array Oper} {its : W AItem} {ds : W AZ} {Q : Exit → Act → World → Prop} {A : Ar} {B : zC} {w0 : Base} {df : W Deferred} {σ0 : St} {E : zC → Eff} {s : zC}
def Fact(P:Program)(ds:W AZ)(σ0:St)(E:zC→Eff)(s i:zC):Prop:=
 ∃N it σi,ds[i]?=U (U N,it)∧Mt σ0 E (fun j=>s≤j∧j<i) σi∧Ev P N σi it (E i)
theorem Fact.parts(H:DrawOk P nt ops its ds){i:zC}(F:Fact P ds σ0 E s i):∃it,its[i]?=U it∧it.2.gentle=T∧it.2.dst=U (E i).d∧(E i).Grouped∧((E i).bx≠ []∨(E i).rows≠ []→it.2.maker=T):=by
 obtain⟨N,it,σi,h1,_,h3⟩:=F;obtain⟨_,_,hit,_,_⟩:=H.at h1;exact⟨it,hit,(H.gentle h1).1,h3.dst,h3.grouped,fun h=>(h3.maker h).1⟩
theorem Fact.ne(H:DrawOk P nt ops its ds){i j:zC}(F:Fact P ds σ0 E s i)(G:Fact P ds σ0 E s j)(hij:i≠j):(E i).d≠(E j).d:=by
 obtain⟨it,h1,h2,h3,_⟩:=F.parts H;obtain⟨jt,k1,k2,k3,_⟩:=G.parts H;intro e;exact H.dist i j it jt _ h1 k1 hij h2 k2 h3 (e▸k3)
theorem cw(H:DrawOk P nt ops its ds){k i:zC}(F:∀j,s≤j→j<k→Fact P ds σ0 E s j)(hfr:CZ (ds.drop s) σ0=T){M:W zC}(hM:∀x∈M,s≤x∧x<k){listed:Array zB}
  (hL:∀j,Ao listed j↔j<s∨j∈M) (hcl:CU ops (Ao listed)) (hs:s≤i) (hk:i<k) (hi:i∉M) (hw:∀o,ops[i]?=U o→∀j∈waits o,Ao listed j) {σ:St} (m:Mt σ0 E (· ∈M) σ) :
  ∃o g ao,ops[i]?=U o∧Qr P nt ops o (g,ao)∧its[i]?=U (g,ao)∧∀K:St→Prop,K (σ.add (E i))→AM g σ (AY P ao K σ) (match ao.dst with | some d=>K (σ.set d .no) | none=>False):=by
 obtain⟨N,it,σi,hx,mi,ev⟩:=F i hs hk;obtain⟨o,ho,hit,hc,_⟩:=H.at hx;obtain⟨hg,hinc⟩:=H.gentle hx
 have comp_lt:∀j,s≤j→j<i→Bx (Bg ops.toList []) i j=O→j∈M:=by
  intro j hsj hji hc;rcases JX hc (by omega) with h|h
  ·have:=(hL j).1 (GD hcl hw h);rcases this with h2|h2
   ·omega
   ·exact h2
  ·have:=I9 H h;omega
 have comp_M:∀j∈M,Bx (Bg ops.toList []) i j=O→j<i:=by
  intro j hj hc;have hne:i≠j:=fun e=>hi (e▸hj)
  rcases JX hc hne with h|h
  ·exact I9 H h
  ·exfalso
   have hLj:Ao listed j:=(hL j).2 (.inr hj);have hLi:Ao listed i:=GD hcl (fun o' ho' x hx=>hcl j o' ho' hLj x hx) h;rcases(hL i).1 hLi with h2|h2
   ·omega
   ·exact hi h2
 have dst_in:∀j,s≤j→j<k→Bx (Bg ops.toList []) i j=T→(E j).d∉it.slots∧((E j).bx≠ []∨(E j).rows≠ []→(E j).d∈N):=by
  intro j hsj hjk hc;obtain⟨jt,k1,k2,k3,k4,k5⟩:=(F j hsj hjk).parts H;obtain⟨e2,e3⟩:=hinc j jt k1 hc _ k3;exact⟨e2,fun h=>e3 (k5 h)⟩
 obtain⟨g,ao⟩:=it;refine⟨o,g,ao,ho,hc,hit,fun K hK=>ev.move ?_ ?_ hK⟩
 ·refine⟨fun q hq=> ?_,fun id cs hcs=> ?_,fun id r hr=> ?_⟩
  ·rw[yh];by_cases h:∃j,s≤j∧j<i∧(E j).d=q
   ·obtain⟨j,h1,h2,rfl⟩:=h
    have hc':Bx (Bg ops.toList []) i j=O:=by
     cases hb:Bx (Bg ops.toList []) i j with
     | false=>rfl
     | true=>exact absurd hq (dst_in j h1 (by omega) hb).1
    rw[m.hit j (comp_lt j h1 h2 hc'),mi.hit j ⟨h1,h2⟩]
   ·rw[mi.miss q fun j hj e=>h ⟨j,hj.1,hj.2,e⟩];refine m.miss q fun j hj e=> ?_
    obtain⟨hsj,hjk⟩:=hM j hj;cases hb:Bx (Bg ops.toList []) i j with
    | false=>exact h ⟨j,hsj,comp_M j hj hb,e⟩
    | true=>exact(dst_in j hsj hjk hb).1 (e▸hq)
  ·obtain⟨hN,hf⟩:=yg hcs;rw[← hf];by_cases h:∃j,s≤j∧j<i∧(E j).bx≠ []∧(E j).d=id
   ·obtain⟨j,h1,h2,hb,e⟩:=h
    have hc':Bx (Bg ops.toList []) i j=O:=by
     cases hb2:Bx (Bg ops.toList []) i j with
     | false=>rfl
     | true=>exact absurd (e▸(dst_in j h1 (by omega) hb2).2 (.inl hb)) hN
    rw[m.bhit j id (comp_lt j h1 h2 hc') hb e,mi.bhit j id ⟨h1,h2⟩ hb e]
   ·rw[mi.bmiss id fun j hj hb e=>h ⟨j,hj.1,hj.2,hb,e⟩];refine m.bmiss id fun j hj hb e=> ?_
    obtain⟨hsj,hjk⟩:=hM j hj;cases hb2:Bx (Bg ops.toList []) i j with
    | false=>exact h ⟨j,hsj,comp_M j hj hb2,hb,e⟩
    | true=>exact hN (e▸(dst_in j hsj hjk hb2).2 (.inl hb))
  ·obtain⟨hN,hf⟩:=yj hr;rw[← hf];by_cases h:∃j,s≤j∧j<i∧(E j).rows≠ []∧(E j).d=id / 64
   ·obtain⟨j,h1,h2,hb,e⟩:=h
    have hc':Bx (Bg ops.toList []) i j=O:=by
     cases hb2:Bx (Bg ops.toList []) i j with
     | false=>rfl
     | true=>exact absurd (e▸(dst_in j h1 (by omega) hb2).2 (.inr hb)) hN
    rw[m.rhit j id (comp_lt j h1 h2 hc') hb e,mi.rhit j id ⟨h1,h2⟩ hb e]
   ·rw[mi.rmiss id fun j hj hb e=>h ⟨j,hj.1,hj.2,hb,e⟩];refine m.rmiss id fun j hj hb e=> ?_
    obtain⟨hsj,hjk⟩:=hM j hj;cases hb2:Bx (Bg ops.toList []) i j with
    | false=>exact h ⟨j,hsj,comp_M j hj hb2,hb,e⟩
    | true=>exact hN (e▸(dst_in j hsj hjk hb2).2 (.inr hb))
 ·intro hmk hfi;have hd:ao.dst=U (E i).d:=ev.dst;refine m.frs _ ?_ fun j hj=> ?_
  ·have hmem:(U N,g,ao)∈ds.drop s:=by
    have:(ds.drop s)[i - s]?=U (U N,g,ao):=by rw[List.getElem?_drop,show s+(i - s)=i by omega]; exact hx
    exact zO this
   have:=zG.1 hfr _ hmem;simp only[hmk,hd] at this
   exact this
  ·obtain⟨hsj,hjk⟩:=hM j hj;have hne:i≠j:=fun e=>hi (e▸hj)
   have hdne:=Fact.ne H (F i hs hk) (F j hsj hjk) hne;cases hb:Bx (Bg ops.toList []) i j with
   | false=>
    have hji:=comp_M j hj hb;obtain⟨_,_,_,_,hgr,_⟩:=(F j hsj hjk).parts H;simp only[Eff.avoids,zF,zG];refine⟨fun c hc=> ?_,fun p hp=> ?_⟩
    ·have:=St.fresh_uses hfi (c:=c) (.inl ⟨(E j).d,by rw[mi.hit j ⟨hsj,hji⟩]; exact hc⟩);simp[this]
    ·rcases hgr.one with h0|⟨cs,h0⟩
     ·rw[h0] at hp; simp at hp
     ·rw[h0] at hp
      simp only[List.mem_singleton] at hp
      subst hp;refine⟨by simpa using fun e=>hdne e.symm,fun c hc=> ?_⟩
      have hfind:A1 σi.bx (E j).d=U cs:=by
       rw[mi.bhit j _ ⟨hsj,hji⟩ (by simp[h0]) rfl,h0];exact Bl _ _ _
      have:=St.fresh_uses hfi (c:=c) (.inr ⟨_,_,hfind,hc⟩);simp[this]
   | true=>
    obtain⟨N',it',σj,hxj,mj,evj⟩:=F j hsj hjk;obtain⟨e2,e3⟩:=(H.gentle hxj).2 i (g,ao) hit (wG hb) _ hd;exact evj.avoid (e3 hmk) hdne
theorem TM(H:DrawOk P nt ops its ds){k:zC}(hkn:k≤ops.size)(F:∀j,s≤j→j<k→Fact P ds σ0 E s j)(hfr:CZ (ds.drop s) σ0=T)(hsk:s≤k){σk:St}(mk:Mt σ0 E (fun j=>s≤j∧j<k) σk)
  (X:zC→Prop) (hafter:∀i,k≤i→i<ops.size→∀listed:Array zB,CU ops (Ao listed)→(∀o,ops[i]?=U o→∀j∈waits o,Ao listed j)→∀j,s≤j→j<k→(∀x,Ao listed x→x<k)→Ao listed j∨X i)
  (esc:∀(i f:zC) (M:W zC) (listed:Array zB) (a:Act) (w:World) (nm:Aa) (σ:St),X i→¬Ao listed i→(∀o,ops[i]?=U o→∀j∈waits o,Ao listed j)→(∃j0,s≤j0∧j0<k∧j0∉M)→M.Nodup→(∀x∈M,s≤x∧x<k)→listed.size=ops.size→
   (∀j,Ao listed j↔j<s∨j∈M)→f+1+s+M.length=ops.size→CU ops (Ao listed)→Mt σ0 E (· ∈M) σ→Rel A B w0 nm σ a.tmps w→a.tmps.size=nt→a.defers=df→wpOp P ops Q i (wpAny P .any ops Q f (listed.setIfInBounds i T)) a w)
  (fin:∀fuel listed a w nm,fuel+k=ops.size→listed.size=ops.size→(∀i,Ao listed i↔i<k)→CU ops (Ao listed)→Rel A B w0 nm σk a.tmps w→a.tmps.size=nt→a.defers=df→wpAny P .any ops Q fuel listed a w) :
  ∀(fuel:zC) (M:W zC) (listed:Array zB) (a:Act) (w:World) (nm:Aa) (σ:St),M.Nodup→(∀x∈M,s≤x∧x<k)→listed.size=ops.size→(∀j,Ao listed j↔j<s∨j∈M)→fuel+s+M.length=ops.size→CU ops (Ao listed)→
   Mt σ0 E (· ∈M) σ→Rel A B w0 nm σ a.tmps w→a.tmps.size=nt→a.defers=df→wpAny P .any ops Q fuel listed a w:=by
 intro fuel
 induction fuel with
 | zero=>
  intro M listed a w nm σ hnd hM hsz hL hfuel hcl m R hnt hdf;have hle:M.length≤(zT s (k - s)).length:=Gn hnd fun x hx=>by have:=hM x hx; simp[zL]; exact⟨x - s,by omega,by omega⟩
  simp at hle
  have hall:∀j,s≤j→j<k→j∈M:=by
   intro j h1 h2;refine Classical.byContradiction fun hj=> ?_
   have:(j::M).length≤(zT s (k - s)).length:=Gn (zQ.2 ⟨hj,hnd⟩) fun x hx=>by
    rcases zJ.1 hx with rfl|hx
    ·simp[zL]; exact⟨x - s,by omega,by omega⟩
    ·have:=hM x hx; simp[zL]; exact⟨x - s,by omega,by omega⟩
   simp at this
   omega
  have mm:Mt σ0 E (fun j=>s≤j∧j<k) σ:=m.congr (fun i=>⟨hM i,fun h=>hall i h.1 h.2⟩) (fun _ _=>rfl);refine fin 0 listed a w nm (by omega) hsz (fun i=> ?_) hcl (R.same (mm.same mk)) hnt hdf;rw[hL i];constructor
  ·rintro(h|h)
   ·omega
   ·exact(hM i h).2
  ·intro h;by_cases his:i<s
   ·exact .inl his
   ·exact .inr (hall i (by omega) h)
 | succ f ih=>
  intro M listed a w nm σ hnd hM hsz hL hfuel hcl m R hnt hdf;by_cases hfull:∀j,s≤j→j<k→j∈M
  ·have mm:Mt σ0 E (fun j=>s≤j∧j<k) σ:=m.congr (fun i=>⟨hM i,fun h=>hfull i h.1 h.2⟩) (fun _ _=>rfl);have hle:M.length≤(zT s (k - s)).length:=Gn hnd fun x hx=>by have:=hM x hx; simp[zL]; exact⟨x - s,by omega,by omega⟩
   have hge:(zT s (k - s)).length≤M.length:=Gn List.nodup_range' fun x hx=>by simp[zL] at hx; obtain⟨y,hy,rfl⟩:=hx; exact hfull _ (by omega) (by omega)
   simp at hle hge
   refine fin (f+1) listed a w nm (by omega) hsz (fun i=> ?_) hcl (R.same (mm.same mk)) hnt hdf;rw[hL i];constructor
   ·rintro(h|h)
    ·omega
    ·exact(hM i h).2
   ·intro h;by_cases his:i<s
    ·exact .inl his
    ·exact .inr (hfull i (by omega) h)
  ·obtain⟨j0,hj0⟩:=Classical.not_forall.1 hfull;obtain⟨h1,hj0⟩:=Classical.not_imp.1 hj0;obtain⟨h2,h3⟩:=Classical.not_imp.1 hj0
   have hlt:∀x,Ao listed x→x<k:=by
    intro x hx;rcases(hL x).1 hx with h|h
    ·omega
    ·exact(hM x h).2
   refine⟨fun hr=> ?_,fun i hi=> ?_⟩
   ·exfalso
    have hn0:¬Ao listed j0:=fun h=>by
     rcases(hL j0).1 h with h|h
     ·omega
     ·exact h3 h
    obtain⟨mi,hmi,hmn,hmall⟩:=V0 (p:=Ao listed) hn0;have:mi∈Region.ready .any ops listed:=F3.2 ⟨by omega,(F2 (by omega)).2 hmn,fun o ho j hj=>hmall j (H.back mi o ho j hj)⟩;rw[hr] at this
    simp at this
   ·obtain⟨hin,hun,hw⟩:=F3.1 hi;have hun':=(F2 (by omega)).1 hun
    have hsi:s≤i:=by
     refine yN fun h=>hun' ((hL i).2 (.inl h))
    have hiM:i∉M:=fun h=>hun' ((hL i).2 (.inr h))
    by_cases hik:i<k
    rotate_left
    ·rcases hafter i (by omega) hin listed hcl hw j0 h1 h2 hlt with h|h
     ·exfalso
      rcases(hL j0).1 h with h|h
      ·omega
      ·exact h3 h
     ·exact esc i f M listed a w nm σ h hun' hw ⟨j0,h1,h2,h3⟩ hnd hM hsz hL hfuel hcl m R hnt hdf
    obtain⟨o,g,ao,ho,hc,_,hrun⟩:=cw H F hfr hM hL hcl hsi hik hiM hw m
    have:=S8 (Q:=Q) (K:=wpAny P .any ops Q f (listed.setIfInBounds i T)) (K':=fun σ'=>σ'=σ.add (E i)) R hnt hc (hrun _ rfl) (fun nm' σ' a' w' hσ R' hs' hd'=>by
     subst hσ;obtain⟨_,_,_,_,hgr,_⟩:=(F i hsi hik).parts H;have m':Mt σ0 E (fun j=>j∈M∨j=i) (σ.add (E i)):=m.add (fun j hj=>Fact.ne H (F j (hM j hj).1 (hM j hj).2) (F i hsi hik) fun e=>hiM (e▸hj)) hgr;refine ih (i::M) _ a' w' nm' _ (zQ.2 ⟨hiM,hnd⟩) ?_ (by simpa using hsz) (fun j=> ?_) (by simp; omega) ?_ (m'.congr (fun j=>by simp[or_comm]) (fun _ _=>rfl)) R' hs' (hd'.trans hdf)
     ·intro x hx;rcases zJ.1 hx with rfl|hx
      ·exact⟨hsi,hik⟩
      ·exact hM x hx
     ·rw[HI (by omega),hL j];simp only[zJ];constructor
      ·rintro((h|h)|h)
       ·exact .inl h
       ·exact .inr (.inr h)
       ·exact .inr (.inl h)
      ·rintro(h|h|h)
       ·exact .inl (.inl h)
       ·exact .inr h
       ·exact .inl (.inr h)
     ·intro x o' ho' hx j hj;rw[HI (by omega)] at hx ⊢
      rcases hx with hx|rfl
      ·exact .inl (hcl x o' ho' hx j hj)
      ·exact .inl (hw o' ho' j hj))
    unfold wpOp;rw[ho];exact this
theorem dr{σ σ2:St}{n:zC}{X Y:AV}(h:σ.storeV n X Y=U σ2)(e:W (zC × AV)):({σ with env:=e}:St).storeV n X Y=U {σ2 with env:=e}∧σ2.env=σ.env:=by
 unfold St.storeV at h ⊢
 split at h
 ·split at h
  ·rename_i cs hcs
   split at h
   ·rename_i hc
    cases h;simp only[hcs];rw[if_pos hc];exact⟨zD,⟨⟩⟩
   ·cases h
  ·cases h
 ·split at h
  ·rename_i sz es hes
   split at h
   ·rename_i d ds h1 h2
    split at h
    ·rename_i hc
     cases h;simp only[hes,h1,h2];rw[if_pos hc];exact⟨zD,⟨⟩⟩
    ·cases h
   ·cases h
  ·cases h
 ·rename_i c cs d
  cases hc:(n==1&&Md c d) with
  | false=>rw[hc] at h; cases h
  | true=>rw[hc] at h; cases h; exact⟨by simp[hc],rfl⟩
 ·cases h
theorem eW{σ τ:St}{x:Opd}(h:∀q∈x.slots,τ.get q=σ.get q):τ.val x=σ.val x:=by
 cases x with
 | t q=>exact h q (by simp[Opd.slots])
 | c v=>rfl
theorem A1m{o:AOp}(he:o.envOnly=T){e:W (zC × AV)}{b b':W (zC × W AC)}{r r':Rows}:(St.mk e b r).pure o=(St.mk e b' r').pure o:=by
 cases o<;>first | rfl | (simp[AOp.envOnly] at he; done) | (simp only[St.pure]; (repeat' (rename_i x; cases x))<;>rfl)
theorem ly{o:AOp}(he:o.envOnly=T){K:St→Prop}{σ:St}:AY P o K σ=(match σ.pure o with | some (d,v)=>K (σ.set d v) | none=>False):=by
 cases o<;>first | (simp[AOp.envOnly] at he; done) | (simp only[AY,St.step]; cases σ.pure _ with | none=>simp[St.made] | some p=>rfl)
theorem rJ{o:AOp}(he:o.envOnly=T){g:I (zC × zB)}{e e1:W (zC × AV)}{b b1 b':W (zC × W AC)}{r r1 r':Rows}
  (h:AM g ⟨e,b,r⟩ (AY P o (fun τ=>τ=⟨e1,b1,r1⟩) ⟨e,b,r⟩) (match o.dst with | some d=>(St.mk e b r).set d .no=⟨e1,b1,r1⟩ | none=>False)) :
  AM g ⟨e,b',r'⟩ (AY P o (fun τ=>τ=⟨e1,b',r'⟩) ⟨e,b',r'⟩) (match o.dst with | some d=>(St.mk e b' r').set d .no=⟨e1,b',r'⟩ | none=>False):=by
 have hy:AY P o (fun τ=>τ=⟨e1,b1,r1⟩) ⟨e,b,r⟩→AY P o (fun τ=>τ=⟨e1,b',r'⟩) ⟨e,b',r'⟩:=by
  intro h;rw[ly he] at h ⊢
  rw[A1m he (b':=b) (r':=r)];cases hp:(St.mk e b r).pure o with
  | none=>simp[hp] at h
  | some p=>
   simp only[hp] at h ⊢
   have:=congrArg St.env h;simp only[St.set] at this ⊢
   rw[this]
 have hn:(match o.dst with | some d=>(St.mk e b r).set d .no=⟨e1,b1,r1⟩ | none=>False)→(match o.dst with | some d=>(St.mk e b' r').set d .no=⟨e1,b',r'⟩ | none=>False):=by
  intro h;cases hd:o.dst with
  | none=>simp[hd] at h
  | some d=>
   simp only[hd] at h ⊢
   have:=congrArg St.env h;simp only[St.set] at this ⊢
   rw[this]
 rcases Tp h with ⟨hw,h⟩|⟨t,want,rfl,hd,h⟩
 ·exact Kt (σ:=⟨e,b',r'⟩) (by cases g<;>exact hw) (hy h)
 ·exact Tn (σ:=⟨e,b',r'⟩) hd (hn h)
theorem xo(H:DrawOk P nt ops its ds){k:zC}(hkn:k<ops.size){J:W zC}{σk σ2:St}(F:∀i,s≤i→i<k→Fact P ds σ0 E s i)(hfr:CZ (ds.drop s) σ0=T)(mk:Mt σ0 E (fun j=>s≤j∧j<k) σk)
  (hJ:∀j∈J,j<k∧∃jt,its[j]?=U jt∧jt.2.envOnly=T) (hlater:∀l,k<l→l<ops.size→∀j∈J,j∈(Bg ops.toList []).getD l []) (h2e:σ2.env=σk.env)
  (cont:∀(f:zC) (listed:Array zB) (a:Act) (w:World) (nm:Aa),f+(k+1)=ops.size→listed.size=ops.size→(∀i,Ao listed i↔i<k+1)→CU ops (Ao listed)→Rel A B w0 nm σ2 a.tmps w→a.tmps.size=nt→a.defers=df→wpAny P .any ops Q f listed a w) :
  ∀(f:zC) (M:W zC) (l0 listed:Array zB) (a:Act) (w:World) (nm:Aa) (σ:St),M.Nodup→(∀x∈M,s≤x∧x<k)→(∀l,s≤l→l<k→l∉J→l∈M)→(∀j,Ao l0 j↔j<s∨j∈M)→CU ops (Ao l0)→
   listed.size=ops.size→l0.size=ops.size→(∀j,Ao listed j↔Ao l0 j∨j=k)→CU ops (Ao listed)→s≤k→f+(s+M.length+1)=ops.size→Mt σ0 E (· ∈M) σ→Rel A B w0 nm ⟨σ.env,σ2.bx,σ2.rows⟩ a.tmps w→a.tmps.size=nt→a.defers=df→wpAny P .any ops Q f listed a w:=by
 intro f
 induction f with
 | zero=>
  intro M l0 listed a w nm σ hnd hM hall hL0 hcl0 hsz hsz0 hL hcl hsk hfuel m R hnt hdf;have hle:M.length≤(zT s (k - s)).length:=Gn hnd fun x hx=>by have:=hM x hx; simp[zL]; exact⟨x - s,by omega,by omega⟩
  simp at hle
  have hfull:∀j,s≤j→j<k→j∈M:=by
   intro j h1 h2;refine Classical.byContradiction fun hj=> ?_
   have:(j::M).length≤(zT s (k - s)).length:=Gn (zQ.2 ⟨hj,hnd⟩) fun x hx=>by
    rcases zJ.1 hx with rfl|hx
    ·simp[zL]; exact⟨x - s,by omega,by omega⟩
    ·have:=hM x hx; simp[zL]; exact⟨x - s,by omega,by omega⟩
   simp at this
   omega
  have sm:Same σ σk:=(m.congr (fun i=>⟨hM i,fun h=>hfull i h.1 h.2⟩) (fun _ _=>rfl)).same mk;refine cont 0 listed a w nm (by omega) hsz (fun i=> ?_) hcl (R.same ⟨fun q=> ?_,fun _=>rfl,fun _=>rfl⟩) hnt hdf
  ·rw[hL,hL0];constructor
   ·rintro((h|h)|h)
    ·omega
    ·have:=hM i h; omega
    ·omega
   ·intro h;by_cases h1:i=k
    ·exact .inr h1
    by_cases h2:i<s
    ·exact .inl (.inl h2)
    ·exact .inl (.inr (hfull i (by omega) (by omega)))
  ·have:σ2.get q=σk.get q:=by unfold St.get; rw[h2e]
   rw[this];exact sm.get q
 | succ f ih=>
  intro M l0 listed a w nm σ hnd hM hall hL0 hcl0 hsz hsz0 hL hcl hsk hfuel m R hnt hdf;by_cases hfull:∀j,s≤j→j<k→j∈M
  ·have hle:M.length≤(zT s (k - s)).length:=Gn hnd fun x hx=>by have:=hM x hx; simp[zL]; exact⟨x - s,by omega,by omega⟩
   have hge:(zT s (k - s)).length≤M.length:=Gn List.nodup_range' fun x hx=>by simp[zL] at hx; obtain⟨y,hy,rfl⟩:=hx; exact hfull _ (by omega) (by omega)
   simp at hle hge
   have sm:Same σ σk:=(m.congr (fun i=>⟨hM i,fun h=>hfull i h.1 h.2⟩) (fun _ _=>rfl)).same mk;refine cont (f+1) listed a w nm (by omega) hsz (fun i=> ?_) hcl (R.same ⟨fun q=> ?_,fun _=>rfl,fun _=>rfl⟩) hnt hdf
   ·rw[hL,hL0];constructor
    ·rintro((h|h)|h)
     ·omega
     ·have:=hM i h; omega
     ·omega
    ·intro h;by_cases h1:i=k
     ·exact .inr h1
     by_cases h2:i<s
     ·exact .inl (.inl h2)
     ·exact .inl (.inr (hfull i (by omega) (by omega)))
   ·have:σ2.get q=σk.get q:=by unfold St.get; rw[h2e]
    rw[this];exact sm.get q
  ·obtain⟨j0,hj0⟩:=Classical.not_forall.1 hfull;obtain⟨h1,hj0⟩:=Classical.not_imp.1 hj0;obtain⟨h2,h3⟩:=Classical.not_imp.1 hj0
   have hn0:¬Ao listed j0:=fun h=>by
    rcases(hL j0).1 h with h|h
    ·rcases(hL0 j0).1 h with h|h
     ·omega
     ·exact h3 h
    ·omega
   refine⟨fun hr=> ?_,fun i hi=> ?_⟩
   ·exfalso
    obtain⟨mi,hmi,hmn,hmall⟩:=V0 (p:=Ao listed) hn0;have:mi∈Region.ready .any ops listed:=F3.2 ⟨by omega,(F2 (by omega)).2 hmn,fun o ho j hj=>hmall j (H.back mi o ho j hj)⟩;rw[hr] at this
    simp at this
   ·obtain⟨hin,hun,hw⟩:=F3.1 hi;have hun':=(F2 (by omega)).1 hun
    have hik:i<k:=by
     refine Nat.lt_of_not_le fun h=> ?_
     have hne:i≠k:=fun e=>hun' ((hL i).2 (.inr e))
     have hj0J:j0∈J:=Classical.byContradiction fun hn=>h3 (hall j0 h1 h2 hn)
     exact hn0 (GD hcl hw (hlater i (by omega) hin j0 hj0J))
    have hsi:s≤i:=yN fun h=>hun' ((hL i).2 (.inl ((hL0 i).2 (.inl h))))
    have hiM:i∉M:=fun h=>hun' ((hL i).2 (.inl ((hL0 i).2 (.inr h))))
    have hiJ:i∈J:=Classical.byContradiction fun hn=>hiM (hall i hsi hik hn)
    have hw0:∀o,ops[i]?=U o→∀j∈waits o,Ao l0 j:=by
     intro o ho j hj;have:=H.back i o ho j hj;rcases(hL j).1 (hw o ho j hj) with h|h
     ·exact h
     ·omega
    obtain⟨o,g,ao,ho,hc,hit,hrun⟩:=cw H F hfr hM hL0 hcl0 hsi hik hiM hw0 m;obtain⟨_,jt,hjt,he⟩:=hJ i hiJ;rw[hit] at hjt
    cases hjt;have hstep:=rJ (P:=P) he (b':=σ2.bx) (r':=σ2.rows) (hrun (fun τ=>τ=σ.add (E i)) rfl)
    have:=S8 (Q:=Q) (K:=wpAny P .any ops Q f (listed.setIfInBounds i T)) (K':=fun σ'=>σ'=⟨(σ.add (E i)).env,σ2.bx,σ2.rows⟩) R hnt hc hstep (fun nm' σ' a' w' hσ R' hs' hd'=>by
     subst hσ;obtain⟨_,_,_,_,hgr,_⟩:=(F i hsi hik).parts H;have m':Mt σ0 E (fun j=>j∈M∨j=i) (σ.add (E i)):=m.add (fun j hj=>Fact.ne H (F j (hM j hj).1 (hM j hj).2) (F i hsi hik) fun e=>hiM (e▸hj)) hgr;have hL2:∀q,Ao (listed.setIfInBounds i T) q↔(Ao listed q∨q=i):=fun q=>HI (by omega) q
     have hL3:∀q,Ao (l0.setIfInBounds i T) q↔(Ao l0 q∨q=i):=fun q=>HI (by omega) q
     refine ih (i::M) (l0.setIfInBounds i T) _ a' w' nm' _ (zQ.2 ⟨hiM,hnd⟩) ?_ (fun l g1 g2 g3=>zJ.2 (.inr (hall l g1 g2 g3))) (fun j=> ?_) ?_ (by simpa using hsz) (by simpa using hsz0) (fun j=> ?_) ?_ hsk (by simp; omega)
      (m'.congr (fun j=>by simp[or_comm]) (fun _ _=>rfl)) R' hs' (hd'.trans hdf)
     ·intro x hx;rcases zJ.1 hx with rfl|hx
      ·exact⟨hsi,hik⟩
      ·exact hM x hx
     ·rw[hL3,hL0 j];simp only[zJ];constructor
      ·rintro((h|h)|h)
       ·exact .inl h
       ·exact .inr (.inr h)
       ·exact .inr (.inl h)
      ·rintro(h|h|h)
       ·exact .inl (.inl h)
       ·exact .inr h
       ·exact .inl (.inr h)
     ·intro x o' ho' hx j hj;rw[hL3] at hx ⊢
      rcases hx with hx|rfl
      ·exact .inl (hcl0 x o' ho' hx j hj)
      ·exact .inl (hw0 o' ho' j hj)
     ·rw[hL2,hL3,hL];constructor
      ·rintro((h|h)|h)
       ·exact .inl (.inl h)
       ·exact .inr h
       ·exact .inl (.inr h)
      ·rintro((h|h)|h)
       ·exact .inl (.inl h)
       ·exact .inr h
       ·exact .inl (.inr h)
     ·intro x o' ho' hx j hj;rw[hL2] at hx ⊢
      rcases hx with hx|rfl
      ·exact .inl (hcl x o' ho' hx j hj)
      ·exact .inl (hw o' ho' j hj))
    unfold wpOp;rw[ho];exact this
theorem xn(H:DrawOk P nt ops its ds){k:zC}{it:AItem}{J:W zC}{σk:St}(hsk:s≤k)(F:∀i,s≤i→i<k→Fact P ds σ0 E s i)(hfr:CZ (ds.drop s) σ0=T)(mk:Mt σ0 E (fun j=>s≤j∧j<k) σk)
  (hJ:∀j∈J,j<k∧∃jt,its[j]?=U jt∧Mc jt it=T) (hx:ds[k]?=U (V,it)) (hcomp:∀l,l<ops.size→l∉J→Bx (Bg ops.toList []) k l=O)
  (hlater:∀l,k<l→l<ops.size→∀j∈J,j∈(Bg ops.toList []).getD l []) {K:St→Prop} (h:AM it.1 σk (AY P it.2 K σk) (match it.2.dst with | some d=>K (σk.set d .no) | none=>False))
  (cont:∀(σ2:St) (f:zC) (listed:Array zB) (a:Act) (w:World) (nm:Aa),K σ2→f+(k+1)=ops.size→listed.size=ops.size→(∀i,Ao listed i↔i<k+1)→CU ops (Ao listed)→Rel A B w0 nm σ2 a.tmps w→a.tmps.size=nt→a.defers=df→wpAny P .any ops Q f listed a w)
  (f:zC) (M:W zC) (listed:Array zB) (a:Act) (w:World) (nm:Aa) (σ:St) (hnl:¬Ao listed k) (hw:∀o,ops[k]?=U o→∀j∈waits o,Ao listed j) (hex:∃j0,s≤j0∧j0<k∧j0∉M) (hnd:M.Nodup)
  (hM:∀x∈M,s≤x∧x<k) (hsz:listed.size=ops.size) (hL:∀j,Ao listed j↔j<s∨j∈M) (hfuel:f+1+s+M.length=ops.size) (hcl:CU ops (Ao listed)) (m:Mt σ0 E (· ∈M) σ) (R:Rel A B w0 nm σ a.tmps w) (hnt:a.tmps.size=nt) (hdf:a.defers=df) :
  wpOp P ops Q k (wpAny P .any ops Q f (listed.setIfInBounds k T)) a w:=by
 have hkn:k<ops.size:=by
  have:=(zH.1 hx).1;have:=H.sizes.2;omega
 have hall:∀l,s≤l→l<k→l∉J→l∈M:=by
  intro l h1 h2 h3;rcases JX (hcomp l (by omega) h3) (by omega) with h4|h4
  ·rcases(hL l).1 (GD hcl hw h4) with h5|h5
   ·omega
   ·exact h5
  ·have:=I9 H h4;omega
 obtain⟨j0,hj1,hj2,hj3⟩:=hex;have hj0J:j0∈J:=Classical.byContradiction fun hn=>hj3 (hall j0 hj1 hj2 hn)
 obtain⟨x,y,n,rfl⟩:∃x y n,it=(V,AOp.store x y n):=by
  obtain⟨_,jt,_,hp⟩:=hJ j0 hj0J;unfold Mc at hp
  simp only[zF] at hp
  obtain⟨_,hp⟩:=hp;split at hp
  ·exact⟨_,_,_,zD⟩
  ·cases hp
 have hJs:∀j∈J,∀jt,its[j]?=U jt→jt.2.envOnly=T∧∀d,jt.2.dst=U d→d∉x.slots∧d∉y.slots:=by
  intro j hj jt hjt;obtain⟨_,jt',hjt',hp⟩:=hJ j hj;rw[hjt] at hjt'
  cases hjt';unfold Mc at hp
  simp only[zF] at hp
  refine⟨hp.1,fun d hd=> ?_⟩;have:=hp.2;simp only[hd,zI,zK,decide_eq_false_iff_not,zN,not_or] at this
  exact this
 obtain⟨σ2,hst,hK⟩:∃σ2,σk.storeV n (σk.val x) (σk.val y)=U σ2∧K σ2:=by
  simp only[AM,AY,St.step] at h;split at h
  ·rename_i σ2 h2
   exact⟨σ2,h2,h⟩
  ·exact h.elim
 have light:∀i,s≤i→i<k→i∉M→(E i).bx= []∧(E i).rows= []∧(E i).d∉x.slots∧(E i).d∉y.slots:=by
  intro i h1 h2 h3;have hiJ:i∈J:=Classical.byContradiction fun hn=>h3 (hall i h1 h2 hn)
  obtain⟨jt,hjt,_,hd,_,hmk⟩:=(F i h1 h2).parts H;obtain⟨he,hds⟩:=hJs i hiJ jt hjt
  have hno:jt.2.maker=O:=by
   cases hjo:jt.2<;>first | rfl | (rw[hjo] at he; simp[AOp.envOnly] at he; done)
  have hb:¬((E i).bx≠ []∨(E i).rows≠ []):=fun h=>by rw[hmk h] at hno; cases hno
  refine⟨Classical.byContradiction fun h=>hb (.inl h),Classical.byContradiction fun h=>hb (.inr h),(hds _ hd).1,(hds _ hd).2⟩
 have sτ:Same σ ⟨σ.env,σk.bx,σk.rows⟩:=by
  refine⟨fun q=>rfl,fun id=> ?_,fun id=> ?_⟩
  ·show A1 σk.bx id=A1 σ.bx id
   by_cases h:∃i,i∈M∧(E i).bx≠ []∧(E i).d=id
   ·obtain⟨i,h1,h2,h3⟩:=h;rw[mk.bhit i id (hM i h1) h2 h3,m.bhit i id h1 h2 h3]
   ·rw[mk.bmiss id fun i hi hb e=> ?_,m.bmiss id fun i hi hb e=>h ⟨i,hi,hb,e⟩];by_cases hiM:i∈M
    ·exact h ⟨i,hiM,hb,e⟩
    ·exact hb (light i hi.1 hi.2 hiM).1
  ·show A1 σk.rows id=A1 σ.rows id
   by_cases h:∃i,i∈M∧(E i).rows≠ []∧(E i).d=id / 64
   ·obtain⟨i,h1,h2,h3⟩:=h;rw[mk.rhit i id (hM i h1) h2 h3,m.rhit i id h1 h2 h3]
   ·rw[mk.rmiss id fun i hi hb e=> ?_,m.rmiss id fun i hi hb e=>h ⟨i,hi,hb,e⟩];by_cases hiM:i∈M
    ·exact h ⟨i,hiM,hb,e⟩
    ·exact hb (light i hi.1 hi.2 hiM).2.1
 have gq:∀q,(q∈x.slots∨q∈y.slots)→σ.get q=σk.get q:=by
  intro q hq;by_cases h:∃i,i∈M∧(E i).d=q
  ·obtain⟨i,h1,rfl⟩:=h;rw[m.hit i h1,mk.hit i (hM i h1)]
  ·rw[m.miss q fun i hi e=>h ⟨i,hi,e⟩,mk.miss q fun i hi e=> ?_];by_cases hiM:i∈M
   ·exact h ⟨i,hiM,e⟩
   ·have:=(light i hi.1 hi.2 hiM).2.2;rw[e] at this
    rcases hq with hq|hq
    ·exact this.1 hq
    ·exact this.2 hq
 have Rτ:=R.same sτ;have vx:(St.mk σ.env σk.bx σk.rows).val x=σk.val x:=eW fun q hq=>gq q (.inl hq)
 have vy:(St.mk σ.env σk.bx σk.rows).val y=σk.val y:=eW fun q hq=>gq q (.inr hq)
 have hst':(St.mk σ.env σk.bx σk.rows).storeV n ((St.mk σ.env σk.bx σk.rows).val x) ((St.mk σ.env σk.bx σk.rows).val y)=U ⟨σ.env,σ2.bx,σ2.rows⟩:=by
  rw[vx,vy];exact(dr hst σ.env).1
 have henv:=(dr hst []).2;obtain⟨opk,hopk,hitk,hck,_⟩:=H.at hx;have hL2:∀q,Ao (listed.setIfInBounds k T) q↔(Ao listed q∨q=k):=fun q=>HI (by omega) q
 have:=S8 (Q:=Q) (K:=wpAny P .any ops Q f (listed.setIfInBounds k T)) (K':=fun σ'=>σ'=⟨σ.env,σ2.bx,σ2.rows⟩) Rτ hnt hck (by
  simp only[AM,AY,St.step,hst']) (fun nm' σ' a' w' hσ R' hs' hd'=>by
  subst hσ;refine xo H hkn F hfr mk (fun j hj=>⟨(hJ j hj).1,by obtain⟨_,jt,hjt,_⟩:=hJ j hj; exact⟨jt,hjt,(hJs j hj jt hjt).1⟩⟩) hlater henv (fun f' l' a2 w2 nm2=>cont σ2 f' l' a2 w2 nm2 hK) f M listed _ a' w' nm' σ hnd hM hall hL hcl (by simpa using hsz) hsz hL2 ?_ hsk (by omega) m R' hs' (hd'.trans hdf);intro q o' ho' hq z hz;rw[hL2] at hq ⊢
  rcases hq with hq|rfl
  ·exact .inl (hcl q o' ho' hq z hz)
  ·exact .inl (hw o' ho' z hz))
 unfold wpOp;rw[hopk];exact this
theorem TO(H:DrawOk P nt ops its ds){K':St→Prop}(hQ:∀nm' σ' a' w',K' σ'→Rel A B w0 nm' σ' a'.tmps w'→a'.tmps.size=nt→a'.defers=df→Q .normal a' w') :
  ∀(r:W AZ) (k s:zC) (σ0:St) (E:zC→Eff) (σk:St),ds.drop k=r→k≤ops.size→s≤k→Mt σ0 E (fun j=>s≤j∧j<k) σk→(∀i,s≤i→i<k→Fact P ds σ0 E s i)→CZ (ds.drop s) σ0=T→Ck P r K' σk→
   ∀(fuel:zC) (M:W zC) (listed:Array zB) (a:Act) (w:World) (nm:Aa) (σ:St),M.Nodup→(∀x∈M,s≤x∧x<k)→listed.size=ops.size→(∀j,Ao listed j↔j<s∨j∈M)→fuel+s+M.length=ops.size→CU ops (Ao listed)→
    Mt σ0 E (· ∈M) σ→Rel A B w0 nm σ a.tmps w→a.tmps.size=nt→a.defers=df→wpAny P .any ops Q fuel listed a w
 | [],k,s,σ0,E,σk,hr,hkn,hsk,mk,F,hfr,h=>by
  have hlen:=H.sizes.2
  have hk:k=ops.size:=by
   have:=congrArg List.length hr;simp at this
   omega
  refine TM H hkn F hfr hsk mk (fun _=>False) (fun i h1 h2=>by omega) (fun _ _ _ _ _ _ _ _ h=>h.elim) (fun fuel listed a w nm h1 h2 h3 h4 R hnt hdf=> ?_)
  have hready:Region.ready .any ops listed= []:=by
   refine yF.2 fun i hi=> ?_
   obtain⟨h5,h6,_⟩:=F3.1 hi;exact(F2 (by omega)).1 h6 ((h3 i).2 (by omega))
  obtain rfl:fuel=0:=by omega
  exact⟨hready,hQ nm σk a w h R hnt hdf⟩
 | (U N,g,o)::r,k,s,σ0,E,σk,hr,hkn,hsk,mk,F,hfr,h=>by
  have hlen:=H.sizes.2
  have hx:ds[k]?=U (U N,g,o):=by
   have:(ds.drop k)[0]?=U (U N,g,o):=by rw[hr]; rfl
   simpa using this
  have hk:k<ops.size:=by have:=(zH.1 hx).1; omega
  have hr':ds.drop (k+1)=r:=by rw[← yP,hr]; rfl
  obtain⟨e,hev,hK⟩:=rv h;let E':zC→Eff:=fun i=>if i=k then e else E i
  have eE:∀i,i≠k→E' i=E i:=fun i hi=>by simp[E',hi]
  have ek:E' k=e:=by simp[E']
  have mk':Mt σ0 E' (fun j=>s≤j∧j<k) σk:=mk.congr (fun _=>Iff.rfl) fun i hi=>eE i (by have:=hi.2; omega)
  have Fk:Fact P ds σ0 E' s k:=⟨N,(g,o),σk,hx,mk',by rw[ek]; exact hev⟩
  have F':∀i,s≤i→i<k+1→Fact P ds σ0 E' s i:=by
   intro i h1 h2;by_cases hik:i=k
   ·subst hik; exact Fk
   ·obtain⟨N',it',σi,hx',m',ev'⟩:=F i h1 (by omega);exact⟨N',it',σi,hx',m'.congr (fun _=>Iff.rfl) fun j hj=>eE j (by have:=hj.2; omega),by rw[eE i hik]; exact ev'⟩
  have m2:Mt σ0 E' (fun j=>s≤j∧j<k+1) (σk.add e):=by
   have:=mk'.add (i:=k) (fun j hj=>Fact.ne H (F' j hj.1 (by have:=hj.2; omega)) Fk (by have:=hj.2; omega)) (by rw[ek]; exact hev.grouped);rw[ek] at this
   refine this.congr (fun j=> ?_) (fun _ _=>rfl);constructor
   ·rintro(h|h)
    ·exact⟨h.1,by have:=h.2; omega⟩
    ·exact⟨by omega,by omega⟩
   ·rintro⟨h1,h2⟩
    by_cases hjk:j=k
    ·exact .inr hjk
    ·exact .inl ⟨h1,by omega⟩
  intro fuel M listed a w nm σ hnd hM hsz hL hfuel hcl m R hnt hdf
  exact TO H hQ r (k+1) s σ0 E' (σk.add e) hr' (by omega) (by omega) m2 F' hfr hK fuel M listed a w nm σ hnd (fun x hx=>⟨(hM x hx).1,by have:=(hM x hx).2; omega⟩) hsz hL hfuel hcl
   (m.congr (fun _=>Iff.rfl) fun i hi=>eE i (by have:=(hM i hi).2; omega)) R hnt hdf
 | (V,g,o)::r,k,s,σ0,E,σk,hr,hkn,hsk,mk,F,hfr,h=>by
  have hlen:=H.sizes.2
  have hx:ds[k]?=U (V,g,o):=by
   have:(ds.drop k)[0]?=U (V,g,o):=by rw[hr]; rfl
   simpa using this
  have hk:k<ops.size:=by have:=(zH.1 hx).1; omega
  have hr':ds.drop (k+1)=r:=by rw[← yP,hr]; rfl
  obtain⟨op,hop,hit,hc,_⟩:=H.at hx
  have cont:∀(σ2:St) (f:zC) (listed:Array zB) (a:Act) (w:World) (nm:Aa),(CZ r σ2=T∧Ck P r K' σ2)→f+(k+1)=ops.size→listed.size=ops.size→(∀i,Ao listed i↔i<k+1)→CU ops (Ao listed)→Rel A B w0 nm σ2 a.tmps w→a.tmps.size=nt→a.defers=df→wpAny P .any ops Q f listed a w:=by
   intro σ2 f listed a w nm hσ h1 h2 h3 h4 R hnt hdf
   exact TO H hQ r (k+1) (k+1) σ2 E σ2 hr' (by omega) (zS _) (Mt.none fun j hj=>by have:=hj.1; have:=hj.2; omega) (fun j h5 h6=>by omega) (by rw[hr']; exact hσ.1) hσ.2 f [] listed a w nm σ2 yR (fun x hx=>by simp at hx) h2
    (fun j=>by rw[h3 j]; simp) (by simp; omega) h4 (Mt.none fun j hj=>by simp at hj) R hnt hdf
  have fin:(∀l,k≤l→l<ops.size→Bx (Bg ops.toList []) k l=O)→∀(fuel:zC) (listed:Array zB) (a:Act) (w:World) (nm:Aa),fuel+k=ops.size→listed.size=ops.size→(∀i,Ao listed i↔i<k)→CU ops (Ao listed)→Rel A B w0 nm σk a.tmps w→a.tmps.size=nt→a.defers=df→wpAny P .any ops Q fuel listed a w:=by
   intro hbar fuel listed a w nm h1 h2 h3 h4 R hnt hdf;obtain⟨f,rfl⟩:∃f,fuel=f+1:=⟨fuel - 1,by omega⟩;have hunk:¬Ao listed k:=fun h=>by have:=(h3 k).1 h; omega
   refine⟨fun hrd=> ?_,fun i hi=> ?_⟩
   ·exfalso
    have:k∈Region.ready .any ops listed:=F3.2 ⟨hk,(F2 (by omega)).2 hunk,fun o' ho' j hj=>(h3 j).2 (H.back k o' ho' j hj)⟩;rw[hrd] at this
    simp at this
   ·obtain⟨hin,hun,hw⟩:=F3.1 hi;have hun':=(F2 (by omega)).1 hun
    have hik:i=k:=by
     have hki:k≤i:=yN fun h=>hun' ((h3 i).2 h)
     refine Classical.byContradiction fun hne=> ?_
     rcases JX (hbar i hki hin) (by omega) with h|h
     ·have:=I9 H h; omega
     ·exact hunk (GD h4 hw h)
    subst hik
    have:=S8 (Q:=Q) (K:=wpAny P .any ops Q f (listed.setIfInBounds i T)) (K':=fun σ'=>CZ r σ'=T∧Ck P r K' σ') R hnt hc h (fun nm' σ' a' w' hσ R' hs' hd'=>by
     refine cont σ' f _ a' w' nm' hσ (by omega) (by simpa using h2) (fun j=> ?_) ?_ R' hs' (hd'.trans hdf)
     ·rw[HI (by omega),h3 j];omega
     ·intro x o' ho' hx j hj;rw[HI (by omega)] at hx ⊢
      rcases hx with hx|rfl
      ·exact .inl (h4 x o' ho' hx j hj)
      ·exact .inl (hw o' ho' j hj))
    unfold wpOp;rw[hop];exact this
  have plain:(∀l,s≤l→l<ops.size→Bx (Bg ops.toList []) k l=O)→_:=fun hbar=>TM H hkn F hfr hsk mk (fun _=>False) (fun i h1 h2 listed hcl hw j h3 h4 hlt=>by
   left
   by_cases hik:i=k
   ·subst hik;rcases JX (hbar j h3 (by omega)) (by omega) with h|h
    ·exact GD hcl hw h
    ·have:=I9 H h; omega
   ·rcases JX (hbar i (by omega) h2) (by omega) with h|h
    ·have:=I9 H h; omega
    ·have hLk:=GD hcl hw h;have:=hlt k hLk;omega) (fun _ _ _ _ _ _ _ _ h=>h.elim) (fin fun l h1 h2=>hbar l (by omega) h2)
  obtain⟨J,hJ,hcomp,hlater⟩:=H.bar hx;by_cases hJs:∀j∈J,j<s
  ·exact plain fun l h1 hl=>hcomp l hl fun h=>by have:=hJs l h; omega
  ·refine TM H hkn F hfr hsk mk (fun i=>i=k) (fun i h1 h2 listed hcl hw l h3 h4 hlt=> ?_) (fun i f M listed a w nm σ hX=> ?_) (fin fun l h1 h2=>hcomp l h2 fun h=>by have:=(hJ l h).1; omega)
   ·by_cases hik:i=k
    ·exact .inr hik
    ·left
     rcases JX (hcomp i h2 fun h=>by have:=(hJ i h).1; omega) (by omega) with h|h
     ·have:=I9 H h; omega
     ·have hLk:=GD hcl hw h;have:=hlt k hLk;omega
   ·subst hX;exact xn H hsk F hfr mk hJ hx hcomp hlater h cont f M listed a w nm σ
theorem pk(hm:P.follows .mixedOrders=T){id:zC}{K':St→Prop}{nm:Aa}{σ:St}{a:Act}{w:World}(R:Rel A B w0 nm σ a.tmps w)(hnt:a.tmps.size=nt)(hc:MS P nt ops=U ds)(h0:CZ ds σ=T)(h:Ck P ds K' σ)
  (hQ:∀nm' σ' a' w',K' σ'→Rel A B w0 nm' σ' a'.tmps w'→a'.tmps.size=nt→a'.defers=a.defers→Q .normal a' w'):(Code.region id ops T).wp P Q a w:=by
 obtain⟨its,H⟩:=pj hc
 have hno:∀j,¬Ao (Array.replicate ops.size O) j:=by
  intro j;unfold Ao;rw[Array.getD_eq_getD_getElem?,Array.getElem?_replicate];split<;>simp
 refine wp_region_any hm ?_
 refine TO (df:=a.defers) H hQ ds 0 0 σ (fun _=>⟨0,.undef,[],[]⟩) σ (by simp) (yC _) (zS _) (Mt.none fun j hj=>by have:=hj.2; omega) (fun i h1 h2=>by omega) (by simpa using h0) h ops.size [] _ a _ nm σ yR (fun x hx=>by simp at hx) (by simp)
  (fun j=> ?_) (by simp) (fun i o ho hi=>absurd hi (hno i)) (Mt.none fun j hj=>by simp at hj) (R.drawn _) hnt rfl
 constructor
 ·intro h; exact absurd h (hno j)
 ·rintro(h|h)
  ·omega
  ·simp at h
end
end
section
section
variable {P : Program} {A : Ar} {B : zC} {w0 : Base} {nt : zC} {df : W Deferred}
def post(A:Ar)(B:zC)(w0:Base)(nt:zC)(df:W Deferred)(Q:Xl→St→Prop):Exit→Act→World→Prop:=fun e a w=>
 ∃e' nm σ,Xl.Is e' e∧Q e' σ∧Rel A B w0 nm σ a.tmps w∧a.tmps.size=nt∧a.defers=df
theorem Qz{K':St→Prop}:∀(its:W AItem) (σ:St) {nm:Aa} {tmps:Array Value} {w:World},(∀i∈its,i.2.idle=T)→Bj P its K' σ→Rel A B w0 nm σ tmps w→∃nm' σ',K' σ'∧Rel A B w0 nm' σ' tmps w
 | [],σ,nm,tmps,w,_,h,R=>⟨nm,σ,h,R⟩
 | (g,o)::its,σ,nm,tmps,w,hi,h,R=>by
  have ho:o.idle=T:=hi (g,o) (by simp);obtain⟨σ',hs,hk⟩:=UG (P:=P) (K':=Bj P its K') ho h;obtain⟨nm',R'⟩:=S5 R ho hs;exact Qz its σ' (fun i h=>hi i (by simp[h])) hk R'
theorem A4k(x y:Xg):(∃its,x= .reg its∧(∀i∈its,i.2.idle=T)∧(Xg.seq x y).strip=y.strip)∨(Xg.seq x y).strip= .seq x.strip y.strip:=by
 cases x with
 | reg its=>
  cases hb:(!its.isEmpty&&its.all fun i=>i.2.idle) with
  | true=>
   simp only[zF,zG] at hb
   refine .inl ⟨its,zD,hb.2,?_⟩;simp only[Xg.strip];rw[show(!its.isEmpty&&its.all fun i=>i.2.idle)=T by simp only[zF,zG]; exact hb];rfl
  | false=>
   refine .inr ?_;simp only[Xg.strip,hb,cond_false]
 | _=>exact .inr rfl
theorem nJ{X:Cx}{av:AV}{v:Value}{b:zB}(H:VRel X av v)(h:av= .v (.sc (.dat (.bool b)))):v= .bool b:=by
 subst h;cases H with | v hx=>
 cases hx with | sc hx=>
 cases hx with | dat hr=>
 cases hr;rfl
theorem Dl{ops:Array Oper}{c:Xg}(h:TG P nt ops=U c):(∃is,c= .reg is∧BB P nt ops ops.toList=U is)∨
  (∃l o y x is,c= .pan is x∧ops.toList=l++ [o]∧o.guard=V∧o.op= .panic y∧AL y=U x∧BB P nt ops l=U is)∨
  (∃l o d f args is,c= .cal is d f args∧ops.toList=l++ [o]∧o.guard=V∧CG P nt o=U (.call d f args)∧BB P nt ops l=U is):=by
 unfold TG at h;split at h
 ·rename_i c' hl
  cases h;right
  unfold Ye at hl
  split at hl
  ·rename_i o ho
   have hops:ops.toList=ops.toList.dropLast++ [o]:=by
    have hne:ops.toList≠ []:=by intro e; rw[e] at ho; simp at ho
    have:=List.dropLast_concat_getLast hne;rw[List.getLast?_eq_some_getLast hne] at ho
    rw[← zR ho,this]
   split at hl
   ·rename_i hg
    have hg':o.guard=V:=by simpa using hg
    split at hl
    ·rename_i x hx
     split at hl
     ·rename_i y its h1 h2
      cases hl;exact .inl ⟨_,o,x,y,its,zD,hops,hg',hx,h1,h2⟩
     ·cases hl
    ·split at hl
     ·rename_i d f args its h1 h2
      split at hl
      ·cases hl;exact .inr ⟨_,o,d,f,args,its,zD,hops,hg',h1,h2⟩
      ·cases hl
     ·cases hl
    ·cases hl
   ·cases hl
  ·cases hl
 ·simp only[zE] at h;obtain⟨is,h1,rfl⟩:=h;exact .inl ⟨is,zD,h1⟩
theorem Rel.later{nm:Aa}{σ:St}{tmps:Array Value}{w w':World}(R:Rel A B w0 nm σ tmps w)(hb:RowKit.Below w.heap.size w w'):Rel A B w0 nm σ tmps w':=by
 refine R.carry (f:=fun c=>c) (R.below.trans R.there hb R.size) (Nat.le_trans R.size hb.size) (fun i b h=> ?_) R.inj (fun _ _=>rfl) (fun k=>by rw[AV.mapId]) (fun id=>by simp) (fun id cs _ b hb2=>⟨hb2,hb.block b (R.names _ b hb2).2⟩) (fun c v _ hrel=> ?_)
 ·obtain⟨h1,h2⟩:=R.names i b h;exact⟨h1,Nat.lt_of_lt_of_le h2 hb.size⟩
 ·exact hrel.move (CS fun b hlt hn=>⟨hn,hb.block b hlt⟩) (fun id _=> .inr ⟨zD,zD,fun b hb2=>hb.block b (R.names _ b hb2).2⟩) (fun id _ b hb2=>hb2)
theorem fG{Q:Exit→Act→World→Prop}{ops:Array Oper}{o:Oper}{a:Act}{w:World}(hg:o.guard=V)(h:o.wp P a w (fun a w=>Q .normal a w) Q):wpList P ops Q [o] a w:=by
 have hw:Region.wanted o (yielded ops a.tmps)=T:=by simp[Region.wanted,hg]
 unfold wpList;rw[hw];exact .inl h
theorem A1b{Q:Xl→St→Prop}{ops:Array Oper}{o:Oper}{y:Operand}{x:Opd}{d:D}{nm:Aa}{σ:St}{a:Act}{w:World}(R:Rel A B w0 nm σ a.tmps w)(hnt:a.tmps.size=nt)(hdf:a.defers=df)
  (hg:o.guard=V) (ho:o.op= .panic y) (hy:AL y=U x) (hx:σ.val x= .v (.sc (.dat d))) (hf:d.flat=T) (hi:UN d=T) (hq:Q (.pan d) σ):wpList P ops (post A B w0 nt df Q) [o] a w:=by
 refine fG hg ?_;have hr:=Ay R hy;rw[hx] at hr
 have hd:Rep (A9 A nm w) d (a.eval y):=by
  have hc:=hr.inv_sc;cases hc with | dat h=>exact h
 have hv:∃t u,a.eval y= .iface t u:=by
  revert hi hd
  generalize a.eval y=v
  intro hi hd;cases hd<;>first | (cases hi; done) | exact⟨_,_,rfl⟩
 have hrun:(execOp a.eval o).run P w= .halt (.panic (a.eval y)) w:=by
  obtain⟨t,u,e⟩:=hv;have:(Instr.panic (a.eval y)).run P w= .halt (.panic (a.eval y)) w:=by rw[e]; rfl
  obtain⟨dst,op,ty,pos,after,guard⟩:=o;simp only at ho
  subst ho;simp[execOp,this,Result.andThen]
 unfold Oper.wp;rw[hrun,Oper.upon_panic];exact⟨.pan d,nm,σ,⟨_,zD,hd.flat hf⟩,hq,R,hnt,hdf⟩
theorem nM{Q:Xl→St→Prop}{ops:Array Oper}{o:Oper}{d:zC}{f:FuncId}{args:W Opd}{nm:Aa}{σ:St}{a:Act}{w:World}(R:Rel A B w0 nm σ a.tmps w)(hnt:a.tmps.size=nt)(hdf:a.defers=df)
  (hg:o.guard=V) (hc:CG P nt o=U (.call d f args)) (h:AY P (.call d f args) (Q .normal) σ∨∃ds pd,σ.toDVs args=U ds∧MD P f ds pd∧Q (.pan pd) σ):wpList P ops (post A B w0 nt df Q) [o] a w:=by
 refine fG hg ?_;rcases h with h|⟨ds,pd,hds,hfc,hq⟩
 ·exact XK R hnt hc h fun nm' σ' a' w' hk R' hs hd=>⟨.normal,nm',σ',zD,hk,R',hs,hd.trans hdf⟩
 ·unfold CG at hc
  split at hc
  ·rename_i d' hd
   split at hc
   ·rename_i hlt
    have e:=(MR hc).1;simp only[AOp.dst,yB] at e
    subst e;obtain⟨dst,op,ty,pos,after,guard⟩:=o;simp only at hd
    subst hd
    have hcall:∃xs tys,op= .call {callee:= .value (.func f),args:=xs,argTypes:=tys}∧C6 xs.toList=U args∧AW P f=T:=by
     rcases TE (d':=d) rfl hc (.inl ⟨f,args,rfl⟩) with ⟨f',args',xs,tys,h1,h2,h3,h4⟩|⟨t,args',xs,tys,h1,_⟩
     ·cases h1; exact⟨xs,tys,h2,h3,h4⟩
     ·cases h1
    obtain⟨xs,tys,rfl,hxs,hok⟩:=hcall
    have hrun:(execOp a.eval {dst:=some d,op:= .call {callee:= .value (.func f),args:=xs,argTypes:=tys },type:=ty,pos,after,guard }).run P w= .ok (.enter f (xs.toList.map a.eval).toArray) w:=by
     have:=Vc (w:=w) hok (xs.map a.eval);have e2:(xs.toList.map a.eval).toArray=xs.map a.eval:=by apply Array.ext'; simp
     rw[e2];simp[execOp,resolve,Deferred.ofValue,invoke,Act.eval,this]
    unfold Oper.wp;rw[hrun,Oper.upon_enter];refine(hfc w (fun _ _=>True) _ (R.good w R.below) ((SN R hxs hds).mono fun _ _ h=>W6 h)).mono fun e w' h=> ?_
    obtain⟨v,rfl,hb,hv⟩:=h;exact⟨.pan pd,nm,σ,⟨v,zD,hv⟩,hq,R.later hb,hnt,hdf⟩
   ·cases hc
  ·split at hc
   ·split at hc<;>cases hc
   ·(repeat' split at hc)<;>cases hc
   ·cases hc
theorem U1:∀(env:W (zC × AV)) (ds:W zC) (k:zC),(A1 (env++ds.map fun d=>(d,AV.undef)) k).getD .undef=(A1 env k).getD .undef
 | [],[],k=>rfl
 | [],d::ds,k=>by
  have:=U1 [] ds k;simp only[List.nil_append] at this ⊢
  simp only[List.map_cons,A1];cases d==k
  ·exact this
  ·rfl
 | (i,v)::env,ds,k=>by
  have:=U1 env ds k;simp only[List.cons_append,A1];cases i==k
  ·exact this
  ·rfl
theorem A1a{σ:St}{ds:W zC}:Same σ (σ.pad ds):=⟨fun k=>U1 _ _ _,fun _=>rfl,fun _=>rfl⟩
theorem Yj:∀{ms:W zB} {i:zC},ms[i]?=U O→(ms.set i T).count O+1=ms.count O
 | [],_,h=>by simp at h
 | b::ms,0,h=>by
  simp at h;subst h;simp
 | b::ms,i+1,h=>by
  simp at h;have:=Yj h;cases b<;>simp<;>omega
theorem Yi{α:Type}:∀(l:W α),(l.map fun _=>O).count O=l.length
 | []=>rfl
 | x::l=>by simp[Yi l]
theorem lu{ops:Array Oper}{its:W (W zC × AItem)}{is:W AItem}{τ:St}{Q:Exit→Act→World→Prop}(hc:BB P nt ops ops.toList=U is)(hw:Km 0 ops.toList=T)(Cv:its=(ops.toList.map waits).zip is)
  (hQ:∀nm a w,Rel A B w0 nm τ a.tmps w→a.tmps.size=nt→a.defers=df→Q .normal a w) :
  ∀(f:zC) (ms:W zB) (listed:Array zB) (σ:St) (a:Act) (w:World) (nm:Aa),BZ P its τ f ms σ→ms.length=ops.size→ms.count O=f→listed.size=ops.size→(∀j,Ao listed j↔ms[j]?=U T)→Rel A B w0 nm σ a.tmps w→a.tmps.size=nt→a.defers=df→wpAny P .any ops Q f listed a w:=by
 intro f
 induction f with
 | zero=>
  intro ms listed σ a w nm h hlen hcount hsz hL R hnt hdf
  have hall:∀b∈ms,b=T:=fun b hb=>by
   cases b with
   | true=>rfl
   | false=>exact absurd hb (List.count_eq_zero.1 hcount)
  have hστ:σ=τ:=h (zG.2 fun b hb=>hall b hb);refine⟨?_,hQ nm a w (hστ▸R) hnt hdf⟩;refine yF.2 fun i hi=> ?_
  obtain⟨h5,h6,_⟩:=F3.1 hi;refine(F2 (by omega)).1 h6 ((hL i).2 ?_);have hlt:i<ms.length:=by omega
  rw[zM hlt,hall _ (List.getElem_mem hlt)]
 | succ f ih=>
  intro ms listed σ a w nm h hlen hcount hsz hL R hnt hdf
  have back:∀(i:zC) (o:Oper),ops[i]?=U o→∀j∈waits o,j<i:=fun i o ho j hj=>by
   have:=Wc hw i o (by simpa using ho) j hj;omega
  refine⟨fun hr=> ?_,fun i hi=> ?_⟩
  ·exfalso
   have hmem:O∈ms:=by
    refine Classical.byContradiction fun hn=> ?_
    have:=List.count_eq_zero.2 hn;omega
   obtain⟨i,hi,hif⟩:=List.getElem_of_mem hmem
   have hn0:¬Ao listed i:=fun hl=>by
    have:=(hL i).1 hl;rw[zM hi,hif] at this
    cases this
   obtain⟨mi,hmi,hmn,hmall⟩:=V0 (p:=Ao listed) hn0;have:mi∈Region.ready .any ops listed:=F3.2 ⟨by omega,(F2 (by omega)).2 hmn,fun o ho j hj=>hmall j (back mi o ho j hj)⟩;rw[hr] at this
   simp at this
  ·obtain⟨hin,hun,hwt⟩:=F3.1 hi;have hun':=(F2 (by omega)).1 hun;obtain⟨hl1,hl2⟩:=MT hc;have ho:ops[i]?=U ops[i]:=Array.getElem?_eq_getElem hin;obtain⟨it,hit,hci⟩:=hl2 i ops[i] (by simp)
   have hmi:ms[i]?=U O:=by
    have hlt:i<ms.length:=by omega
    rw[zM hlt];cases hb:ms[i] with
    | false=>rfl
    | true=>exact absurd ((hL i).2 (by rw[zM hlt,hb])) hun'
   have hzip:its[i]?=U (waits ops[i],it):=by
    rw[Cv,List.getElem?_zip_eq_some];exact⟨by simp[ho],hit⟩
   obtain⟨pre,post,hpre,hpost,h2⟩:=h i _ hzip hmi fun j hj=>(hL j).1 (hwt _ ho j hj)
   obtain⟨nm1,σ1,h2,R1⟩:=Qz pre σ (fun i hi=>zG.1 hpre i hi) h2 R
   have cont:∀(nm':Aa) (σ':St) (a':Act) (w':World),Bj P post (BZ P its τ f (ms.set i T)) σ'→Rel A B w0 nm' σ' a'.tmps w'→a'.tmps.size=nt→a'.defers=a.defers→wpAny P .any ops Q f (listed.setIfInBounds i T) a' w':=fun nm' σ' a' w' hk R' hs' hd'=>by
    obtain⟨nm',σ',hk,R'⟩:=Qz post σ' (fun i hi=>zG.1 hpost i hi) hk R';refine ih _ _ _ a' w' nm' hk (by simp; omega) ?_ (by simp; omega) (fun j=> ?_) R' hs' (hd'.trans hdf)
    ·have:=Yj hmi;omega
    ·rw[HI (by omega),hL j,List.getElem?_set];by_cases hj:i=j
     ·subst hj;have hlt:i<ms.length:=by omega
      simp[hlt]
     ·have:¬j=i:=fun e=>hj e.symm
      simp[hj,this]
   have:=S7 (Q:=Q) (K:=wpAny P .any ops Q f (listed.setIfInBounds i T)) R1 hnt hci h2 cont;unfold wpOp;rw[ho];exact this
theorem lx(hm:P.follows .mixedOrders=T){id:zC}{ops:Array Oper}{its:W (W zC × AItem)}{τ:St}{Q:Exit→Act→World→Prop}{nm:Aa}{σ:St}{a:Act}{w:World}(R:Rel A B w0 nm σ a.tmps w)(hnt:a.tmps.size=nt)(hdf:a.defers=df)(hc:MQ P nt ops=U its)(h:BZ P its τ its.length (its.map fun _=>O) σ)
  (hQ:∀nm a w,Rel A B w0 nm τ a.tmps w→a.tmps.size=nt→a.defers=df→Q .normal a w):(Code.region id ops T).wp P Q a w:=by
 unfold MQ at hc
 split at hc
 ·rename_i is his
  split at hc
  ·rename_i hw
   have Cv:=(zR hc).symm
   have hlen:its.length=ops.size:=by
    have:=(MT his).1;rw[Cv];simp[this]
   refine wp_region_any hm ?_;rw[hlen] at h;refine lu his hw Cv hQ ops.size _ _ σ a _ nm h (by simp; omega) ?_ (by simp) (fun j=> ?_) (R.drawn _) hnt hdf
   ·rw[← hlen];exact Yi its
   ·constructor
    ·intro hl;exfalso
     unfold Ao at hl
     rw[Array.getD_eq_getD_getElem?,Array.getElem?_replicate] at hl
     split at hl<;>simp at hl
    ·intro hl;simp at hl
  ·cases hc
 ·cases hc
theorem Dm{id:zC}{ops:Array Oper}{c:Xg}(h:Bd P nt (.region id ops T)=U c):(∃is,MS P nt ops=U is∧c= .drw is)∨(∃is,MQ P nt ops=U is∧c= .any is):=by
 unfold Bd at h;cases hp:cX P ops with
 | true=>
  simp only[hp,cond_true,zE] at h;obtain⟨is,h1,rfl⟩:=h;exact .inr ⟨is,h1,zD⟩
 | false=>
  simp only[hp,cond_false] at h;split at h
  ·rename_i is h1
   cases h;exact .inl ⟨is,h1,zD⟩
  ·simp only[zE] at h;obtain⟨is,h1,rfl⟩:=h;exact .inr ⟨is,h1,zD⟩
theorem Ic(hm:P.follows .mixedOrders=T):∀(c:Xg) (C:Code) (Q:Xl→St→Prop) (nm:Aa) (σ:St) (a:Act) (w:World),Bd P nt C=U c.strip→B5 P c Q σ→Rel A B w0 nm σ a.tmps w→a.tmps.size=nt→a.defers=df→
  C.wp P (post A B w0 nt df Q) a w:=by
 intro c
 induction c with
 | skip=>
  intro C Q nm σ a w hc h R hnt hdf;cases C<;>simp only[Bd,Xg.strip,zE] at hc
  case skip=>exact wp_skip ⟨.normal,nm,σ,rfl,h,R,hnt,hdf⟩
  case label=>exact wp_label ⟨.normal,nm,σ,rfl,h,R,hnt,hdf⟩
  case region id ops d=>
   cases d
   ·rcases(Ds hc).imp_left Dl with (⟨is,h2,h1⟩|⟨_,_,_,_,_,h2,_⟩|⟨_,_,_,_,_,_,h2,_⟩)|h2<;>cases h2
   ·rcases Dm hc with ⟨is,h1,h2⟩|⟨is,h1,h2⟩<;>cases h2
  case seq=>split at hc<;>cases hc
  case cond=>split at hc<;>cases hc
  all_goals (first | (cases hc; done) | (obtain⟨_,_,hc⟩:=hc; cases hc))
 | reg its=>
  intro C Q nm σ a w hc h R hnt hdf;cases C<;>simp only[Bd,Xg.strip,zE] at hc
  case region id ops d=>
   cases d
   case false=>
    simp only[Bd] at hc
    rcases(Ds hc).imp_left Dl with (⟨is,h2,h1⟩|⟨_,_,_,_,_,h2,_⟩|⟨_,_,_,_,_,_,h2,_⟩)|h2<;>cases h2
    refine wp_region_list (Tt its ops.toList σ a w nm R hnt h1 h fun nm' σ' a' w' k1 k2 k3 k4=>⟨.normal,nm',σ',zD,k1,k2,k3,k4.trans hdf⟩)
   case true=>
    rcases Dm hc with ⟨is,h1,h2⟩|⟨is,h1,h2⟩<;>cases h2
  case seq=>split at hc<;>cases hc
  case cond=>split at hc<;>cases hc
  all_goals (first | (cases hc; done) | (obtain⟨_,_,hc⟩:=hc; cases hc))
 | drw its=>
  intro C Q nm σ a w hc h R hnt hdf;cases C<;>simp only[Bd,Xg.strip,zE] at hc
  case region id ops d=>
   cases d
   case false=>
    simp only[Bd] at hc
    rcases(Ds hc).imp_left Dl with (⟨is,h2,h1⟩|⟨_,_,_,_,_,h2,_⟩|⟨_,_,_,_,_,_,h2,_⟩)|h2<;>cases h2
   case true=>
    rcases Dm hc with ⟨is,h1,h2⟩|⟨is,h1,h2⟩<;>cases h2
    exact pk hm R hnt h1 h.1 h.2 fun nm' σ' a' w' k1 k2 k3 k4=>⟨.normal,nm',σ',zD,k1,k2,k3,k4.trans hdf⟩
  case seq=>split at hc<;>cases hc
  case cond=>split at hc<;>cases hc
  all_goals (first | (cases hc; done) | (obtain⟨_,_,hc⟩:=hc; cases hc))
 | any its=>
  intro C Q nm σ a w hc h R hnt hdf;cases C<;>simp only[Bd,Xg.strip,zE] at hc
  case region id ops d=>
   cases d
   case false=>
    simp only[Bd] at hc
    rcases(Ds hc).imp_left Dl with (⟨is,h2,h1⟩|⟨_,_,_,_,_,h2,_⟩|⟨_,_,_,_,_,_,h2,_⟩)|h2<;>cases h2
   case true=>
    rcases Dm hc with ⟨is,h1,h2⟩|⟨is,h1,h2⟩<;>cases h2
    obtain⟨ks,bs,rs,τ,h3,h4⟩:=h;obtain⟨nm2,R2⟩:=S5 (o:= .keep ks bs rs) R rfl rfl;exact lx hm (R2.same A1a) hnt hdf h1 h3 fun nm' a' w' k2 k3 k4=>⟨.normal,nm',τ,zD,h4,k2,k3,k4⟩
  case seq=>split at hc<;>cases hc
  case cond=>split at hc<;>cases hc
  all_goals (first | (cases hc; done) | (obtain⟨_,_,hc⟩:=hc; cases hc))
 | hook nt0 C0=>
  intro C Q nm σ a w hc h R hnt hdf;cases C<;>simp only[Bd,Xg.strip,zE] at hc
  case region id ops d=>
   cases d
   case false=>
    simp only[Bd] at hc
    rcases(Ds hc).imp_left Dl with (⟨is,h2,h1⟩|⟨_,_,_,_,_,h2,_⟩|⟨_,_,_,_,_,_,h2,_⟩)|h2<;>cases h2
    obtain⟨τ,h3,h4⟩:=h;exact wp_mono (h3 A B w0 nm a w R hnt) fun e a' w' ⟨he,⟨nm',R'⟩,k1,k2⟩=>⟨.normal,nm',τ,he,h4,R',k1,k2.trans hdf⟩
   case true=>
    rcases Dm hc with ⟨is,h1,h2⟩|⟨is,h1,h2⟩<;>cases h2
  case seq=>split at hc<;>cases hc
  case cond=>split at hc<;>cases hc
  all_goals (first | (cases hc; done) | (obtain⟨_,_,hc⟩:=hc; cases hc))
 | seq x y ihx ihy=>
  intro C Q nm σ a w hc h R hnt hdf;rcases A4k x y with ⟨its,rfl,hidle,hst⟩|hst
  ·rw[hst] at hc
   obtain⟨nm',σ',hk,R'⟩:=Qz its σ hidle h R;exact ihy C Q nm' σ' a w hc hk R' hnt hdf
  ·rw[hst] at hc
   cases C<;>try simp only[Bd,zE] at hc
   case seq X Y=>
    split at hc
    ·rename_i x' y' h1 h2
     cases hc;refine wp_seq ?_;refine wp_mono (ihx X _ nm σ a w h1 h R hnt hdf) fun e a' w' hp=> ?_
     obtain⟨e',nm',σ',he,hq,R',k1,k2⟩:=hp;cases e' with
     | normal=>obtain rfl:e= .normal:=he; exact ihy Y Q nm' σ' a' w' h2 hq R' k1 k2
     | exit id=>obtain rfl:e= .exit id:=he; exact⟨.exit id,nm',σ',rfl,hq,R',k1,k2⟩
     | ret=>obtain rfl:e= .ret:=he; exact⟨.ret,nm',σ',rfl,hq,R',k1,k2⟩
     | pan d=>obtain⟨v,rfl,hv⟩:=he; exact⟨.pan d,nm',σ',⟨v,rfl,hv⟩,hq,R',k1,k2⟩
    ·cases hc
   case region id ops d=>cases d<;>first | (rcases(Ds hc).imp_left Dl with (⟨is,h2,h1⟩ | ⟨_,_,_,_,_,h2,_⟩ | ⟨_,_,_,_,_,_,h2,_⟩) | h2<;>(cases h2; done)) | (rcases Dm hc with ⟨is,h1,h2⟩ | ⟨is,h1,h2⟩<;>(cases h2; done))
   case cond=>split at hc<;>cases hc
   all_goals (first | (cases hc; done) | (obtain⟨_,_,hc⟩:=hc; cases hc))
 | cond c x y ihx ihy=>
  intro C Q nm σ a w hc h R hnt hdf;cases C<;>simp only[Bd,Xg.strip,zE] at hc
  case cond c' X Y=>
   split at hc
   ·rename_i h1 h2 h3
    cases hc;simp only[B5] at h;split at h
    ·rename_i b hb
     have hv:=nJ (Ay R h1) hb;refine wp_cond hv ?_;cases b
     ·exact ihy Y Q nm σ a w h3 (by simpa using h) R hnt hdf
     ·exact ihx X Q nm σ a w h2 (by simpa using h) R hnt hdf
    ·exact h.elim
   ·cases hc
  case region id ops d=>cases d<;>first | (rcases(Ds hc).imp_left Dl with (⟨is,h2,h1⟩ | ⟨_,_,_,_,_,h2,_⟩ | ⟨_,_,_,_,_,_,h2,_⟩) | h2<;>(cases h2; done)) | (rcases Dm hc with ⟨is,h1,h2⟩ | ⟨is,h1,h2⟩<;>(cases h2; done))
  case seq=>split at hc<;>cases hc
  all_goals (first | (cases hc; done) | (obtain⟨_,_,hc⟩:=hc; cases hc))
 | block id c ih=>
  intro C Q nm σ a w hc h R hnt hdf;cases C<;>simp only[Bd,Xg.strip,zE] at hc
  case block id' X=>
   obtain⟨x',h1,h2⟩:=hc;cases h2;refine wp_block (wp_mono (ih X _ nm σ a w h1 h R hnt hdf) fun e a' w' hp=> ?_);obtain⟨e',nm',σ',he,hq,R',k1,k2⟩:=hp;cases e' with
   | normal=>obtain rfl:e= .normal:=he; exact⟨.normal,nm',σ',rfl,hq,R',k1,k2⟩
   | ret=>obtain rfl:e= .ret:=he; exact⟨.ret,nm',σ',rfl,hq,R',k1,k2⟩
   | pan d=>obtain⟨v,rfl,hv⟩:=he; exact⟨.pan d,nm',σ',⟨v,rfl,hv⟩,hq,R',k1,k2⟩
   | exit i=>
    obtain rfl:e= .exit i:=he;simp only[Exit.inBlock];change (if i=id then Q .normal σ' else Q (.exit i) σ') at hq
    split
    ·rename_i e
     rw[if_pos e] at hq
     exact⟨.normal,nm',σ',zD,hq,R',k1,k2⟩
    ·rename_i e
     rw[if_neg e] at hq
     exact⟨.exit i,nm',σ',zD,hq,R',k1,k2⟩
  case region id ops d=>cases d<;>first | (rcases(Ds hc).imp_left Dl with (⟨is,h2,h1⟩ | ⟨_,_,_,_,_,h2,_⟩ | ⟨_,_,_,_,_,_,h2,_⟩) | h2<;>(cases h2; done)) | (rcases Dm hc with ⟨is,h1,h2⟩ | ⟨is,h1,h2⟩<;>(cases h2; done))
  case seq=>split at hc<;>cases hc
  case cond=>split at hc<;>cases hc
  all_goals (first | (cases hc; done) | (obtain⟨_,_,hc⟩:=hc; cases hc))
 | loop c ih=>
  intro C Q nm σ a w hc h R hnt hdf;cases C<;>simp only[Bd,Xg.strip,zE] at hc
  case loop X=>
   obtain⟨x',h1,h2⟩:=hc;cases h2
   have key:=h (fun σ=>∀(nm:Aa) (a:Act) (w:World),Rel A B w0 nm σ a.tmps w→a.tmps.size=nt→a.defers=df→∀(b:Frame) (k:W Item) (cs:W Frame),
    ∃e a' w',post A B w0 nt df Q e a' w'∧Arrives P (lone (b.at a (.code X:: .inLoop X::k)) cs w) b k cs e a' w') (fun σ' h' nm a w R hnt hdf b k cs=>by
     obtain⟨e,a₁,w₁,hq,harr⟩:=ih X _ nm σ' a w h1 h' R hnt hdf b (.inLoop X::k) cs;obtain⟨e',nm',σ'',he,hq,R',k1,k2⟩:=hq;cases e' with
     | pan d=>obtain⟨v,rfl,hv⟩:=he; exact⟨_,a₁,w₁,⟨.pan d,nm',σ'',⟨v,rfl,hv⟩,hq,R',k1,k2⟩,.pass (x:= .inLoop X) rfl (fun _ _=> .inl (by simp)) harr⟩
     | normal=>
      obtain rfl:e= .normal:=he;obtain⟨e₂,a₂,w₂,hq₂,harr₂⟩:=hq nm' a₁ w₁ R' k1 k2 b k cs;exact⟨e₂,a₂,w₂,hq₂,.of_steps (Steps.trans harr (.one step_inLoop)) harr₂⟩
     | exit id=>obtain rfl:e= .exit id:=he; exact⟨_,a₁,w₁,⟨.exit id,nm',σ'',rfl,hq,R',k1,k2⟩,.pass (x:= .inLoop X) rfl (fun _ _=> .inl (by simp)) harr⟩
     | ret=>obtain rfl:e= .ret:=he; exact⟨_,a₁,w₁,⟨.ret,nm',σ'',rfl,hq,R',k1,k2⟩,.pass (x:= .inLoop X) rfl (fun _ _=> .inl (by simp)) harr⟩)
   intro b k cs;obtain⟨e,a',w',hq,harr⟩:=key nm a w R hnt hdf b k cs;exact⟨e,a',w',hq,.of_steps (.one step_loop) harr⟩
  case region id ops d=>cases d<;>first | (rcases(Ds hc).imp_left Dl with (⟨is,h2,h1⟩ | ⟨_,_,_,_,_,h2,_⟩ | ⟨_,_,_,_,_,_,h2,_⟩) | h2<;>(cases h2; done)) | (rcases Dm hc with ⟨is,h1,h2⟩ | ⟨is,h1,h2⟩<;>(cases h2; done))
  case seq=>split at hc<;>cases hc
  case cond=>split at hc<;>cases hc
  all_goals (first | (cases hc; done) | (obtain⟨_,_,hc⟩:=hc; cases hc))
 | pan its x=>
  intro C Q nm σ a w hc h R hnt hdf;cases C<;>simp only[Bd,Xg.strip,zE] at hc
  case region id ops d=>
   cases d
   case false=>
    simp only[Bd] at hc
    rcases(Ds hc).imp_left Dl with (⟨is,h2,h1⟩|⟨l,o,y,x',is,h2,hl,hg,ho,hy,h1⟩|⟨_,_,_,_,_,_,h2,_⟩)|h2<;>cases h2
    refine wp_region_list ?_;rw[hl];refine QA its l σ a w nm R hnt h1 h fun nm' σ' a' w' hk R' hs hd=> ?_
    obtain⟨d,hx,hf,hi,hq⟩:=hk;exact A1b R' hs (hd.trans hdf) hg ho hy hx hf hi hq
   case true=>
    rcases Dm hc with ⟨is,h1,h2⟩|⟨is,h1,h2⟩<;>cases h2
  case seq=>split at hc<;>cases hc
  case cond=>split at hc<;>cases hc
  all_goals (first | (cases hc; done) | (obtain⟨_,_,hc⟩:=hc; cases hc))
 | cal its dd f args=>
  intro C Q nm σ a w hc h R hnt hdf;cases C<;>simp only[Bd,Xg.strip,zE] at hc
  case region id ops d=>
   cases d
   case false=>
    simp only[Bd] at hc
    rcases(Ds hc).imp_left Dl with (⟨is,h2,h1⟩|⟨_,_,_,_,_,h2,_⟩|⟨l,o,d2,f2,args2,is,h2,hl,hg,ho,h1⟩)|h2<;>cases h2
    refine wp_region_list ?_;rw[hl];exact QA its l σ a w nm R hnt h1 h fun nm' σ' a' w' hk R' hs hd=>nM R' hs (hd.trans hdf) hg ho hk
   case true=>
    rcases Dm hc with ⟨is,h1,h2⟩|⟨is,h1,h2⟩<;>cases h2
  case seq=>split at hc<;>cases hc
  case cond=>split at hc<;>cases hc
  all_goals (first | (cases hc; done) | (obtain⟨_,_,hc⟩:=hc; cases hc))
 | exit id=>
  intro C Q nm σ a w hc h R hnt hdf;cases C<;>simp only[Bd,Xg.strip,zE] at hc
  case exit id'=>cases hc; exact wp_exit ⟨.exit id,nm,σ,rfl,h,R,hnt,hdf⟩
  case region id ops d=>cases d<;>first | (rcases(Ds hc).imp_left Dl with (⟨is,h2,h1⟩ | ⟨_,_,_,_,_,h2,_⟩ | ⟨_,_,_,_,_,_,h2,_⟩) | h2<;>(cases h2; done)) | (rcases Dm hc with ⟨is,h1,h2⟩ | ⟨is,h1,h2⟩<;>(cases h2; done))
  case seq=>split at hc<;>cases hc
  case cond=>split at hc<;>cases hc
  all_goals (first | (cases hc; done) | (obtain⟨_,_,hc⟩:=hc; cases hc))
 | ret=>
  intro C Q nm σ a w hc h R hnt hdf;cases C<;>simp only[Bd,Xg.strip,zE] at hc
  case ret=>exact wp_ret ⟨.ret,nm,σ,rfl,h,R,hnt,hdf⟩
  case region id ops d=>cases d<;>first | (rcases(Ds hc).imp_left Dl with (⟨is,h2,h1⟩ | ⟨_,_,_,_,_,h2,_⟩ | ⟨_,_,_,_,_,_,h2,_⟩) | h2<;>(cases h2; done)) | (rcases Dm hc with ⟨is,h1,h2⟩ | ⟨is,h1,h2⟩<;>(cases h2; done))
  case seq=>split at hc<;>cases hc
  case cond=>split at hc<;>cases hc
  all_goals (first | (cases hc; done) | (obtain⟨_,_,hc⟩:=hc; cases hc))
end
end
section
def DV.av:DV→AV
 | .sc d=> .v (.sc (.dat d))
 | .ag ds=> .v (.ag (ds.map .dat))
def Gd:zC→W DV→W (zC × AV)
 | _,[]=> []
 | k,d::ds=>(k,d.av)::Gd (k+1) ds
def St.init(ds:W DV):St:=⟨Gd 0 ds,[],[]⟩
def Qu(rows:Rows):AC→RC→Prop
 | .dat d,.v d'=>d=d'
 | .nil,.o _ es=>es= []
 | .nil,.v d=>d= .sl []
 | .own id,.o sz es=>A1 rows id=U (sz,es)
 | _,_=>False
def Vh:AC→RC→I zC
 | .own id,.o _ _=>U id
 | _,_=>V
def Te(rows:Rows):W AC→W RC→Prop
 | [],[]=>True
 | c::cs,r::rs=>Qu rows c r∧Te rows cs rs
 | _,_=>False
def Vk:W AC→W RC→W (I zC)
 | c::cs,r::rs=>Vh c r::Vk cs rs
 | _,_=> []
def Qv(rows:Rows):AV→R1→Prop
 | .v (.sc c),.sc r=>Qu rows c r
 | .v (.ag cs),.ag rs=>Te rows cs rs
 | _,_=>False
def Vj:AV→R1→W (I zC)
 | .v (.sc c),.sc r=> [Vh c r]
 | .v (.ag cs),.ag rs=>Vk cs rs
 | _,_=> []
inductive RV where
 | t (n:zC)
 | c (a:zC) (g:zB) (n:zC)
instance {n:zC}:OfNat RV n:=⟨.t n⟩
def Mn(σ:St):RV→AV
 | .t n=>σ.get n
 | .c a g n=>(CL σ g n (σ.get a)).getD .undef
def OutVs(σ:St):W RV→W R1→Prop
 | [],[]=>True
 | t::ts,r::rs=>Qv σ.rows (Mn σ t) r∧OutVs σ ts rs
 | _,_=>False
def D1(σ:St):W RV→W R1→W (I zC)
 | t::ts,r::rs=>Vj (Mn σ t) r++D1 σ ts rs
 | _,_=> []
def F5:W (I zC)→zB
 | []=>T
 | none::r=>F5 r
 | some i::r=> !r.contains (U i)&&F5 r
def Qw(ts:W RV)(rs:W R1)(σ:St):Prop:=OutVs σ ts rs∧F5 (D1 σ ts rs)=T
def DS(P:Program):W ResultVar→I (W RV)
 | []=>U []
 | .tmp t::r=>(DS P r).map (.t t:: ·)
 | .cell a t::r=>match ED P t,DS P r with
  | some (g,n),U ts=>U (.c a g n::ts)
  | _,_=>V
def A5(ts:W RV)(rs:W R1)(e:Xl)(σ:St):Prop:=
 match e with
 | .exit _=>False
 | .pan _=>False
 | _=>Qw ts rs σ
section
variable {P : Program}
theorem CRels.of_dat{X:Cx}:∀{ds:W D} {vs:W Value},Reps X.h ds vs→ds.length=vs.length→CRels X (ds.map .dat) vs
 | [],vs,_,hl=>by
  obtain rfl:vs= []:=List.length_eq_zero_iff.1 (by simpa using hl.symm);exact .nil
 | _::_,_,.cons a b,hl=> .cons (.dat a) (CRels.of_dat b (by simpa using hl))
theorem DVRel.vrel{X:Cx}{d:DV}{v:Value}(h:DVRel X.h d v):VRel X d.av v:=by
 cases h with
 | sc hr=>exact .v (.sc (.dat hr))
 | ag hr hl=>exact .v (.ag (CRels.of_dat hr hl))
theorem DVRels.len{h:A6}:∀{ds vs},DVRels h ds vs→ds.length=vs.length
 | _,_,.nil=>rfl
 | _,_,.cons _ b=>by simp[b.len]
theorem DVRels.get{h:A6}:∀{ds:W DV} {vs:W Value} (i:zC) {d:DV} {v:Value},DVRels h ds vs→ds[i]?=U d→vs[i]?=U v→DVRel h d v
 | _,_,_,_,_,.nil,hd,_=>by simp at hd
 | _,_,0,_,_,.cons a _,hd,hv=>by simp at hd hv; subst hd hv; exact a
 | _,_,i+1,_,_,.cons _ b,hd,hv=>DVRels.get i b (by simpa using hd) (by simpa using hv)
theorem Yv:∀(ds:W DV) (k i:zC),A1 (Gd k ds) i=if k≤i then(ds[i - k]?).map DV.av else V
 | [],k,i=>by simp[Gd,A1]
 | d::ds,k,i=>by
  simp only[Gd,A1];by_cases hk:k=i
  ·subst hk; simp
  ·have h':=Ce hk;rw[h',cond_false,Yv ds (k+1) i];by_cases h1:k≤i
   ·rw[if_pos (by omega),if_pos h1,show i - k=(i - (k+1))+1 by omega]; simp
   ·rw[if_neg (by omega),if_neg h1]
theorem Glob.mk1{A:B9}{B:zC}{w:World}{np:Aa}(h:∀b,B≤b→A b (0,0)):Glob (.of A) B (.of w np):=
 ⟨fun b hb=>hb.elim (h b) fun h=>h.elim,fun _ _ h=>h.elim,fun _ _ h=>h.elim,fun _ _ h=>h.elim,fun h=>by cases h⟩
theorem wN{w:World}{A0:B9}{ds:W DV}{vs:W Value}(nt:zC)(hG:GoodW w)(h:DVRels (Ai A0 w) ds vs) :
  Rel (.of fun b fr=>A0 b fr∨(w.heap.size≤b∧fr=(0,0))) w.heap.size (.of w (fun _=>V)) (fun _=>V) (St.init ds) (vs.toArray++Array.replicate (nt - vs.toArray.size) undef) w:=by
 refine⟨BelowX.start _ _ (fun _ h=>h.elim),zS _,Glob.mk1 fun b hb=> .inr ⟨hb,zD⟩,fun w2 hb=>hG.below (hb.plain fun _=>rfl),fun i b h=>(by cases h),fun i j b h=>(by cases h),fun i _=>rfl,fun k=> ?_,fun id cs h=>by simp[St.init,A1] at h⟩;unfold St.get St.init;simp only;rw[Yv ds 0 k];simp only[yC,if_true,Nat.sub_zero];cases hd:ds[k]? with
 | none=>exact .undef
 | some d=>
  have hk:k<vs.length:=by rw[← h.len]; exact(zH.1 hd).1
  have hv:vs[k]?=U (vs[k]'hk):=zM hk
  have e:(vs.toArray++Array.replicate (nt - vs.toArray.size) undef).getD k undef=vs[k]'hk:=by
   rw[Array.getD_eq_getD_getElem?,Array.getElem?_append_left (by simpa using hk)];simp[hk]
  rw[e];have hr:=(h.get k hd hv);have hh:DVRel (A9 (fun b fr=>A0 b fr∨(w.heap.size≤b∧fr=(0,0))) (fun _=>V) w) d (vs[k]'hk):=hr.mono fun b C ⟨c,t,fr,h0,h1,h2⟩=>⟨fun _=>by simp,c,t,fr,.inl h0,h1,h2⟩
  exact DVRel.vrel (X:=cx (.of fun b fr=>A0 b fr∨(w.heap.size≤b∧fr=(0,0))) (fun _=>V) (St.init ds) w) hh
section
variable {A : Ar} {nm : Aa} {σ : St} {w : World} {h' : A6}
def Ba(nm:Aa)(o:I zC):I zC:=o.bind fun id=>nm (2*id+1)
theorem cK(hh:∀b C,A9 A nm w b C→h' b C){c:AC}{r:RC}{v:Value}(H:CRel (cx A nm σ w) c v)(ho:Qu σ.rows c r):RCRel h' w r v (Ba nm (Vh c r)):=by
 cases c<;>cases r<;>simp only[Qu] at ho<;>try exact ho.elim
 case dat.v d d'=>
  subst ho;cases H with | dat hr=>exact .v (hr.mono hh)
 case nil.v d=>
  subst ho;cases H;exact .v .nil
 case nil.o sz es=>
  subst ho;cases H;exact .nil
 case own.o id sz es=>
  cases H with
  | ownNil h1 h2=>
   have:=(zR (h1.symm.trans ho));cases this;show RCRel h' w (.o _ []) _ (nm (2*id+1))
   rw[show nm (2*id+1)=V from h2];exact .nil
  | own h1 h2 h3 h4=>
   have:=(zR (h1.symm.trans ho));cases this;show RCRel h' w (.o _ _) _ (nm (2*id+1))
   rw[show nm (2*id+1)=U _ from h2];exact .o (h3.move hh zD) h4
  | ownDead h1 _=>exact absurd (h1.symm.trans ho) (by simp)
theorem cL(hh:∀b C,A9 A nm w b C→h' b C):∀{cs:W AC} {rs:W RC} {vs:W Value},CRels (cx A nm σ w) cs vs→Te σ.rows cs rs→RCRels h' w rs vs ((Vk cs rs).map (Ba nm))
 | [],[],_,.nil,_=> .nil
 | [],_::_,_,_,h=>h.elim
 | _::_,[],_,_,h=>h.elim
 | _::_,_::_,_,.cons a b,h=> .cons (cK hh a h.1) (cL hh b h.2)
theorem cM(hh:∀b C,A9 A nm w b C→h' b C){av:AV}{r:R1}{v:Value}(H:VRel (cx A nm σ w) av v)(ho:Qv σ.rows av r):R1Rel h' w r v ((Vj av r).map (Ba nm)):=by
 cases H with
 | undef=>cases r<;>exact ho.elim
 | no=>cases r<;>exact ho.elim
 | tup=>cases r<;>exact ho.elim
 | ev=>cases r<;>exact ho.elim
 | v hx=>
  cases hx with
  | sc hc=>
   cases r with
   | sc r=>exact .sc (cK hh hc ho)
   | ag rs=>exact ho.elim
  | ag hcs=>
   cases r with
   | sc r=>exact ho.elim
   | ag rs=>exact .ag (cL hh hcs ho)
theorem HR{P:Program}{B:zC}{w0:Base}{act:Act}(R:Rel A B w0 nm σ act.tmps w)(hh:∀b C,A9 A nm w b C→h' b C){f:ResultVar→Sem Value}(hf:∀t,f (.tmp t)=pure (act.tmps.getD t undef))
  (hg:∀a t,f (.cell a t)=(do loadVar t (← asAddr (act.tmps.getD a undef)))):∀{vars:W ResultVar} {ts:W RV} {rs:W R1},DS P vars=U ts→OutVs σ ts rs→
  ∃vs:W Value,(vars.mapM f).run P w= .ok vs w∧vs.length=ts.length∧R1Rels h' w rs vs ((D1 σ ts rs).map (Ba nm))
 | [],ts,rs,hc,ho=>by
  simp[DS] at hc
  subst hc;cases rs with
  | nil=>exact⟨[],by simp,rfl,.nil⟩
  | cons=>exact ho.elim
 | .tmp t::r,ts,rs,hc,ho=>by
  simp only[DS,zE] at hc
  obtain⟨ts',h1,rfl⟩:=hc;cases rs with
  | nil=>exact ho.elim
  | cons r1 rs=>
   obtain⟨vs,h2,h3,h4⟩:=HR R hh hf hg h1 ho.2;refine⟨act.tmps.getD t undef::vs,?_,by simp[h3],?_⟩
   ·simp only[yO,hf,Sem.run_bind,Sem.run_pure,Result.andThen_ok,h2]
   ·simp only[D1,List.map_append];exact .cons (cM hh (R.env t) ho.1) h4
 | .cell a t::r,ts,rs,hc,ho=>by
  simp only[DS] at hc
  split at hc
  ·rename_i g n ts' h0 h1
   cases hc;cases rs with
   | nil=>exact ho.elim
   | cons r1 rs=>
    obtain⟨vs,h2,h3,h4⟩:=HR R hh hf hg h1 ho.2;have ho1:Qv σ.rows ((CL σ g n (σ.get a)).getD .undef) r1:=ho.1;cases hl:CL σ g n (σ.get a) with
    | none=>rw[hl] at ho1; cases r1<;>exact ho1.elim
    | some av=>
     rw[hl] at ho1
     obtain⟨v,hv,hrel⟩:=bW (P:=P) R h0 (R.env a) hl
     have hv2:(f (.cell a t)).run P w= .ok v w:=by
      rw[hg];unfold Instr.loadAt Instr.sureAddr at hv
      unfold asAddr;revert hv
      cases act.tmps.getD a undef with
      | pointer p=>cases p<;>simp
      | _=>simp
     refine⟨v::vs,?_,by simp[h3],?_⟩
     ·simp only[yO,Sem.run_bind,hv2,Sem.run_pure,Result.andThen_ok,h2]
     ·simp only[D1,Mn,hl,yM,List.map_append];exact .cons (cM hh hrel ho1) h4
  ·cases hc
end
theorem Sz:∀{l:W (I zC)},F5 l=T→∀(i j id:zC),l[i]?=U (U id)→l[j]?=U (U id)→i=j
 | [],_,i,_,_,h1,_=>by simp at h1
 | x::r,h,0,0,_,_,_=>rfl
 | x::r,h,i+1,j+1,id,h1,h2=>by
  have hr:F5 r=T:=by
   cases x with
   | none=>exact h
   | some y=>simp only[F5,zF] at h; exact h.2
  have:=Sz hr i j id (by simpa using h1) (by simpa using h2);omega
 | x::r,h,0,j+1,id,h1,h2=>by
  simp at h1 h2
  subst h1;simp only[F5,zF,zI,zK,decide_eq_false_iff_not] at h;exact absurd (zO h2) h.1
 | x::r,h,i+1,0,id,h1,h2=>by
  simp at h1 h2
  subst h2;simp only[F5,zF,zI,zK,decide_eq_false_iff_not] at h;exact absurd (zO h1) h.1
theorem OutVs.len{σ:St}:∀{ts:W RV} {rs:W R1},OutVs σ ts rs→rs.length=ts.length
 | [],[],_=>rfl
 | [],_::_,h=>h.elim
 | _::_,[],h=>h.elim
 | _::_,_::_,h=>by simp[OutVs.len h.2]
theorem gO(hm:P.follows .mixedOrders=T){f:FuncId}{fn:Func}{C:Code}{c:Xg}{ts:W RV}{ds:W DV}{rs:W R1}(hf:P.funcs[f]?=U fn)(hb:fn.body=U C)(hc:Bd P fn.ntmps C=U c.strip)
  (hr:DS P fn.results.toList=U ts) (hl:ds.length≤fn.ntmps) (h:B5 P c (A5 ts rs) (St.init ds)):FC P f ds rs:=by
 intro w A0 vs hG hvs;refine calls_of_wp hf hb ?_;have hlen:=hvs.len;refine wp_mono (Ic (df:= []) hm c C _ (fun _=>V) (St.init ds) _ w hc h (wN fn.ntmps hG hvs) (by simp; omega) zD) fun e a w' hp=> ?_
 obtain⟨e',nm,σ,he,hq,R,hnt,hdf⟩:=hp
 have key:Qw ts rs σ→a.defers= []∧∃v,(results fn a.tmps).run P w'= .ok v w'∧∃(v':Value) (bs:W (I zC)),Ending.returned v= .returned v'∧RowKit.Below w.heap.size w w'∧
   RRel (Ai (fun b fr=>U b∉bs∧((w.heap.size≤b∧fr=(0,0))∨A0 b fr)) w') w' rs v' bs∧(∀b,U b∈bs→w.heap.size≤b∧b<w'.heap.size)∧(∀(i j b:zC),bs[i]?=U (U b)→bs[j]?=U (U b)→i=j):=by
  rintro⟨ho,hnd⟩
  let ids:=D1 σ ts rs
  have hbs:∀b,U b∈ids.map (Ba nm)→∃id,U id∈ids∧nm (2*id+1)=U b:=by
   intro b hb;obtain⟨o,ho,hb⟩:=yK.1 hb;cases o with
   | none=>simp[Ba] at hb
   | some id=>exact⟨id,ho,hb⟩
  have hview:∀b C,A9 (fun b fr=>A0 b fr∨(w.heap.size≤b∧fr=(0,0))) nm w' b C→Ai (fun b fr=>U b∉ids.map (Ba nm)∧((w.heap.size≤b∧fr=(0,0))∨A0 b fr)) w' b C:=by
   rintro b C ⟨h1,c,t,fr,h2,h3⟩
   refine⟨c,t,fr,⟨fun hb=> ?_,h2.symm⟩,h3⟩;obtain⟨id,_,hn⟩:=hbs b hb;exact h1 _ hn
  obtain⟨vs',hrun,hvl,hrel⟩:=HR (P:=P) (f:=fun | .tmp t=>pure (a.tmps.getD t undef) | .cell c t=>do loadVar t (← asAddr (a.tmps.getD c undef))) R hview (fun _=>rfl) (fun _ _=>rfl) hr ho;refine⟨hdf,(if h:vs'.length=1 then vs'[0] else .tuple vs'.toArray),?_,_,ids.map (Ba nm),zD,R.below.plain (fun _=>rfl),?_,fun b hb=> ?_,fun i j b hi hj=> ?_⟩
  ·unfold results;rw[← Array.toArray_toList (xs:=fn.results)];simp only[List.mapM_toArray,Sem.run_bind,map_eq_pure_bind];erw [hrun]
   simp only[Result.andThen_ok,Sem.run_pure];simp
  ·split
   ·rename_i h1
    obtain⟨v1,rfl⟩:=yD.1 h1;have hrl:rs.length=1:=by rw[ho.len,← hvl]; exact h1
    obtain⟨r,rfl⟩:=yD.1 hrl;revert hrel
    show R1Rels _ _ [r] [v1] (ids.map (Ba nm))→_
    generalize ids.map (Ba nm)=bs
    intro hrel;cases hrel with
    | cons h1 h2=>
     cases h2;simp only[List.append_nil] at h1 ⊢
     exact .one h1
   ·rename_i h1
    refine .many ?_ hrel;rw[ho.len,← hvl];exact h1
  ·obtain⟨id,_,hn⟩:=hbs b hb;obtain⟨k1,k2⟩:=R.names _ _ hn;refine⟨k1.resolve_right ?_,k2⟩;intro hmm;obtain⟨i,_,hi⟩:=Base.of_M hmm;cases hi
  ·simp only[yJ,zE] at hi hj
   obtain⟨x,hx,hxb⟩:=hi;obtain⟨y,hy,hyb⟩:=hj;cases x with
   | none=>simp[Ba] at hxb
   | some x=>
    cases y with
    | none=>simp[Ba] at hyb
    | some y=>
     have:=R.inj _ _ _ hxb hyb;have e:x=y:=by omega
     subst e;exact Sz hnd i j x hx hy
 cases e' with
 | normal=>obtain rfl:e= .normal:=he; exact key hq
 | ret=>obtain rfl:e= .ret:=he; exact key hq
 | exit id=>exact hq.elim
 | pan d=>exact hq.elim
end
def XC.ac:XC→AC
 | .d x=> .dat x
 | .r j=> .own (99999999999+j)
def XV.av:XV→AV
 | .sc c=> .v (.sc c.ac)
 | .ag cs=> .v (.ag (cs.map XC.ac))
def M7:zC→W XV→W (zC × AV)
 | _,[]=> []
 | k,x::xs=>(k,x.av)::M7 (k+1) xs
def Q3:zC→Ap→Rows
 | _,[]=> []
 | k,r::R=>(99999999999+k,r)::Q3 (k+1) R
def St.initX(xs:W XV)(R0:Ap):St:=⟨M7 0 xs,[],Q3 0 R0⟩
theorem Yy:∀(xs:W XV) (k i:zC),A1 (M7 k xs) i=if k≤i then(xs[i - k]?).map XV.av else V
 | [],k,i=>by simp[M7,A1]
 | x::xs,k,i=>by
  simp only[M7,A1];by_cases hk:k=i
  ·subst hk; simp
  ·have h':=Ce hk;rw[h',cond_false,Yy xs (k+1) i];by_cases h1:k≤i
   ·rw[if_pos (by omega),if_pos h1,show i - k=(i - (k+1))+1 by omega]; simp
   ·rw[if_neg (by omega),if_neg h1]
theorem YE:∀(R:Ap) (k j:zC),k≤j→A1 (Q3 k R) (99999999999+j)=R[j - k]?
 | [],k,j,_=>by simp[Q3,A1]
 | r::R,k,j,h=>by
  simp only[Q3,A1];by_cases hk:k=j
  ·subst hk; simp
  ·have h':(99999999999+k==99999999999+j)=O:=by simpa using hk
   rw[h',cond_false,YE R (k+1) j (by omega),show j - k=(j - (k+1))+1 by omega]; simp
def RowsOut(σ:St):zC→Ap→W (zC × zC)→Prop
 | j,row::R,(k,p)::ps=>((∃x,σ.get k= .v x∧x.cells[p]?=U (.own (99999999999+j)))∧A1 σ.rows (99999999999+j)=U row)∧RowsOut σ (j+1) R ps
 | _,[],[]=>True
 | _,_,_=>False
theorem RowsOut.there{σ:St}:∀{R:Ap} {ps:W (zC × zC)} {k j:zC},RowsOut σ k R ps→j<R.length→∃(row:zC × W (W D)) (l p:zC) (x:V1),R[j]?=U row∧σ.get l= .v x∧x.cells[p]?=U (AC.own (99999999999+(k+j)))∧A1 σ.rows (99999999999+(k+j))=U row
 | [],ps,_,j,_,h=>by simp at h
 | row::R,[],_,_,h,_=>h.elim
 | row::R,(l,p)::ps,k,j,h,hj=>by
  obtain⟨⟨⟨x,h1,h2⟩,h3⟩,h4⟩:=h;cases j with
  | zero=>exact⟨row,l,p,x,by simp,h1,h2,h3⟩
  | succ j=>
   obtain⟨row',l',p',x',k1,k2,k3,k4⟩:=RowsOut.there (j:=j) h4 (by simpa using hj);exact⟨row',l',p',x',by simpa using k1,k2,by rw[show k+(j+1)=k+1+j by omega]; exact k3,by rw[show k+(j+1)=k+1+j by omega]; exact k4⟩
def CD(ts:W RV)(r:D)(R1:Ap)(ps:W (zC × zC))(e:Xl)(σ:St):Prop:=
 match e with
 | .exit _=>False
 | .pan _=>False
 | _=>OutVs σ ts [.sc (.v r)]∧RowsOut σ 0 R1 ps
section
variable {P : Program}
theorem Xp.get{w:World}{bs:W (I zC)}{R:Ap}:∀{xs:W XV} {vs:W Value} (i:zC) {x:XV} {v:Value},Xp w bs R xs vs→xs[i]?=U x→vs[i]?=U v→Xs w bs R x v
 | _,_,_,_,_,.nil,hd,_=>by simp at hd
 | _,_,0,_,_,.cons a _,hd,hv=>by simp at hd hv; subst hd hv; exact a
 | _,_,i+1,_,_,.cons _ b,hd,hv=>Xp.get i b (by simpa using hd) (by simpa using hv)
theorem Xr.crel{w:World}{bs:W (I zC)}{R0:Ap}{xs:W XV}{c:XC}{v:Value}(H:Xr w bs R0 c v):CRel (cx (.of fun _ _=>True) (Bf bs) (St.initX xs R0) w) c.ac v:=by
 have hf:∀j,A1 (St.initX xs R0).rows (99999999999+j)=R0[j]?:=fun j=>YE R0 0 j (yC _)
 have hn:∀(j:zC) (o:I zC),bs[j]?=U o→Bf bs (2*(99999999999+j)+1)=o:=fun j o h=>by
  have:=Ml h;rwa [show AG+2*j+1=2*(99999999999+j)+1 by unfold AG; omega] at this
 cases H with
 | d h=>exact .dat (h.mono Gm)
 | @nil j sz a0 h1 h2=>exact .ownNil ((hf j).trans h1) (hn j _ h2)
 | @r j sz es b cap len h1 h2 h3 h4=>exact .own ((hf j).trans h1) (hn j _ h2) h3.any h4
theorem Xq.crels{w:World}{bs:W (I zC)}{R0:Ap}{xs:W XV}:∀{cs:W XC} {vs:W Value},Xq w bs R0 cs vs→CRels (cx (.of fun _ _=>True) (Bf bs) (St.initX xs R0) w) (cs.map XC.ac) vs
 | _,_,.nil=> .nil
 | _,_,.cons a b=> .cons a.crel b.crels
theorem Xs.vrel{w:World}{bs:W (I zC)}{R0:Ap}{xs:W XV}{x:XV}{v:Value}(H:Xs w bs R0 x v):VRel (cx (.of fun _ _=>True) (Bf bs) (St.initX xs R0) w) x.av v:=by
 cases H with
 | sc h=>exact .v (.sc h.crel)
 | ag h=>exact .v (.ag h.crels)
theorem wJ{w:World}{bs:W (I zC)}{xs:W XV}{R0:Ap}{vs:W Value}(nt:zC)(hinj:∀(i j b:zC),bs[i]?=U (U b)→bs[j]?=U (U b)→i=j)(hlt:∀b,U b∈bs→b<w.heap.size)
  (hG:∀w2,BelowX w.heap.size (.of w (Bf bs)) w2→GoodW w2) (h:Xp w bs R0 xs vs) :
  Rel (.of fun _ _=>True) w.heap.size (.of w (Bf bs)) (Bf bs) (St.initX xs R0) (vs.toArray++Array.replicate (nt - vs.toArray.size) undef) w:=by
 refine⟨BelowX.start _ _ (fun _ h=>h.elim),zS _,Glob.mk1 fun _ _=>trivial,hG,fun i b hi=> ?_,fun i j b hi hj=> ?_,fun i _=>rfl,fun k=> ?_,fun id cs h=>by simp[St.initX,A1] at h⟩
 ·obtain⟨j,h1,h2⟩:=HP hi;exact⟨.inr (.inl ⟨i,by omega,hi⟩),hlt b (zO h2)⟩
 ·obtain⟨x,h1,h2⟩:=HP hi;obtain⟨y,h3,h4⟩:=HP hj;have:=hinj x y b h2 h4;omega
 ·unfold St.get;rw[show(St.initX xs R0).env=M7 0 xs from rfl,Yy xs 0 k];simp only[yC,if_true,Nat.sub_zero];cases hd:xs[k]? with
  | none=>exact .undef
  | some x=>
   have hk:k<vs.length:=by rw[← h.len]; exact(zH.1 hd).1
   have hv:vs[k]?=U (vs[k]'hk):=zM hk
   have e:(vs.toArray++Array.replicate (nt - vs.toArray.size) undef).getD k undef=vs[k]'hk:=by
    rw[Array.getD_eq_getD_getElem?,Array.getElem?_append_left (by simpa using hk)];simp[hk]
   rw[e];exact(Xp.get k h hd hv).vrel
theorem gZ(hm:P.follows .mixedOrders=T){f:FuncId}{fn:Func}{C:Code}{c:Xg}{ts:W RV}{xs:W XV}{R0 R1:Ap}{r:D}{ps:W (zC × zC)}(hf:P.funcs[f]?=U fn)(hb:fn.body=U C)(hc:Bd P fn.ntmps C=U c.strip)
  (hr:DS P fn.results.toList=U ts) (hl:xs.length≤fn.ntmps) (hlen:R1.length=R0.length) (hrf:r.flat=T) (hR1:DJ R1) (h:B5 P c (CD ts r R1 ps) (St.initX xs R0)):FCx P f xs R0 R1 r:=by
 intro w vs bs hbl hinj hlt hG hvs;refine calls_of_wp hf hb ?_;have hlv:=hvs.len;refine wp_mono (Ic (df:= []) hm c C _ (Bf bs) (St.initX xs R0) _ w hc h (wJ fn.ntmps hinj hlt hG hvs) (by simp; omega) zD) fun e a w' hp=> ?_
 obtain⟨e',nm,σ,he,hq,R,hnt,hdf⟩:=hp
 have key:OutVs σ ts [.sc (.v r)]∧RowsOut σ 0 R1 ps→a.defers= []∧∃v,(results fn a.tmps).run P w'= .ok v w'∧∃v':Value,Ending.returned v= .returned v'∧BelowX w.heap.size (.of w (Bf bs)) w'∧Rep BN r v'∧
   ∀(j b:zC),bs[j]?=U (U b)→∃sz es cap,R1[j]?=U (sz,es)∧OwnB BN w' b sz cap es:=by
  rintro⟨ho,hro⟩
  obtain⟨vs',hrun,hvl,hrel⟩:=HR (P:=P) (h':=A9 (fun _ _=>True) nm w') (f:=fun | .tmp t=>pure (a.tmps.getD t undef) | .cell c t=>do loadVar t (← asAddr (a.tmps.getD c undef))) R (fun _ _ h=>h) (fun _=>rfl) (fun _ _=>rfl) hr ho;have h1:vs'.length=1:=by rw[hvl,← ho.len]; rfl
  obtain⟨v1,rfl⟩:=yD.1 h1
  have hv1:Rep BN r v1:=by
   generalize List.map (Ba nm) _=q at hrel
   cases hrel with | cons a b=>
   cases a with | sc a=>
   cases a with | v a=>exact a.flat hrf
  refine⟨hdf,v1,?_,v1,zD,R.below,hv1,fun j b hj=> ?_⟩
  ·unfold results;rw[← Array.toArray_toList (xs:=fn.results)];simp only[List.mapM_toArray,Sem.run_bind,map_eq_pure_bind];erw [hrun]
   simp only[Result.andThen_ok,Sem.run_pure];simp
  ·have hjl:j<R1.length:=by rw[hlen,← hbl]; exact(zH.1 hj).1
   obtain⟨row,l,p,x,k1,k2,k3,k4⟩:=hro.there hjl;obtain⟨sz,es⟩:=row;rw[yE] at k3 k4
   have hv:=R.env l;rw[k2] at hv
   have hy:V1Rel (cx (.of fun _ _=>True) nm σ w') x (a.tmps.getD l undef):=by cases hv with | v H=>exact H
   obtain⟨v,_,hcr⟩:=hy.cells.get k3
   have hpin:nm (2*(99999999999+j)+1)=U b:=by
    have e:AG+2*j+1=2*(99999999999+j)+1:=by unfold AG; omega
    rw[← e,R.pin _ (by omega)];exact Ml hj
   rcases hcr.inv_own k4 with ⟨_,k5,_⟩|⟨b',cap,k5,k6,_⟩
   ·rw[show(cx (.of fun _ _=>True) nm σ w').nm=nm from rfl,hpin] at k5; cases k5
   ·rw[show(cx (.of fun _ _=>True) nm σ w').nm=nm from rfl,hpin] at k5
    cases k5;exact⟨sz,es,cap,k1,YH k6 fun e he d hd=>hR1 _ (zO k1) e he d hd⟩
 cases e' with
 | normal=>obtain rfl:e= .normal:=he; exact key hq
 | ret=>obtain rfl:e= .ret:=he; exact key hq
 | exit id=>exact hq.elim
 | pan d=>exact hq.elim
end
end
section
def AE(P:Program)(f:FuncId):I (Xg × W RV × zC):=
 match P.funcs[f]? with
 | some fn=>match fn.body,DS P fn.results.toList with
  | some C,U ts=>(Bd P fn.ntmps C).map fun c=>(c,ts,fn.ntmps)
  | _,_=>V
 | none=>V
theorem gL{P:Program}(hm:P.follows .mixedOrders=T){f:FuncId}{c:Xg}{ts:W RV}{nt:zC}{ds:W DV}{rs:W R1}(he:AE P f=U (c.strip,ts,nt))(hl:ds.length≤nt)(h:B5 P c (A5 ts rs) (St.init ds)):FC P f ds rs:=by
 unfold AE at he
 split at he
 ·rename_i fn hf
  split at he
  ·rename_i C ts' hb hr
   simp only[zE] at he
   obtain⟨c',hc,e⟩:=he;cases e;exact gO hm hf hb hc hr hl h
  ·cases he
 ·cases he
theorem gY{P:Program}(hm:P.follows .mixedOrders=T){f:FuncId}{c:Xg}{ts:W RV}{nt:zC}{xs:W XV}{R0 R1:Ap}{r:D}{ps:W (zC × zC)}(he:AE P f=U (c.strip,ts,nt))(hl:xs.length≤nt)(hlen:R1.length=R0.length)(hrf:r.flat=T)(hR1:DJ R1)
  (h:B5 P c (CD ts r R1 ps) (St.initX xs R0)):FCx P f xs R0 R1 r:=by
 unfold AE at he
 split at he
 ·rename_i fn hf
  split at he
  ·rename_i C ts' hb hr
   simp only[zE] at he
   obtain⟨c',hc,e⟩:=he;cases e;exact gZ hm hf hb hc hr hl hlen hrf hR1 h
  ·cases he
 ·cases he
section
variable {P : Program} {Q : Xl → St → Prop} {σ : St} {K : St → Prop} {r : W AItem}
theorem Tm{g:I (zC × zB)}{y y' n n':Prop}(h1:y→y')(h2:n→n')(h:AM g σ y n):AM g σ y' n':=by
 rcases Tp h with ⟨hw,h⟩|⟨t,want,rfl,hd,h⟩
 ·exact Kt hw (h1 h)
 ·exact Tn hd (h2 h)
theorem Ts{o:AOp}{K K':St→Prop}(hk:∀σ,K σ→K' σ)(h:AY P o K σ):AY P o K' σ:=by
 have plain:(match σ.step o with | some σ'=>K σ' | none=>False)→(match σ.step o with | some σ'=>K' σ' | none=>False):=by
  intro h;split at h
  ·exact hk _ h
  ·exact h.elim
 cases o<;>first
  | exact plain h
  | skip
 case call=>
  rcases h with ⟨ds,rs,h1,h2,h3,h4,h5⟩|⟨ids,xs,R0,R1,r,h1,h2,h3⟩|⟨S,h1,h2⟩
  ·exact .inl ⟨ds,rs,h1,h2,h3,h4,hk _ h5⟩
  ·exact .inr (.inl ⟨ids,xs,R0,R1,r,h1,h2,hk _ h3⟩)
  ·exact .inr (.inr ⟨S,h1,fun σ' r hs=>hk _ (h2 σ' r hs)⟩)
 case callv=>
  rcases h with ⟨f,caps,ds,rs,h1,h0,h2,h3,h4,h5⟩|⟨f,ids,σ',r,h1,h0,h2,h3⟩
  ·exact .inl ⟨f,caps,ds,rs,h1,h0,h2,h3,h4,hk _ h5⟩
  ·exact .inr ⟨f,ids,σ',r,h1,h0,h2,hk _ h3⟩
theorem lf{N:W zC}{o:AOp}{K K':St→Prop}(hk:∀σ,K σ→K' σ)(h:GB P N o K σ):GB P N o K' σ:=by
 have plain:(match (σ.less N).pure o with
   | some (d,v)=>v.avoids N=T∧K (σ.set d v)
   | none=>match (σ.less N).made o with
    | some m=>(match m with | .box _ cs=>cs.all (·.avoids N) | _=>T)=T∧(match σ.make m with
     | some σ'=>K σ'
     | none=>False)
    | none=>False)→(match (σ.less N).pure o with
   | some (d,v)=>v.avoids N=T∧K' (σ.set d v)
   | none=>match (σ.less N).made o with
    | some m=>(match m with | .box _ cs=>cs.all (·.avoids N) | _=>T)=T∧(match σ.make m with
     | some σ'=>K' σ'
     | none=>False)
    | none=>False):=by
  intro h;split at h
  ·exact⟨h.1,hk _ h.2⟩
  ·split at h
   ·refine⟨h.1,?_⟩;have h2:=h.2;split at h2
    ·exact hk _ h2
    ·exact h2.elim
   ·exact h.elim
 cases o<;>first
  | exact plain h
  | skip
 case call=>
  obtain⟨ds,rs,h1,h2,h3,h4,h5⟩:=h;exact⟨ds,rs,h1,h2,h3,h4,hk _ h5⟩
 case callv=>
  obtain⟨f,caps,ds,rs,h1,h0,h2,h3,h4,h5⟩:=h;exact⟨f,caps,ds,rs,h1,h0,h2,h3,h4,hk _ h5⟩
theorem MK{K K':St→Prop}(hk:∀σ,K σ→K' σ):∀{its:W AItem} {σ:St},Bj P its K σ→Bj P its K' σ
 | [],_,h=>hk _ h
 | (g,o)::r,σ,h=>by
  refine Tm (Ts fun σ h=>MK hk h) (fun h=> ?_) h;split at h
  ·exact MK hk h
  ·exact h
theorem MH{K K':St→Prop}(hk:∀σ,K σ→K' σ):∀{its:W AZ} {σ:St},Ck P its K σ→Ck P its K' σ
 | [],_,h=>hk _ h
 | (V,g,o)::r,σ,h=>by
  refine Tm (Ts fun σ h=>⟨h.1,MH hk h.2⟩) (fun h=> ?_) h;split at h
  ·exact⟨h.1,MH hk h.2⟩
  ·exact h
 | (U N,g,o)::r,σ,h=>by
  refine Tm (lf fun σ h=>MH hk h) (fun h=> ?_) h;split at h
  ·exact MH hk h
  ·exact h
theorem XR:∀(c:Xg) {Q Q':Xl→St→Prop} {σ:St},(∀e σ,Q e σ→Q' e σ)→B5 P c Q σ→B5 P c Q' σ:=by
 intro c
 induction c with
 | skip=>exact fun hq h=>hq _ _ h
 | reg its=>exact fun hq h=>MK (fun σ=>hq _ σ) h
 | drw its=>exact fun hq h=>⟨h.1,MH (fun σ=>hq _ σ) h.2⟩
 | any its=>exact fun hq ⟨ks,bs,rs,τ,h1,h2⟩=>⟨ks,bs,rs,τ,h1,hq _ _ h2⟩
 | hook nt C=>exact fun hq ⟨τ,h1,h2⟩=>⟨τ,h1,hq _ _ h2⟩
 | seq x y ihx ihy=>
  intro Q Q' σ hq h;refine ihx (fun e σ' h=> ?_) h;cases e with
  | normal=>exact ihy hq h
  | exit id=>exact hq _ _ h
  | ret=>exact hq _ _ h
  | pan d=>exact hq _ _ h
 | cond c x y ihx ihy=>
  intro Q Q' σ hq h;simp only[B5] at h ⊢
  split
  ·rename_i b hb
   rw[hb] at h;simp only at h;split
   ·rename_i e; rw[if_pos e] at h; exact ihx hq h
   ·rename_i e; rw[if_neg e] at h; exact ihy hq h
  ·rename_i hne
   split at h
   ·rename_i b hb; exact(hne b hb).elim
   ·exact h
 | block id c ih=>
  intro Q Q' σ hq h;refine ih (fun e σ' h=> ?_) h;cases e with
  | normal=>exact hq _ _ h
  | ret=>exact hq _ _ h
  | pan d=>exact hq _ _ h
  | exit i=>
   change (if i=id then Q .normal σ' else Q (.exit i) σ') at h
   change (if i=id then Q' .normal σ' else Q' (.exit i) σ')
   split
   ·rename_i e; rw[if_pos e] at h; exact hq _ _ h
   ·rename_i e; rw[if_neg e] at h; exact hq _ _ h
 | loop c ih=>
  intro Q Q' σ hq h;intro X hX;refine h X fun σ' h'=>hX σ' (ih (fun e σ'' h=> ?_) h')
  cases e with
  | normal=>exact h
  | exit id=>exact hq _ _ h
  | ret=>exact hq _ _ h
  | pan d=>exact hq _ _ h
 | pan its x=>exact fun hq h=>MK (fun σ ⟨d,h1,h2,h3,h4⟩=>⟨d,h1,h2,h3,hq _ _ h4⟩) h
 | cal its d f args=>exact fun hq h=>MK (fun σ h=>h.imp (fun h=>Ts (fun σ=>hq _ σ) h) fun⟨ds,pd,h1,h2,h3⟩=>⟨ds,pd,h1,h2,hq _ _ h3⟩) h
 | exit id=>exact fun hq h=>hq _ _ h
 | ret=>exact fun hq h=>hq _ _ h
end
end
section
inductive Fr where
 | code (c:Xg)
 | ops (its:W AItem)
 | dops (its:W AZ)
 | blk (id:zC)
 | pick (v:AV) (x y:Xg)
 | gd (v:AV) (want:zB) (o:AOp) (its:W AItem)
 | gdd (v:AV) (want:zB) (N:I (W zC)) (o:AOp) (its:W AZ)
 | fr (b:zB)
 | frs (its:W AZ)
 | panF (x:Opd)
 | calF (d:zC) (f:FuncId) (args:W Opd)
def Cg{α:Type}(o:I α)(f:α→Prop):Prop:=
 match o with
 | some a=>f a
 | none=>False
def BJ(v:AV)(X Y Z:Prop):Prop:=
 match v with
 | .v (.sc (.dat (.bool b)))=>if b=T then X else Y
 | .no=>Z
 | _=>False
def AD(σ:St)(d:zC):I AV→I St
 | some v=>U (σ.set d v)
 | none=>V
def CR(σ:St):I zC→I St
 | some d=>U (σ.set d .no)
 | none=>V
def mk1(σ:St):I Mk→I St
 | some m=>σ.make m
 | none=>V
def AO(P:Program):W Fr→(Xl→St→Prop)→Xl→St→Prop
 | [],Q,e,σ=>Q e σ
 | .code c::k,Q,.normal,σ=>B5 P c (AO P k Q) σ
 | .ops its::k,Q,.normal,σ=>Bj P its (AO P k Q .normal) σ
 | .dops its::k,Q,.normal,σ=>Ck P its (AO P k Q .normal) σ
 | .pick v x y::k,Q,.normal,σ=>BJ v (B5 P x (AO P k Q) σ) (B5 P y (AO P k Q) σ) False
 | .gd v want o its::k,Q,.normal,σ=>BJ v (bif want then AY P o (Bj P its (AO P k Q .normal)) σ else Cg o.dst fun d=>Bj P its (AO P k Q .normal) (σ.set d .no))
   (bif want then Cg o.dst fun d=>Bj P its (AO P k Q .normal) (σ.set d .no) else AY P o (Bj P its (AO P k Q .normal)) σ)
   (Cg o.dst fun d=>Bj P its (AO P k Q .normal) (σ.set d .no))
 | .gdd v want N o its::k,Q,.normal,σ=>BJ v (bif want then Ck P ((N,V,o)::its) (AO P k Q .normal) σ else Cg o.dst fun d=>Ck P its (AO P k Q .normal) (σ.set d .no))
   (bif want then Cg o.dst fun d=>Ck P its (AO P k Q .normal) (σ.set d .no) else Ck P ((N,V,o)::its) (AO P k Q .normal) σ)
   (Cg o.dst fun d=>Ck P its (AO P k Q .normal) (σ.set d .no))
 | .fr b::k,Q,.normal,σ=>b=T∧AO P k Q .normal σ
 | .frs its::k,Q,.normal,σ=>CZ its σ=T∧Ck P its (AO P k Q .normal) σ
 | .panF x::k,Q,.normal,σ=>∃d,σ.val x= .v (.sc (.dat d))∧d.flat=T∧UN d=T∧AO P k Q (.pan d) σ
 | .calF d f args::k,Q,.normal,σ=>AY P (.call d f args) (AO P k Q .normal) σ∨∃ds pd,σ.toDVs args=U ds∧MD P f ds pd∧AO P k Q (.pan pd) σ
 | .blk id::k,Q,.exit i,σ=>if i=id then AO P k Q .normal σ else AO P k Q (.exit i) σ
 | _::k,Q,e,σ=>AO P k Q e σ
def go(P:Program)(k:W Fr)(Q:Xl→St→Prop)(e:Xl):I St→Prop
 | some σ=>AO P k Q e σ
 | none=>False
def AOp.isPure:AOp→zB
 | .mv .. | .pick .. | .build .. | .load .. | .nilc .. | .bin .. | .beq .. | .geq .. | .un .. | .conv .. | .slc .. | .sslc .. | .faddr .. | .field .. | .iaddr .. | .aaddr .. | .idx .. | .extr .. | .len .. | .slen .. | .sconv .. | .mm .. | .mkf .. | .zsl _ | .mkif .. | .tass .. =>T
 | _=>O
def AOp.isMade:AOp→zB
 | .box .. | .alloc .. | .bslice .. | .mksl .. | .zap .. =>T
 | _=>O
def AOp.isCall:AOp→zB
 | .call .. | .callv .. =>T
 | .mv .. | .pick .. | .box .. | .alloc .. | .build .. | .bslice .. | .load .. | .store .. | .clr .. | .nilc .. | .bin .. | .beq .. | .geq .. | .un .. | .conv .. | .mksl .. | .slc .. | .sslc .. | .faddr .. | .field .. | .iaddr .. | .aaddr .. | .idx .. | .extr .. | .len .. | .slen .. | .sconv .. | .app .. | .mm .. | .mkf .. | .zsl _ | .zap .. | .mkif .. | .tass .. =>O
 | .drop _ | .own .. | .ownb .. | .ren .. | .frz _ | .frzb _ | .forget _ | .keep .. | .cut _=>O
section
variable {P : Program} {k : W Fr} {Q : Xl → St → Prop} {σ : St} {its : W AItem} {ds : W AZ} {o : AOp} {N : W zC}
theorem JV{c:Xg}(h:go P [.code c] Q .normal (U σ)):B5 P c Q σ:=XR c (fun _ _ h=>h) h
theorem uT{e}:go P k Q e V=False:=rfl
theorem uR{e}:go P [] Q e (U σ)=Q e σ:=rfl
theorem uk:go P (.code .skip::k) Q .normal (U σ)=go P k Q .normal (U σ):=rfl
theorem ud:go P (.code (.reg its)::k) Q .normal (U σ)=go P (.ops its::k) Q .normal (U σ):=rfl
theorem tl:go P (.code (.drw ds)::k) Q .normal (U σ)=go P (.fr (CZ ds σ):: .dops ds::k) Q .normal (U σ):=rfl
theorem tr:go P (.fr T::k) Q .normal (U σ)=go P k Q .normal (U σ):=by simp[go,AO]
theorem uj{x y:Xg}:go P (.code (.seq x y)::k) Q .normal (U σ)=go P (.code x:: .code y::k) Q .normal (U σ):=by
 simp only[go,AO,B5];congr 1
 funext e σ'
 cases e<;>simp only[AO]
theorem tW{id:zC}{c:Xg}:go P (.code (.block id c)::k) Q .normal (U σ)=go P (.code c:: .blk id::k) Q .normal (U σ):=by
 simp only[go,AO,B5];congr 1
 funext e σ'
 cases e<;>simp only[AO]
theorem tm{id:zC}:go P (.code (.exit id)::k) Q .normal (U σ)=go P k Q (.exit id) (U σ):=rfl
theorem uh:go P (.code .ret::k) Q .normal (U σ)=go P k Q .ret (U σ):=rfl
theorem te{c:Opd}{x y:Xg}:go P (.code (.cond c x y)::k) Q .normal (U σ)=go P (.pick (σ.val c) x y::k) Q .normal (U σ):=by
 show(match σ.val c with | .v (.sc (.dat (.bool b)))=>if b=T then B5 P x (AO P k Q) σ else B5 P y (AO P k Q) σ | _=>False)=BJ (σ.val c) _ _ _
 unfold BJ;generalize σ.val c=v
 cases v with
 | v x=>cases x with
  | sc c=>cases c with
   | dat d=>cases d<;>rfl
   | _=>rfl
  | ag=>rfl
 | _=>rfl
theorem uc{x y:Xg}:go P (.pick (.v (.sc (.dat (.bool T)))) x y::k) Q .normal (U σ)=go P (.code x::k) Q .normal (U σ):=by simp[go,AO,BJ]
theorem ub{x y:Xg}:go P (.pick (.v (.sc (.dat (.bool O)))) x y::k) Q .normal (U σ)=go P (.code y::k) Q .normal (U σ):=by simp[go,AO,BJ]
theorem uX{x:Opd}:go P (.code (.pan its x)::k) Q .normal (U σ)=go P (.ops its:: .panF x::k) Q .normal (U σ):=rfl
theorem tZ{d f args}:go P (.code (.cal its d f args)::k) Q .normal (U σ)=go P (.ops its:: .calF d f args::k) Q .normal (U σ):=rfl
theorem RL{d f args}(H:go P (.ops [(V,.call d f args)]::k) Q .normal (U σ)):go P (.calF d f args::k) Q .normal (U σ):= .inl H
theorem uZ{c:Xg}{d:D}:go P (.code c::k) Q (.pan d) (U σ)=go P k Q (.pan d) (U σ):=rfl
theorem tU{id:zC}{d:D}:go P (.blk id::k) Q (.pan d) (U σ)=go P k Q (.pan d) (U σ):=rfl
theorem Em{its:W (W zC × AItem)}{τ σ2:St}{ks bs rs:W zC}(h0:(σ.kept ks bs rs).pad (its.filterMap fun i=>i.2.2.dst)=σ2)(h1:BZ P its τ its.length (its.map fun _=>O) σ2)(h2:go P k Q .normal (U τ)):go P (.code (.any its)::k) Q .normal (U σ):=
 ⟨ks,bs,rs,τ,h0▸h1,h2⟩
def VA(P:Program)(its:W (W zC × AItem))(τ:St)(f:zC)(ms:W zB)(σ:St):W (W zC × AItem)→zC→Prop
 | [],_=>True
 | it::r,i=>(ms[i]?=U O→(∀j∈it.1,ms[j]?=U T)→∃pre post:W AItem,pre.all (fun i=>i.2.idle)=T∧post.all (fun i=>i.2.idle)=T∧go P [.ops (pre++it.2::post)] (fun _=>BZ P its τ f (ms.set i T)) .normal (U σ))∧VA P its τ f ms σ r (i+1)
theorem dN{its:W (W zC × AItem)}{τ:St}{f:zC}{ms:W zB}:∀{r:W (W zC × AItem)} {n:zC},VA P its τ f ms σ r n→∀(i:zC) (it:W zC × AItem),r[i]?=U it→ms[n+i]?=U O→(∀j∈it.1,ms[j]?=U T)→∃pre post:W AItem,pre.all (fun i=>i.2.idle)=T∧post.all (fun i=>i.2.idle)=T∧go P [.ops (pre++it.2::post)] (fun _=>BZ P its τ f (ms.set (n+i) T)) .normal (U σ)
 | [],_,_,i,it,hi,_,_=>by simp at hi
 | x::r,n,h,0,it,hi,h1,h2=>by
  simp at hi
  subst hi;exact h.1 h1 h2
 | x::r,n,h,i+1,it,hi,h1,h2=>by
  have:=dN h.2 i it (by simpa using hi) (by rw[show n+1+i=n+(i+1) by omega]; exact h1) h2;rw[show n+1+i=n+(i+1) by omega] at this
  exact this
theorem XM{it:AItem}{post:W AItem}{K:St→Prop}:∀(pre:W AItem) (σ:St),pre.all (fun i=>i.2.idle)=T→Bj P (pre++it::post) K σ→Bj P pre (fun σ=>AM it.1 σ (AY P it.2 (Bj P post K) σ) (match it.2.dst with | some d=>Bj P post K (σ.set d .no) | none=>False)) σ
 | [],_,_,h=>h
 | (g,o)::pre,σ,hp,h=>by
  have hi:o.idle=T:=by simp only[zW,zF] at hp; exact hp.1
  have hp':pre.all (fun i=>i.2.idle)=T:=by simp only[zW,zF] at hp; exact hp.2
  have h':AM g σ (AY P o (Bj P (pre++it::post) K) σ) (match o.dst with | some d=>Bj P (pre++it::post) K (σ.set d .no) | none=>False):=h;show AM g σ (AY P o (Bj P pre _) σ) _
  have hno:o.dst=V:=by cases o<;>first | rfl | (simp[AOp.idle] at hi; done)
  simp only[hno] at h' ⊢
  have key:∀X Y:St→Prop,(∀σ,X σ→Y σ)→AY P o X σ→AY P o Y σ:=fun X Y hXY hx=>by
   cases o<;>first
    | (simp[AOp.idle] at hi; done)
    | (simp only[AY] at hx ⊢; split at hx<;>simp_all)
  have mono:∀{X Y:Prop},(X→Y)→AM g σ X False→AM g σ Y False:=fun hXY hx=>by
   unfold AM at hx ⊢
   cases g with
   | none=>exact hXY hx
   | some g=>
    simp only at hx ⊢
    split
    ·rename_i b hb
     rw[hb] at hx
     simp only at hx
     split at hx
     ·rename_i e
      rw[if_pos e];exact hXY hx
     ·exact hx.elim
    ·rename_i hb
     rw[hb] at hx
     exact hx
    ·rename_i h1 h2
     split at hx
     ·rename_i b hb
      exact h1 b hb
     ·rename_i hb
      exact h2 hb
     ·exact hx
  exact mono (key _ _ fun σ h=>XM pre σ hp' h) h'
theorem Ag{its:W (W zC × AItem)}{τ:St}{f:zC}{ms:W zB}(h:VA P its τ f ms σ its 0):BZ P its τ (f+1) ms σ:=by
 intro i it hi h1 h2;obtain⟨pre,post,hp,hq,this⟩:=dN h i it hi (by simpa using h1) h2;rw[yE] at this
 exact⟨pre,post,hp,hq,XM pre _ hp this⟩
theorem np{it:AItem}{Q:Xl→St→Prop}(h:go P [.ops [it]] Q .normal (U σ)):∃pre post:W AItem,pre.all (fun i=>i.2.idle)=T∧post.all (fun i=>i.2.idle)=T∧go P [.ops (pre++it::post)] Q .normal (U σ):=⟨[],[],rfl,rfl,h⟩
theorem A7{α:Type}{a b:α}:(bif T then a else b)=a:=rfl
theorem A8{α:Type}{a b:α}:(bif O then a else b)=b:=rfl
theorem hq{ms:W zB}{N:W zC}{a:zB}(hw:∀j∈N,ms[j]?=U T)(j:zC)(h:N.elem j=T)(e:ms[j]?=U a):a=T:=by
 have:=hw j (List.elem_iff.1 h);rw[e] at this
 exact zR this
theorem hz{ms:W zB}{i:zC}{a:zB}(h:ms[i]?=U O)(e:ms[i]?=U a):a=O:=zR (e.symm.trans h)
theorem uY{c:Xg}{i:zC}:go P (.code c::k) Q (.exit i) (U σ)=go P k Q (.exit i) (U σ):=rfl
theorem ua{c:Xg}:go P (.code c::k) Q .ret (U σ)=go P k Q .ret (U σ):=rfl
theorem tS{id:zC}:go P (.blk id::k) Q .normal (U σ)=go P k Q .normal (U σ):=rfl
theorem tV{id:zC}:go P (.blk id::k) Q .ret (U σ)=go P k Q .ret (U σ):=rfl
theorem tT{id i:zC}:go P (.blk id::k) Q (.exit i) (U σ)=go P k Q (bif i==id then .normal else .exit i) (U σ):=by
 by_cases h:i=id
 ·simp[go,AO,h]
 ·have h':(i==id)=O:=by simpa using h
  simp[go,AO,h,h']
theorem uV:go P (.ops []::k) Q .normal (U σ)=go P k Q .normal (U σ):=rfl
theorem tk:go P (.dops []::k) Q .normal (U σ)=go P k Q .normal (U σ):=rfl
theorem XL{K:St→Prop}(h1:∀d f args,o≠ .call d f args)(h2:∀d x args,o≠ .callv d x args):AY P o K σ=Cg (σ.step o) K:=by
 cases o<;>first
  | rfl
  | (show(match St.step σ _ with | some σ'=>K σ' | none=>False)=Cg (St.step σ _) K; generalize St.step σ _=x; cases x<;>rfl)
  | exact absurd rfl (h1 _ _ _)
  | exact absurd rfl (h2 _ _ _)
theorem di(h:o.isPure=T):σ.step o=(σ.pure o).map fun p=>σ.set p.1 p.2:=by
 cases o<;>first
  | (simp[AOp.isPure] at h; done)
  | skip
 all_goals
  simp only[St.step,St.made];generalize σ.pure _=x
  cases x<;>rfl
theorem A35(h:o.isMade=T):σ.step o=(σ.made o).bind σ.make:=by
 cases o<;>first
  | (simp[AOp.isMade] at h; done)
  | skip
 all_goals
  simp only[St.step,St.pure];generalize σ.made _=x
  cases x<;>rfl
theorem B8(h:o.isCall=O):go P (.ops ((V,o)::its)::k) Q .normal (U σ)=go P (.ops its::k) Q .normal (σ.step o):=by
 show AY P o (Bj P its (AO P k Q .normal)) σ=_
 rw[XL (by rintro _ _ _ rfl; simp[AOp.isCall] at h) (by rintro _ _ _ rfl; simp[AOp.isCall] at h)];cases σ.step o<;>rfl
def Sy:W zC→zB
 | []=>T
 | x::r=> !r.contains x&&Sy r
theorem cF:∀{l:W zC},Sy l=T→l.Nodup
 | [],_=>yR
 | x::r,h=>by
  simp only[Sy,zF,zI,zK,decide_eq_false_iff_not] at h;exact zQ.2 ⟨h.1,cF h.2⟩
theorem AT{d f args}{xs:W DV}{rs:W R1}(hf:FC P f xs rs)(h1:σ.toDVs args=U xs)(h2:Cu rs)(h3:σ.fresh d=T)(h4:(rs.flatMap R1.cells).length≤64)(h5:go P (.ops its::k) Q .normal (U (σ.inst d rs))) :
  go P (.ops ((V,.call d f args)::its)::k) Q .normal (U σ):= .inl ⟨xs,rs,.inl ⟨h1,.inl h2⟩,hf,h3,h4,h5⟩
theorem LY{d f args}{xs:W DV}{rs:W R1}(hf:FC P f xs rs)(h1:σ.toIVs args=U xs)(h3:σ.fresh d=T)(h4:(rs.flatMap R1.cells).length≤64)(h5:go P (.ops its::k) Q .normal (U (σ.inst d rs))) :
  go P (.ops ((V,.call d f args)::its)::k) Q .normal (U σ):= .inl ⟨xs,rs,.inr h1,hf,h3,h4,h5⟩
theorem Dr{d f args}{ids:W zC}{xs:W XV}{R0 R1:Ap}{r:D}(hf:FCx P f xs R0 R1 r)(h0:Sy ids=T)(h1:σ.toXVs ids args=U xs)(h2:Cy σ.rows ids=U R0)(h3:DJ R0)(h4:DT R0 R1=T)(h5:go P (.ops its::k) Q .normal (U (σ.instX d ids R1 r))) :
  go P (.ops ((V,.call d f args)::its)::k) Q .normal (U σ):= .inr (.inl ⟨ids,xs,R0,R1,r,⟨cF h0,h1,h2,h3,h4⟩,hf,h5⟩)
theorem LZ{d f args}{σ':St}{r:AV}(hf:CallC P f (args.map σ.val) σ σ' r)(h5:go P (.ops its::k) Q .normal (U (σ'.set d r))):go P (.ops ((V,.call d f args)::its)::k) Q .normal (U σ):= .inr (.inr ⟨_,hf.s,fun _ _ ⟨e1,e2⟩=>by subst e1 e2; exact h5⟩)
theorem JU{d x args f caps}{xs:W DV}{rs:W R1}(hf:FC P f (xs++caps.map .sc) rs)(h0:AW P f=T)(hx:σ.toDV (σ.val x)=U (.sc (.clo f caps)))(h1:σ.toDVs args=U xs)(h2:Cu rs)(h3:σ.fresh d=T)(h4:(rs.flatMap R1.cells).length≤64)
  (h5:go P (.ops its::k) Q .normal (U (σ.inst d rs))):go P (.ops ((V,.callv d x args)::its)::k) Q .normal (U σ):= .inl ⟨f,caps,xs,rs,.inl ⟨hx,h1,h2⟩,h0,hf,h3,h4,h5⟩
theorem BI(h:o.isPure=T):σ.step o=(σ.pure o).bind fun p=>AD σ p.1 (U p.2):=by
 rw[di h];cases σ.pure o<;>rfl
theorem tag{d:zC}{x:I AV}:((x.map (Prod.mk d)).bind fun p=>AD σ p.1 (U p.2))=AD σ d x:=by cases x<;>rfl
theorem de{d x}:σ.step (.mv d x)=U (σ.set d (σ.val x)):=rfl
theorem dh{d c a b}:σ.step (.pick d c a b)=AD σ d (Mp (σ.val c) (σ.val a) (σ.val b)):=(BI rfl).trans tag
theorem dQ{d zs ps}:σ.step (.build d zs ps)=AD σ d ((D9 zs (ps.map fun p=>(p.1,p.2.1,σ.val p.2.2))).map fun cs=> .v (.ag cs)):=by
 rw[BI rfl];simp only[St.pure];cases D9 zs (ps.map fun p=>(p.1,p.2.1,σ.val p.2.2))<;>rfl
theorem dZ{d x g n}:σ.step (.load d x g n)=AD σ d (CL σ g n (σ.val x)):=(BI rfl).trans tag
theorem dg{d x}:σ.step (.nilc d x)=AD σ d (Gl (σ.val x)):=(BI rfl).trans tag
theorem dP{d op x y}:σ.step (.bin d op x y)=AD σ d (CF op (σ.val x) (σ.val y)):=(BI rfl).trans tag
theorem dV{d g ks x y}:σ.step (.geq d g ks x y)=AD σ d (LX g ks (σ.val x) (σ.val y)):=(BI rfl).trans tag
theorem dO{d g x y}:σ.step (.beq d g x y)=AD σ d (Kx g (σ.val x) (σ.val y)):=(BI rfl).trans tag
theorem dq{d op x}:σ.step (.un d op x)=AD σ d (Kk op (σ.val x)):=(BI rfl).trans tag
def TJ(k:IntKind):AV→I AV
 | .v (.sc (.dat (.int _ n)))=>U (.v (.sc (.dat (.int k (k.wrap n)))))
 | _=>V
theorem dR{d kd x}:σ.step (.conv d kd x)=AD σ d (TJ kd (σ.val x)):=by
 rw[BI rfl];simp only[St.pure];generalize σ.val x=v
 cases v with
 | v x=>cases x with
  | sc c=>cases c with
   | dat d=>cases d<;>rfl
   | _=>rfl
  | ag=>rfl
 | _=>rfl
theorem dk{d sz x lo hi mx}:σ.step (.slc d sz x lo hi mx)=AD σ d (Dd σ sz (σ.val x) lo hi mx):=(BI rfl).trans tag
theorem dn{d x lo hi}:σ.step (.sslc d x lo hi)=AD σ d (HW σ (σ.val x) lo hi):=(BI rfl).trans tag
theorem dT{d x off}:σ.step (.faddr d x off)=AD σ d (Cs σ.rows off (σ.val x)):=(BI rfl).trans tag
theorem dU{d x off g n}:σ.step (.field d x off g n)=AD σ d (Hx off g n (σ.val x)):=(BI rfl).trans tag
theorem dW{d x i sz}:σ.step (.iaddr d x i sz)=AD σ d (Da σ.rows sz (σ.val x) (σ.val i)):=(BI rfl).trans tag
theorem dX{d x i}:σ.step (.idx d x i)=AD σ d (M2 (σ.val x) (σ.val i)):=(BI rfl).trans tag
theorem db{d t x}:σ.step (.mkif d t x)=AD σ d (HM t (σ.val x)):=(BI rfl).trans tag
theorem dp{d x t zc}:σ.step (.tass d x t zc)=AD σ d (Ms t zc (σ.val x)):=(BI rfl).trans tag
theorem dS{d x i}:σ.step (.extr d x i)=AD σ d (KJ i (σ.val x)):=(BI rfl).trans tag
theorem dY{d x}:σ.step (.len d x)=AD σ d (Ep σ.rows (σ.val x)):=(BI rfl).trans tag
theorem dj{d x}:σ.step (.sconv d x)=AD σ d (HV σ.rows (σ.val x)):=(BI rfl).trans tag
theorem dl{d x}:σ.step (.slen d x)=AD σ d (Mq (σ.val x)):=(BI rfl).trans tag
theorem dc{d m x y}:σ.step (.mm d m x y)=AD σ d (K3 m (σ.val x) (σ.val y)):=(BI rfl).trans tag
theorem da{d f caps}:σ.step (.mkf d f caps)=AD σ d ((Gi f (caps.map σ.val)).map fun c=> .v (.sc c)):=by
 rw[BI rfl];simp only[St.pure];cases Gi f (caps.map σ.val)<;>rfl
theorem A36(h:o.isMade=T):σ.step o=mk1 σ (σ.made o):=by
 rw[A35 h];cases σ.made o<;>rfl
theorem A38{x y n}:σ.step (.store x y n)=σ.storeV n (σ.val x) (σ.val y):=rfl
theorem A33{d sz b x y}:σ.step (.app d sz b x y)=σ.appV d sz b (σ.val x) (σ.val y):=rfl
theorem Vq{d v}:AD σ d (U v)=U (σ.set d v):=rfl
theorem XB{t:zC}{yes no:Prop}:AM (U (t,T)) σ yes no=BJ (σ.get t) yes no no:=by
 simp only[AM,BJ]
 all_goals
  generalize σ.get t=v
  cases v with
  | v x=>cases x with
   | sc c=>cases c with
    | dat d=>cases d<;>rfl
    | _=>rfl
   | ag=>rfl
  | _=>rfl
theorem XA{t:zC}{yes no:Prop}:AM (U (t,O)) σ yes no=BJ (σ.get t) no yes no:=by
 simp only[AM,BJ]
 all_goals
  generalize σ.get t=v
  cases v with
  | v x=>cases x with
   | sc c=>cases c with
    | dat d=>cases d with
     | bool b=>cases b<;>simp
     | _=>rfl
    | _=>rfl
   | ag=>rfl
  | _=>rfl
theorem uH{t}:go P (.ops ((U (t,T),o)::its)::k) Q .normal (U σ)=go P (.gd (σ.get t) T o its::k) Q .normal (U σ):=by
 show AM (U (t,T)) σ _ _=_
 rw[XB];show _=BJ _ _ _ _
 simp only[cond_true];congr 1<;>(cases o.dst<;>rfl)
theorem uG{t}:go P (.ops ((U (t,O),o)::its)::k) Q .normal (U σ)=go P (.gd (σ.get t) O o its::k) Q .normal (U σ):=by
 show AM (U (t,O)) σ _ _=_
 rw[XA];show _=BJ _ _ _ _
 simp only[cond_false];congr 1<;>(cases o.dst<;>rfl)
theorem uE{b:zB}:go P (.gd (.v (.sc (.dat (.bool b)))) b o its::k) Q .normal (U σ)=go P (.ops ((V,o)::its)::k) Q .normal (U σ):=by
 cases b<;>(simp only[go,AO,BJ,cond_true,cond_false]; simp[Bj,AM])
theorem uD:go P (.gd (.v (.sc (.dat (.bool O)))) T o its::k) Q .normal (U σ)=go P (.ops its::k) Q .normal (CR σ o.dst):=by
 simp only[go,AO,BJ,cond_true];cases o.dst<;>simp[Cg,CR]
theorem uC:go P (.gd (.v (.sc (.dat (.bool T)))) O o its::k) Q .normal (U σ)=go P (.ops its::k) Q .normal (CR σ o.dst):=by
 simp only[go,AO,BJ,cond_false];cases o.dst<;>simp[Cg,CR]
theorem uQ{d x}:go P (.ops ((V,.mv d x)::its)::k) Q .normal (U σ)=go P (.ops its::k) Q .normal (U (σ.set d (σ.val x))):=by
 rw[B8 rfl,de]
theorem uU{d c a b}:go P (.ops ((V,.pick d c a b)::its)::k) Q .normal (U σ)=go P (.ops its::k) Q .normal (AD σ d (Mp (σ.val c) (σ.val a) (σ.val b))):=by
 rw[B8 rfl,dh]
theorem tX{d zs ps}:go P (.ops ((V,.build d zs ps)::its)::k) Q .normal (U σ)=go P (.ops its::k) Q .normal (AD σ d ((D9 zs (ps.map fun p=>(p.1,p.2.1,σ.val p.2.2))).map fun cs=> .v (.ag cs))):=by
 rw[B8 rfl,dQ]
theorem uM{d x g n}:go P (.ops ((V,.load d x g n)::its)::k) Q .normal (U σ)=go P (.ops its::k) Q .normal (AD σ d (CL σ g n (σ.val x))):=by
 rw[B8 rfl,dZ]
theorem uS{d x}:go P (.ops ((V,.nilc d x)::its)::k) Q .normal (U σ)=go P (.ops its::k) Q .normal (AD σ d (Gl (σ.val x))):=by
 rw[B8 rfl,dg]
theorem tQ{d op x y}:go P (.ops ((V,.bin d op x y)::its)::k) Q .normal (U σ)=go P (.ops its::k) Q .normal (AD σ d (CF op (σ.val x) (σ.val y))):=by
 rw[B8 rfl,dP]
theorem uF{d g ks x y}:go P (.ops ((V,.geq d g ks x y)::its)::k) Q .normal (U σ)=go P (.ops its::k) Q .normal (AD σ d (LX g ks (σ.val x) (σ.val y))):=by
 rw[B8 rfl,dV]
theorem tP{d g x y}:go P (.ops ((V,.beq d g x y)::its)::k) Q .normal (U σ)=go P (.ops its::k) Q .normal (AD σ d (Kx g (σ.val x) (σ.val y))):=by
 rw[B8 rfl,dO]
theorem uu{d op x}:go P (.ops ((V,.un d op x)::its)::k) Q .normal (U σ)=go P (.ops its::k) Q .normal (AD σ d (Kk op (σ.val x))):=by
 rw[B8 rfl,dq]
theorem tf{d kd x}:go P (.ops ((V,.conv d kd x)::its)::k) Q .normal (U σ)=go P (.ops its::k) Q .normal (AD σ d (TJ kd (σ.val x))):=by
 rw[B8 rfl,dR]
theorem um{d sz x lo hi mx}:go P (.ops ((V,.slc d sz x lo hi mx)::its)::k) Q .normal (U σ)=go P (.ops its::k) Q .normal (AD σ d (Dd σ sz (σ.val x) lo hi mx)):=by
 rw[B8 rfl,dk]
theorem uq{d x lo hi}:go P (.ops ((V,.sslc d x lo hi)::its)::k) Q .normal (U σ)=go P (.ops its::k) Q .normal (AD σ d (HW σ (σ.val x) lo hi)):=by
 rw[B8 rfl,dn]
theorem tp{d x off}:go P (.ops ((V,.faddr d x off)::its)::k) Q .normal (U σ)=go P (.ops its::k) Q .normal (AD σ d (Cs σ.rows off (σ.val x))):=by
 rw[B8 rfl,dT]
theorem tq{d x off g n}:go P (.ops ((V,.field d x off g n)::its)::k) Q .normal (U σ)=go P (.ops its::k) Q .normal (AD σ d (Hx off g n (σ.val x))):=by
 rw[B8 rfl,dU]
theorem uI{d x i sz}:go P (.ops ((V,.iaddr d x i sz)::its)::k) Q .normal (U σ)=go P (.ops its::k) Q .normal (AD σ d (Da σ.rows sz (σ.val x) (σ.val i))):=by
 rw[B8 rfl,dW]
theorem tL{d x i len sz}:go P (.ops ((V,.aaddr d x i len sz)::its)::k) Q .normal (U σ)=go P (.ops its::k) Q .normal (AD σ d (MG len sz (σ.val x) (σ.val i))):=by
 rw[B8 rfl,(BI (o:= .aaddr d x i len sz) rfl).trans tag]
theorem uJ{d x i}:go P (.ops ((V,.idx d x i)::its)::k) Q .normal (U σ)=go P (.ops its::k) Q .normal (AD σ d (M2 (σ.val x) (σ.val i))):=by
 rw[B8 rfl,dX]
theorem uO{d t x}:go P (.ops ((V,.mkif d t x)::its)::k) Q .normal (U σ)=go P (.ops its::k) Q .normal (AD σ d (HM t (σ.val x))):=by
 rw[B8 rfl,db]
theorem ut{d x t zc}:go P (.ops ((V,.tass d x t zc)::its)::k) Q .normal (U σ)=go P (.ops its::k) Q .normal (AD σ d (Ms t zc (σ.val x))):=by
 rw[B8 rfl,dp]
theorem tz{id}:go P (.ops ((V,.frzb id)::its)::k) Q .normal (U σ)=go P (.ops its::k) Q .normal (σ.step (.frzb id)):=B8 rfl
theorem tn{d x i}:go P (.ops ((V,.extr d x i)::its)::k) Q .normal (U σ)=go P (.ops its::k) Q .normal (AD σ d (KJ i (σ.val x))):=by
 rw[B8 rfl,dS]
theorem uL{d x}:go P (.ops ((V,.len d x)::its)::k) Q .normal (U σ)=go P (.ops its::k) Q .normal (AD σ d (Ep σ.rows (σ.val x))):=by
 rw[B8 rfl,dY]
theorem ui{d x}:go P (.ops ((V,.sconv d x)::its)::k) Q .normal (U σ)=go P (.ops its::k) Q .normal (AD σ d (HV σ.rows (σ.val x))):=by
 rw[B8 rfl,dj]
theorem uo{d x}:go P (.ops ((V,.slen d x)::its)::k) Q .normal (U σ)=go P (.ops its::k) Q .normal (AD σ d (Mq (σ.val x))):=by
 rw[B8 rfl,dl]
theorem uP{d m x y}:go P (.ops ((V,.mm d m x y)::its)::k) Q .normal (U σ)=go P (.ops its::k) Q .normal (AD σ d (K3 m (σ.val x) (σ.val y))):=by
 rw[B8 rfl,dc]
theorem uN{d f caps}:go P (.ops ((V,.mkf d f caps)::its)::k) Q .normal (U σ)=go P (.ops its::k) Q .normal (AD σ d ((Gi f (caps.map σ.val)).map fun c=> .v (.sc c))):=by
 rw[B8 rfl,da]
theorem ur{x y n}:go P (.ops ((V,.store x y n)::its)::k) Q .normal (U σ)=go P (.ops its::k) Q .normal (σ.storeV n (σ.val x) (σ.val y)):=by
 rw[B8 rfl,A38]
theorem tN{d sz b x y}:go P (.ops ((V,.app d sz b x y)::its)::k) Q .normal (U σ)=go P (.ops its::k) Q .normal (σ.appV d sz b (σ.val x) (σ.val y)):=by
 rw[B8 rfl,A33]
theorem uW{d j id sz}:go P (.ops ((V,.ownb d j id sz)::its)::k) Q .normal (U σ)=go P (.ops its::k) Q .normal (σ.step (.ownb d j id sz)):=B8 rfl
theorem ue{a b}:go P (.ops ((V,.ren a b)::its)::k) Q .normal (U σ)=go P (.ops its::k) Q .normal (σ.step (.ren a b)):=B8 rfl
theorem tw{id}:go P (.ops ((V,.frz id)::its)::k) Q .normal (U σ)=go P (.ops its::k) Q .normal (σ.step (.frz id)):=B8 rfl
theorem tv{its:W AZ}:go P (.frs its::k) Q .normal (U σ)=go P (.fr (CZ its σ):: .dops its::k) Q .normal (U σ):=rfl
theorem tu{b:zB}(hb:b=T)(h:go P k Q .normal (U σ)):go P (.fr b::k) Q .normal (U σ):=⟨hb,h⟩
theorem tO{its:W AZ}:go P (.dops ((V,V,o)::its)::k) Q .normal (U σ)=go P (.ops [(V,o)]:: .frs its::k) Q .normal (U σ):=rfl
theorem XE{α:Type}{l:W α}{f:α→zB}(h:∀x,f x=T):l.all f=T:=zG.2 fun x _=>h x
def RJ(τ σ:St)(N:W zC)(o:AOp)(K:St→Prop):Prop:=
 match τ.pure o with
 | some (d,v)=>v.avoids N=T∧K (σ.set d v)
 | none=>match τ.made o with
  | some m=>(match m with | .box _ cs=>cs.all (·.avoids N) | _=>T)=T∧(match σ.make m with
   | some σ'=>K σ'
   | none=>False)
  | none=>False
theorem Tk{K:St→Prop}(hc:o.isCall=O):GB P N o K σ=RJ (σ.less N) σ N o K:=by
 cases o<;>first
  | rfl
  | (simp[AOp.isCall] at hc; done)
theorem A34(hc:o.isCall=O)(hg:o.gentle=T):σ.step o=(match σ.pure o with
  | some (d,v)=>U (σ.set d v)
  | none=>match σ.made o with
   | some m=>σ.make m
   | none=>V):=by
 cases o<;>first
  | rfl
  | (simp[AOp.isCall] at hc; done)
  | (simp[AOp.gentle] at hg; done)
theorem lg{K:St→Prop}(hg:o.gentle=T)(hc:o.isCall=O):GB P [] o K σ=AY P o K σ:=by
 cases hc:o.isCall with
 | true=>simp_all
 | false=>
  rw[Tk hc,XL (by rintro _ _ _ rfl; simp[AOp.isCall] at hc) (by rintro _ _ _ rfl; simp[AOp.isCall] at hc),A34 hc hg];unfold RJ;show(match σ.pure o with | some (d,v)=>v.avoids []=T∧K (σ.set d v) | none=>_)=_
  cases hp:σ.pure o with
  | some p=>
   have hav:p.2.avoids []=T:=XE fun c=>rfl
   simp only[Cg,hav,true_and]
  | none=>
   show(match σ.made o with | some m=>_ | none=>False)=_
   cases hm:σ.made o with
   | none=>rfl
   | some m=>
    cases m with
    | box d cs=>
     have hav:cs.all (·.avoids [])=T:=XE fun c=>rfl
     show(cs.all (·.avoids [])=T∧(match σ.make (.box d cs) with | some σ'=>K σ' | none=>False))=Cg (σ.make (.box d cs)) K
     rw[hav];cases σ.make (.box d cs)<;>simp[Cg]
    | row d sz es=>
     show(T=T∧(match σ.make (.row d sz es) with | some σ'=>K σ' | none=>False))=Cg (σ.make (.row d sz es)) K
     cases σ.make (.row d sz es)<;>simp[Cg]
theorem Bo{its:W AZ}(hg:o.gentle=T)(hc:o.isCall=O):go P (.dops ((U [],V,o)::its)::k) Q .normal (U σ)=go P (.ops [(V,o)]:: .dops its::k) Q .normal (U σ):=
 lg hg hc
def Bz(σ:St)(N:W zC):I zC→I St→I St
 | some d,U τ=>bif (τ.get d).avoids N then U (σ.set d (τ.get d)) else V
 | _,_=>V
theorem BC{its:W AZ}(hp:o.isPure=T):go P (.dops ((U N,V,o)::its)::k) Q .normal (U σ)=go P (.dops its::k) Q .normal (Bz σ N o.dst ((σ.less N).step o)):=by
 have hc:o.isCall=O:=by cases o<;>first | rfl | (simp[AOp.isPure] at hp; done)
 show GB P N o _ σ=_
 rw[Tk hc,di hp];unfold RJ;cases h:(σ.less N).pure o with
 | some p=>
  obtain⟨d,v⟩:=p;rw[(Vp h).1];show(v.avoids N=T∧_)=go P (.dops its::k) Q .normal (bif (((σ.less N).set d v).get d).avoids N then U (σ.set d (((σ.less N).set d v).get d)) else V)
  rw[St.get_set_same];cases v.avoids N with
  | true=>simp[go,AO]
  | false=>simp[go]
 | none=>
  have hm:(σ.less N).made o=V:=by cases o<;>first | rfl | (simp[AOp.isPure] at hp; done)
  show(match (σ.less N).made o with | some m=>_ | none=>False)=_
  rw[hm];cases o.dst<;>rfl
def bk(N:W zC):Mk→zB
 | .box _ cs=>cs.all (·.avoids N)
 | _=>T
theorem tj{its:W AZ}{m:Mk}(hm:(σ.less N).made o=U m)(hv:bk N m=T){σ':St}(hmk:σ.make m=U σ')(h:go P (.dops its::k) Q .normal (U σ')) :
  go P (.dops ((U N,V,o)::its)::k) Q .normal (U σ):=by
 have hc:o.isCall=O:=by cases o<;>first | rfl | (simp[St.made] at hm; done)
 show GB P N o _ σ
 rw[Tk hc];unfold RJ;rw[bZ hm];simp only[hm,hmk];cases m with
 | box d cs=>exact⟨hv,h⟩
 | row d sz es=>exact⟨rfl,h⟩
theorem U5{its:W AZ}{d f args}{xs:W DV}{rs:W R1}(hf:FC P f xs rs)(h1:(σ.less N).toDVs args=U xs)(h2:Cu rs)(h3:σ.fresh d=T)(h4:(rs.flatMap R1.cells).length≤64)(h5:go P (.dops its::k) Q .normal (U (σ.inst d rs))) :
  go P (.dops ((U N,V,.call d f args)::its)::k) Q .normal (U σ):=⟨xs,rs,.inl ⟨h1,.inl h2⟩,hf,h3,h4,h5⟩
theorem ti{its:W AZ}{d x args f caps}{xs:W DV}{rs:W R1}(hf:FC P f (xs++caps.map .sc) rs)(h0:AW P f=T)(hx:(σ.less N).toDV ((σ.less N).val x)=U (.sc (.clo f caps)))(h1:(σ.less N).toDVs args=U xs)(h2:Cu rs)(h3:σ.fresh d=T)(h4:(rs.flatMap R1.cells).length≤64)
  (h5:go P (.dops its::k) Q .normal (U (σ.inst d rs))):go P (.dops ((U N,V,.callv d x args)::its)::k) Q .normal (U σ):=⟨f,caps,xs,rs,.inl ⟨hx,h1,h2⟩,h0,hf,h3,h4,h5⟩
theorem th{its:W AZ}{d f args}{xs:W DV}{rs:W R1}(hf:FC P f xs rs)(h1:(σ.less N).toIVs args=U xs)(h3:σ.fresh d=T)(h4:(rs.flatMap R1.cells).length≤64)(h5:go P (.dops its::k) Q .normal (U (σ.inst d rs))) :
  go P (.dops ((U N,V,.call d f args)::its)::k) Q .normal (U σ):=⟨xs,rs,.inr h1,hf,h3,h4,h5⟩
end
end
section
section
variable {P : Program}
end
theorem sS{α:Type}{n:zC}:A1 ([]:W (zC × α)) n=V:=rfl
theorem sR{α:Type}{k n:zC}{v:α}{r:W (zC × α)}:A1 ((k,v)::r) n=bif k==n then U v else A1 r n:=rfl
theorem A1t{α:Type}{n:zC}{v:α}:put ([]:W (zC × α)) n v= [(n,v)]:=rfl
theorem A1s{α:Type}{k n:zC}{u v:α}{r:W (zC × α)}:put ((k,u)::r) n v=bif k==n then(k,v)::r else(k,u)::put r n v:=rfl
theorem A5z{σ:St}{n:zC}:σ.val (.t n)=σ.get n:=rfl
theorem A5y{σ:St}{v:AV}:σ.val (.c v)=v:=rfl
theorem tH{env bx rows}{k:zC}:(St.mk env bx rows).get k=(A1 env k).getD .undef:=rfl
theorem A23{env bx rows}{k:zC}{v:AV}:(St.mk env bx rows).set k v=⟨put env k v,bx,rows⟩:=rfl
theorem getD_some{α:Type}{a b:α}:(U a).getD b=a:=rfl
theorem getD_none{α:Type}{b:α}:(V:I α).getD b=b:=rfl
theorem map_some{α β:Type}{f:α→β}{a:α}:(U a).map f=U (f a):=rfl
theorem map_none{α β:Type}{f:α→β}:(V:I α).map f=V:=rfl
theorem nu{α:Type}{a b:α}:cond T a b=a:=rfl
theorem nr{α:Type}{a b:α}:cond O a b=b:=rfl
theorem A3b{s:W UInt8}:Mq (.v (.sc (.dat (.str s))))=U (.v (.sc (.dat (.int .i64 s.length)))):=rfl
theorem yd{rs:Rows}{es:W (W D)}:Ep rs (.v (.sc (.dat (.sl es))))=U (.v (.sc (.dat (.int .i64 es.length)))):=rfl
theorem A2u{rs:Rows}{es:W (W D)}:HV rs (.v (.sc (.dat (.sl es))))=(Dk es).map fun b=> .v (.sc (.dat (.str b))):=rfl
theorem A2t{rs:Rows}{id:zC}:HV rs (.v (.sc (.own id)))=match A1 rs id with | some (_,es)=>(Dk es).map fun b=> .v (.sc (.dat (.str b))) | none=>V:=rfl
theorem ya{rs:Rows}:Ep rs (.v (.sc .nil))=U (.v (.sc (.dat (.int .i64 0)))):=rfl
theorem nx{k k':IntKind}{n:Int}:TJ k (.v (.sc (.dat (.int k' n))))=U (.v (.sc (.dat (.int k (k.wrap n))))):=rfl
theorem mq{op:BinOp}{k:IntKind}{x y:Int}:CF op (.v (.sc (.dat (.int k x)))) (.v (.sc (.dat (.int k y))))=(AU op k x y).map fun d=> .v (.sc (.dat d)):=by simp[CF]
theorem nA{op:BinOp}{x y:W UInt8}:CF op (.v (.sc (.dat (.str x)))) (.v (.sc (.dat (.str y))))=(HX op x y).map fun d=> .v (.sc (.dat d)):=rfl
theorem wb{k:IntKind}{x y:Int}:AU .add k x y=U (.int k (k.wrap (x+y))):=rfl
theorem wz{k:IntKind}{x y:Int}:AU .sub k x y=U (.int k (k.wrap (x - y))):=rfl
theorem wk{k:IntKind}{x y:Int}:AU .mul k x y=U (.int k (k.wrap (x*y))):=rfl
theorem wo{k:IntKind}{x y:Int}:AU .quo k x y=bif y==0 then V else U (.int k (k.wrap (x.tdiv y))):=by
 by_cases h:y=0
 ·simp[AU,h]
 ·have h':(y==0)=O:=by simpa using h
  simp[AU,h,h']
theorem wq{k:IntKind}{x y:Int}:AU .rem k x y=bif y==0 then V else U (.int k (k.wrap (x.tmod y))):=by
 by_cases h:y=0
 ·simp[AU,h]
 ·have h':(y==0)=O:=by simpa using h
  simp[AU,h,h']
theorem we{k:IntKind}{x y:Int}:AU .eql k x y=U (.bool (x==y)):=rfl
theorem wm{k:IntKind}{x y:Int}:AU .neq k x y=U (.bool (x !=y)):=rfl
theorem wj{k:IntKind}{x y:Int}:AU .lss k x y=U (.bool (decide (x<y))):=rfl
theorem wi{k:IntKind}{x y:Int}:AU .leq k x y=U (.bool (decide (x≤y))):=rfl
theorem wh{k:IntKind}{x y:Int}:AU .gtr k x y=U (.bool (decide (y<x))):=rfl
theorem wg{k:IntKind}{x y:Int}:AU .geq k x y=U (.bool (decide (y≤x))):=rfl
theorem A4h{x y:W UInt8}:HX .eql x y=U (.bool (x==y)):=rfl
theorem A4i{x y:W UInt8}:HX .neq x y=U (.bool (!(x==y))):=rfl
theorem A5q{b:zB}:Kk .not (.v (.sc (.dat (.bool b))))=U (.v (.sc (.dat (.bool (!b))))):=rfl
theorem vj{s:W UInt8}{k:IntKind}{i:Int}:M2 (.v (.sc (.dat (.str s)))) (.v (.sc (.dat (.int k i))))=(ix s i).map fun b=> .v (.sc (.dat (.int .u8 b.toNat))):=rfl
theorem xC{α:Type}{l:W α}{i:zC}(h:i<l.length):ix l (i:Int)=U l[i]:=by simp[ix,h]
theorem sO{off:zC}{g:zB}{n:zC}{cs:W AC}:Hx off g n (.v (.ag cs))=CV cs off g n:=rfl
theorem nT{cs:W AC}{off n:zC}:CV cs off O n=(cs[off]?).map fun c=> .v (.sc c):=rfl
theorem wX{env bx rows}{d:zC}{rs:W R1}:(St.mk env bx rows).inst d rs=⟨put env d (BK d rs),bx,Bi rows (BH d rs)⟩:=rfl
theorem wP{g:zC}{r:R1}:BK g [r]= .v (r.inst g 0):=rfl
theorem wQ{g:zC}{r r':R1}{rs:W R1}:BK g (r::r'::rs)= .tup (Dt g 0 (r::r'::rs)):=rfl
theorem wU{g j:zC}:Dt g j []= []:=rfl
theorem wT{g j:zC}{r:R1}{rs:W R1}:Dt g j (r::rs)=r.inst g j::Dt g (j+r.width) rs:=rfl
theorem A8k{c:RC}:R1.width (.sc c)=1:=rfl
theorem A8j{cs:W RC}:R1.width (.ag cs)=cs.length:=rfl
theorem wa{g j:zC}{d:D}:RC.inst g j (.v d)= .dat d:=rfl
theorem wY{g j sz:zC}{es:W (W D)}:RC.inst g j (.o sz es)= .own (g*64+j):=rfl
theorem wZ{g j:zC}{c:RC}:R1.inst g j (.sc c)= .sc (c.inst g j):=rfl
theorem wW{g j:zC}{cs:W RC}:R1.inst g j (.ag cs)= .ag (Eo g j cs):=rfl
theorem wS{g j:zC}:Eo g j []= []:=rfl
theorem wR{g j:zC}{c:RC}{cs:W RC}:Eo g j (c::cs)=c.inst g j::Eo g (j+1) cs:=rfl
theorem A2d{g:zC}:BH g []= []:=rfl
theorem A2e{g:zC}{r:R1}:BH g [r]=BP g 0 r.cells:=by simp[BH]
theorem A2g{g:zC}{r r':R1}:BH g [r,r']=BP g 0 (r.cells++r'.cells):=by simp[BH]
theorem nV{c:RC}:R1.cells (.sc c)= [c]:=rfl
theorem nR{cs:W RC}:R1.cells (.ag cs)=cs:=rfl
theorem A2i{g j:zC}:BP g j []= []:=rfl
theorem A2k{g j:zC}{d:D}{cs:W RC}:BP g j (.v d::cs)=BP g (j+1) cs:=rfl
theorem A2j{g j sz:zC}{es:W (W D)}{cs:W RC}:BP g j (.o sz es::cs)=(g*64+j,sz,es)::BP g (j+1) cs:=rfl
theorem A1p{rows:Rows}:Bi rows []=rows:=rfl
theorem A1o{rows r:Rows}{k:zC}{x:zC × W (W D)}:Bi rows ((k,x)::r)=put (Bi rows r) k x:=rfl
theorem mB{α:Type}{l:W α}: []++l=l:=rfl
theorem mA{α:Type}{a:α}{l m:W α}:(a::l)++m=a::(l++m):=rfl
theorem nI{x:Int}:(x !=x)=O:=by simp
theorem md{x:Int}:(x==x)=T:=by simp
section
variable {P : Program} {k : W Fr} {Q : Xl → St → Prop} {σ : St} {its : W AZ} {n : zC} {N : W zC}
theorem oc{d x}:go P (.dops ((U [],V,.mv d x)::its)::k) Q .normal (U σ)=go P (.ops [(V,.mv d x)]:: .dops its::k) Q .normal (U σ):=Bo rfl rfl
theorem oe{d c a b}:go P (.dops ((U [],V,.pick d c a b)::its)::k) Q .normal (U σ)=go P (.ops [(V,.pick d c a b)]:: .dops its::k) Q .normal (U σ):=Bo rfl rfl
theorem oM{d zs ps}:go P (.dops ((U [],V,.build d zs ps)::its)::k) Q .normal (U σ)=go P (.ops [(V,.build d zs ps)]:: .dops its::k) Q .normal (U σ):=Bo rfl rfl
theorem oV{d x g n}:go P (.dops ((U [],V,.load d x g n)::its)::k) Q .normal (U σ)=go P (.ops [(V,.load d x g n)]:: .dops its::k) Q .normal (U σ):=Bo rfl rfl
theorem od{d x}:go P (.dops ((U [],V,.nilc d x)::its)::k) Q .normal (U σ)=go P (.ops [(V,.nilc d x)]:: .dops its::k) Q .normal (U σ):=Bo rfl rfl
theorem oJ{d op x y}:go P (.dops ((U [],V,.bin d op x y)::its)::k) Q .normal (U σ)=go P (.ops [(V,.bin d op x y)]:: .dops its::k) Q .normal (U σ):=Bo rfl rfl
theorem oR{d g ks x y}:go P (.dops ((U [],V,.geq d g ks x y)::its)::k) Q .normal (U σ)=go P (.ops [(V,.geq d g ks x y)]:: .dops its::k) Q .normal (U σ):=Bo rfl rfl
theorem oI{d g x y}:go P (.dops ((U [],V,.beq d g x y)::its)::k) Q .normal (U σ)=go P (.ops [(V,.beq d g x y)]:: .dops its::k) Q .normal (U σ):=Bo rfl rfl
theorem oo{d op x}:go P (.dops ((U [],V,.un d op x)::its)::k) Q .normal (U σ)=go P (.ops [(V,.un d op x)]:: .dops its::k) Q .normal (U σ):=Bo rfl rfl
theorem oN{d kd x}:go P (.dops ((U [],V,.conv d kd x)::its)::k) Q .normal (U σ)=go P (.ops [(V,.conv d kd x)]:: .dops its::k) Q .normal (U σ):=Bo rfl rfl
theorem oi{d sz x lo hi mx}:go P (.dops ((U [],V,.slc d sz x lo hi mx)::its)::k) Q .normal (U σ)=go P (.ops [(V,.slc d sz x lo hi mx)]:: .dops its::k) Q .normal (U σ):=Bo rfl rfl
theorem ol{d x lo hi}:go P (.dops ((U [],V,.sslc d x lo hi)::its)::k) Q .normal (U σ)=go P (.ops [(V,.sslc d x lo hi)]:: .dops its::k) Q .normal (U σ):=Bo rfl rfl
theorem oP{d x off}:go P (.dops ((U [],V,.faddr d x off)::its)::k) Q .normal (U σ)=go P (.ops [(V,.faddr d x off)]:: .dops its::k) Q .normal (U σ):=Bo rfl rfl
theorem oQ{d x off g n}:go P (.dops ((U [],V,.field d x off g n)::its)::k) Q .normal (U σ)=go P (.ops [(V,.field d x off g n)]:: .dops its::k) Q .normal (U σ):=Bo rfl rfl
theorem oS{d x i sz}:go P (.dops ((U [],V,.iaddr d x i sz)::its)::k) Q .normal (U σ)=go P (.ops [(V,.iaddr d x i sz)]:: .dops its::k) Q .normal (U σ):=Bo rfl rfl
theorem oG{d x i len sz}:go P (.dops ((U [],V,.aaddr d x i len sz)::its)::k) Q .normal (U σ)=go P (.ops [(V,.aaddr d x i len sz)]:: .dops its::k) Q .normal (U σ):=Bo rfl rfl
theorem oT{d x i}:go P (.dops ((U [],V,.idx d x i)::its)::k) Q .normal (U σ)=go P (.ops [(V,.idx d x i)]:: .dops its::k) Q .normal (U σ):=Bo rfl rfl
theorem oO{d x i}:go P (.dops ((U [],V,.extr d x i)::its)::k) Q .normal (U σ)=go P (.ops [(V,.extr d x i)]:: .dops its::k) Q .normal (U σ):=Bo rfl rfl
theorem oX{d t x}:go P (.dops ((U [],V,.mkif d t x)::its)::k) Q .normal (U σ)=go P (.ops [(V,.mkif d t x)]:: .dops its::k) Q .normal (U σ):=Bo rfl rfl
theorem om{d x t zc}:go P (.dops ((U [],V,.tass d x t zc)::its)::k) Q .normal (U σ)=go P (.ops [(V,.tass d x t zc)]:: .dops its::k) Q .normal (U σ):=Bo rfl rfl
theorem oU{d x}:go P (.dops ((U [],V,.len d x)::its)::k) Q .normal (U σ)=go P (.ops [(V,.len d x)]:: .dops its::k) Q .normal (U σ):=Bo rfl rfl
theorem oj{d x}:go P (.dops ((U [],V,.slen d x)::its)::k) Q .normal (U σ)=go P (.ops [(V,.slen d x)]:: .dops its::k) Q .normal (U σ):=Bo rfl rfl
theorem oh{d x}:go P (.dops ((U [],V,.sconv d x)::its)::k) Q .normal (U σ)=go P (.ops [(V,.sconv d x)]:: .dops its::k) Q .normal (U σ):=Bo rfl rfl
theorem oZ{d m x y}:go P (.dops ((U [],V,.mm d m x y)::its)::k) Q .normal (U σ)=go P (.ops [(V,.mm d m x y)]:: .dops its::k) Q .normal (U σ):=Bo rfl rfl
theorem oW{d f caps}:go P (.dops ((U [],V,.mkf d f caps)::its)::k) Q .normal (U σ)=go P (.ops [(V,.mkf d f caps)]:: .dops its::k) Q .normal (U σ):=Bo rfl rfl
theorem oK{d x}:go P (.dops ((U [],V,.box d x)::its)::k) Q .normal (U σ)=go P (.ops [(V,.box d x)]:: .dops its::k) Q .normal (U σ):=Bo rfl rfl
theorem oH{d cs}:go P (.dops ((U [],V,.alloc d cs)::its)::k) Q .normal (U σ)=go P (.ops [(V,.alloc d cs)]:: .dops its::k) Q .normal (U σ):=Bo rfl rfl
theorem oL{d sz zs len ps}:go P (.dops ((U [],V,.bslice d sz zs len ps)::its)::k) Q .normal (U σ)=go P (.ops [(V,.bslice d sz zs len ps)]:: .dops its::k) Q .normal (U σ):=Bo rfl rfl
theorem oY{d sz b zs x y}:go P (.dops ((U [],V,.mksl d sz b zs x y)::its)::k) Q .normal (U σ)=go P (.ops [(V,.mksl d sz b zs x y)]:: .dops its::k) Q .normal (U σ):=Bo rfl rfl
theorem pK{d x}:go P (.dops ((U (n::N),V,.mv d x)::its)::k) Q .normal (U σ)=go P (.dops its::k) Q .normal (Bz σ (n::N) (U d) ((σ.less (n::N)).step (.mv d x))):=BC rfl
theorem pN{d c a b}:go P (.dops ((U (n::N),V,.pick d c a b)::its)::k) Q .normal (U σ)=go P (.dops its::k) Q .normal (Bz σ (n::N) (U d) ((σ.less (n::N)).step (.pick d c a b))):=BC rfl
theorem ov{d zs ps}:go P (.dops ((U (n::N),V,.build d zs ps)::its)::k) Q .normal (U σ)=go P (.dops its::k) Q .normal (Bz σ (n::N) (U d) ((σ.less (n::N)).step (.build d zs ps))):=BC rfl
theorem pF{d x g m}:go P (.dops ((U (n::N),V,.load d x g m)::its)::k) Q .normal (U σ)=go P (.dops its::k) Q .normal (Bz σ (n::N) (U d) ((σ.less (n::N)).step (.load d x g m))):=BC rfl
theorem pM{d x}:go P (.dops ((U (n::N),V,.nilc d x)::its)::k) Q .normal (U σ)=go P (.dops its::k) Q .normal (Bz σ (n::N) (U d) ((σ.less (n::N)).step (.nilc d x))):=BC rfl
theorem ou{d op x y}:go P (.dops ((U (n::N),V,.bin d op x y)::its)::k) Q .normal (U σ)=go P (.dops its::k) Q .normal (Bz σ (n::N) (U d) ((σ.less (n::N)).step (.bin d op x y))):=BC rfl
theorem pA{d g ks x y}:go P (.dops ((U (n::N),V,.geq d g ks x y)::its)::k) Q .normal (U σ)=go P (.dops its::k) Q .normal (Bz σ (n::N) (U d) ((σ.less (n::N)).step (.geq d g ks x y))):=BC rfl
theorem ot{d g x y}:go P (.dops ((U (n::N),V,.beq d g x y)::its)::k) Q .normal (U σ)=go P (.dops its::k) Q .normal (Bz σ (n::N) (U d) ((σ.less (n::N)).step (.beq d g x y))):=BC rfl
theorem pT{d op x}:go P (.dops ((U (n::N),V,.un d op x)::its)::k) Q .normal (U σ)=go P (.dops its::k) Q .normal (Bz σ (n::N) (U d) ((σ.less (n::N)).step (.un d op x))):=BC rfl
theorem ow{d kd x}:go P (.dops ((U (n::N),V,.conv d kd x)::its)::k) Q .normal (U σ)=go P (.dops its::k) Q .normal (Bz σ (n::N) (U d) ((σ.less (n::N)).step (.conv d kd x))):=BC rfl
theorem pP{d sz x lo hi mx}:go P (.dops ((U (n::N),V,.slc d sz x lo hi mx)::its)::k) Q .normal (U σ)=go P (.dops its::k) Q .normal (Bz σ (n::N) (U d) ((σ.less (n::N)).step (.slc d sz x lo hi mx))):=BC rfl
theorem pR{d x lo hi}:go P (.dops ((U (n::N),V,.sslc d x lo hi)::its)::k) Q .normal (U σ)=go P (.dops its::k) Q .normal (Bz σ (n::N) (U d) ((σ.less (n::N)).step (.sslc d x lo hi))):=BC rfl
theorem oy{d x off}:go P (.dops ((U (n::N),V,.faddr d x off)::its)::k) Q .normal (U σ)=go P (.dops its::k) Q .normal (Bz σ (n::N) (U d) ((σ.less (n::N)).step (.faddr d x off))):=BC rfl
theorem oz{d x off g m}:go P (.dops ((U (n::N),V,.field d x off g m)::its)::k) Q .normal (U σ)=go P (.dops its::k) Q .normal (Bz σ (n::N) (U d) ((σ.less (n::N)).step (.field d x off g m))):=BC rfl
theorem pC{d x i sz}:go P (.dops ((U (n::N),V,.iaddr d x i sz)::its)::k) Q .normal (U σ)=go P (.dops its::k) Q .normal (Bz σ (n::N) (U d) ((σ.less (n::N)).step (.iaddr d x i sz))):=BC rfl
theorem oq{d x i len sz}:go P (.dops ((U (n::N),V,.aaddr d x i len sz)::its)::k) Q .normal (U σ)=go P (.dops its::k) Q .normal (Bz σ (n::N) (U d) ((σ.less (n::N)).step (.aaddr d x i len sz))):=BC rfl
theorem pD{d x i}:go P (.dops ((U (n::N),V,.idx d x i)::its)::k) Q .normal (U σ)=go P (.dops its::k) Q .normal (Bz σ (n::N) (U d) ((σ.less (n::N)).step (.idx d x i))):=BC rfl
theorem ox{d x i}:go P (.dops ((U (n::N),V,.extr d x i)::its)::k) Q .normal (U σ)=go P (.dops its::k) Q .normal (Bz σ (n::N) (U d) ((σ.less (n::N)).step (.extr d x i))):=BC rfl
theorem pH{d t x}:go P (.dops ((U (n::N),V,.mkif d t x)::its)::k) Q .normal (U σ)=go P (.dops its::k) Q .normal (Bz σ (n::N) (U d) ((σ.less (n::N)).step (.mkif d t x))):=BC rfl
theorem pS{d x t zc}:go P (.dops ((U (n::N),V,.tass d x t zc)::its)::k) Q .normal (U σ)=go P (.dops its::k) Q .normal (Bz σ (n::N) (U d) ((σ.less (n::N)).step (.tass d x t zc))):=BC rfl
theorem pE{d x}:go P (.dops ((U (n::N),V,.len d x)::its)::k) Q .normal (U σ)=go P (.dops its::k) Q .normal (Bz σ (n::N) (U d) ((σ.less (n::N)).step (.len d x))):=BC rfl
theorem pQ{d x}:go P (.dops ((U (n::N),V,.slen d x)::its)::k) Q .normal (U σ)=go P (.dops its::k) Q .normal (Bz σ (n::N) (U d) ((σ.less (n::N)).step (.slen d x))):=BC rfl
theorem pO{d x}:go P (.dops ((U (n::N),V,.sconv d x)::its)::k) Q .normal (U σ)=go P (.dops its::k) Q .normal (Bz σ (n::N) (U d) ((σ.less (n::N)).step (.sconv d x))):=BC rfl
theorem pJ{d m x y}:go P (.dops ((U (n::N),V,.mm d m x y)::its)::k) Q .normal (U σ)=go P (.dops its::k) Q .normal (Bz σ (n::N) (U d) ((σ.less (n::N)).step (.mm d m x y))):=BC rfl
theorem pG{d f caps}:go P (.dops ((U (n::N),V,.mkf d f caps)::its)::k) Q .normal (U σ)=go P (.dops its::k) Q .normal (Bz σ (n::N) (U d) ((σ.less (n::N)).step (.mkf d f caps))):=BC rfl
theorem pV{t:zC}{o:AOp}{N:W zC}:go P (.dops ((U N,U (t,T),o)::its)::k) Q .normal (U σ)=go P (.gdd (σ.get t) T (U N) o its::k) Q .normal (U σ):=by
 show AM (U (t,T)) σ _ _=_
 rw[XB];show _=BJ _ _ _ _
 simp only[cond_true];congr 1<;>(cases o.dst<;>rfl)
theorem pU{t:zC}{o:AOp}{N:W zC}:go P (.dops ((U N,U (t,O),o)::its)::k) Q .normal (U σ)=go P (.gdd (σ.get t) O (U N) o its::k) Q .normal (U σ):=by
 show AM (U (t,O)) σ _ _=_
 rw[XA];show _=BJ _ _ _ _
 simp only[cond_false];congr 1<;>(cases o.dst<;>rfl)
theorem pc{b:zB}{o:AOp}{N:I (W zC)}:go P (.gdd (.v (.sc (.dat (.bool b)))) b N o its::k) Q .normal (U σ)=go P (.dops ((N,V,o)::its)::k) Q .normal (U σ):=by
 cases b<;>simp[go,AO,BJ]
theorem pZ{o:AOp}{N:I (W zC)}:go P (.gdd (.v (.sc (.dat (.bool O)))) T N o its::k) Q .normal (U σ)=go P (.dops its::k) Q .normal (CR σ o.dst):=by
 simp only[go,AO,BJ,cond_true];cases o.dst<;>simp[Cg,CR]
theorem pY{o:AOp}{N:I (W zC)}:go P (.gdd (.v (.sc (.dat (.bool T)))) O N o its::k) Q .normal (U σ)=go P (.dops its::k) Q .normal (CR σ o.dst):=by
 simp only[go,AO,BJ,cond_false];cases o.dst<;>simp[Cg,CR]
theorem pX{w:zB}{o:AOp}{N:I (W zC)}:go P (.gdd .no w N o its::k) Q .normal (U σ)=go P (.dops its::k) Q .normal (CR σ o.dst):=by
 simp only[go,AO,BJ];cases o.dst<;>simp[Cg,CR]
theorem uB{w:zB}{o:AOp}{its:W AItem}:go P (.gd .no w o its::k) Q .normal (U σ)=go P (.ops its::k) Q .normal (CR σ o.dst):=by
 simp only[go,AO,BJ];cases o.dst<;>simp[Cg,CR]
end
def DN(k:zC):W zC→zB
 | []=>O
 | n::r=>bif k==n then T else DN k r
def Dv{α:Type}(f:zC→zC)(N:W zC):W (zC × α)→W (zC × α)
 | []=> []
 | (k,v)::r=>bif DN (f k) N then Dv f N r else(k,v)::Dv f N r
theorem PP(k:zC):∀N:W zC,DN k N=N.contains k
 | []=>rfl
 | n::r=>by
  simp only[DN,yA,PP k r];cases k==n<;>rfl
theorem UP{α:Type}(f:zC→zC)(N:W zC):∀l:W (zC × α),Dv f N l=l.filter fun p=> !N.contains (f p.1)
 | []=>rfl
 | (k,v)::r=>by
  simp only[Dv,PP,List.filter_cons,UP f N r];cases N.contains (f k)<;>rfl
theorem yi{env bx rows}{n:zC}{N:W zC}:(St.mk env bx rows).less (n::N)=⟨env,Dv id (n::N) bx,Dv (· / 64) (n::N) rows⟩:=by
 rw[UP,UP];rfl
theorem zj{k:zC}:DN k []=O:=rfl
theorem zi{k n:zC}{r:W zC}:DN k (n::r)=bif k==n then T else DN k r:=rfl
theorem xF{α:Type}{f:zC→zC}{N:W zC}:Dv f N ([]:W (zC × α))= []:=rfl
theorem xE{α:Type}{N:W zC}{k:zC}{v:α}{r:W (zC × α)}:Dv id N ((k,v)::r)=bif DN k N then Dv id N r else(k,v)::Dv id N r:=rfl
theorem xD{α:Type}{N:W zC}{k:zC}{v:α}{r:W (zC × α)}:Dv (· / 64) N ((k,v)::r)=bif DN (k / 64) N then Dv (· / 64) N r else(k,v)::Dv (· / 64) N r:=rfl
theorem A41{σ τ:St}{N:W zC}{d:zC}:Bz σ N (U d) (U τ)=bif (τ.get d).avoids N then U (σ.set d (τ.get d)) else V:=rfl
theorem A5s{σ:St}{d:zC}:CR σ (U d)=U (σ.set d .no):=rfl
theorem mI{N:W zC}{d:D}:AV.avoids N (.v (.sc (.dat d)))=T:=by simp[AV.avoids,AV.cells,V1.cells,AC.avoids,AC.uses]
theorem mJ{N:W zC}:AV.avoids N (.v (.sc .nil))=T:=by simp[AV.avoids,AV.cells,V1.cells,AC.avoids,AC.uses]
theorem mL{N:W zC}{i:zC}:AV.avoids N (.v (.sc (.own i)))= !DN (i / 64) N:=by
 rw[PP]
 induction N with
 | nil=>rfl
 | cons n N ih=>
  simp only[AV.avoids,AV.cells,V1.cells,AC.avoids,AC.uses,zW,zV,zP,yA] at ih ⊢
  rw[ih];cases(i / 64==n)<;>simp
theorem mM{N:W zC}{i o:zC}:AV.avoids N (.v (.sc (.pb i o)))= !DN i N:=by
 rw[PP]
 induction N with
 | nil=>rfl
 | cons n N ih=>
  simp only[AV.avoids,AV.cells,V1.cells,AC.avoids,AC.uses,zW,zV,zP,yA] at ih ⊢
  rw[ih];cases(i==n)<;>simp
theorem mN{N:W zC}{i x o:zC}:AV.avoids N (.v (.sc (.pe i x o)))= !DN (i / 64) N:=by
 rw[PP]
 induction N with
 | nil=>rfl
 | cons n N ih=>
  simp only[AV.avoids,AV.cells,V1.cells,AC.avoids,AC.uses,zW,zV,zP,yA] at ih ⊢
  rw[ih];cases(i / 64==n)<;>simp
theorem mH{N:W zC}:AV.avoids N (.v (.ag []))=T:=rfl
theorem mG{N:W zC}{c:AC}{cs:W AC}:AV.avoids N (.v (.ag (c::cs)))=((AV.v (.sc c)).avoids N&&(AV.v (.ag cs)).avoids N):=by simp[AV.avoids,AV.cells,V1.cells]
theorem A0l:(!O)=T:=rfl
theorem A0m:(!T)=O:=rfl
theorem lq:(T&&T)=T:=rfl
theorem qO{d x}:AOp.dst (.mv d x)=U d:=rfl
theorem qQ{d c a b}:AOp.dst (.pick d c a b)=U d:=rfl
theorem py{d zs ps}:AOp.dst (.build d zs ps)=U d:=rfl
theorem qJ{d x g n}:AOp.dst (.load d x g n)=U d:=rfl
theorem qP{d x}:AOp.dst (.nilc d x)=U d:=rfl
theorem pv{d op x y}:AOp.dst (.bin d op x y)=U d:=rfl
theorem qF{d g ks x y}:AOp.dst (.geq d g ks x y)=U d:=rfl
theorem pu{d g x y}:AOp.dst (.beq d g x y)=U d:=rfl
theorem qW{d op x}:AOp.dst (.un d op x)=U d:=rfl
theorem qB{d kd x}:AOp.dst (.conv d kd x)=U d:=rfl
theorem qS{d sz x lo hi mx}:AOp.dst (.slc d sz x lo hi mx)=U d:=rfl
theorem qU{d x lo hi}:AOp.dst (.sslc d x lo hi)=U d:=rfl
theorem qD{d x off}:AOp.dst (.faddr d x off)=U d:=rfl
theorem qE{d x off g n}:AOp.dst (.field d x off g n)=U d:=rfl
theorem qG{d x i sz}:AOp.dst (.iaddr d x i sz)=U d:=rfl
theorem pq{d x i len sz}:AOp.dst (.aaddr d x i len sz)=U d:=rfl
theorem qH{d x i}:AOp.dst (.idx d x i)=U d:=rfl
theorem qC{d x i}:AOp.dst (.extr d x i)=U d:=rfl
theorem qL{d t x}:AOp.dst (.mkif d t x)=U d:=rfl
theorem qV{d x t zc}:AOp.dst (.tass d x t zc)=U d:=rfl
theorem qI{d x}:AOp.dst (.len d x)=U d:=rfl
theorem qT{d x}:AOp.dst (.slen d x)=U d:=rfl
theorem qR{d x}:AOp.dst (.sconv d x)=U d:=rfl
theorem qN{d m x y}:AOp.dst (.mm d m x y)=U d:=rfl
theorem qK{d f caps}:AOp.dst (.mkf d f caps)=U d:=rfl
theorem pw{d x}:AOp.dst (.box d x)=U d:=rfl
theorem pr{d cs}:AOp.dst (.alloc d cs)=U d:=rfl
theorem px{d sz zs len ps}:AOp.dst (.bslice d sz zs len ps)=U d:=rfl
theorem qM{d sz b zs x y}:AOp.dst (.mksl d sz b zs x y)=U d:=rfl
theorem pz{d f args}:AOp.dst (.call d f args)=U d:=rfl
theorem qA{d x args}:AOp.dst (.callv d x args)=U d:=rfl
def sV(rs:W R1):zB:=(rs.flatMap R1.cells).all fun | .v d=>d.flat | .o _ _=>O
theorem B1{rs:W R1}(h:sV rs=T):Cu rs:=by
 intro c hc;have:=zG.1 h c hc;cases c with
 | v d=>exact this
 | o=>cases this
end
def D.Ok(d:D):Prop:=∃h v,Rep h d v
def DsOk(ds:W DV):Prop:=∃h vs,DVRels h ds vs
theorem D.Ok.int{k:IntKind}{n:Int}(h:(D.int k n).Ok):k.min≤n∧n≤k.max:=by
 obtain⟨_,_,h⟩:=h;cases h with | int a b=>exact⟨a,b⟩
theorem D.Ok.str{s:W UInt8}(h:(D.str s).Ok):s.length≤maxLen:=by
 obtain⟨_,_,h⟩:=h;cases h with | str a=>exact a
theorem Reps.ok{h:A6}:∀{ds:W D} {vs:W Value},Reps h ds vs→∀d∈ds,d.Ok
 | _,_,.nil,d,hd=>by simp at hd
 | _,_,.cons a b,d,hd=>by
  rcases zJ.1 hd with rfl|hd
  ·exact⟨_,_,a⟩
  ·exact Reps.ok b d hd
theorem RepRows.ok{h:A6}{sz:zC}:∀{es:W (W D)} {vs:W Value},RepRows h sz es vs→∀r∈es,r.length=sz∧∀d∈r,d.Ok
 | _,_,.nil,r,hr=>by simp at hr
 | _,_,.cons a b c,r,hr=>by
  rcases zJ.1 hr with rfl|hr
  ·exact⟨a,b.ok⟩
  ·exact RepRows.ok c r hr
theorem D.Ok.sl{es:W (W D)}(h:(D.sl es).Ok):es.length≤maxLen∧∀r∈es,∀d∈r,d.Ok:=by
 obtain⟨_,_,h⟩:=h;cases h with
 | nil=>exact⟨yC _,by simp⟩
 | sl a b c d e f=>exact⟨by omega,fun r hr=>(c.ok r hr).2⟩
theorem D.Ok.pd{cs:W D}(h:(D.pd cs).Ok):∀d∈cs,d.Ok:=by
 obtain⟨_,_,h⟩:=h;cases h with | pd a b=>exact b.ok
theorem DsOk.sc{d:D}{ds:W DV}(h:DsOk (.sc d::ds)):d.Ok∧DsOk ds:=by
 obtain⟨_,_,h⟩:=h;cases h with | cons a b=>
 cases a with | sc a=>exact⟨⟨_,_,a⟩,⟨_,_,b⟩⟩
theorem DsOk.ag{cs:W D}{ds:W DV}(h:DsOk (.ag cs::ds)):(∀d∈cs,d.Ok)∧DsOk ds:=by
 obtain⟨_,_,h⟩:=h;cases h with | cons a b=>
 cases a with | ag a _=>exact⟨a.ok,⟨_,_,b⟩⟩
theorem gP{P:Program}(hm:P.follows .mixedOrders=T){f:FuncId}{c:Xg}{ts:W RV}{nt:zC}{ds:W DV}{rs:W R1}(he:AE P f=U (c.strip,ts,nt))(hl:ds.length≤nt)(h:DsOk ds→B5 P c (A5 ts rs) (St.init ds)):FC P f ds rs:=
 fun w A vs hG hvs=>gL hm he hl (h ⟨_,_,hvs⟩) w A vs hG hvs
theorem Aj{n:Int}(h1: -9223372036854775808≤n)(h2:n≤9223372036854775807):IntKind.i64.wrap n=n:=IntWalk.i64_in n ⟨h1,h2⟩
theorem fI{i n:zC}(h1:i<n)(h2:n≤maxLen):IntKind.i64.wrap ((i:Int)+1)=((i+1:zC):Int):=by
 unfold maxLen at h2
 rw[Aj (by omega) (by omega)];rfl
theorem law_true{P:Program}{f:FuncId}{ds:W DV}(hf:FC P f ds [.sc (.v (.bool T))]){w:World}(hG:GoodW w){vs:W Value}(hv:DVRels (B7 w) ds vs) :
  Calls P f vs.toArray w fun e w'=>e= .returned (.bool T)∧RowKit.Below w.heap.size w w':=by
 refine(hf w (fun _ _=>True) vs hG (hv.mono fun b C h=>by
  obtain⟨c,t,fr,h1,h2⟩:=h;exact⟨c,t,fr,trivial,h1,h2⟩)).mono fun e w' h=> ?_
 obtain⟨v,bs,rfl,hb,hr,_⟩:=h;refine⟨?_,hb⟩;cases hr with
 | one hr=>
  cases hr with | sc hr=>
  cases hr with | v hr=>
  cases hr;rfl
 | many h=>simp at h
end Go.Vi
