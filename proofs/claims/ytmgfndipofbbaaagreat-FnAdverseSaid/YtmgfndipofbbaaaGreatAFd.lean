/-
A function whose deferred closure recovers from a panic and . No condition.
-/
import Derived.Test.YtmgfndipofbbaaaGreatAVi39
import Derived.Test.YtmgfndipofbbaaaGreatProg
import Derived.KernelRfl
import Derived.WalkKit
import Derived.Defers
import Derived.Recover
import Derived.Laws.Pointers
namespace Go.Vi
open Go.Proofs Go.RowKit
set_option linter.all false
open Option.some renaming inj → H
open Bool renaming and_eq_true → L, false → F
open Option renaming isNone_iff_eq_none → N, some → E, none → G
def B0u(T:TypeId)(n m:Int)(b:Bool):FrameMode:= .panicking [{v:= .iface T (.agg #[.int .i64 n,.int .i64 m]),recovered:=b }]
def C88(P:Program)(g:FuncId):Prop:=∀(p q:Addr) (w:World),CallsD P g #[.pointer (E p),.pointer (E q)] .returning w fun e u' w'=>(∃v,e= .returned v)∧u'= .returning∧RowKit.Below w.heap.size w w'
def C46(P:Program)(g:FuncId)(T:TypeId):Prop:=∀(p q:Addr) (n m:Int) (w:World) (x y:Value),w.cell? p=E x→w.cell? q=E y→w.frozen? p=F→w.frozen? q=F→p.block≠q.block→
 CallsD P g #[.pointer (E p),.pointer (E q)] (B0u T n m F) w fun e u' w'=>(∃v,e= .returned v)∧u'=B0u T n m true∧∃w1,RowKit.Below w.heap.size w w1∧w'=(w1.setCell p (.int .i64 n)).setCell q (.int .i64 m)
abbrev pX:Nat:=99999999999
abbrev pY:Nat:=100000000000
theorem pXY:¬(2*pY=2*pX):=by unfold pX pY; omega
def C5z(b1 b2:Nat)(T:TypeId)(r:Int × Int)(e:AExit)(σ:St):Prop:=
 σ.get b1= .v (.sc (.pb pX 0))∧σ.get b2= .v (.sc (.pb pY 0))∧∃u v,A6 σ.bx pX=E [.dat (.int .i64 u)]∧A6 σ.bx pY=E [.dat (.int .i64 v)]∧match e with
  | .normal | .ret=>u=r.1∧v=r.2
  | .pan d=>d= .ifs T [.int .i64 r.1,.int .i64 r.2]
  | .exit _=>False
def E4l(o:Oper)(g t b1 b2:Nat):Bool:=o.guard.isNone&&(match o.dst with | some d=>d==t | none=>F)&&match o.op with
 | .makeFunc (.func g') f c=>g'==g&&f.isEmpty&&(match c.toList with | [.tmp x,.tmp y]=>x==b1&&y==b2 | _=>F)
 | _=>F
def E5o(o:Oper)(t:Nat):Bool:=o.guard.isNone&&o.dst.isNone&&match o.op with
 | .defer {callee:= .value (.tmp x),args,.. }=>x==t&&args.isEmpty
 | _=>F
def B8g(P:Program)(f g t b1 b2:Nat):Option (ACode × ACode × Nat):=
 match P.funcs[f]? with
 | some fn=>match fn.body,A7p P fn.results.toList with
  | some (.seq a (.seq (.region _ ops F) c)),E [.c x F 1,.c y F 1]=>match ops.toList with
   | [o1,o2]=>if(E4l o1 g t b1 b2&&E5o o2 t)&&(x==b1&&y==b2) then(match G7 P fn.ntmps a,G7 P fn.ntmps c with
    | some x,E y=>E (x,y,fn.ntmps)
    | _,_=>G) else G
   | _=>G
  | _,_=>G
 | none=>G
section
variable {P : Program} {A : Ar} {B : Nat} {w0 : Base} {nm : C8} {σ : St} {tmps : Array Value} {w : World}
theorem B31(R:Rel A B w0 nm σ tmps w){id:Nat}{u:Int}(h:A6 σ.bx id=E [.dat (.int .i64 u)]):∃b,nm (2*id)=E b∧w.cell? ⟨b,0,G⟩=E (.int .i64 u)∧w.frozen? ⟨b,0,G⟩=F:=by
 obtain⟨b,C,t,h1,h2,h3⟩:=R.bxs id _ h
 have h2':w.heap[b]?=E (.cells C t (0,0)):=h2
 have hlen:C.toList.length=1:=by have:=h3.length; simpa using this.symm
 obtain⟨v0,hv0⟩:∃v0,C= #[v0]:=by
  obtain⟨v0,h0⟩:=List.length_eq_one_iff.1 hlen
  exact⟨v0,Array.toList_inj.1 (by simpa using h0)⟩
 subst hv0
 have hv:v0= .int .i64 u:=by
  cases h3 with | cons h4 _=>
  cases h4 with | dat h4=>
  cases h4
  rfl
 subst hv
 exact⟨b,h1,by unfold World.cell?; simp[h2'],by unfold World.frozen?; simp[h2']⟩
theorem C79(R:Rel A B w0 nm σ tmps w){ti:TypeId}{inf:TypeInfo}(hi:P.info? ti=E inf)(hs:inf.size=1){id b:Nat}{u n:Int}(hn:IntKind.i64.min≤n∧n≤IntKind.i64.max)(h:A6 σ.bx id=E [.dat (.int .i64 u)])(hb:nm (2*id)=E b) :
  Rel A B w0 nm {σ with bx:=put σ.bx id [.dat (.int .i64 n)]} tmps (w.setCell ⟨b,0,G⟩ (.int .i64 n)):=by
 obtain⟨b',h1,h2,h3⟩:=B31 R h
 have e:b'=b:=H (h1.symm.trans hb)
 subst e
 have hva:VRel (cx A nm σ w) (.v (.sc (.pb id 0))) (.pointer (E ⟨b',0,G⟩)):= .v (.sc (.pb h1))
 have hvx:VRel (cx A nm σ w) (.v (.sc (.dat (.int .i64 n)))) (.int .i64 n):= .v (.sc (.dat (.int hn.1 hn.2)))
 obtain⟨w5,hrun,R5⟩:=C1b (P:=P) (a:=⟨tmps,[]⟩) (t:=ti) (inf:=inf) R hi hs hva hvx h rfl (by simp)
 have hrun2:(Instr.storeAt ti (.pointer (E ⟨b',0,G⟩)) (.int .i64 n)).run P w= .ok () (w.setCell ⟨b',0,G⟩ (.int .i64 n)):=by
  simp[Instr.storeAt,Instr.sureAddr,storeVar,Value.cells,storeCells,Addr.add,sizeOf,typeInfo,hi,hs]
  rw[run_store P w ⟨b',0,G⟩ _ _ (by rfl)]
  simp[h2,h3]
 have e5:w5=w.setCell ⟨b',0,G⟩ (.int .i64 n):=by
  rw[hrun] at hrun2
  cases hrun2
  rfl
 subst e5
 simpa[A2c,V1.cells] using R5
end
def AC.pinB(x y:Nat):AC→AC
 | .pb i o=>bif i==x then .pb pX o else bif i==y then .pb pY o else .pb i o
 | .clo _ _=> .undef
 | .ipb _ _=> .undef
 | c=>c
def St.pinB(x y:Nat)(cx cy:List AC)(σ:St):St:=⟨σ.env.map fun p=>(p.1,p.2.map (AC.pinB x y)),[(pX,cx),(pY,cy)],[]⟩
theorem D8b{x y:Nat}{c1 c2:List AC}{σ:St}(k:Nat):(σ.pinB x y c1 c2).get k=(σ.get k).map (AC.pinB x y):=by
 have:(σ.pinB x y c1 c2).get k=(σ.map (AC.pinB x y)).get k:=rfl
 rw[this]
 exact St.get_map
theorem Rel.pinB{A:Reg}{B:Nat}{w0:World}{nm:C8}{σ:St}{tmps:Array Value}{w:World}(R:Rel (.of A) B (.of w0 fun _=>G) nm σ tmps w){x y p q:Nat}{u v:Int}(hx0:x / 99999999999=0)(hy0:y / 99999999999=0)(hxy:x≠y)
  (hx:A6 σ.bx x=E [.dat (.int .i64 u)]) (hy:A6 σ.bx y=E [.dat (.int .i64 v)]) (hp:nm (2*x)=E p) (hq:nm (2*y)=E q) :
  ∃np nm',Rel (.of A) B (.of w np) nm' (σ.pinB x y [.dat (.int .i64 u)] [.dat (.int .i64 v)]) tmps w∧np (2*pX)=E p∧np (2*pY)=E q∧(∀i b,np i=E b→B≤b):=by
 have nopin:∀i,N0≤i→nm i=G:=fun i h=>R.pin i h
 have hge:∀i b,nm i=E b→B≤b:=fun i b h=>by
  rcases(R.names i b h).1 with h1|hm
  ·exact h1
  ·obtain⟨j,_,e⟩:=Base.of_M hm
   cases e
 let nm':C8:=fun i=>if i=2*pX then E p else if i=2*pY then E q else if i=2*x∨i=2*y then G else nm i
 let np:C8:=fun i=>if i=2*pX then E p else if i=2*pY then E q else G
 have hpb:=R.names _ _ hp
 have hqb:=R.names _ _ hq
 have hpin:∀i,N0≤i→nm' i=np i:=fun i hi=>by
  simp only[nm',np]
  split
  ·rfl
  ·split
   ·rfl
   ·split
    ·rfl
    ·exact nopin i hi
 have hnm:∀i b,nm' i=E b→∃j,nm j=E b∧((i=2*pX∧j=2*x)∨(i=2*pY∧j=2*y)∨(i=j∧j≠2*x∧j≠2*y∧j<N0)):=fun i b h=>by
  simp only[nm'] at h
  split at h
  ·rename_i e; cases h; exact⟨_,hp,.inl ⟨e,rfl⟩⟩
  ·split at h
   ·rename_i e; cases h; exact⟨_,hq,.inr (.inl ⟨e,rfl⟩)⟩
   ·split at h
    ·cases h
    ·rename_i h3
     refine⟨i,h,.inr (.inr ⟨rfl,fun e=>h3 (.inl e),fun e=>h3 (.inr e),?_⟩)⟩
     refine Nat.lt_of_not_le fun hle=> ?_
     rw[nopin i hle] at h
     cases h
 have hview:∀b C,C7 (Ar.of A).A nm w b C→C7 (Ar.of A).A nm' w b C:=W3 (A:= .of A) fun b _ hn=>⟨fun i e=>by
  obtain⟨j,hj,_⟩:=hnm i b e
  exact hn j hj,rfl⟩
 have hcell:∀c z,CRel (Go.Vi.cx (.of A) nm σ w) c z→CRel (Go.Vi.cx (.of A) nm' (σ.pinB x y [.dat (.int .i64 u)] [.dat (.int .i64 v)]) w) (AC.pinB x y c) z:=fun c z hr=>by
  have h1:=hr.one
  have keep:(∀j,c.hasB j=true→j≠x∧j≠y)→CRel (Go.Vi.cx (.of A) nm' (σ.pinB x y [.dat (.int .i64 u)] [.dat (.int .i64 v)]) w) c z:=fun hno=>by
   refine hr.move hview (fun j hj=> .inl rfl) (fun j hj b hb=> ?_)
   have hb':nm (2*j)=E b:=hb
   have hlt:2*j<N0:=Nat.lt_of_not_le fun hle=>by rw[nopin _ hle] at hb'; cases hb'
   have:=hno j hj
   show nm' (2*j)=E b
   simp only[nm']
   unfold N0 at hlt
   rw[if_neg (by unfold pX; omega),if_neg (by unfold pY; omega),if_neg (by omega)]
   exact hb'
  cases c with
  | pb i o=>
   simp only[AC.pinB]
   by_cases hi:i=x
   ·subst hi
    simp only[beq_self_eq_true,cond_true]
    cases hr with | pb hb=>
    have hb':nm (2*i)=E _:=hb
    have e3:=H (hb'.symm.trans hp)
    subst e3
    exact .pb (by show nm' (2*pX)=_; exact if_pos rfl)
   ·have e:(i==x)=F:=by simpa using hi
    simp only[e,cond_false]
    by_cases hi2:i=y
    ·subst hi2
     simp only[beq_self_eq_true,cond_true]
     cases hr with | pb hb=>
     have hb':nm (2*i)=E _:=hb
     have e3:=H (hb'.symm.trans hq)
     subst e3
     exact .pb (by show nm' (2*pY)=_; exact(if_neg pXY).trans (if_pos rfl))
    ·have e2:(i==y)=F:=by simpa using hi2
     simp only[e2,cond_false]
     exact keep fun j hj=>by simp only[AC.hasB,beq_iff_eq] at hj; subst hj; exact⟨hi,hi2⟩
  | clo f ids=>exact .undef h1
  | ipb t i=>exact .undef h1
  | _=>exact keep fun j hj=>by simp[AC.hasB] at hj
 obtain⟨bp,Cp,tp,a1,a2,a3⟩:=R.bxs x _ hx
 obtain⟨bq,Cq,tq,c1,c2,c3⟩:=R.bxs y _ hy
 have ebp:bp=p:=H (a1.symm.trans hp)
 have ebq:bq=q:=H (c1.symm.trans hq)
 subst ebp ebq
 have np_ge:∀i b,np i=E b→B≤b:=fun i b h=>by
  simp only[np] at h
  split at h
  ·cases h; exact hge _ _ hp
  ·split at h
   ·cases h; exact hge _ _ hq
   ·cases h
 refine⟨np,nm',⟨BelowX.start _ _ (fun _ h=>h.elim),R.size,Glob.mk1 (fun b hb=>R.all.all b (.inl hb)),fun w2 hb2=>R.good w2 ?_,fun i b h=> ?_,fun i j b hi hj=> ?_,hpin,fun k=> ?_,fun id cs h=> ?_⟩,if_pos rfl,(if_neg pXY).trans (if_pos rfl),np_ge⟩
 ·refine⟨hb2.os.trans R.below.os,hb2.tape.trans R.below.tape,hb2.output.trans R.below.output,Nat.le_trans R.below.size hb2.size,fun k hk hm hv=>(hb2.block k hk ?_ fun h=>h.elim).trans (R.below.block k hk hm hv),fun k hm=> ?_,fun _ h=>h.elim,fun _ h=>h.elim⟩
  ·intro hm2
   obtain⟨i,_,e⟩:=Base.of_M hm2
   have:=np_ge i k e
   omega
  ·obtain⟨i,_,e⟩:=Base.of_M hm
   cases e
 ·obtain⟨j,hj,_⟩:=hnm i b h
  exact⟨.inl (hge _ _ hj),(R.names _ _ hj).2⟩
 ·obtain⟨i',hi',ci⟩:=hnm i b hi
  obtain⟨j',hj',cj⟩:=hnm j b hj
  have:=R.inj _ _ _ hi' hj'
  subst this
  unfold pX pY N0 at *
  omega
 ·rw[D8b]
  exact(R.env k).map fun c z _ hr=>hcell c z hr
 ·have hcase:(id=pX∧cs= [.dat (.int .i64 u)])∨(id=pY∧cs= [.dat (.int .i64 v)]):=by
   have h':A6 [(pX,[AC.dat (.int .i64 u)]),(pY,[AC.dat (.int .i64 v)])] id=E cs:=h
   simp only[A6] at h'
   by_cases h1:pX=id
   ·subst h1; simp at h'; exact .inl ⟨rfl,h'.symm⟩
   ·have e1:(pX==id)=F:=by simpa using h1
    by_cases h2:pY=id
    ·subst h2; simp[e1] at h'; exact .inr ⟨rfl,h'.symm⟩
    ·have e2:(pY==id)=F:=by simpa using h2
     simp[e1,e2] at h'
  rcases hcase with ⟨rfl,rfl⟩|⟨rfl,rfl⟩
  ·exact⟨bp,Cp,tp,by show nm' (2*pX)=_; exact if_pos rfl,a2,a3.to fun c z hc hr=>by
    have:=hcell c z hr
    simp at hc
    subst hc
    exact this⟩
  ·exact⟨bq,Cq,tq,by show nm' (2*pY)=_; exact(if_neg pXY).trans (if_pos rfl),c2,c3.to fun c z hc hr=>by
    have:=hcell c z hr
    simp at hc
    subst hc
    exact this⟩
theorem F2a{P:Program}(hm:P.follows .mixedOrders=true){f g t b1 b2 nt:Nat}{T ti:TypeId}{inf:TypeInfo}{cA cR:ACode}{ds:List DV}{r:Int × Int}(hi:P.info? ti=E inf)(hs:inf.size=1)(he:B8g P f g t b1 b2=E (cA.strip,cR.strip,nt))(hl:ds.length≤nt)(htn:t<nt)(hok:A2u P g=true)
  (hb12:b1≠b2) (hb1:b1 / 99999999999=0) (hb2:b2 / 99999999999=0) (hidle:C88 P g) (hcatch:C46 P g T)
  (h:AWP P cA (fun e σ=>e= .normal∧σ.get t= .undef∧σ.get b1= .v (.sc (.pb b1 0))∧σ.get b2= .v (.sc (.pb b2 0))∧A6 σ.bx b1=E [.dat (.int .i64 0)]∧A6 σ.bx b2=E [.dat (.int .i64 0)]∧AWP P cR (C5z b1 b2 T r) (σ.pinB b1 b2 [.dat (.int .i64 0)] [.dat (.int .i64 0)])) (St.init ds)):FC P f ds [.sc (.v (.int .i64 r.1)),.sc (.v (.int .i64 r.2))]:=by
 unfold B8g at he
 split at he
 ·rename_i fn hf
  split at he
  ·rename_i CA rid ops CR x y hb hr
   split at he
   ·rename_i o1 o2 hops
    split at he
    ·rename_i hcond
     split at he
     ·rename_i xA xR hA hR
      cases he
      simp only[L,beq_iff_eq] at hcond
      obtain⟨⟨hk,hd⟩,rfl,rfl⟩:=hcond
      obtain⟨hg1,hd1,cap,hop1,hcap⟩:o1.guard=G∧o1.dst=E t∧∃cap:Array Operand,o1.op= .makeFunc (.func g) #[] cap∧cap.toList= [.tmp x,.tmp y]:=by
       unfold E4l at hk
       simp only[L,N] at hk
       obtain⟨⟨k1,k2⟩,k3⟩:=hk
       refine⟨k1,?_,?_⟩
       ·split at k2
        ·rename_i d hd'
         simp only[beq_iff_eq] at k2
         rw[hd',k2]
        ·cases k2
       ·split at k3
        ·rename_i g' f' c' ho
         simp only[L,beq_iff_eq] at k3
         obtain⟨⟨rfl,k4⟩,k5⟩:=k3
         have e4:f'= #[]:=by simpa using k4
         subst e4
         refine⟨c',ho,?_⟩
         split at k5
         ·rename_i x' y' hc'
          simp only[L,beq_iff_eq] at k5
          obtain⟨rfl,rfl⟩:=k5
          exact hc'
         ·cases k5
        ·cases k3
      obtain⟨hg2,hd2,tys,hop2⟩:o2.guard=G∧o2.dst=G∧∃tys,o2.op= .defer {callee:= .value (.tmp t),args:= #[],argTypes:=tys}:=by
       unfold E5o at hd
       simp only[L,N] at hd
       obtain⟨⟨k1,k2⟩,k3⟩:=hd
       refine⟨k1,k2,?_⟩
       split at k3
       ·rename_i x' args' tys' ho
        simp only[L,beq_iff_eq] at k3
        obtain⟨rfl,k4⟩:=k3
        have e4:args'= #[]:=by simpa using k4
        subst e4
        exact⟨_,ho⟩
       ·cases k3
      have hcap2:cap= #[.tmp x,.tmp y]:=by apply Array.ext'; simpa using hcap
      subst hcap2
      intro w A0 vs hG hvs
      refine calls_of_wp_defers hf hb ?_
      have hlen:=hvs.len
      refine wp_seq (wp_mono (A3j (df:= []) hm cA CA _ (fun _=>G) (St.init ds) _ w hA h (B2k fn.ntmps hG hvs) (by simp; omega) rfl) fun e a w1 hp=> ?_)
      obtain⟨e',nm1,σ1,he',⟨rfl,ht,g1,g2,f1,f2,h2⟩,R1,hnt1,hdf1⟩:=hp
      obtain rfl:e= .normal:=he'
      have hx1:=R1.env x
      have hy1:=R1.env y
      rw[g1] at hx1
      rw[g2] at hy1
      have hxc:=hx1.inv_sc
      have hyc:=hy1.inv_sc
      obtain⟨p,hpn,ep⟩:∃p,nm1 (2*x)=E p∧a.tmps.getD x undef= .pointer (E ⟨p,0,G⟩):=by
       revert hxc
       generalize a.tmps.getD x undef=z
       intro hxc
       cases hxc with | pb hb=>exact⟨_,hb,rfl⟩
      obtain⟨q,hqn,eq⟩:∃q,nm1 (2*y)=E q∧a.tmps.getD y undef= .pointer (E ⟨q,0,G⟩):=by
       revert hyc
       generalize a.tmps.getD y undef=z
       intro hyc
       cases hyc with | pb hb=>exact⟨_,hb,rfl⟩
      let fv:Value:= .func (.func g) #[] #[.pointer (E ⟨p,0,G⟩),.pointer (E ⟨q,0,G⟩)]
      let dd:Deferred:={target:= .fn (.func g) #[.pointer (E ⟨p,0,G⟩),.pointer (E ⟨q,0,G⟩)],args:= #[]}
      have hrun1:(execOp a.eval o1).run P w1= .ok (.value fv) w1:=by
       obtain⟨dst,op,ty,pos,after,guard⟩:=o1
       simp only at hop1
       subst hop1
       have ex:a.eval (.tmp x)= .pointer (E ⟨p,0,G⟩):=ep
       have ey:a.eval (.tmp y)= .pointer (E ⟨q,0,G⟩):=eq
       simp[execOp,Instr.makeFunc,ex,ey,fv]
      have htd:(a.put (E t) fv).tmps.getD t undef=fv:=by
       simp only[Act.put]
       rw[Array.getD_eq_getD_getElem?,Array.getElem?_setIfInBounds_self_of_lt (by rw[hnt1]; exact htn)]
       rfl
      have hrun2:(execOp (a.put (E t) fv).eval o2).run P w1= .ok (.defer dd) w1:=by
       obtain⟨dst,op,ty,pos,after,guard⟩:=o2
       simp only at hop2
       subst hop2
       have ex:(a.put (E t) fv).eval (.tmp t)=fv:=htd
       simp[execOp,resolve,Deferred.ofValue,ex,fv,dd]
      have R2:Rel (.of fun b fr=>A0 b fr∨(w.heap.size≤b∧fr=(0,0))) w.heap.size (.of w fun _=>G) nm1 σ1 (a.put (E t) fv).tmps w1:=by
       refine(R1.put (d:=t) (av:= .undef) (v:=fv) (by rw[hnt1]; exact htn) .undef).same ⟨fun k=> ?_,fun _=>rfl,fun _=>rfl⟩
       by_cases hk:k=t
       ·subst hk; rw[St.get_set_same,ht]
       ·rw[St.get_set_ne _ _ hk]
      obtain⟨np,nm2,R3,np1,np2,npge⟩:=R2.pinB hb1 hb2 hb12 f1 f2 hpn hqn
      show Code.wp P (.seq (.region rid ops F) CR) _ a w1
      refine wp_seq (wp_region_list ?_)
      rw[hops]
      have w1':Region.wanted o1 (yielded ops a.tmps)=true:=by simp[Region.wanted,hg1]
      have w2':Region.wanted o2 (yielded ops (a.put (E t) fv).tmps)=true:=by simp[Region.wanted,hg2]
      unfold wpList
      rw[w1']
      refine .inl ?_
      unfold Oper.wp
      rw[hrun1,Oper.upon_value,hd1]
      unfold wpList
      rw[w2']
      refine .inl ?_
      unfold Oper.wp
      rw[hrun2,Oper.upon_defer,hd2]
      unfold wpList
      show Code.wp P CR (bodyPostD P fn _) {(a.put (E t) fv) with defers:=dd::(a.put (E t) fv).defers} w1
      refine wp_mono (A3j (df:= [dd]) hm cR CR _ nm2 _ _ w1 hR h2 R3 (by simp[Act.put,hnt1]) (by simp[Act.put,hdf1])) fun e a' w2 hp=> ?_
      obtain⟨e',nm,σ,he',⟨k1,k2,u,v,k3,k4,k5⟩,R,hnt,hdf⟩:=hp
      obtain⟨p',hp1,hp2,hp3⟩:=B31 R k3
      obtain⟨q',hq1,hq2,hq3⟩:=B31 R k4
      have hinv:(invoke dd.target dd.args).run P w2= .ok (.enter g #[.pointer (E ⟨p,0,G⟩),.pointer (E ⟨q,0,G⟩)]) w2:=by
       have:=B1f (w:=w2) hok #[.pointer (E ⟨p,0,G⟩),.pointer (E ⟨q,0,G⟩)]
       simpa[dd,invoke] using this
      have ep2:p'=p:=by
       have:nm (2*pX)=np (2*pX):=R.pin (2*pX) (by unfold N0 pX; omega)
       rw[hp1,np1] at this
       exact H this
      have eq2:q'=q:=by
       have:nm (2*pY)=np (2*pY):=R.pin (2*pY) (by unfold N0 pY; omega)
       rw[hq1,np2] at this
       exact H this
      subst ep2 eq2
      have hpq:p'≠q':=fun e=>by
       subst e
       have:=R.inj _ _ _ hp1 hq1
       unfold pX pY at this
       omega
      have hbw:∀w3,RowKit.Below w.heap.size w1 w3→RowKit.Below w.heap.size w w3:=fun w3 hb=>(R1.below.plain (fun _=>rfl)).trans hb
      have hb12':RowKit.Below w.heap.size w1 w2:=⟨R.below.os,R.below.tape,R.below.output,R.below.size,fun k hk=>R.below.block k hk (fun hm2=>by
       obtain⟨i,_,e⟩:=Base.of_M hm2
       have:=npge i k e
       omega) fun h=>h.elim⟩
      have hpge:w.heap.size≤p':=npge _ _ np1
      have hqge:w.heap.size≤q':=npge _ _ np2
      have fin:∀(σ2:St) (w3:World),Rel (.of fun b fr=>A0 b fr∨(w.heap.size≤b∧fr=(0,0))) w.heap.size (.of w1 np) nm σ2 a'.tmps w3→RowKit.Below w.heap.size w w3→σ2.get x= .v (.sc (.pb pX 0))→σ2.get y= .v (.sc (.pb pY 0))→A6 σ2.bx pX=E [.dat (.int .i64 r.1)]→A6 σ2.bx pY=E [.dat (.int .i64 r.2)]→
        ∃v,(results fn a'.tmps).run P w3= .ok v w3∧∃(v':Value) (bs:List (Option Nat)),Ending.returned v= .returned v'∧RowKit.Below w.heap.size w w3∧RRel (E3 (fun b fr=>E b∉bs∧((w.heap.size≤b∧fr=(0,0))∨A0 b fr)) w3) w3 [.sc (.v (.int .i64 r.1)),.sc (.v (.int .i64 r.2))] v' bs∧
         (∀b,E b∈bs→w.heap.size≤b∧b<w3.heap.size)∧(∀(i j b:Nat),bs[i]?=E (E b)→bs[j]?=E (E b)→i=j):=by
       intro σ2 w3 R5 hb5 q1 q2 q3 q4
       obtain⟨z1,s1,s2,_⟩:=B31 R5 q3
       obtain⟨z2,s4,s5,_⟩:=B31 R5 q4
       have ho:OutVs σ2 [.c x F 1,.c y F 1] [.sc (.v (.int .i64 r.1)),.sc (.v (.int .i64 r.2))]:=by
        have l1:A1s σ2 F 1 (σ2.get x)=E (.v (.sc (.dat (.int .i64 r.1)))):=by rw[q1]; simp[A1s,q3,A1k]
        have l2:A1s σ2 F 1 (σ2.get y)=E (.v (.sc (.dat (.int .i64 r.2)))):=by rw[q2]; simp[A1s,q4,A1k]
        exact⟨by simp only[A81,l1,Option.getD_some]; rfl,by simp only[A81,l2,Option.getD_some]; rfl,⟨⟩⟩
       obtain⟨vs',hrun,hvl,hrel⟩:=A7f (P:=P) (h':=H1 w3) (act:=a') (f:=fun | .tmp t=>pure (a'.tmps.getD t undef) | .cell c t=>do loadVar t (← asAddr (a'.tmps.getD c undef))) R5 (fun _ _ h=>A2b h) (fun _=>rfl) (fun _ _=>rfl) hr ho
       have hvl2:vs'.length=2:=by rw[hvl]; rfl
       obtain⟨v1,v2,rfl⟩:∃v1 v2,vs'= [v1,v2]:=by
        match vs',hvl2 with
        | [v1,v2],_=>exact⟨v1,v2,rfl⟩
       have hv:v1= .int .i64 r.1∧v2= .int .i64 r.2∧(IntKind.i64.min≤r.1∧r.1≤IntKind.i64.max)∧(IntKind.i64.min≤r.2∧r.2≤IntKind.i64.max):=by
        generalize List.map (bOf nm) _=bb at hrel
        cases hrel with | cons m1 m2=>
        cases m2 with | cons m2 m3=>
        cases m1 with | sc m1=>
        cases m2 with | sc m2=>
        cases m1 with | v m1=>
        cases m2 with | v m2=>
        cases m1 with | int i1 i2=>
        cases m2 with | int i3 i4=>
        exact⟨rfl,rfl,⟨i1,i2⟩,⟨i3,i4⟩⟩
       obtain⟨rfl,rfl,b1',b2'⟩:=hv
       refine⟨.tuple #[.int .i64 r.1,.int .i64 r.2],?_,_,[G,G],rfl,hb5,?_,fun b hb=>by simp at hb,fun i j b hi hj=> ?_⟩
       ·unfold results
        rw[← Array.toArray_toList (xs:=fn.results)]
        simp only[List.mapM_toArray,Sem.run_bind,map_eq_pure_bind]
        erw [hrun]
        simp only[Result.andThen_ok,Sem.run_pure]
        simp
       ·exact .many (bs:= [G]++([G]++ [])) (by simp) (.cons (.sc (.v (.int b1'.1 b1'.2))) (.cons (.sc (.v (.int b2'.1 b2'.2))) .nil))
       ·rcases i with _|_|i<;>simp at hi
      have idle:u=r.1→v=r.2→Leaves P fn a'.tmps (fun e w'=>∃(v:Value) (bs:List (Option Nat)),e= .returned v∧RowKit.Below w.heap.size w w'∧RRel (E3 (fun b fr=>E b∉bs∧((w.heap.size≤b∧fr=(0,0))∨A0 b fr)) w') w' [.sc (.v (.int .i64 r.1)),.sc (.v (.int .i64 r.2))] v bs∧
        (∀b,E b∈bs→w.heap.size≤b∧b<w'.heap.size)∧(∀(i j b:Nat),bs[i]?=E (E b)→bs[j]?=E (E b)→i=j)) a'.defers .returning w2:=by
       rintro rfl rfl
       rw[hdf]
       refine leaves_cons (by simp) hinv ((hidle ⟨p',0,G⟩ ⟨q',0,G⟩ w2).mono fun e u' w3 h3=> ?_)
       obtain⟨⟨v3,rfl⟩,rfl,hb3⟩:=h3
       have R5:=R.later hb3
       have hb5:RowKit.Below w.heap.size w w3:=hbw w3 (hb12'.trans (hb3.mono (Nat.le_trans (R1.below.plain (fun _=>rfl)).size hb12'.size)))
       exact fin σ w3 R5 hb5 k1 k2 k3 k4
      cases e' with
      | normal=>obtain rfl:e= .normal:=he'; exact idle k5.1 k5.2
      | ret=>obtain rfl:e= .ret:=he'; exact idle k5.1 k5.2
      | exit id=>exact k5.elim
      | pan d=>
       obtain⟨vp,rfl,hvp⟩:=he'
       have k5':d= .ifs T [.int .i64 r.1,.int .i64 r.2]:=k5
       subst k5'
       obtain⟨rfl,hr1,hr2⟩:vp= .iface T (.agg #[.int .i64 r.1,.int .i64 r.2])∧(IntKind.i64.min≤r.1∧r.1≤IntKind.i64.max)∧(IntKind.i64.min≤r.2∧r.2≤IntKind.i64.max):=by
        cases hvp with | ifs m1 m2=>
        rename_i zs
        cases m1 with | cons m3 m4=>
        cases m4 with | cons m5 m6=>
        cases m3 with | int i1 i2=>
        cases m5 with | int i3 i4=>
        rename_i rest
        have:rest= []:=by simpa using m2.symm
        subst this
        exact⟨rfl,⟨i1,i2⟩,⟨i3,i4⟩⟩
       show Leaves P fn a'.tmps _ a'.defers (B0u T r.1 r.2 F) w2
       rw[hdf]
       refine leaves_cons (by unfold B0u; simp) hinv ((hcatch ⟨p',0,G⟩ ⟨q',0,G⟩ r.1 r.2 w2 _ _ hp2 hq2 hp3 hq3 hpq).mono fun e u' w3 h3=> ?_)
       obtain⟨⟨v3,rfl⟩,rfl,w4,hb4,rfl⟩:=h3
       have R5:=R.later hb4
       have R6:=C79 R5 hi hs hr1 k3 hp1
       have R7:=C79 R6 hi hs hr2 (id:=pY) (b:=q') (u:=v) (by
        show A6 (put σ.bx pX [.dat (.int .i64 r.1)]) pY=_
        rw[F5 _ _ (by unfold pX pY; omega)]
        exact k4) hq1
       have hb5:RowKit.Below w.heap.size w ((w4.setCell ⟨p',0,G⟩ (.int .i64 r.1)).setCell ⟨q',0,G⟩ (.int .i64 r.2)):=by
        have h4:RowKit.Below w.heap.size w w4:=hbw w4 (hb12'.trans (hb4.mono (Nat.le_trans (R1.below.plain (fun _=>rfl)).size hb12'.size)))
        exact(h4.setCell (p:=⟨p',0,G⟩) hpge _).setCell (p:=⟨q',0,G⟩) hqge _
       have hset:settle (B0u T r.1 r.2 true)= .returning:=rfl
       show Leaves P fn a'.tmps _ [] (settle (B0u T r.1 r.2 true)) _
       rw[hset]
       refine fin _ _ R7 hb5 k1 k2 ?_ ?_
       ·show A6 (put (put σ.bx pX [.dat (.int .i64 r.1)]) pY [.dat (.int .i64 r.2)]) pX=_
        rw[F5 _ _ (by unfold pX pY; omega),D9]
       ·exact D9 _ _ _
     ·cases he
    ·cases he
   ·cases he
  ·cases he
 ·cases he
def F0z(P:Program)(t b1 b2:Nat)(T:TypeId)(cR:ACode)(r:Int × Int)(e:AExit)(σ:St):Prop:=
 e= .normal∧σ.get t= .undef∧σ.get b1= .v (.sc (.pb b1 0))∧σ.get b2= .v (.sc (.pb b2 0))∧A6 σ.bx b1=E [.dat (.int .i64 0)]∧A6 σ.bx b2=E [.dat (.int .i64 0)]∧go P [.code cR] (C5z b1 b2 T r) .normal (E (σ.pinB b1 b2 [.dat (.int .i64 0)] [.dat (.int .i64 0)]))
theorem F12{P:Program}(hm:P.follows .mixedOrders=true){f g t b1 b2 nt:Nat}{T ti:TypeId}{cA cR:ACode}{xs:List DV}{r:Int × Int}{σ:St}(hi:(P.info? ti).map (·.size)=E 1)(he:B8g P f g t b1 b2=E (cA.strip,cR.strip,nt))(hl:Nat.ble xs.length nt=true)(htn:Nat.blt t nt=true)(hok:A2u P g=true)
  (hb12:b1≠b2) (hb1:b1 / 99999999999=0) (hb2:b2 / 99999999999=0) (hidle:C88 P g) (hcatch:C46 P g T) (hσ:St.init xs=σ)
  (h:go P [.code cA] (F0z P t b1 b2 T cR r) .normal (E σ)):FC P f xs [.sc (.v (.int .i64 r.1)),.sc (.v (.int .i64 r.2))]:=by
 cases hx:P.info? ti with
 | none=>rw[hx] at hi; cases hi
 | some inf=>
  rw[hx] at hi
  refine F2a hm hx (H hi) he (Nat.le_of_ble_eq_true hl) (by have:=Nat.le_of_ble_eq_true htn; omega) hok hb12 hb1 hb2 hidle hcatch (B27 cA (fun e σ h=> ?_) (hσ▸A4t h))
  obtain⟨h1,h2,h3,h4,h5,h6,h7⟩:=h
  exact⟨h1,h2,h3,h4,h5,h6,A4t h7⟩
end Go.Vi
