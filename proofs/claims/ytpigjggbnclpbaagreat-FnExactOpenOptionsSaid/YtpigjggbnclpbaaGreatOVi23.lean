/-
The value level. No condition.
-/
import Derived.Test.YtpigjggbnclpbaaGreatOVi22
namespace Go.Vi
set_option linter.all false
open Option renaming map_eq_some_iff → G, some → F
open List renaming getElem?_eq_getElem → L, all_eq_true → N
open Bool renaming true → T
open _root_ renaming List → E
section
variable {P : Program} {A : Ar} {B : Nat} {w0 : Base} {nt : Nat} {df : E Deferred}
def post(A:Ar)(B:Nat)(w0:Base)(nt:Nat)(df:E Deferred)(Q:Xg→St→Prop):Exit→Act→World→Prop:=fun e a w=>
 ∃e' nm σ,Xg.Is e' e∧Q e' σ∧Rel A B w0 nm σ a.tmps w∧a.tmps.size=nt∧a.defers=df
theorem M3{K':St→Prop}:∀(its:E AItem) (σ:St) {nm:Ad} {tmps:Array Value} {w:World},(∀i∈its,i.2.idle=T)→B8 P its K' σ→Rel A B w0 nm σ tmps w→∃nm' σ',K' σ'∧Rel A B w0 nm' σ' tmps w
 | [],σ,nm,tmps,w,_,h,R=>⟨nm,σ,h,R⟩
 | (g,o)::its,σ,nm,tmps,w,hi,h,R=>by
  have ho:o.idle=T:=hi (g,o) (by simp);obtain⟨σ',hs,hk⟩:=Pa (P:=P) (K':=B8 P its K') ho h;obtain⟨nm',R'⟩:=Nb R ho hs;exact M3 its σ' (fun i h=>hi i (by simp[h])) hk R'
theorem ov(x y:Xd):(∃its,x= .reg its∧(∀i∈its,i.2.idle=T)∧(Xd.seq x y).strip=y.strip)∨(Xd.seq x y).strip= .seq x.strip y.strip:=by
 cases x with
 | reg its=>
  cases hb:(!its.isEmpty&&its.all fun i=>i.2.idle) with
  | true=>
   simp only[Bool.and_eq_true,N] at hb
   refine .inl ⟨its,rfl,hb.2,?_⟩;simp only[Xd.strip];rw[show(!its.isEmpty&&its.all fun i=>i.2.idle)=T by simp only[Bool.and_eq_true,N]; exact hb];rfl
  | false=>
   refine .inr ?_;simp only[Xd.strip,hb,cond_false]
 | _=>exact .inr rfl
theorem ZC{X:Cx}{av:AV}{v:Value}{b:Bool}(H:VRel X av v)(h:av= .v (.sc (.dat (.bool b)))):v= .bool b:=by
 subst h;cases H with | v hx=>
 cases hx with | sc hx=>
 cases hx with | dat hr=>
 cases hr;rfl
theorem CA{ops:Array Oper}{c:Xd}(h:Ow P nt ops=F c):(∃is,c= .reg is∧Bl P nt ops ops.toList=F is)∨
  (∃l o y x is,c= .pan is x∧ops.toList=l++ [o]∧o.guard=none∧o.op= .panic y∧Az y=F x∧Bl P nt ops l=F is)∨
  (∃l o d f args is,c= .cal is d f args∧ops.toList=l++ [o]∧o.guard=none∧C6 P nt o=F (.call d f args)∧Bl P nt ops l=F is):=by
 unfold Ow at h;split at h
 ·rename_i c' hl
  cases h;right
  unfold Rm at hl
  split at hl
  ·rename_i o ho
   have hops:ops.toList=ops.toList.dropLast++ [o]:=by
    have hne:ops.toList≠ []:=by intro e; rw[e] at ho; simp at ho
    have:=List.dropLast_concat_getLast hne;rw[List.getLast?_eq_some_getLast hne] at ho
    rw[← Option.some.inj ho,this]
   split at hl
   ·rename_i hg
    have hg':o.guard=none:=by simpa using hg
    split at hl
    ·rename_i x hx
     split at hl
     ·rename_i y its h1 h2
      cases hl;exact .inl ⟨_,o,x,y,its,rfl,hops,hg',hx,h1,h2⟩
     ·cases hl
    ·split at hl
     ·rename_i d f args its h1 h2
      split at hl
      ·cases hl;exact .inr ⟨_,o,d,f,args,its,rfl,hops,hg',h1,h2⟩
      ·cases hl
     ·cases hl
    ·cases hl
   ·cases hl
  ·cases hl
 ·simp only[G] at h;obtain⟨is,h1,rfl⟩:=h;exact .inl ⟨is,rfl,h1⟩
theorem Rel.later{nm:Ad}{σ:St}{tmps:Array Value}{w w':World}(R:Rel A B w0 nm σ tmps w)(hb:RowKit.Below w.heap.size w w'):Rel A B w0 nm σ tmps w':=by
 refine R.carry (f:=fun c=>c) (R.below.trans R.there hb R.size) (Nat.le_trans R.size hb.size) (fun i b h=> ?_) R.inj (fun _ _=>rfl) (fun k=>by rw[AV.mapId]) (fun id=>by simp) (fun id cs _ b hb2=>⟨hb2,hb.block b (R.names _ b hb2).2⟩) (fun c v _ hrel=> ?_)
 ·obtain⟨h1,h2⟩:=R.names i b h;exact⟨h1,Nat.lt_of_lt_of_le h2 hb.size⟩
 ·exact hrel.move (Cf fun b hlt hn=>⟨hn,hb.block b hlt⟩) (fun id _=> .inr ⟨rfl,rfl,fun b hb2=>hb.block b (R.names _ b hb2).2⟩) (fun id _ b hb2=>hb2)
theorem VQ{Q:Exit→Act→World→Prop}{ops:Array Oper}{o:Oper}{a:Act}{w:World}(hg:o.guard=none)(h:o.wp P a w (fun a w=>Q .normal a w) Q):wpList P ops Q [o] a w:=by
 have hw:Region.wanted o (yielded ops a.tmps)=T:=by simp[Region.wanted,hg]
 unfold wpList;rw[hw];exact .inl h
theorem mT{Q:Xg→St→Prop}{ops:Array Oper}{o:Oper}{y:Operand}{x:Opd}{d:D}{nm:Ad}{σ:St}{a:Act}{w:World}(R:Rel A B w0 nm σ a.tmps w)(hnt:a.tmps.size=nt)(hdf:a.defers=df)
  (hg:o.guard=none) (ho:o.op= .panic y) (hy:Az y=F x) (hx:σ.val x= .v (.sc (.dat d))) (hf:d.flat=T) (hi:Pe d=T) (hq:Q (.pan d) σ):wpList P ops (post A B w0 nt df Q) [o] a w:=by
 refine VQ hg ?_;have hr:=Al R hy;rw[hx] at hr
 have hd:Rep (Ab A nm w) d (a.eval y):=by
  have hc:=hr.inv_sc;cases hc with | dat h=>exact h
 have hv:∃t u,a.eval y= .iface t u:=by
  revert hi hd
  generalize a.eval y=v
  intro hi hd;cases hd<;>first | (cases hi; done) | exact⟨_,_,rfl⟩
 have hrun:(execOp a.eval o).run P w= .halt (.panic (a.eval y)) w:=by
  obtain⟨t,u,e⟩:=hv;have:(Instr.panic (a.eval y)).run P w= .halt (.panic (a.eval y)) w:=by rw[e]; rfl
  obtain⟨dst,op,ty,pos,after,guard⟩:=o;simp only at ho
  subst ho;simp[execOp,this,Result.andThen]
 unfold Oper.wp;rw[hrun,Oper.upon_panic];exact⟨.pan d,nm,σ,⟨_,rfl,hd.flat hf⟩,hq,R,hnt,hdf⟩
theorem ZF{Q:Xg→St→Prop}{ops:Array Oper}{o:Oper}{d:Nat}{f:FuncId}{args:E Opd}{nm:Ad}{σ:St}{a:Act}{w:World}(R:Rel A B w0 nm σ a.tmps w)(hnt:a.tmps.size=nt)(hdf:a.defers=df)
  (hg:o.guard=none) (hc:C6 P nt o=F (.call d f args)) (h:AN P (.call d f args) (Q .normal) σ∨∃ds pd,σ.toDVs args=F ds∧J5 P f ds pd∧Q (.pan pd) σ):wpList P ops (post A B w0 nt df Q) [o] a w:=by
 refine VQ hg ?_;rcases h with h|⟨ds,pd,hds,hfc,hq⟩
 ·exact QV R hnt hc h fun nm' σ' a' w' hk R' hs hd=>⟨.normal,nm',σ',rfl,hk,R',hs,hd.trans hdf⟩
 ·unfold C6 at hc
  split at hc
  ·rename_i d' hd
   split at hc
   ·rename_i hlt
    have e:=(Jj hc).1;simp only[AOp.dst,Option.some.injEq] at e
    subst e;obtain⟨dst,op,ty,pos,after,guard⟩:=o;simp only at hd
    subst hd
    have hcall:∃xs tys,op= .call {callee:= .value (.func f),args:=xs,argTypes:=tys}∧BG xs.toList=F args∧Bi P f=T:=by
     rcases Ou (d':=d) rfl hc (.inl ⟨f,args,rfl⟩) with ⟨f',args',xs,tys,h1,h2,h3,h4⟩|⟨t,args',xs,tys,h1,_⟩
     ·cases h1; exact⟨xs,tys,h2,h3,h4⟩
     ·cases h1
    obtain⟨xs,tys,rfl,hxs,hok⟩:=hcall
    have hrun:(execOp a.eval {dst:=some d,op:= .call {callee:= .value (.func f),args:=xs,argTypes:=tys },type:=ty,pos,after,guard }).run P w= .ok (.enter f (xs.toList.map a.eval).toArray) w:=by
     have:=PA (w:=w) hok (xs.map a.eval);have e2:(xs.toList.map a.eval).toArray=xs.map a.eval:=by apply Array.ext'; simp
     rw[e2];simp[execOp,resolve,Deferred.ofValue,invoke,Act.eval,this]
    unfold Oper.wp;rw[hrun,Oper.upon_enter];refine(hfc w (fun _ _=>True) _ (R.good w R.below) ((NO R hxs hds).mono fun _ _ h=>Q8 h)).mono fun e w' h=> ?_
    obtain⟨v,rfl,hb,hv⟩:=h;exact⟨.pan pd,nm,σ,⟨v,rfl,hv⟩,hq,R.later hb,hnt,hdf⟩
   ·cases hc
  ·split at hc
   ·split at hc<;>cases hc
   ·(repeat' split at hc)<;>cases hc
   ·cases hc
theorem OK:∀(env:E (Nat × AV)) (ds:E Nat) (k:Nat),(A1 (env++ds.map fun d=>(d,AV.undef)) k).getD .undef=(A1 env k).getD .undef
 | [],[],k=>rfl
 | [],d::ds,k=>by
  have:=OK [] ds k;simp only[List.nil_append] at this ⊢
  simp only[List.map_cons,A1];cases d==k
  ·exact this
  ·rfl
 | (i,v)::env,ds,k=>by
  have:=OK env ds k;simp only[List.cons_append,A1];cases i==k
  ·exact this
  ·rfl
theorem mS{σ:St}{ds:E Nat}:Same σ (σ.pad ds):=⟨fun k=>OK _ _ _,fun _=>rfl,fun _=>rfl⟩
theorem Rp:∀{ms:E Bool} {i:Nat},ms[i]?=F false→(ms.set i T).count false+1=ms.count false
 | [],_,h=>by simp at h
 | b::ms,0,h=>by
  simp at h;subst h;simp
 | b::ms,i+1,h=>by
  simp at h;have:=Rp h;cases b<;>simp<;>omega
theorem Ro{α:Type}:∀(l:E α),(l.map fun _=>false).count false=l.length
 | []=>rfl
 | x::l=>by simp[Ro l]
theorem YN{ops:Array Oper}{its:E (E Nat × AItem)}{is:E AItem}{τ:St}{Q:Exit→Act→World→Prop}(hc:Bl P nt ops ops.toList=F is)(hw:Hq 0 ops.toList=T)(BY:its=(ops.toList.map waits).zip is)
  (hQ:∀nm a w,Rel A B w0 nm τ a.tmps w→a.tmps.size=nt→a.defers=df→Q .normal a w) :
  ∀(f:Nat) (ms:E Bool) (listed:Array Bool) (σ:St) (a:Act) (w:World) (nm:Ad),An P its τ f ms σ→ms.length=ops.size→ms.count false=f→listed.size=ops.size→(∀j,Ah listed j↔ms[j]?=F T)→Rel A B w0 nm σ a.tmps w→a.tmps.size=nt→a.defers=df→wpAny P .any ops Q f listed a w:=by
 intro f
 induction f with
 | zero=>
  intro ms listed σ a w nm h hlen hcount hsz hL R hnt hdf
  have hall:∀b∈ms,b=T:=fun b hb=>by
   cases b with
   | true=>rfl
   | false=>exact absurd hb (List.count_eq_zero.1 hcount)
  have hστ:σ=τ:=h (N.2 fun b hb=>hall b hb);refine⟨?_,hQ nm a w (hστ▸R) hnt hdf⟩;refine List.eq_nil_iff_forall_not_mem.2 fun i hi=> ?_
  obtain⟨h5,h6,_⟩:=DC.1 hi;refine(DB (by omega)).1 h6 ((hL i).2 ?_);have hlt:i<ms.length:=by omega
  rw[L hlt,hall _ (List.getElem_mem hlt)]
 | succ f ih=>
  intro ms listed σ a w nm h hlen hcount hsz hL R hnt hdf
  have back:∀(i:Nat) (o:Oper),ops[i]?=F o→∀j∈waits o,j<i:=fun i o ho j hj=>by
   have:=Qe hw i o (by simpa using ho) j hj;omega
  refine⟨fun hr=> ?_,fun i hi=> ?_⟩
  ·exfalso
   have hmem:false∈ms:=by
    refine Classical.byContradiction fun hn=> ?_
    have:=List.count_eq_zero.2 hn;omega
   obtain⟨i,hi,hif⟩:=List.getElem_of_mem hmem
   have hn0:¬Ah listed i:=fun hl=>by
    have:=(hL i).1 hl;rw[L hi,hif] at this
    cases this
   obtain⟨mi,hmi,hmn,hmall⟩:=Pr (p:=Ah listed) hn0;have:mi∈Region.ready .any ops listed:=DC.2 ⟨by omega,(DB (by omega)).2 hmn,fun o ho j hj=>hmall j (back mi o ho j hj)⟩;rw[hr] at this
   simp at this
  ·obtain⟨hin,hun,hwt⟩:=DC.1 hi;have hun':=(DB (by omega)).1 hun;obtain⟨hl1,hl2⟩:=Jl hc;have ho:ops[i]?=F ops[i]:=Array.getElem?_eq_getElem hin;obtain⟨it,hit,hci⟩:=hl2 i ops[i] (by simp)
   have hmi:ms[i]?=F false:=by
    have hlt:i<ms.length:=by omega
    rw[L hlt];cases hb:ms[i] with
    | false=>rfl
    | true=>exact absurd ((hL i).2 (by rw[L hlt,hb])) hun'
   have hzip:its[i]?=F (waits ops[i],it):=by
    rw[BY,List.getElem?_zip_eq_some];exact⟨by simp[ho],hit⟩
   obtain⟨pre,post,hpre,hpost,h2⟩:=h i _ hzip hmi fun j hj=>(hL j).1 (hwt _ ho j hj)
   obtain⟨nm1,σ1,h2,R1⟩:=M3 pre σ (fun i hi=>N.1 hpre i hi) h2 R
   have cont:∀(nm':Ad) (σ':St) (a':Act) (w':World),B8 P post (An P its τ f (ms.set i T)) σ'→Rel A B w0 nm' σ' a'.tmps w'→a'.tmps.size=nt→a'.defers=a.defers→wpAny P .any ops Q f (listed.setIfInBounds i T) a' w':=fun nm' σ' a' w' hk R' hs' hd'=>by
    obtain⟨nm',σ',hk,R'⟩:=M3 post σ' (fun i hi=>N.1 hpost i hi) hk R';refine ih _ _ _ a' w' nm' hk (by simp; omega) ?_ (by simp; omega) (fun j=> ?_) R' hs' (hd'.trans hdf)
    ·have:=Rp hmi;omega
    ·rw[Fp (by omega),hL j,List.getElem?_set];by_cases hj:i=j
     ·subst hj;have hlt:i<ms.length:=by omega
      simp[hlt]
     ·have:¬j=i:=fun e=>hj e.symm
      simp[hj,this]
   have:=Ng (Q:=Q) (K:=wpAny P .any ops Q f (listed.setIfInBounds i T)) R1 hnt hci h2 cont;unfold wpOp;rw[ho];exact this
theorem YO(hm:P.follows .mixedOrders=T){id:Nat}{ops:Array Oper}{its:E (E Nat × AItem)}{τ:St}{Q:Exit→Act→World→Prop}{nm:Ad}{σ:St}{a:Act}{w:World}(R:Rel A B w0 nm σ a.tmps w)(hnt:a.tmps.size=nt)(hdf:a.defers=df)(hc:Ji P nt ops=F its)(h:An P its τ its.length (its.map fun _=>false) σ)
  (hQ:∀nm a w,Rel A B w0 nm τ a.tmps w→a.tmps.size=nt→a.defers=df→Q .normal a w):(Code.region id ops T).wp P Q a w:=by
 unfold Ji at hc
 split at hc
 ·rename_i is his
  split at hc
  ·rename_i hw
   have BY:=(Option.some.inj hc).symm
   have hlen:its.length=ops.size:=by
    have:=(Jl his).1;rw[BY];simp[this]
   refine wp_region_any hm ?_;rw[hlen] at h;refine YN his hw BY hQ ops.size _ _ σ a _ nm h (by simp; omega) ?_ (by simp) (fun j=> ?_) (R.drawn _) hnt hdf
   ·rw[← hlen];exact Ro its
   ·constructor
    ·intro hl;exfalso
     unfold Ah at hl
     rw[Array.getD_eq_getD_getElem?,Array.getElem?_replicate] at hl
     split at hl<;>simp at hl
    ·intro hl;simp at hl
  ·cases hc
 ·cases hc
theorem CB{id:Nat}{ops:Array Oper}{c:Xd}(h:B0 P nt (.region id ops T)=F c):(∃is,Jk P nt ops=F is∧c= .drw is)∨(∃is,Ji P nt ops=F is∧c= .any is):=by
 unfold B0 at h;cases hp:Uf P ops with
 | true=>
  simp only[hp,cond_true,G] at h;obtain⟨is,h1,rfl⟩:=h;exact .inr ⟨is,h1,rfl⟩
 | false=>
  simp only[hp,cond_false] at h;split at h
  ·rename_i is h1
   cases h;exact .inl ⟨is,h1,rfl⟩
  ·simp only[G] at h;obtain⟨is,h1,rfl⟩:=h;exact .inr ⟨is,h1,rfl⟩
theorem FN(hm:P.follows .mixedOrders=T):∀(c:Xd) (C:Code) (Q:Xg→St→Prop) (nm:Ad) (σ:St) (a:Act) (w:World),B0 P nt C=F c.strip→AT P c Q σ→Rel A B w0 nm σ a.tmps w→a.tmps.size=nt→a.defers=df→
  C.wp P (post A B w0 nt df Q) a w:=by
 intro c
 induction c with
 | skip=>
  intro C Q nm σ a w hc h R hnt hdf;cases C<;>simp only[B0,Xd.strip,G] at hc
  case skip=>exact wp_skip ⟨.normal,nm,σ,rfl,h,R,hnt,hdf⟩
  case label=>exact wp_label ⟨.normal,nm,σ,rfl,h,R,hnt,hdf⟩
  case region id ops d=>
   cases d
   ·rcases(CD hc).imp_left CA with (⟨is,h2,h1⟩|⟨_,_,_,_,_,h2,_⟩|⟨_,_,_,_,_,_,h2,_⟩)|h2<;>cases h2
   ·rcases CB hc with ⟨is,h1,h2⟩|⟨is,h1,h2⟩<;>cases h2
  case seq=>split at hc<;>cases hc
  case cond=>split at hc<;>cases hc
  all_goals (first | (cases hc; done) | (obtain⟨_,_,hc⟩:=hc; cases hc))
 | reg its=>
  intro C Q nm σ a w hc h R hnt hdf;cases C<;>simp only[B0,Xd.strip,G] at hc
  case region id ops d=>
   cases d
   case false=>
    simp only[B0] at hc
    rcases(CD hc).imp_left CA with (⟨is,h2,h1⟩|⟨_,_,_,_,_,h2,_⟩|⟨_,_,_,_,_,_,h2,_⟩)|h2<;>cases h2
    refine wp_region_list (Og its ops.toList σ a w nm R hnt h1 h fun nm' σ' a' w' k1 k2 k3 k4=>⟨.normal,nm',σ',rfl,k1,k2,k3,k4.trans hdf⟩)
   case true=>
    rcases CB hc with ⟨is,h1,h2⟩|⟨is,h1,h2⟩<;>cases h2
  case seq=>split at hc<;>cases hc
  case cond=>split at hc<;>cases hc
  all_goals (first | (cases hc; done) | (obtain⟨_,_,hc⟩:=hc; cases hc))
 | drw its=>
  intro C Q nm σ a w hc h R hnt hdf;cases C<;>simp only[B0,Xd.strip,G] at hc
  case region id ops d=>
   cases d
   case false=>
    simp only[B0] at hc
    rcases(CD hc).imp_left CA with (⟨is,h2,h1⟩|⟨_,_,_,_,_,h2,_⟩|⟨_,_,_,_,_,_,h2,_⟩)|h2<;>cases h2
   case true=>
    rcases CB hc with ⟨is,h1,h2⟩|⟨is,h1,h2⟩<;>cases h2
    exact bf hm R hnt h1 h.1 h.2 fun nm' σ' a' w' k1 k2 k3 k4=>⟨.normal,nm',σ',rfl,k1,k2,k3,k4.trans hdf⟩
  case seq=>split at hc<;>cases hc
  case cond=>split at hc<;>cases hc
  all_goals (first | (cases hc; done) | (obtain⟨_,_,hc⟩:=hc; cases hc))
 | any its=>
  intro C Q nm σ a w hc h R hnt hdf;cases C<;>simp only[B0,Xd.strip,G] at hc
  case region id ops d=>
   cases d
   case false=>
    simp only[B0] at hc
    rcases(CD hc).imp_left CA with (⟨is,h2,h1⟩|⟨_,_,_,_,_,h2,_⟩|⟨_,_,_,_,_,_,h2,_⟩)|h2<;>cases h2
   case true=>
    rcases CB hc with ⟨is,h1,h2⟩|⟨is,h1,h2⟩<;>cases h2
    obtain⟨ks,bs,rs,τ,h3,h4⟩:=h;obtain⟨nm2,R2⟩:=Nb (o:= .keep ks bs rs) R rfl rfl;exact YO hm (R2.same mS) hnt hdf h1 h3 fun nm' a' w' k2 k3 k4=>⟨.normal,nm',τ,rfl,h4,k2,k3,k4⟩
  case seq=>split at hc<;>cases hc
  case cond=>split at hc<;>cases hc
  all_goals (first | (cases hc; done) | (obtain⟨_,_,hc⟩:=hc; cases hc))
 | hook nt0 C0=>
  intro C Q nm σ a w hc h R hnt hdf;cases C<;>simp only[B0,Xd.strip,G] at hc
  case region id ops d=>
   cases d
   case false=>
    simp only[B0] at hc
    rcases(CD hc).imp_left CA with (⟨is,h2,h1⟩|⟨_,_,_,_,_,h2,_⟩|⟨_,_,_,_,_,_,h2,_⟩)|h2<;>cases h2
    obtain⟨τ,h3,h4⟩:=h;exact wp_mono (h3 A B w0 nm a w R hnt) fun e a' w' ⟨he,⟨nm',R'⟩,k1,k2⟩=>⟨.normal,nm',τ,he,h4,R',k1,k2.trans hdf⟩
   case true=>
    rcases CB hc with ⟨is,h1,h2⟩|⟨is,h1,h2⟩<;>cases h2
  case seq=>split at hc<;>cases hc
  case cond=>split at hc<;>cases hc
  all_goals (first | (cases hc; done) | (obtain⟨_,_,hc⟩:=hc; cases hc))
 | seq x y ihx ihy=>
  intro C Q nm σ a w hc h R hnt hdf;rcases ov x y with ⟨its,rfl,hidle,hst⟩|hst
  ·rw[hst] at hc
   obtain⟨nm',σ',hk,R'⟩:=M3 its σ hidle h R;exact ihy C Q nm' σ' a w hc hk R' hnt hdf
  ·rw[hst] at hc
   cases C<;>try simp only[B0,G] at hc
   case seq X Y=>
    split at hc
    ·rename_i x' y' h1 h2
     cases hc;refine wp_seq ?_;refine wp_mono (ihx X _ nm σ a w h1 h R hnt hdf) fun e a' w' hp=> ?_
     obtain⟨e',nm',σ',he,hq,R',k1,k2⟩:=hp;cases e' with
     | normal=>obtain rfl:e= .normal:=he; exact ihy Y Q nm' σ' a' w' h2 hq R' k1 k2
     | exit id=>obtain rfl:e= .exit id:=he; exact⟨.exit id,nm',σ',rfl,hq,R',k1,k2⟩
     | ret=>obtain rfl:e= .ret:=he; exact⟨.ret,nm',σ',rfl,hq,R',k1,k2⟩
     | pan d=>obtain⟨v,rfl,hv⟩:=he; exact⟨.pan d,nm',σ',⟨v,rfl,hv⟩,hq,R',k1,k2⟩
    ·cases hc
   case region id ops d=>cases d<;>first | (rcases(CD hc).imp_left CA with (⟨is,h2,h1⟩ | ⟨_,_,_,_,_,h2,_⟩ | ⟨_,_,_,_,_,_,h2,_⟩) | h2<;>(cases h2; done)) | (rcases CB hc with ⟨is,h1,h2⟩ | ⟨is,h1,h2⟩<;>(cases h2; done))
   case cond=>split at hc<;>cases hc
   all_goals (first | (cases hc; done) | (obtain⟨_,_,hc⟩:=hc; cases hc))
 | cond c x y ihx ihy=>
  intro C Q nm σ a w hc h R hnt hdf;cases C<;>simp only[B0,Xd.strip,G] at hc
  case cond c' X Y=>
   split at hc
   ·rename_i h1 h2 h3
    cases hc;simp only[AT] at h;split at h
    ·rename_i b hb
     have hv:=ZC (Al R h1) hb;refine wp_cond hv ?_;cases b
     ·exact ihy Y Q nm σ a w h3 (by simpa using h) R hnt hdf
     ·exact ihx X Q nm σ a w h2 (by simpa using h) R hnt hdf
    ·exact h.elim
   ·cases hc
  case region id ops d=>cases d<;>first | (rcases(CD hc).imp_left CA with (⟨is,h2,h1⟩ | ⟨_,_,_,_,_,h2,_⟩ | ⟨_,_,_,_,_,_,h2,_⟩) | h2<;>(cases h2; done)) | (rcases CB hc with ⟨is,h1,h2⟩ | ⟨is,h1,h2⟩<;>(cases h2; done))
  case seq=>split at hc<;>cases hc
  all_goals (first | (cases hc; done) | (obtain⟨_,_,hc⟩:=hc; cases hc))
 | block id c ih=>
  intro C Q nm σ a w hc h R hnt hdf;cases C<;>simp only[B0,Xd.strip,G] at hc
  case block id' X=>
   obtain⟨x',h1,h2⟩:=hc;cases h2;refine wp_block (wp_mono (ih X _ nm σ a w h1 h R hnt hdf) fun e a' w' hp=> ?_);obtain⟨e',nm',σ',he,hq,R',k1,k2⟩:=hp;cases e' with
   | normal=>obtain rfl:e= .normal:=he; exact⟨.normal,nm',σ',rfl,hq,R',k1,k2⟩
   | ret=>obtain rfl:e= .ret:=he; exact⟨.ret,nm',σ',rfl,hq,R',k1,k2⟩
   | pan d=>obtain⟨v,rfl,hv⟩:=he; exact⟨.pan d,nm',σ',⟨v,rfl,hv⟩,hq,R',k1,k2⟩
   | exit i=>
    obtain rfl:e= .exit i:=he;simp only[Exit.inBlock];change (if i=id then Q .normal σ' else Q (.exit i) σ') at hq
    split
    ·rename_i e
     rw[if_pos e] at hq
     exact⟨.normal,nm',σ',rfl,hq,R',k1,k2⟩
    ·rename_i e
     rw[if_neg e] at hq
     exact⟨.exit i,nm',σ',rfl,hq,R',k1,k2⟩
  case region id ops d=>cases d<;>first | (rcases(CD hc).imp_left CA with (⟨is,h2,h1⟩ | ⟨_,_,_,_,_,h2,_⟩ | ⟨_,_,_,_,_,_,h2,_⟩) | h2<;>(cases h2; done)) | (rcases CB hc with ⟨is,h1,h2⟩ | ⟨is,h1,h2⟩<;>(cases h2; done))
  case seq=>split at hc<;>cases hc
  case cond=>split at hc<;>cases hc
  all_goals (first | (cases hc; done) | (obtain⟨_,_,hc⟩:=hc; cases hc))
 | loop c ih=>
  intro C Q nm σ a w hc h R hnt hdf;cases C<;>simp only[B0,Xd.strip,G] at hc
  case loop X=>
   obtain⟨x',h1,h2⟩:=hc;cases h2
   have key:=h (fun σ=>∀(nm:Ad) (a:Act) (w:World),Rel A B w0 nm σ a.tmps w→a.tmps.size=nt→a.defers=df→∀(b:Frame) (k:E Item) (cs:E Frame),
    ∃e a' w',post A B w0 nt df Q e a' w'∧Arrives P (lone (b.at a (.code X:: .inLoop X::k)) cs w) b k cs e a' w') (fun σ' h' nm a w R hnt hdf b k cs=>by
     obtain⟨e,a₁,w₁,hq,harr⟩:=ih X _ nm σ' a w h1 h' R hnt hdf b (.inLoop X::k) cs;obtain⟨e',nm',σ'',he,hq,R',k1,k2⟩:=hq;cases e' with
     | pan d=>obtain⟨v,rfl,hv⟩:=he; exact⟨_,a₁,w₁,⟨.pan d,nm',σ'',⟨v,rfl,hv⟩,hq,R',k1,k2⟩,.pass (x:= .inLoop X) rfl (fun _ _=> .inl (by simp)) harr⟩
     | normal=>
      obtain rfl:e= .normal:=he;obtain⟨e₂,a₂,w₂,hq₂,harr₂⟩:=hq nm' a₁ w₁ R' k1 k2 b k cs;exact⟨e₂,a₂,w₂,hq₂,.of_steps (Steps.trans harr (.one step_inLoop)) harr₂⟩
     | exit id=>obtain rfl:e= .exit id:=he; exact⟨_,a₁,w₁,⟨.exit id,nm',σ'',rfl,hq,R',k1,k2⟩,.pass (x:= .inLoop X) rfl (fun _ _=> .inl (by simp)) harr⟩
     | ret=>obtain rfl:e= .ret:=he; exact⟨_,a₁,w₁,⟨.ret,nm',σ'',rfl,hq,R',k1,k2⟩,.pass (x:= .inLoop X) rfl (fun _ _=> .inl (by simp)) harr⟩)
   intro b k cs;obtain⟨e,a',w',hq,harr⟩:=key nm a w R hnt hdf b k cs;exact⟨e,a',w',hq,.of_steps (.one step_loop) harr⟩
  case region id ops d=>cases d<;>first | (rcases(CD hc).imp_left CA with (⟨is,h2,h1⟩ | ⟨_,_,_,_,_,h2,_⟩ | ⟨_,_,_,_,_,_,h2,_⟩) | h2<;>(cases h2; done)) | (rcases CB hc with ⟨is,h1,h2⟩ | ⟨is,h1,h2⟩<;>(cases h2; done))
  case seq=>split at hc<;>cases hc
  case cond=>split at hc<;>cases hc
  all_goals (first | (cases hc; done) | (obtain⟨_,_,hc⟩:=hc; cases hc))
 | pan its x=>
  intro C Q nm σ a w hc h R hnt hdf;cases C<;>simp only[B0,Xd.strip,G] at hc
  case region id ops d=>
   cases d
   case false=>
    simp only[B0] at hc
    rcases(CD hc).imp_left CA with (⟨is,h2,h1⟩|⟨l,o,y,x',is,h2,hl,hg,ho,hy,h1⟩|⟨_,_,_,_,_,_,h2,_⟩)|h2<;>cases h2
    refine wp_region_list ?_;rw[hl];refine M4 its l σ a w nm R hnt h1 h fun nm' σ' a' w' hk R' hs hd=> ?_
    obtain⟨d,hx,hf,hi,hq⟩:=hk;exact mT R' hs (hd.trans hdf) hg ho hy hx hf hi hq
   case true=>
    rcases CB hc with ⟨is,h1,h2⟩|⟨is,h1,h2⟩<;>cases h2
  case seq=>split at hc<;>cases hc
  case cond=>split at hc<;>cases hc
  all_goals (first | (cases hc; done) | (obtain⟨_,_,hc⟩:=hc; cases hc))
 | cal its dd f args=>
  intro C Q nm σ a w hc h R hnt hdf;cases C<;>simp only[B0,Xd.strip,G] at hc
  case region id ops d=>
   cases d
   case false=>
    simp only[B0] at hc
    rcases(CD hc).imp_left CA with (⟨is,h2,h1⟩|⟨_,_,_,_,_,h2,_⟩|⟨l,o,d2,f2,args2,is,h2,hl,hg,ho,h1⟩)|h2<;>cases h2
    refine wp_region_list ?_;rw[hl];exact M4 its l σ a w nm R hnt h1 h fun nm' σ' a' w' hk R' hs hd=>ZF R' hs (hd.trans hdf) hg ho hk
   case true=>
    rcases CB hc with ⟨is,h1,h2⟩|⟨is,h1,h2⟩<;>cases h2
  case seq=>split at hc<;>cases hc
  case cond=>split at hc<;>cases hc
  all_goals (first | (cases hc; done) | (obtain⟨_,_,hc⟩:=hc; cases hc))
 | exit id=>
  intro C Q nm σ a w hc h R hnt hdf;cases C<;>simp only[B0,Xd.strip,G] at hc
  case exit id'=>cases hc; exact wp_exit ⟨.exit id,nm,σ,rfl,h,R,hnt,hdf⟩
  case region id ops d=>cases d<;>first | (rcases(CD hc).imp_left CA with (⟨is,h2,h1⟩ | ⟨_,_,_,_,_,h2,_⟩ | ⟨_,_,_,_,_,_,h2,_⟩) | h2<;>(cases h2; done)) | (rcases CB hc with ⟨is,h1,h2⟩ | ⟨is,h1,h2⟩<;>(cases h2; done))
  case seq=>split at hc<;>cases hc
  case cond=>split at hc<;>cases hc
  all_goals (first | (cases hc; done) | (obtain⟨_,_,hc⟩:=hc; cases hc))
 | ret=>
  intro C Q nm σ a w hc h R hnt hdf;cases C<;>simp only[B0,Xd.strip,G] at hc
  case ret=>exact wp_ret ⟨.ret,nm,σ,rfl,h,R,hnt,hdf⟩
  case region id ops d=>cases d<;>first | (rcases(CD hc).imp_left CA with (⟨is,h2,h1⟩ | ⟨_,_,_,_,_,h2,_⟩ | ⟨_,_,_,_,_,_,h2,_⟩) | h2<;>(cases h2; done)) | (rcases CB hc with ⟨is,h1,h2⟩ | ⟨is,h1,h2⟩<;>(cases h2; done))
  case seq=>split at hc<;>cases hc
  case cond=>split at hc<;>cases hc
  all_goals (first | (cases hc; done) | (obtain⟨_,_,hc⟩:=hc; cases hc))
end
end Go.Vi
