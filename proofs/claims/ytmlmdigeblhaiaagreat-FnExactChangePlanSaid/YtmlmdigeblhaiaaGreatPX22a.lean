/-
Plain laws. No condition.
-/
import Derived.Test.YtmlmdigeblhaiaaGreatPR8b
namespace Go.Vi
set_option linter.all false
open Option renaming bind_some → L, some → T
open List renaming take_succ_eq_append_getElem → N, getElem?_map → P, drop_eq_getElem_cons → V, take_length → W, getElem?_eq_getElem → X, getElem_mem → Y
open Bool renaming false_eq_true → O
open Nat renaming zero_le → Q
open _root_ renaming List → F, Int → E
section
variable {h : X3} {os : F (F X0)}
def LB:F (F X0)->E->Prop
 | [],R=>R=0
 | l::ls,R=>∃m:E,(∀o∈l,m<=o.Cost)/\LB ls (R - m)
def A44:∀(ls:F (F X0)) (pl:F X0) (ch:F E) (A:Fnd) {R:E},LB ls R->A.f=true->A.w.i1=0->A.w.i0<=BZ pl+R->AE h D2 ls pl ch A=A:=by
 intro ls
 induction ls with
 | nil=>
  intro pl ch A R hR hf h1 hw;have hR:R=0:=hR;rw[AE];split
  .unfold I3;have h2:¬BZ pl<A.w.i0:=by omega
   rw[if_pos (by simp[hf,wl,D2,h1,h2])]
  .rfl
 | cons l ls ih=>
  intro pl ch A R hR hf h1 hw;obtain⟨m,hm,hR⟩:=hR;rw[AE];refine U5 fun o ho n=> ?_
  split
  .refine ih _ _ _ hR hf h1 ?_;rw[VR];have:=hm o ho;omega
  .rfl
def A35(s:HSmall h)(hh:B4 h=true)(h6:os.length<=6)(h8:∀l∈os,l.length<=9)(hg:∀l∈os,GoodC h l){rest:F E}(hr:rest.length=os.length+1)(hR:∀i,i<=os.length->∃R:E,rest[i]?=T R/\0<=R/\R<=100000/\LB (os.drop i) R):∀(ls:F (F X0)) (pl:F X0) (ch b:F E) (c:E) (f:Bool) (k:E) (n:Nat),ls.length<n->os.drop pl.length=ls->pl.length+ls.length=os.length->Chos os pl ch->GoodC h pl->k=BZ pl->
  ∃b' c' f',BW n (Zx h os rest b c f) ch k=T (Zx h os rest b' c' f')/\AE h D2 ls pl ch ⟨f,b,⟨c,0⟩⟩=⟨f',b',⟨c',0⟩⟩:=by
 have up:∀(ls:F (F X0)) (pl:F X0) (ch b:F E) (c:E) (f:Bool) (k:E) (n:Nat),pl.length<=os.length->pl.length=ch.length->os.drop pl.length=ls->k=BZ pl->(∀l∈ls,GoodC h l)->0<=k->k<=100000->
   ((∀R,rest[pl.length]?=T R->f=true->k+R<c)->∃b' c' f',HI (BW n) ch k (Zx h os rest b c f) f=T (Zx h os rest b' c' f')/\AE h D2 ls pl ch ⟨f,b,⟨c,0⟩⟩=⟨f',b',⟨c',0⟩⟩)->
   ∃b' c' f',BW (n+1) (Zx h os rest b c f) ch k=T (Zx h os rest b' c' f')/\AE h D2 ls pl ch ⟨f,b,⟨c,0⟩⟩=⟨f',b',⟨c',0⟩⟩:=fun ls pl ch b c f k n hl hc hd hks hgl k0 k1 H=>by
  rw[BW,S0];cases f with
  | false=>simpa using H (fun _ _ h=>by cases h)
  | true=>
   obtain⟨R,r1,r2,r3,r4⟩:=hR pl.length hl;have r1':ix rest (ch.length:E)=T R:=by rw[Am,<- hc,r1]
   simp only[if_true,r1',L];rw[Ai a9 a9];split
   .rename_i hle
    simp only[decide_eq_true_eq] at hle
    refine⟨b,c,true,rfl,?_⟩;exact A44 ls pl ch _ (by rw[<- hd]; exact r4) rfl rfl (by rw[<- hks]; exact hle)
   .rename_i hle
    simp only[decide_eq_true_eq] at hle
    exact H (fun R' e _=>by rw[r1] at e; cases e; omega)
 intro ls
 induction ls with
 | nil=>
  intro pl ch b c f k n hn hd hl H G hk;obtain⟨k0,k1⟩:=VQ G.cost;obtain⟨q,rfl⟩:=sn (n:=n) (by simpa using hn);simp only[List.length_nil,Nat.add_zero] at hl
  have hlen:=H.1;refine up _ pl ch b c f k q a9 hlen hd hk (fun l' h'=>hg l' (by rw[<- hd] at h'; exact List.mem_of_mem_drop h')) a9 a9 fun hlow=> ?_
  have hz:((ch.length:E)==(os.length:E))=true:=by rw[<- hlen,hl]; simp
  have hap:Ab ([]:F E).length ch.length 8=true:=AT d0 a9 a9
  have e1:Ds (BW q) ch k (Zx h os rest b c f) f bigN 0 []=Ds (BW q) ch k (Zx h os rest b c f) f 1 (ch.length:E) pl:=by
   refine Bi (fun n i=>Ds (BW q) ch k (Zx h os rest b c f) f n (i:E) (pl.take i)=Ds (BW q) ch k (Zx h os rest b c f) f 1 (ch.length:E) pl) (Ak (n:=pl.length) a9) (fun n=> ?_) (fun n i hi ih=> ?_) (Q _)
   .have hd0:decide ((ch.length:E)<(ch.length:E))=false:=by simp
    rw[W,hlen,Ds,Ds];simp only[hd0,O,if_false]
   .obtain⟨l,x,c1,c2,c3⟩:=H.2 i hi;have hi':i<ch.length:=by omega
    rw[Ds];simp only[Aj,hi',decide_true,if_true,Am,c1,c2,L,c3];rw[if_pos (AT d3 d0 a9),Au hi (Ak a9),<- N hi];exact ih
  have hch:LO pl=T (B3 pl):=A4t a9 fun o ho=>(G o ho).1.2
  have e2:HI (BW q) ch k (Zx h os rest b c f) f=Ds (BW q) ch k (Zx h os rest b c f) f bigN 0 []:=by
   rw[HI,if_pos hz]
  rw[e2,e1,Ds,if_neg d0];simp only[hch,L,pE s hh (pl:=pl) a9 G.pl,hap,if_true,AE];cases Cp h pl with
  | false=>exact⟨b,c,f,d0,d0⟩
  | true=>
   refine⟨ch,k,true,d0,?_⟩;rw[if_pos rfl,I3,if_neg,hk]
   .rfl
   .cases f with
    | false=>simp
    | true=>
     obtain⟨R,r1,r2,_⟩:=hR pl.length a9;have:=hlow R r1 rfl;have hlt:BZ pl<c:=by omega
     simp[wl,D2,hlt]
 | cons l ls ih=>
  intro pl ch b c f k n hn hd hl H G hk;obtain⟨k0,k1⟩:=VQ G.cost;obtain⟨q,rfl⟩:=sn (n:=n) a9;have hlen:=H.1;simp only[List.length_cons] at hl hn
  refine up _ pl ch b c f k q a9 hlen hd hk (fun l' h'=>hg l' (by rw[<- hd] at h'; exact List.mem_of_mem_drop h')) a9 a9 fun hlow=> ?_
  have hz:((ch.length:E)==(os.length:E))=false:=beq_eq_false_iff_ne.2 a9;have hpl:pl.length<os.length:=by omega
  have hol:os[pl.length]?=T l:=by
   have:=congrArg List.head? hd;rw[List.head?_drop] at this
   exact this
  have hd':os.drop (pl.length+1)=ls:=by rw[<- List.tail_drop,hd]; rfl
  have hlm:=List.mem_of_getElem? hol;have hl8:=h8 l hlm;rw[HI];simp only[hz,O,if_false];rw[<- hlen,Am,hol,L,AE]
  have key:=Bi (fun m i=>∀(b:F E) (c:E) (f:Bool),∃b' c' f',F1 (BW q) ch k l m (i:E) h.Forecast.Tide.Mean h.Forecast.Tide.Parts h.Forecast.Surges h.Chart.Points h.Chart.Segments h.Fleet h.Regime.Gap h.Regime.NoMeet h.Crew.Tugs h.Crew.Pilots h.Crew.Rest h.Crew.Moves os (EJ h os) rest c f b=T (Zx h os rest b' c' f')/\Ci (fun o n A=>if CE h pl o=true then AE h D2 ls (pl++ [o]) (ch++ [n]) A else A) (l.drop i) i ⟨f,b,⟨c,0⟩⟩=⟨f',b',⟨c',0⟩⟩) (Ak (n:=l.length) a9)
   (fun m b c f=>⟨b,c,f,by rw[F1,if_neg d0],by rw[List.drop_length]; rfl⟩) (fun m i hi ihm b c f=>by
    rw[F1,if_pos (by simpa using hi),Af hi,L,V hi];simp only[Ci]
    have fits:=Bi (fun m2 j=>∀v:Bool,v=(!((pl.take j).any fun x=>Bp h.Chart h.Regime x.Passages l[i].Passages))->DI (BW q) ch k (i:E) l h.Forecast.Tide.Mean h.Forecast.Tide.Parts h.Forecast.Surges h.Chart.Points h.Chart.Segments h.Fleet h.Regime.Gap h.Regime.NoMeet h.Crew.Tugs h.Crew.Pilots h.Crew.Rest h.Crew.Moves os (EJ h os) rest c f l[i] b (F1 (BW q) ch k l m) m2 v (j:E) =
      DI (BW q) ch k (i:E) l h.Forecast.Tide.Mean h.Forecast.Tide.Parts h.Forecast.Surges h.Chart.Points h.Chart.Segments h.Fleet h.Regime.Gap h.Regime.NoMeet h.Crew.Tugs h.Crew.Pilots h.Crew.Rest h.Crew.Moves os (EJ h os) rest c f l[i] b (F1 (BW q) ch k l m) 1 (CE h pl l[i]) (ch.length:E)) (Ak (n:=pl.length) a9)
     (fun m2 v hv=>by
      rw[W] at hv
      have ev:CE h pl l[i]=v:=by rw[hv]; rfl
      have hd0:decide ((ch.length:E)<(ch.length:E))=false:=by simp
      rw[ev,hlen,DI,DI];simp only[hd0,O,if_false]) (fun m2 j hj ih2 v hv=>by
      have hj':j<ch.length:=by omega
      obtain⟨l',x,c1,c2,c3⟩:=H.2 j hj;have t1:(EJ h os)[pl.length]?=T (os.map fun b=>l.map fun o=>b.map fun p=>Bp h.Chart h.Regime o.Passages p.Passages):=by unfold EJ; rw[P,hol]; rfl
      have t2:(os.map fun b=>l.map fun o=>b.map fun p=>Bp h.Chart h.Regime o.Passages p.Passages)[j]?=T (l.map fun o=>l'.map fun p=>Bp h.Chart h.Regime o.Passages p.Passages):=by rw[P,c1]; rfl
      have t3:(l.map fun o=>l'.map fun p=>Bp h.Chart h.Regime o.Passages p.Passages)[i]?=T (l'.map fun p=>Bp h.Chart h.Regime l[i].Passages p.Passages):=by rw[P,X hi]; rfl
      have t4:(l'.map fun p=>Bp h.Chart h.Regime l[i].Passages p.Passages)[x]?=T (Bp h.Chart h.Regime l[i].Passages pl[j].Passages):=by rw[P,c3]; rfl
      rw[DI,if_pos (by simpa using hj'),Am,c2,L,<- hlen,Am,t1,L,Am,t2,L,Am,t3,L,Am,t4,L,Au hj (Ak a9)];rw[<- hlen] at ih2
      have ea:((pl.take (j+1)).any fun x=>Bp h.Chart h.Regime x.Passages l[i].Passages)=(((pl.take j).any fun x=>Bp h.Chart h.Regime x.Passages l[i].Passages) || Bp h.Chart h.Regime pl[j].Passages l[i].Passages):=by
       rw[N hj,List.any_append]; simp
      rw[oe];cases hcl:Bp h.Chart h.Regime pl[j].Passages l[i].Passages with
      | true=>rw[if_pos rfl]; exact ih2 false (by rw[ea,hcl]; simp)
      | false=>rw[if_neg d0]; exact ih2 v (by rw[ea,hcl,hv]; simp)) (Q _) true d0
    have hap:Ab ([]:F E).length ch.length 8=true:=AT d0 a9 a9;have hap2:Ab ch.length [(i:E)].length 8=true:=AT a9 d0 a9;rw[show DI (BW q) ch k (i:E) l h.Forecast.Tide.Mean h.Forecast.Tide.Parts h.Forecast.Surges h.Chart.Points h.Chart.Segments h.Fleet h.Regime.Gap h.Regime.NoMeet h.Crew.Tugs h.Crew.Pilots h.Crew.Rest h.Crew.Moves os (EJ h os) rest c f l[i] b (F1 (BW q) ch k l m) bigN true 0=_ from fits,DI,if_neg d0];cases hn2:CE h pl l[i] with
    | false=>
     simp only[O,if_false,Au hi (Ak (n:=l.length) a9)];exact ihm b c f
    | true=>
     simp only[if_true,hap,hap2,Au hi (Ak (n:=l.length) a9)];have hoc:=(hg l hlm _ (Y hi)).2;rw[Ai a9 a9];obtain⟨b',c',f',e,e'⟩:=ih (pl++ [l[i]]) (ch++ [(i:E)]) b c f (k+l[i].Cost) q a9 (by simp[hd']) d3 (H.snoc hol hi) (G.snoc (hg l hlm _ (Y hi))) (by rw[VR,hk]);obtain⟨b2,c2,f2,e2,e3⟩:=ihm b' c' f';refine⟨b2,c2,f2,(congrArg (fun z=>Option.bind z _) e).trans e2,?_⟩;rw[e']; exact e3) (Q _) b c f
  exact key
def oc(l:F X0)(hl:l.length<=1000):∃r,RM l=T r/\(r<0->l= [])/\(0<=r->∃x,ix l r=T x/\∀o∈l,x.Cost<=o.Cost):=by
 refine Bi (fun n i=>∀v:E,(v<0->i=0)->(0<=v->∃x,ix l v=T x/\∀o∈l.take i,x.Cost<=o.Cost)->∃r,G8 l n v (i:E)=T r/\(r<0->l= [])/\(0<=r->∃x,ix l r=T x/\∀o∈l,x.Cost<=o.Cost)) (Ak (n:=l.length) a9) (fun n v h1 h2=>⟨v,by rw[G8,if_neg d0],fun h=>List.length_eq_zero_iff.1 (h1 h),fun h=>by
  obtain⟨x,q1,q2⟩:=h2 h;exact⟨x,q1,by rwa [W] at q2⟩⟩) (fun n i hi ih v h1 h2=> ?_) (Q _) (-1) (fun _=>rfl) (fun h=>by omega)
 have ht:∀o∈l.take (i+1),o∈l.take i\/o=l[i]:=fun o ho=>by
  rw[N hi,List.mem_append,List.mem_singleton] at ho
  exact ho
 have take:(∀o∈l.take i,l[i].Cost<=o.Cost)->∃r,G8 l n (i:E) ((i+1:Nat):E)=T r/\(r<0->l= [])/\(0<=r->∃x,ix l r=T x/\∀o∈l,x.Cost<=o.Cost):=fun hm=>ih (i:E) (fun h=>by omega) fun _=>⟨l[i],Af hi,fun o ho=>(ht o ho).elim (hm o) fun e=>by rw[e]; exact Int.le_refl _⟩
 rw[G8,if_pos (decide_eq_true (Int.ofNat_lt.2 hi)),Af hi,L];simp only[OJ,if_true,Au hi (Ak (n:=l.length) a9)];by_cases hv:v<0
 .rw[if_pos (by simpa using hv)];have:=h1 hv;subst this;exact take (fun o ho=>by simp at ho)
 .rw[if_neg (by simpa using hv)];obtain⟨x,q1,q2⟩:=h2 a9;rw[q1,L];split
  .rename_i hlt
   simp only[decide_eq_true_eq] at hlt
   exact take fun o ho=>by have:=q2 o ho; omega
  .rename_i hlt
   simp only[decide_eq_true_eq] at hlt
   exact ih v (fun h=>by omega) fun _=>⟨x,q1,fun o ho=>(ht o ho).elim (q2 o) fun e=>by rw[e]; omega⟩
def WM(h:X3)(os:F (F X0))(r:Option (F E × E × Bool)):Prop:=∃b c f,r=T (b,c,f)/\(AE h D2 os [] [] ⟨false,[],⟨0,0⟩⟩).f=f/\(f=true->(AE h D2 os [] [] ⟨false,[],⟨0,0⟩⟩).b=b/\(AE h D2 os [] [] ⟨false,[],⟨0,0⟩⟩).w.i0=c)
def mb(os:F (F X0))(v:F E)(i:Nat):Prop:=∃R:E,v[i]?=T R/\0<=R/\R<=2940*((os.length:E) - i)/\LB (os.drop i) R
def nl(s:HSmall h)(hh:B4 h=true)(h6:os.length<=6)(h8:∀l∈os,l.length<=9)(hg:∀l∈os,GoodC h l):WM h os (M6 h os):=by
 unfold M6;have e1:IntKind.i64.wrap ((os.length:E)+1)=((os.length+1:Nat):E):=Ai a9 a9;have e2:IntKind.i64.wrap ((os.length:E) - 1)=(os.length:E) - 1:=Ai a9 a9;rw[oh hh h6 h8 hg,L,e1,e2,DQ a9 a9,L]
 have key:∀(k n:Nat) (v:F E),k<n->k<=os.length->v.length=os.length+1->(∀i,k<=i->i<=os.length->mb os v i)->WM h os (K4 os h (EJ h os) n ((k:E) - 1) v):=by
  intro k
  induction k with
  | zero=>
   intro n v hn _ hv hR;obtain⟨q,rfl⟩:=sn (n:=n) a9
   obtain⟨b',c',f',e,e'⟩:=A35 s hh h6 h8 hg hv (fun i hi=>by
    obtain⟨R,r1,r2,r3,r4⟩:=hR i (Q _) hi;exact⟨R,r1,r2,a9,r4⟩) os [] [] [] 0 false 0 bigN (by rw[Cc]; omega) rfl d0 ⟨rfl,fun i hi=>by simp at hi⟩ (fun o ho=>by cases ho) rfl
   have e:Ud ⟨h,os,EJ h os,v,[],0,false⟩ [] 0=T (Zx h os v b' c' f'):=e;rw[K4,if_neg d0,e,L];cases f' with
   | false=>exact⟨_,_,_,rfl,by rw[e'],fun h=>by cases h⟩
   | true=>exact⟨_,_,_,rfl,by rw[e'],fun _=>by rw[e']; exact⟨rfl,rfl⟩⟩
  | succ k ih=>
   intro n v hn hk hv hR;obtain⟨q,rfl⟩:=sn (n:=n) a9;have hk':k<os.length:=by omega
   have ek:(((k+1:Nat):E) - 1)=(k:E):=by omega
   have ek1:IntKind.i64.wrap ((k:E)+1)=((k+1:Nat):E):=Ai a9 a9;have ek2:IntKind.i64.wrap ((k:E) - 1)=(k:E) - 1:=Ai a9 a9;have hm:=Y hk';obtain⟨r,r1,r2,r3⟩:=oc os[k] (by have:=h8 _ hm; omega);rw[ek,K4,if_pos d0,Af hk',L,r1,L];by_cases hr:r<0
   .rw[if_pos (by simpa using hr)];refine⟨_,_,_,rfl,?_,fun h=>by cases h⟩;rw[A42,sy os [] (by rw[<- r2 hr]; exact hm)];rfl
   .obtain⟨x,x1,x2⟩:=r3 a9;have a1:k+1<v.length:=by omega
    have a2:k<v.length:=by omega
    obtain⟨R,t1,t2,t3,t4⟩:=hR (k+1) (Nat.le_refl _) hk;have ev:v[k+1]=R:=by rw[X a1] at t1; exact Option.some.inj t1
    have xm:x∈os[k]:=by
     have:=Ah x1;exact List.mem_of_getElem? this
    obtain⟨_,xc0,xc1⟩:=hg _ hm x xm;rw[if_neg (by simpa using hr),ek1,Af a1,L,x1,L,Af a2,L,ek2,ev,Ai a9 a9,Int.toNat_natCast];refine ih q _ a9 a9 (by simpa using hv) fun i hi1 hi2=> ?_
    by_cases hik:i=k
    .subst hik;refine⟨R+x.Cost,by rw[List.getElem?_set_self a2],a9,a9,?_⟩;rw[V hk'];exact⟨x.Cost,x2,by rwa [show R+x.Cost - x.Cost=R by omega]⟩
    .obtain⟨R',u1,u2,u3,u4⟩:=hR i a9 hi2;exact⟨R',by rw[List.getElem?_set_ne a9]; exact u1,u2,u3,u4⟩
 refine key os.length bigN _ (by rw[Cc]; omega) (Nat.le_refl _) d0 fun i h1 h2=> ?_
 have:i=os.length:=by omega
 subst this;refine⟨0,d0,a9,a9,?_⟩;rw[List.drop_length];rfl
end
end Go.Vi
