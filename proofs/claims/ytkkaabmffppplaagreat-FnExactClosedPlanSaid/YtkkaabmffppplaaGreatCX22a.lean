/-
Plain laws. No condition.
-/
import Derived.Test.YtkkaabmffppplaaGreatCR8b
namespace Go.Vi
set_option linter.all false
open Option renaming bind_some → L, some → T
open List renaming take_succ_eq_append_getElem → N, getElem?_map → P, drop_eq_getElem_cons → U, take_length → V, getElem?_eq_getElem → W, getElem_mem → X
open Bool renaming false_eq_true → O
open Nat renaming zero_le → Q
open _root_ renaming List → F, Int → E
section
variable {h : X6} {os : F (F X0)}
def LB:F (F X0)→E→Prop
 | [],R=>R=0
 | l::ls,R=>∃m:E,(∀o∈l,m≤o.Cost)∧LB ls (R - m)
theorem A3y:∀(ls:F (F X0)) (pl:F X0) (ch:F E) (A:Fnd) {R:E},LB ls R→A.f=true→A.w.i1=0→A.w.i0≤CP pl+R→AX h D5 ls pl ch A=A:=by
 intro ls
 induction ls with
 | nil=>
  intro pl ch A R hR hf h1 hw;have hR:R=0:=hR;rw[AX];split
  ·unfold HU;have h2:¬CP pl<A.w.i0:=by omega
   rw[if_pos (by simp[hf,wl,D5,h1,h2])]
  ·rfl
 | cons l ls ih=>
  intro pl ch A R hR hf h1 hw;obtain⟨m,hm,hR⟩:=hR;rw[AX];refine TP fun o ho n=> ?_
  split
  ·refine ih _ _ _ hR hf h1 ?_;rw[SM];have:=hm o ho;omega
  ·rfl
theorem A2y(s:HSmall h)(hh:Bh h=true)(h6:os.length≤6)(h8:∀l∈os,l.length≤8)(hg:∀l∈os,GoodC h l){rest:F E}(hr:rest.length=os.length+1)(hR:∀i,i≤os.length→∃R:E,rest[i]?=T R∧0≤R∧R≤100000∧LB (os.drop i) R):∀(ls:F (F X0)) (pl:F X0) (ch b:F E) (c:E) (f:Bool) (k:E) (n:Nat),ls.length<n→os.drop pl.length=ls→pl.length+ls.length=os.length→Chos os pl ch→GoodC h pl→k=CP pl→
  ∃b' c' f',BU n (Zx h os rest b c f) ch k=T (Zx h os rest b' c' f')∧AX h D5 ls pl ch ⟨f,b,⟨c,0⟩⟩=⟨f',b',⟨c',0⟩⟩:=by
 have up:∀(ls:F (F X0)) (pl:F X0) (ch b:F E) (c:E) (f:Bool) (k:E) (n:Nat),pl.length≤os.length→pl.length=ch.length→os.drop pl.length=ls→k=CP pl→(∀l∈ls,GoodC h l)→0≤k→k≤100000→
   ((∀R,rest[pl.length]?=T R→f=true→k+R<c)→∃b' c' f',Hv (BU n) ch k (Zx h os rest b c f) f=T (Zx h os rest b' c' f')∧AX h D5 ls pl ch ⟨f,b,⟨c,0⟩⟩=⟨f',b',⟨c',0⟩⟩)→
   ∃b' c' f',BU (n+1) (Zx h os rest b c f) ch k=T (Zx h os rest b' c' f')∧AX h D5 ls pl ch ⟨f,b,⟨c,0⟩⟩=⟨f',b',⟨c',0⟩⟩:=fun ls pl ch b c f k n hl hc hd hks hgl k0 k1 H=>by
  rw[BU,RE];cases f with
  | false=>simpa using H (fun _ _ h=>by cases h)
  | true=>
   obtain⟨R,r1,r2,r3,r4⟩:=hR pl.length hl;have r1':ix rest (ch.length:E)=T R:=by rw[Ak,← hc,r1]
   simp only[if_true,r1',L];rw[Aj (by omega) (by omega)];split
   ·rename_i hle
    simp only[decide_eq_true_eq] at hle
    refine⟨b,c,true,rfl,?_⟩;exact A3y ls pl ch _ (by rw[← hd]; exact r4) rfl rfl (by rw[← hks]; exact hle)
   ·rename_i hle
    simp only[decide_eq_true_eq] at hle
    exact H (fun R' e _=>by rw[r1] at e; cases e; omega)
 intro ls
 induction ls with
 | nil=>
  intro pl ch b c f k n hn hd hl H G hk;obtain⟨k0,k1⟩:=VB G.cost;obtain⟨q,rfl⟩:=sn (n:=n) (by simpa using hn);simp only[List.length_nil,Nat.add_zero] at hl
  have hlen:=H.1;refine up _ pl ch b c f k q (by omega) hlen hd hk (fun l' h'=>hg l' (by rw[← hd] at h'; exact List.mem_of_mem_drop h')) (by omega) (by omega) fun hlow=> ?_
  have hz:((ch.length:E)==(os.length:E))=true:=by rw[← hlen,hl]; simp
  have hap:Ad ([]:F E).length ch.length 8=true:=B0 (by simp) (by omega) (by omega)
  have e1:Dp (BU q) ch k (Zx h os rest b c f) f bigN 0 []=Dp (BU q) ch k (Zx h os rest b c f) f 1 (ch.length:E) pl:=by
   refine BE (fun n i=>Dp (BU q) ch k (Zx h os rest b c f) f n (i:E) (pl.take i)=Dp (BU q) ch k (Zx h os rest b c f) f 1 (ch.length:E) pl) (Ah (n:=pl.length) (by omega)) (fun n=> ?_) (fun n i hi ih=> ?_) (Q _)
   ·have hd0:decide ((ch.length:E)<(ch.length:E))=false:=by simp
    rw[V,hlen,Dp,Dp];simp only[hd0,O,if_false]
   ·obtain⟨l,x,c1,c2,c3⟩:=H.2 i hi;have hi':i<ch.length:=by omega
    rw[Dp];simp only[Ae,hi',decide_true,if_true,Ak,c1,c2,L,c3];rw[if_pos (B0 (by simp; omega) (by simp) (by omega)),An hi (Ah (by omega)),← N hi];exact ih
  have hch:Lz pl=T (BF pl):=A3n (by omega) fun o ho=>(G o ho).1.2
  have e2:Hv (BU q) ch k (Zx h os rest b c f) f=Dp (BU q) ch k (Zx h os rest b c f) f bigN 0 []:=by
   rw[Hv,if_pos hz]
  rw[e2,e1,Dp,if_neg (by simp)];simp only[hch,L,oF s hh (pl:=pl) (by omega) G.pl,hap,if_true,AX];cases CI h pl with
  | false=>exact⟨b,c,f,by simp,by simp⟩
  | true=>
   refine⟨ch,k,true,by simp,?_⟩;rw[if_pos rfl,HU,if_neg,hk]
   ·rfl
   ·cases f with
    | false=>simp
    | true=>
     obtain⟨R,r1,r2,_⟩:=hR pl.length (by omega);have:=hlow R r1 rfl;have hlt:CP pl<c:=by omega
     simp[wl,D5,hlt]
 | cons l ls ih=>
  intro pl ch b c f k n hn hd hl H G hk;obtain⟨k0,k1⟩:=VB G.cost;obtain⟨q,rfl⟩:=sn (n:=n) (by omega);have hlen:=H.1;simp only[List.length_cons] at hl hn
  refine up _ pl ch b c f k q (by omega) hlen hd hk (fun l' h'=>hg l' (by rw[← hd] at h'; exact List.mem_of_mem_drop h')) (by omega) (by omega) fun hlow=> ?_
  have hz:((ch.length:E)==(os.length:E))=false:=beq_eq_false_iff_ne.2 (by omega);have hpl:pl.length<os.length:=by omega
  have hol:os[pl.length]?=T l:=by
   have:=congrArg List.head? hd;rw[List.head?_drop] at this
   exact this
  have hd':os.drop (pl.length+1)=ls:=by rw[← List.tail_drop,hd]; rfl
  have hlm:=List.mem_of_getElem? hol;have hl8:=h8 l hlm;rw[Hv];simp only[hz,O,if_false];rw[← hlen,Ak,hol,L,AX]
  have key:=BE (fun m i=>∀(b:F E) (c:E) (f:Bool),∃b' c' f',ET (BU q) ch k l m (i:E) h.Forecast.Tide.Mean h.Forecast.Tide.Parts h.Forecast.Surges h.Chart.Points h.Chart.Segments h.Fleet h.Regime.Gap h.Regime.NoMeet h.Crew.Tugs h.Crew.Pilots h.Crew.Rest h.Crew.Moves os (EG h os) rest c f b=T (Zx h os rest b' c' f')∧CW (fun o n A=>if Db h pl o=true then AX h D5 ls (pl++ [o]) (ch++ [n]) A else A) (l.drop i) i ⟨f,b,⟨c,0⟩⟩=⟨f',b',⟨c',0⟩⟩) (Ah (n:=l.length) (by omega))
   (fun m b c f=>⟨b,c,f,by rw[ET,if_neg (by simp)],by rw[List.drop_length]; rfl⟩) (fun m i hi ihm b c f=>by
    rw[ET,if_pos (by simpa using hi),Af hi,L,U hi];simp only[CW]
    have fits:=BE (fun m2 j=>∀v:Bool,v=(!((pl.take j).any fun x=>BA h.Chart h.Regime x.Passages l[i].Passages))→DI (BU q) ch k (i:E) l h.Forecast.Tide.Mean h.Forecast.Tide.Parts h.Forecast.Surges h.Chart.Points h.Chart.Segments h.Fleet h.Regime.Gap h.Regime.NoMeet h.Crew.Tugs h.Crew.Pilots h.Crew.Rest h.Crew.Moves os (EG h os) rest c f l[i] b (ET (BU q) ch k l m) m2 v (j:E) =
      DI (BU q) ch k (i:E) l h.Forecast.Tide.Mean h.Forecast.Tide.Parts h.Forecast.Surges h.Chart.Points h.Chart.Segments h.Fleet h.Regime.Gap h.Regime.NoMeet h.Crew.Tugs h.Crew.Pilots h.Crew.Rest h.Crew.Moves os (EG h os) rest c f l[i] b (ET (BU q) ch k l m) 1 (Db h pl l[i]) (ch.length:E)) (Ah (n:=pl.length) (by omega))
     (fun m2 v hv=>by
      rw[V] at hv
      have ev:Db h pl l[i]=v:=by rw[hv]; rfl
      have hd0:decide ((ch.length:E)<(ch.length:E))=false:=by simp
      rw[ev,hlen,DI,DI];simp only[hd0,O,if_false]) (fun m2 j hj ih2 v hv=>by
      have hj':j<ch.length:=by omega
      obtain⟨l',x,c1,c2,c3⟩:=H.2 j hj;have t1:(EG h os)[pl.length]?=T (os.map fun b=>l.map fun o=>b.map fun p=>BA h.Chart h.Regime o.Passages p.Passages):=by unfold EG; rw[P,hol]; rfl
      have t2:(os.map fun b=>l.map fun o=>b.map fun p=>BA h.Chart h.Regime o.Passages p.Passages)[j]?=T (l.map fun o=>l'.map fun p=>BA h.Chart h.Regime o.Passages p.Passages):=by rw[P,c1]; rfl
      have t3:(l.map fun o=>l'.map fun p=>BA h.Chart h.Regime o.Passages p.Passages)[i]?=T (l'.map fun p=>BA h.Chart h.Regime l[i].Passages p.Passages):=by rw[P,W hi]; rfl
      have t4:(l'.map fun p=>BA h.Chart h.Regime l[i].Passages p.Passages)[x]?=T (BA h.Chart h.Regime l[i].Passages pl[j].Passages):=by rw[P,c3]; rfl
      rw[DI,if_pos (by simpa using hj'),Ak,c2,L,← hlen,Ak,t1,L,Ak,t2,L,Ak,t3,L,Ak,t4,L,An hj (Ah (by omega))];rw[← hlen] at ih2
      have ea:((pl.take (j+1)).any fun x=>BA h.Chart h.Regime x.Passages l[i].Passages)=(((pl.take j).any fun x=>BA h.Chart h.Regime x.Passages l[i].Passages) || BA h.Chart h.Regime pl[j].Passages l[i].Passages):=by
       rw[N hj,List.any_append]; simp
      rw[na];cases hcl:BA h.Chart h.Regime pl[j].Passages l[i].Passages with
      | true=>rw[if_pos rfl]; exact ih2 false (by rw[ea,hcl]; simp)
      | false=>rw[if_neg (by simp)]; exact ih2 v (by rw[ea,hcl,hv]; simp)) (Q _) true (by simp)
    have hap:Ad ([]:F E).length ch.length 8=true:=B0 (by simp) (by omega) (by omega);have hap2:Ad ch.length [(i:E)].length 8=true:=B0 (by omega) (by simp) (by omega);rw[show DI (BU q) ch k (i:E) l h.Forecast.Tide.Mean h.Forecast.Tide.Parts h.Forecast.Surges h.Chart.Points h.Chart.Segments h.Fleet h.Regime.Gap h.Regime.NoMeet h.Crew.Tugs h.Crew.Pilots h.Crew.Rest h.Crew.Moves os (EG h os) rest c f l[i] b (ET (BU q) ch k l m) bigN true 0=_ from fits,DI,if_neg (by simp)];cases hn2:Db h pl l[i] with
    | false=>
     simp only[O,if_false,An hi (Ah (n:=l.length) (by omega))];exact ihm b c f
    | true=>
     simp only[if_true,hap,hap2,An hi (Ah (n:=l.length) (by omega))];have hoc:=(hg l hlm _ (X hi)).2;rw[Aj (by omega) (by omega)];obtain⟨b',c',f',e,e'⟩:=ih (pl++ [l[i]]) (ch++ [(i:E)]) b c f (k+l[i].Cost) q (by omega) (by simp[hd']) (by simp; omega) (H.snoc hol hi) (G.snoc (hg l hlm _ (X hi))) (by rw[SM,hk]);obtain⟨b2,c2,f2,e2,e3⟩:=ihm b' c' f';refine⟨b2,c2,f2,(congrArg (fun z=>Option.bind z _) e).trans e2,?_⟩;rw[e']; exact e3) (Q _) b c f
  exact key
theorem nY(l:F X0)(hl:l.length≤1000):∃r,Rq l=T r∧(r<0→l= [])∧(0≤r→∃x,ix l r=T x∧∀o∈l,x.Cost≤o.Cost):=by
 refine BE (fun n i=>∀v:E,(v<0→i=0)→(0≤v→∃x,ix l v=T x∧∀o∈l.take i,x.Cost≤o.Cost)→∃r,FV l n v (i:E)=T r∧(r<0→l= [])∧(0≤r→∃x,ix l r=T x∧∀o∈l,x.Cost≤o.Cost)) (Ah (n:=l.length) (by omega)) (fun n v h1 h2=>⟨v,by rw[FV,if_neg (by simp)],fun h=>List.length_eq_zero_iff.1 (h1 h),fun h=>by
  obtain⟨x,q1,q2⟩:=h2 h;exact⟨x,q1,by rwa [V] at q2⟩⟩) (fun n i hi ih v h1 h2=> ?_) (Q _) (-1) (fun _=>rfl) (fun h=>by omega)
 have ht:∀o∈l.take (i+1),o∈l.take i∨o=l[i]:=fun o ho=>by
  rw[N hi,List.mem_append,List.mem_singleton] at ho
  exact ho
 have take:(∀o∈l.take i,l[i].Cost≤o.Cost)→∃r,FV l n (i:E) ((i+1:Nat):E)=T r∧(r<0→l= [])∧(0≤r→∃x,ix l r=T x∧∀o∈l,x.Cost≤o.Cost):=fun hm=>ih (i:E) (fun h=>by omega) fun _=>⟨l[i],Af hi,fun o ho=>(ht o ho).elim (hm o) fun e=>by rw[e]; exact Int.le_refl _⟩
 rw[FV,if_pos (decide_eq_true (Int.ofNat_lt.2 hi)),Af hi,L];simp only[Ot,if_true,An hi (Ah (n:=l.length) (by omega))];by_cases hv:v<0
 ·rw[if_pos (by simpa using hv)];have:=h1 hv;subst this;exact take (fun o ho=>by simp at ho)
 ·rw[if_neg (by simpa using hv)];obtain⟨x,q1,q2⟩:=h2 (by omega);rw[q1,L];split
  ·rename_i hlt
   simp only[decide_eq_true_eq] at hlt
   exact take fun o ho=>by have:=q2 o ho; omega
  ·rename_i hlt
   simp only[decide_eq_true_eq] at hlt
   exact ih v (fun h=>by omega) fun _=>⟨x,q1,fun o ho=>(ht o ho).elim (q2 o) fun e=>by rw[e]; omega⟩
def Wu(h:X6)(os:F (F X0))(r:Option (F E × E × Bool)):Prop:=∃b c f,r=T (b,c,f)∧(AX h D5 os [] [] ⟨false,[],⟨0,0⟩⟩).f=f∧(f=true→(AX h D5 os [] [] ⟨false,[],⟨0,0⟩⟩).b=b)
def lX(os:F (F X0))(v:F E)(i:Nat):Prop:=∃R:E,v[i]?=T R∧0≤R∧R≤2880*((os.length:E) - i)∧LB (os.drop i) R
theorem mh(s:HSmall h)(hh:Bh h=true)(h6:os.length≤6)(h8:∀l∈os,l.length≤8)(hg:∀l∈os,GoodC h l):Wu h os (P5 h os):=by
 unfold P5;have e1:IntKind.i64.wrap ((os.length:E)+1)=((os.length+1:Nat):E):=Aj (by omega) (by omega);have e2:IntKind.i64.wrap ((os.length:E) - 1)=(os.length:E) - 1:=Aj (by omega) (by omega);rw[nb hh h6 h8 hg,L,e1,e2,Es (by omega) (by omega),L]
 have key:∀(k n:Nat) (v:F E),k<n→k≤os.length→v.length=os.length+1→(∀i,k≤i→i≤os.length→lX os v i)→Wu h os (JR os h (EG h os) n ((k:E) - 1) v):=by
  intro k
  induction k with
  | zero=>
   intro n v hn _ hv hR;obtain⟨q,rfl⟩:=sn (n:=n) (by omega)
   obtain⟨b',c',f',e,e'⟩:=A2y s hh h6 h8 hg hv (fun i hi=>by
    obtain⟨R,r1,r2,r3,r4⟩:=hR i (Q _) hi;exact⟨R,r1,r2,by omega,r4⟩) os [] [] [] 0 false 0 bigN (by rw[C7]; omega) rfl (by simp) ⟨rfl,fun i hi=>by simp at hi⟩ (fun o ho=>by cases ho) rfl
   have e:TY ⟨h,os,EG h os,v,[],0,false⟩ [] 0=T (Zx h os v b' c' f'):=e;rw[JR,if_neg (by simp),e,L];cases f' with
   | false=>exact⟨_,_,_,rfl,by rw[e'],fun h=>by cases h⟩
   | true=>exact⟨_,_,_,rfl,by rw[e'],fun _=>by rw[e']⟩
  | succ k ih=>
   intro n v hn hk hv hR;obtain⟨q,rfl⟩:=sn (n:=n) (by omega);have hk':k<os.length:=by omega
   have ek:(((k+1:Nat):E) - 1)=(k:E):=by omega
   have ek1:IntKind.i64.wrap ((k:E)+1)=((k+1:Nat):E):=Aj (by omega) (by omega);have ek2:IntKind.i64.wrap ((k:E) - 1)=(k:E) - 1:=Aj (by omega) (by omega);have hm:=X hk';obtain⟨r,r1,r2,r3⟩:=nY os[k] (by have:=h8 _ hm; omega);rw[ek,JR,if_pos (by simp),Af hk',L,r1,L];by_cases hr:r<0
   ·rw[if_pos (by simpa using hr)];refine⟨_,_,_,rfl,?_,fun h=>by cases h⟩;rw[A3x,rx os [] (by rw[← r2 hr]; exact hm)];rfl
   ·obtain⟨x,x1,x2⟩:=r3 (by omega);have a1:k+1<v.length:=by omega
    have a2:k<v.length:=by omega
    obtain⟨R,t1,t2,t3,t4⟩:=hR (k+1) (Nat.le_refl _) hk;have ev:v[k+1]=R:=by rw[W a1] at t1; exact Option.some.inj t1
    have xm:x∈os[k]:=by
     have:=Am x1;exact List.mem_of_getElem? this
    obtain⟨_,xc0,xc1⟩:=hg _ hm x xm;rw[if_neg (by simpa using hr),ek1,Af a1,L,x1,L,Af a2,L,ek2,ev,Aj (by omega) (by omega),Int.toNat_natCast];refine ih q _ (by omega) (by omega) (by simpa using hv) fun i hi1 hi2=> ?_
    by_cases hik:i=k
    ·subst hik;refine⟨R+x.Cost,by rw[List.getElem?_set_self a2],by omega,by omega,?_⟩;rw[U hk'];exact⟨x.Cost,x2,by rwa [show R+x.Cost - x.Cost=R by omega]⟩
    ·obtain⟨R',u1,u2,u3,u4⟩:=hR i (by omega) hi2;exact⟨R',by rw[List.getElem?_set_ne (by omega)]; exact u1,u2,u3,u4⟩
 refine key os.length bigN _ (by rw[C7]; omega) (Nat.le_refl _) (by simp) fun i h1 h2=> ?_
 have:i=os.length:=by omega
 subst this;refine⟨0,by simp,by omega,by omega,?_⟩;rw[List.drop_length];rfl
end
end Go.Vi
