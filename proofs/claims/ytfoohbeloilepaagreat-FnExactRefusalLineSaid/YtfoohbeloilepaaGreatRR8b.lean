/-
Plain laws. No condition.
-/
import Derived.Test.YtfoohbeloilepaaGreatRR8a
namespace Go.Vi
open Go.Lib
set_option linter.all false
open Option renaming bind_some → Q, some → N
open Bool renaming false_eq_true → U, false_or → I, true → T, false → E
open List renaming getElem_mem → V, getElem?_map → W, take_succ_eq_append_getElem → X, drop_eq_getElem_cons → Z, length_cons → C
open Nat renaming zero_le → Y
open _root_ renaming List → O, Int → P
section
variable {h : X4} {cs : O Xb} {os : O (O X0)}
def ex(h:X4):O (O X0)→O X0→Bool
 | [],pl=>CC h pl
 | l::ls,pl=>l.any fun o=>CV h pl o&&ex h ls (pl++ [o])
theorem kk{F:X0→P→Fnd→Fnd}{p:X0→Bool}(H:∀o n A,(F o n A).f=(A.f || p o)):∀(l:O X0) (n:Nat) (A:Fnd),(Eb F l n A).f=(A.f || l.any p):=by
 intro l
 induction l with
 | nil=>intro n A; simp[Eb]
 | cons o l ih=>intro n A; rw[Eb,ih,H,List.any_cons,Bool.or_assoc]
theorem vb(wv:O X0→Xj):∀(ls:O (O X0)) (pl:O X0) (ch:O P) (A:Fnd),(C4 h wv ls pl ch A).f=(A.f || ex h ls pl):=by
 intro ls
 induction ls with
 | nil=>
  intro pl ch A;rw[C4,ex];cases hf:CC h pl with
  | false=>simp
  | true=>
   rw[if_pos rfl];unfold QE;split
   ·rename_i e; simp only[Bool.and_eq_true] at e; simp[e.1]
   ·simp
 | cons l ls ih=>
  intro pl ch A;rw[C4,ex];refine kk (fun o n A=> ?_) l 0 A;cases hn:CV h pl o with
  | false=>simp
  | true=>rw[if_pos rfl,ih]; simp
theorem lV:∀(ls:O (O X0)) (pl:O X0),[]∈ls→ex h ls pl=E:=by
 intro ls
 induction ls with
 | nil=>intro pl hm; cases hm
 | cons l ls ih=>
  intro pl hm;rw[ex];rcases List.mem_cons.1 hm with e|e
  ·rw[← e]; rfl
  ·rw[List.any_eq_false];intro o _;rw[ih _ e]; simp
abbrev Px(h:X4)(os:O (O X0))(A:Fnd)(pl:O X0)(ch:O P):Xf:=⟨h,os,pl,ch,A.b,A.w,A.f⟩
theorem vd{wv:O X0→Xj}{m:Nat}(hm:∀(pl:O X0) (o:X0),0≤o.Cost→wl (wv (pl++ [o])) (wv pl)=E):∀(ls:O (O X0)) (pl:O X0) (ch:O P) (A:Fnd),(∀l∈ls,GoodC h l)→pl.length+ls.length=m→A.f=T→wl (wv pl) A.w=E→C4 h (wv) ls pl ch A=A:=by
 intro ls
 induction ls with
 | nil=>
  intro pl ch A _ _ hf hw;rw[C4];split
  ·unfold QE; rw[if_pos (by rw[hf,hw]; rfl)]
  ·rfl
 | cons l ls ih=>
  intro pl ch A hg hl hf hw;simp only[C] at hl
  rw[C4];refine UY fun o ho n=> ?_
  split
  ·exact ih _ _ _ (fun l hm=>hg l (List.mem_cons_of_mem _ hm)) (by simp; omega) hf (zk (hm _ _ (hg l (List.mem_cons_self ..) o ho).2.1) hw)
  ·rfl
theorem px{wv:O X0→Xj}{F:O X0→Option Xj}(hF:∀pl,GoodC h pl→pl.length≤os.length→F pl=N (wv pl))(hm:∀(pl:O X0) (o:X0),0≤o.Cost→wl (wv (pl++ [o])) (wv pl)=E)(s:HSmall h)(hh:AO h=T)(h6:os.length≤6)(h8:∀l∈os,l.length≤8)(hg:∀l∈os,GoodC h l):∀(ls:O (O X0)) (pl:O X0) (ch:O P) (A:Fnd) (n:Nat),ls.length<n→os.drop pl.length=ls→pl.length+ls.length=os.length→pl.length=ch.length→GoodC h pl→CC h pl=T→
  Do F n (Px h os A pl ch)=N (Px h os (C4 h wv ls pl ch A) pl ch):=by
 intro ls
 induction ls with
 | nil=>
  intro pl ch A n hn hd hl hlen G hf;obtain⟨q,rfl⟩:=sn (n:=n) (by simpa using hn);simp only[List.length_nil,Nat.add_zero] at hl
  have hz:((pl.length:P)==(os.length:P))=T:=by rw[hl]; simp
  have hcl:Bx ch=N ch:=Ru (by omega);rw[Do,LV];simp only[hF pl G (by omega),Q,XK,HL,hz,if_true,hcl,C4,hf,QE];obtain⟨f,b,w⟩:=A;cases f with
  | false=>simp
  | true=>cases hw:wl (wv pl) w<;>simp[hw]
 | cons l ls ih=>
  intro pl ch A n hn hd hl hlen G hf;obtain⟨q,rfl⟩:=sn (n:=n) (by omega);simp only[C] at hl hn
  have hz:((pl.length:P)==(os.length:P))=E:=beq_eq_false_iff_ne.2 (by omega);have hpl:pl.length<os.length:=by omega
  have hol:os[pl.length]?=N l:=by
   have:=congrArg List.head? hd;rw[List.head?_drop] at this
   exact this
  have hd':os.drop (pl.length+1)=ls:=by rw[← List.tail_drop,hd]; rfl
  have hlm:=List.mem_of_getElem? hol;have hl8:=h8 l hlm;have hgl:∀l'∈ls,GoodC h l':=fun l' h'=>hg l' (by rw[← hd'] at h'; exact List.mem_of_mem_drop h')
  have key:=B8 (fun m i=>∀A:Fnd,DN F (Do F q) (Px h os A pl ch) l m (i:P) h os A.w.i0 A.w.i1 A.f pl ch A.b=N (Px h os (Eb (fun o n A=>if CV h pl o=T then C4 h wv ls (pl++ [o]) (ch++ [n]) A else A) (l.drop i) i A) pl ch)) (Ag (n:=l.length) (by omega))
   (fun m A=>by rw[DN,if_neg (by simp),List.drop_length]; rfl) (fun m i hi ihm A=>by
    have ed:Eb (fun o n A=>if CV h pl o=T then C4 h wv ls (pl++ [o]) (ch++ [n]) A else A) (l.drop i) i A=Eb (fun o n A=>if CV h pl o=T then C4 h wv ls (pl++ [o]) (ch++ [n]) A else A) (l.drop (i+1)) (i+1) (if CV h pl l[i]=T then C4 h wv ls (pl++ [l[i]]) (ch++ [(i:P)]) A else A):=by
     rw[Z hi]; rfl
    have ho:=hg l hlm _ (V hi);obtain⟨b,b1,b2⟩:=mF s hh (by omega) (G.snoc ho).pl
    have a0same:∀(A':Fnd) (m:Nat) (v:P),DN F (Do F q) (Px h os A pl ch) l m v=DN F (Do F q) (Px h os A' pl ch) l m v:=by
     intro A' m
     induction m with
     | zero=>intro v; funext a b c d e f g i; rfl
     | succ m ihh=>intro v; funext a b c d e f g i; simp only[DN,ihh]
    rw[ed,DN,if_pos (by simpa using hi),Af hi,Q,b1,Q,An hi (Ag (by omega))];cases b with
    | true=>
     obtain⟨k1,k2⟩:=b2.1 rfl;have hfit:CC h (pl++ [l[i]])=T:=(Kn s hh (by simp; omega) (G.snoc ho).pl).2.2 k2;have e:=ih (pl++ [l[i]]) (ch++ [(i:P)]) A q (by omega) (by simp[hd']) (by simp; omega) (by simp; omega) (G.snoc ho) hfit;rw[if_pos rfl,if_pos (AN (by omega) (by simp) (by omega)),if_pos (AN (by omega) (by simp) (by omega)),if_pos (Y6.2 k1)];refine(congrArg (fun z=>Option.bind z _) e).trans ?_;have t1:bnd (((pl++ [l[i]]).length:Nat):P) (pl.length:P) (0:P) (pl++ [l[i]]).length=N (0,pl.length):=E8 (by simp);have t2:bnd (((ch++ [(i:P)]).length:Nat):P) (pl.length:P) (0:P) (ch++ [(i:P)]).length=N (0,pl.length):=E8 (by simp; omega);have t3:(pl++ [l[i]]).take pl.length=pl:=by simp
     have t4:(ch++ [(i:P)]).take pl.length=ch:=by rw[hlen]; simp
     simp only[Q,t1,t2,t3,t4];rw[a0same (C4 h wv ls (pl++ [l[i]]) (ch++ [(i:P)]) A)];exact ihm _
    | false=>
     rw[if_neg (by simp)]
     have:(if CV h pl l[i]=T then C4 h wv ls (pl++ [l[i]]) (ch++ [(i:P)]) A else A)=A:=by
      split
      ·rename_i hnc
       refine vZ s hh ls _ _ A hgl (G.snoc ho) (by simp; omega) ?_;cases hft:CC h (pl++ [l[i]]) with
       | false=>rfl
       | true=>
        have:=b2.2 ⟨Y6.1 hnc,(Kn s hh (by simp; omega) (G.snoc ho).pl).2.1 hft⟩;cases this
      ·rfl
     rw[this];exact ihm A) (Y _) A
  rw[Do,LV];have hw:=hF pl G (by omega)
  have go:HL F (Do F q) (Px h os A pl ch) (wv pl) A.f=N (Px h os (C4 h wv (l::ls) pl ch A) pl ch):=by
   unfold HL;simp only[hz,U,if_false,Ak,hol,Q,C4];exact key
  simp only[hw,Q,XK];cases hAf:A.f with
  | false=>rw[hAf] at go; simpa using go
  | true=>
   rw[hAf] at go
   cases hwl:wl (wv pl) A.w with
   | true=>simpa using go
   | false=>
    rw[vd hm (m:=os.length) (l::ls) pl ch A (fun l' h'=>hg l' (by rw[← hd] at h'; exact List.mem_of_mem_drop h')) (by simp; omega) hAf hwl];simp only[if_true,U,if_false];rw[← hAf]
abbrev Zx(h:X4)(os:O (O X0))(rest b:O P)(c:P)(f:Bool):Xe:=⟨h,os,Ea h os,rest,b,c,f⟩
theorem um(s:HSmall h)(hh:AO h=T)(h6:os.length≤6)(h8:∀l∈os,l.length≤8)(hg:∀l∈os,GoodC h l){rest:O P}(hr:rest.length=os.length+1):∀(ls:O (O X0)) (pl:O X0) (ch b:O P) (c:P) (f:Bool) (k:P) (n:Nat),ls.length<n→os.drop pl.length=ls→pl.length+ls.length=os.length→Chos os pl ch→GoodC h pl→
  ∃b' c',BK n (Zx h os rest b c f) ch k=N (Zx h os rest b' c' (f || ex h ls pl)):=by
 have up:∀(ls:O (O X0)) (pl:O X0) (ch b:O P) (c:P) (f:Bool) (k:P) (n:Nat),pl.length≤os.length→pl.length=ch.length→(∀g v4:Bool,∃b' c',Gu (BK n) ch k (Zx h os rest b c g) v4=N (Zx h os rest b' c' (v4 || ex h ls pl)))→∃b' c',BK (n+1) (Zx h os rest b c f) ch k=N (Zx h os rest b' c' (f || ex h ls pl)):=fun ls pl ch b c f k n hl hc H=>by
  rw[BK,PQ];cases f with
  | false=>simpa using H E E
  | true=>
   have hi:ch.length<rest.length:=by omega
   simp only[if_true,Af hi,Q];split
   ·exact⟨b,c,by simp⟩
   ·simpa using H T T
 intro ls
 induction ls with
 | nil=>
  intro pl ch b c f k n hn hd hl H G;obtain⟨q,rfl⟩:=sn (n:=n) (by simpa using hn);simp only[List.length_nil,Nat.add_zero] at hl
  have hlen:=H.1;refine up _ pl ch b c f k q (by omega) hlen fun g v4=> ?_
  have hz:((ch.length:P)==(os.length:P))=T:=by rw[← hlen,hl]; simp
  have hap:A3 ([]:O P).length ch.length 8=T:=AN (by simp) (by omega) (by omega)
  have e1:D6 (BK q) ch k (Zx h os rest b c g) v4 bigN 0 []=D6 (BK q) ch k (Zx h os rest b c g) v4 1 (ch.length:P) pl:=by
   refine B8 (fun n i=>D6 (BK q) ch k (Zx h os rest b c g) v4 n (i:P) (pl.take i)=D6 (BK q) ch k (Zx h os rest b c g) v4 1 (ch.length:P) pl) (Ag (n:=pl.length) (by omega)) (fun n=> ?_) (fun n i hi ih=> ?_) (Y _)
   ·have hd0:decide ((ch.length:P)<(ch.length:P))=E:=by simp
    rw[List.take_length,hlen,D6,D6];simp only[hd0,U,if_false]
   ·obtain⟨l,x,c1,c2,c3⟩:=H.2 i hi;have hi':i<ch.length:=by omega
    rw[D6];simp only[Aj,hi',decide_true,if_true,Ak,c1,c2,Q,c3];rw[if_pos (AN (by simp; omega) (by simp) (by omega)),An hi (Ag (by omega)),← X hi];exact ih
  have hch:JZ pl=N (Bw pl):=vS (by omega) fun o ho=>(G o ho).1.2
  have e2:Gu (BK q) ch k (Zx h os rest b c g) v4=D6 (BK q) ch k (Zx h os rest b c g) v4 bigN 0 []:=by
   rw[Gu,if_pos hz]
  rw[e2,e1,D6,if_neg (by simp)];simp only[hch,Q,hI s hh (pl:=pl) (by omega) G.pl,hap,if_true,ex];cases CC h pl with
  | false=>exact⟨b,c,by simp⟩
  | true=>exact⟨ch,k,by simp⟩
 | cons l ls ih=>
  intro pl ch b c f k n hn hd hl H G;obtain⟨q,rfl⟩:=sn (n:=n) (by omega);have hlen:=H.1;simp only[C] at hl hn
  refine up _ pl ch b c f k q (by omega) hlen fun g v4=> ?_
  have hz:((ch.length:P)==(os.length:P))=E:=beq_eq_false_iff_ne.2 (by omega);have hpl:pl.length<os.length:=by omega
  have hol:os[pl.length]?=N l:=by
   have:=congrArg List.head? hd;rw[List.head?_drop] at this
   exact this
  have hd':os.drop (pl.length+1)=ls:=by rw[← List.tail_drop,hd]; rfl
  have hlm:=List.mem_of_getElem? hol;have hl8:=h8 l hlm;rw[Gu];simp only[hz,U,if_false];rw[← hlen,Ak,hol,Q,ex]
  have key:=B8 (fun m i=>∀(b:O P) (c:P) (f:Bool),∃b' c',El (BK q) ch k l m (i:P) h.Forecast.Tide.Mean h.Forecast.Tide.Parts h.Forecast.Surges h.Chart.Points h.Chart.Segments h.Fleet h.Regime.Gap h.Regime.NoMeet h.Crew.Tugs h.Crew.Pilots h.Crew.Rest h.Crew.Moves os (Ea h os) rest c f b=N (Zx h os rest b' c' (f || (l.drop i).any fun o=>CV h pl o&&ex h ls (pl++ [o])))) (Ag (n:=l.length) (by omega))
   (fun m b c f=>⟨b,c,by rw[El,if_neg (by simp),List.drop_length]; simp⟩) (fun m i hi ihm b c f=>by
    rw[El,if_pos (by simpa using hi),Af hi,Q,Z hi,List.any_cons]
    have fits:=B8 (fun m2 j=>∀v:Bool,v=(!((pl.take j).any fun x=>Bo h.Chart h.Regime x.Passages l[i].Passages))→Dq (BK q) ch k (i:P) l h.Forecast.Tide.Mean h.Forecast.Tide.Parts h.Forecast.Surges h.Chart.Points h.Chart.Segments h.Fleet h.Regime.Gap h.Regime.NoMeet h.Crew.Tugs h.Crew.Pilots h.Crew.Rest h.Crew.Moves os (Ea h os) rest c f l[i] b (El (BK q) ch k l m) m2 v (j:P) =
      Dq (BK q) ch k (i:P) l h.Forecast.Tide.Mean h.Forecast.Tide.Parts h.Forecast.Surges h.Chart.Points h.Chart.Segments h.Fleet h.Regime.Gap h.Regime.NoMeet h.Crew.Tugs h.Crew.Pilots h.Crew.Rest h.Crew.Moves os (Ea h os) rest c f l[i] b (El (BK q) ch k l m) 1 (CV h pl l[i]) (ch.length:P)) (Ag (n:=pl.length) (by omega))
     (fun m2 v hv=>by
      rw[List.take_length] at hv
      have ev:CV h pl l[i]=v:=by rw[hv]; rfl
      have hd0:decide ((ch.length:P)<(ch.length:P))=E:=by simp
      rw[ev,hlen,Dq,Dq];simp only[hd0,U,if_false]) (fun m2 j hj ih2 v hv=>by
      have hj':j<ch.length:=by omega
      obtain⟨l',x,c1,c2,c3⟩:=H.2 j hj;have t1:(Ea h os)[pl.length]?=N (os.map fun b=>l.map fun o=>b.map fun p=>Bo h.Chart h.Regime o.Passages p.Passages):=by unfold Ea; rw[W,hol]; rfl
      have t2:(os.map fun b=>l.map fun o=>b.map fun p=>Bo h.Chart h.Regime o.Passages p.Passages)[j]?=N (l.map fun o=>l'.map fun p=>Bo h.Chart h.Regime o.Passages p.Passages):=by rw[W,c1]; rfl
      have t3:(l.map fun o=>l'.map fun p=>Bo h.Chart h.Regime o.Passages p.Passages)[i]?=N (l'.map fun p=>Bo h.Chart h.Regime l[i].Passages p.Passages):=by rw[W,List.getElem?_eq_getElem hi]; rfl
      have t4:(l'.map fun p=>Bo h.Chart h.Regime l[i].Passages p.Passages)[x]?=N (Bo h.Chart h.Regime l[i].Passages pl[j].Passages):=by rw[W,c3]; rfl
      rw[Dq,if_pos (by simpa using hj'),Ak,c2,Q,← hlen,Ak,t1,Q,Ak,t2,Q,Ak,t3,Q,Ak,t4,Q,An hj (Ag (by omega))];rw[← hlen] at ih2
      have ea:((pl.take (j+1)).any fun x=>Bo h.Chart h.Regime x.Passages l[i].Passages)=(((pl.take j).any fun x=>Bo h.Chart h.Regime x.Passages l[i].Passages) || Bo h.Chart h.Regime pl[j].Passages l[i].Passages):=by
       rw[X hj,List.any_append]; simp
      rw[gg];cases hcl:Bo h.Chart h.Regime pl[j].Passages l[i].Passages with
      | true=>rw[if_pos rfl]; exact ih2 E (by rw[ea,hcl]; simp)
      | false=>rw[if_neg (by simp)]; exact ih2 v (by rw[ea,hcl,hv]; simp)) (Y _) T (by simp)
    have hap:A3 ([]:O P).length ch.length 8=T:=AN (by simp) (by omega) (by omega);have hap2:A3 ch.length [(i:P)].length 8=T:=AN (by omega) (by simp) (by omega);rw[show Dq (BK q) ch k (i:P) l h.Forecast.Tide.Mean h.Forecast.Tide.Parts h.Forecast.Surges h.Chart.Points h.Chart.Segments h.Fleet h.Regime.Gap h.Regime.NoMeet h.Crew.Tugs h.Crew.Pilots h.Crew.Rest h.Crew.Moves os (Ea h os) rest c f l[i] b (El (BK q) ch k l m) bigN T 0=_ from fits,Dq,if_neg (by simp)];cases hn2:CV h pl l[i] with
    | false=>
     simp only[U,if_false,An hi (Ag (n:=l.length) (by omega)),Bool.false_and,I];exact ihm b c f
    | true=>
     simp only[if_true,hap,hap2,An hi (Ag (n:=l.length) (by omega)),Bool.true_and];obtain⟨b',c',e⟩:=ih (pl++ [l[i]]) (ch++ [(i:P)]) b c f (IntKind.i64.wrap (k+l[i].Cost)) q (by omega) (by simp[hd']) (by simp; omega) (H.snoc hol hi) (G.snoc (hg l hlm _ (V hi)));obtain⟨b2,c2,e2⟩:=ihm b' c' (f || ex h ls (pl++ [l[i]]));refine⟨b2,c2,(congrArg (fun z=>Option.bind z _) e).trans (e2.trans ?_)⟩;rw[Bool.or_assoc]) (Y _) b c v4
  exact key
theorem gf(l:O X0)(hl:l.length≤1000):∃r,PD l=N r∧(r<0→l= [])∧(0≤r→idx r l.length=T):=by
 refine B8 (fun n i=>∀v:P,(v<0→i=0)→v<i→∃r,G9 l n v (i:P)=N r∧(r<0→l= [])∧(0≤r→idx r l.length=T)) (Ag (n:=l.length) (by omega)) (fun n v h1 h2=>⟨v,by rw[G9,if_neg (by simp)],fun h=>List.length_eq_zero_iff.1 (h1 h),fun h=>Gz.2 (by omega)⟩) (fun n i hi ih v h1 h2=> ?_) (Y _) (-1) (fun _=>rfl) (by omega);have B:=ih (i:P) (fun h=>by omega) (by omega);rw[G9,if_pos (by simpa using hi),Af hi,Q];by_cases hv:v<0
 ·simp only[hv,decide_true,if_true,K0,An hi (Ag (n:=l.length) (by omega))];exact B
 ·obtain⟨j,rfl⟩:∃j:Nat,v=(j:P):=⟨v.toNat,by omega⟩;have hj:j<l.length:=by omega
  simp only[hv,decide_false,U,if_false,Af hj,Q,K0,An hi (Ag (n:=l.length) (by omega))];split
  ·exact B
  ·exact ih (j:P) (fun h=>by omega) (by omega)
theorem fq(s:HSmall h)(hh:AO h=T)(h6:os.length≤6)(h8:∀l∈os,l.length≤8)(hg:∀l∈os,GoodC h l):∃b c,Nh h os=N (b,c,ex h os []):=by
 unfold Nh;have e1:IntKind.i64.wrap ((os.length:P)+1)=((os.length+1:Nat):P):=Ap (by omega) (by omega);have e2:IntKind.i64.wrap ((os.length:P) - 1)=(os.length:P) - 1:=Ap (by omega) (by omega);rw[gh hh h6 h8 hg,Q,e1,e2,Eu (by omega) (by omega),Q]
 have key:∀(k n:Nat) (v:O P),k<n→k≤os.length→v.length=os.length+1→∃b c,IC os h (Ea h os) n ((k:P) - 1) v=N (b,c,ex h os []):=by
  intro k
  induction k with
  | zero=>
   intro n v hn _ hv;obtain⟨q,rfl⟩:=sn (n:=n) (by omega);obtain⟨b',c',e⟩:=um s hh h6 h8 hg hv os [] [] [] 0 E 0 bigN (by rw[BW]; omega) rfl (by simp) ⟨rfl,fun i hi=>by simp at hi⟩ (fun o ho=>by cases ho);have e:RU ⟨h,os,Ea h os,v,[],0,E⟩ [] 0=N (Zx h os v b' c' (E || ex h os [])):=e;rw[IC,if_neg (by simp),e,Q,I];cases hx:ex h os [] with
   | false=>exact⟨_,_,rfl⟩
   | true=>exact⟨_,_,rfl⟩
  | succ k ih=>
   intro n v hn hk hv;obtain⟨q,rfl⟩:=sn (n:=n) (by omega);have hk':k<os.length:=by omega
   have ek:(((k+1:Nat):P) - 1)=(k:P):=by omega
   have ek1:IntKind.i64.wrap ((k:P)+1)=((k+1:Nat):P):=Ap (by omega) (by omega);have ek2:IntKind.i64.wrap ((k:P) - 1)=(k:P) - 1:=Ap (by omega) (by omega);have hm:=V hk';obtain⟨r,r1,r2,r3⟩:=gf os[k] (by have:=h8 _ hm; omega);rw[ek,IC,if_pos (by simp),Af hk',Q,r1,Q];by_cases hr:r<0
   ·rw[if_pos (by simpa using hr),lV os [] (by rw[← r2 hr]; exact hm)];exact⟨_,_,rfl⟩
   ·have a1:k+1<v.length:=by omega
    have a2:k<v.length:=by omega
    rw[if_neg (by simpa using hr),ek1,Af a1,Q,(NF ⟨0,0,0,[]⟩ (r3 (by omega))).1,Q,Af a2,Q,ek2];exact ih q _ (by omega) (by omega) (by simpa using hv)
 exact key os.length bigN _ (by rw[BW]; omega) (Nat.le_refl _) (by simp)
def Bk(h:X4)(a:Xb):O X0:=(Ht h a).getD []
def RD(pl:O X0):Xj:=⟨E2 pl,0⟩
theorem Rj(s:HSmall h)(hh:AO h=T)(h6:cs.length≤6)(hcs:∀a∈cs,Bt h a=T):PP h cs=N (cs.map (Bk h))∧Pf h cs=N (cs.map (Bk h))∧(∀l∈cs.map (Bk h),l.length≤8)∧∀l∈cs.map (Bk h),GoodC h l:=by
 have opt:∀a∈cs,K9 h a=N (Bk h a)∧Ht h a=N (Bk h a)∧(Bk h a).length≤8∧GoodC h (Bk h a):=fun a ha=>by
  obtain⟨L,l1,l2,l3⟩:=tK s hh (hcs a ha);have:Bk h a=L:=by unfold Bk; rw[l2]; rfl
  rw[this];exact⟨l1,l2,l3⟩
 refine⟨?_,?_,fun l hl=> ?_,fun l hl=> ?_⟩
 ·refine Fy (L:=IE cs h) cs _ N (Ag (by omega)) (fun n i acc hi hacc=> ?_) fun n acc _=>by rw[IE,if_neg (by simp)]
  rw[IE];simp only[Aj,hi,decide_true,if_true,Af hi,Q,(opt _ (V hi)).1];rw[if_pos (AN (by omega) (by simp) (by omega))]
 ·refine Fy (L:=HC cs h) cs _ N (Ag (by omega)) (fun n i acc hi hacc=> ?_) fun n acc _=>by rw[HC,if_neg (by simp)]
  rw[HC];simp only[Aj,hi,decide_true,if_true,Af hi,Q,(opt _ (V hi)).2.1];rw[if_pos (AN (by omega) (by simp) (by omega))]
 ·obtain⟨a,ha,rfl⟩:=List.mem_map.1 hl;exact(opt a ha).2.2.1
 ·obtain⟨a,ha,rfl⟩:=List.mem_map.1 hl;exact(opt a ha).2.2.2
theorem gU(s:HSmall h)(hok:Cn h cs=N T)(hh:AO h=T)(h6:cs.length≤6)(hcs:∀a∈cs,Bt h a=T):Lg h cs=N (ex h (cs.map (Bk h)) []):=by
 obtain⟨_,o2,o3,o4⟩:=Rj s hh h6 hcs;have hfit:CC h []=T:=(Kn s hh (by simp) (fun o ho=>by cases ho)).2.2 (FitP.nil hh)
 have e:=px (os:=cs.map (Bk h)) (wv:=RD) (F:=fun z0=>LJ z0) (fun pl G hl=>by
  rw[List.length_map] at hl
  show(Lh pl).bind _=_
  rw[gw (by omega) G.cost]; rfl) (fun pl o ho=>by
  simp only[wl,RD,Zr,Bool.or_eq_false_iff,Bool.and_eq_false_iff,decide_eq_false_iff_not];omega) s hh (by simpa using h6) o3 o4 (cs.map (Bk h)) [] [] ⟨E,[],⟨0,0⟩⟩ bigN (by rw[BW]; simp; omega) rfl (by simp) rfl (fun o ho=>by cases ho) hfit
 have e:RO (fun z0=>LJ z0) ⟨h,cs.map (Bk h),[],[],[],⟨0,0⟩,E⟩=_:=e;have hf:=vb RD (h:=h) (cs.map (Bk h)) [] [] ⟨E,[],⟨0,0⟩⟩;unfold Lg P6 Ph;simp only[hok,o2,Q,if_true,e,hf,I]
end
end Go.Vi
