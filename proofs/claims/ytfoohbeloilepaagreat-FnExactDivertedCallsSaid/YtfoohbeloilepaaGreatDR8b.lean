/-
Plain laws. No condition.
-/
import Derived.Test.YtfoohbeloilepaaGreatDR8a
namespace Go.Vi
set_option linter.all false
open Option renaming bind_some → P, some → L
open Bool renaming false_eq_true → Q, true → T, false → E
open List renaming getElem?_map → U, take_succ_eq_append_getElem → V, drop_eq_getElem_cons → X, length_cons → Y, getElem_mem → Z
open Nat renaming zero_le → W
open _root_ renaming List → N, Int → O
section
variable {h : X5} {cs : N Xb} {os : N (N X0)}
def ex(h:X5):N (N X0)→N X0→Bool
 | [],pl=>CN h pl
 | l::ls,pl=>l.any fun o=>Da h pl o&&ex h ls (pl++ [o])
theorem ol{F:X0→O→Fnd→Fnd}{p:X0→Bool}(H:∀o n A,(F o n A).f=(A.f || p o)):∀(l:N X0) (n:Nat) (A:Fnd),(Dm F l n A).f=(A.f || l.any p):=by
 intro l
 induction l with
 | nil=>intro n A; simp[Dm]
 | cons o l ih=>intro n A; rw[Dm,ih,H,List.any_cons,Bool.or_assoc]
theorem A1l(wv:N X0→Xk):∀(ls:N (N X0)) (pl:N X0) (ch:N O) (A:Fnd),(Br h wv ls pl ch A).f=(A.f || ex h ls pl):=by
 intro ls
 induction ls with
 | nil=>
  intro pl ch A;rw[Br,ex];cases hf:CN h pl with
  | false=>simp
  | true=>
   rw[if_pos rfl];unfold LU;split
   ·rename_i e; simp only[Bool.and_eq_true] at e; simp[e.1]
   ·simp
 | cons l ls ih=>
  intro pl ch A;rw[Br,ex];refine ol (fun o n A=> ?_) l 0 A;cases hn:Da h pl o with
  | false=>simp
  | true=>rw[if_pos rfl,ih]; simp
theorem pz:∀(ls:N (N X0)) (pl:N X0),[]∈ls→ex h ls pl=E:=by
 intro ls
 induction ls with
 | nil=>intro pl hm; cases hm
 | cons l ls ih=>
  intro pl hm;rw[ex];rcases List.mem_cons.1 hm with e|e
  ·rw[← e]; rfl
  ·rw[List.any_eq_false];intro o _;rw[ih _ e]; simp
abbrev Px(h:X5)(os:N (N X0))(A:Fnd)(pl:N X0)(ch:N O):Xg:=⟨h,os,pl,ch,A.b,A.w,A.f⟩
theorem A1m{wv:N X0→Xk}{m:Nat}(hm:∀(pl:N X0) (o:X0),0≤o.Cost→wl (wv (pl++ [o])) (wv pl)=E):∀(ls:N (N X0)) (pl:N X0) (ch:N O) (A:Fnd),(∀l∈ls,GoodC h l)→pl.length+ls.length=m→A.f=T→wl (wv pl) A.w=E→Br h (wv) ls pl ch A=A:=by
 intro ls
 induction ls with
 | nil=>
  intro pl ch A _ _ hf hw;rw[Br];split
  ·unfold LU; rw[if_pos (by rw[hf,hw]; rfl)]
  ·rfl
 | cons l ls ih=>
  intro pl ch A hg hl hf hw;simp only[Y] at hl
  rw[Br];refine WW fun o ho n=> ?_
  split
  ·exact ih _ _ _ (fun l hm=>hg l (List.mem_cons_of_mem _ hm)) (by simp; omega) hf (A6h (hm _ _ (hg l (List.mem_cons_self ..) o ho).2.1) hw)
  ·rfl
theorem uF{wv:N X0→Xk}{F:N X0→Option Xk}(hF:∀pl,GoodC h pl→pl.length≤os.length→F pl=L (wv pl))(hm:∀(pl:N X0) (o:X0),0≤o.Cost→wl (wv (pl++ [o])) (wv pl)=E)(s:HSmall h)(hh:AT h=T)(h6:os.length≤6)(h8:∀l∈os,l.length≤8)(hg:∀l∈os,GoodC h l):∀(ls:N (N X0)) (pl:N X0) (ch:N O) (A:Fnd) (n:Nat),ls.length<n→os.drop pl.length=ls→pl.length+ls.length=os.length→pl.length=ch.length→GoodC h pl→CN h pl=T→
  DI F n (Px h os A pl ch)=L (Px h os (Br h wv ls pl ch A) pl ch):=by
 intro ls
 induction ls with
 | nil=>
  intro pl ch A n hn hd hl hlen G hf;obtain⟨q,rfl⟩:=sn (n:=n) (by simpa using hn);simp only[List.length_nil,Nat.add_zero] at hl
  have hz:((pl.length:O)==(os.length:O))=T:=by rw[hl]; simp
  have hcl:BG ch=L ch:=T9 (by omega);rw[DI,N7];simp only[hF pl G (by omega),P,ZZ,In,hz,if_true,hcl,Br,hf,LU];obtain⟨f,b,w⟩:=A;cases f with
  | false=>simp
  | true=>cases hw:wl (wv pl) w<;>simp[hw]
 | cons l ls ih=>
  intro pl ch A n hn hd hl hlen G hf;obtain⟨q,rfl⟩:=sn (n:=n) (by omega);simp only[Y] at hl hn
  have hz:((pl.length:O)==(os.length:O))=E:=beq_eq_false_iff_ne.2 (by omega);have hpl:pl.length<os.length:=by omega
  have hol:os[pl.length]?=L l:=by
   have:=congrArg List.head? hd;rw[List.head?_drop] at this
   exact this
  have hd':os.drop (pl.length+1)=ls:=by rw[← List.tail_drop,hd]; rfl
  have hlm:=List.mem_of_getElem? hol;have hl8:=h8 l hlm;have hgl:∀l'∈ls,GoodC h l':=fun l' h'=>hg l' (by rw[← hd'] at h'; exact List.mem_of_mem_drop h')
  have key:=B9 (fun m i=>∀A:Fnd,E9 F (DI F q) (Px h os A pl ch) l m (i:O) h os A.w.i0 A.w.i1 A.f pl ch A.b=L (Px h os (Dm (fun o n A=>if Da h pl o=T then Br h wv ls (pl++ [o]) (ch++ [n]) A else A) (l.drop i) i A) pl ch)) (Af (n:=l.length) (by omega))
   (fun m A=>by rw[E9,if_neg (by simp),List.drop_length]; rfl) (fun m i hi ihm A=>by
    have ed:Dm (fun o n A=>if Da h pl o=T then Br h wv ls (pl++ [o]) (ch++ [n]) A else A) (l.drop i) i A=Dm (fun o n A=>if Da h pl o=T then Br h wv ls (pl++ [o]) (ch++ [n]) A else A) (l.drop (i+1)) (i+1) (if Da h pl l[i]=T then Br h wv ls (pl++ [l[i]]) (ch++ [(i:O)]) A else A):=by
     rw[X hi]; rfl
    have ho:=hg l hlm _ (Z hi);obtain⟨b,b1,b2⟩:=qW s hh (by omega) (G.snoc ho).pl
    have a0same:∀(A':Fnd) (m:Nat) (v:O),E9 F (DI F q) (Px h os A pl ch) l m v=E9 F (DI F q) (Px h os A' pl ch) l m v:=by
     intro A' m
     induction m with
     | zero=>intro v; funext a b c d e f g i; rfl
     | succ m ihh=>intro v; funext a b c d e f g i; simp only[E9,ihh]
    rw[ed,E9,if_pos (by simpa using hi),Ac hi,P,b1,P,Am hi (Af (by omega))];cases b with
    | true=>
     obtain⟨k1,k2⟩:=b2.1 rfl;have hfit:CN h (pl++ [l[i]])=T:=(Lu s hh (by simp; omega) (G.snoc ho).pl).2.2 k2;have e:=ih (pl++ [l[i]]) (ch++ [(i:O)]) A q (by omega) (by simp[hd']) (by simp; omega) (by simp; omega) (G.snoc ho) hfit;rw[if_pos rfl,if_pos (AP (by omega) (by simp) (by omega)),if_pos (AP (by omega) (by simp) (by omega)),if_pos (aZ.2 k1)];refine(congrArg (fun z=>Option.bind z _) e).trans ?_;have t1:bnd (((pl++ [l[i]]).length:Nat):O) (pl.length:O) (0:O) (pl++ [l[i]]).length=L (0,pl.length):=E3 (by simp);have t2:bnd (((ch++ [(i:O)]).length:Nat):O) (pl.length:O) (0:O) (ch++ [(i:O)]).length=L (0,pl.length):=E3 (by simp; omega);have t3:(pl++ [l[i]]).take pl.length=pl:=by simp
     have t4:(ch++ [(i:O)]).take pl.length=ch:=by rw[hlen]; simp
     simp only[P,t1,t2,t3,t4];rw[a0same (Br h wv ls (pl++ [l[i]]) (ch++ [(i:O)]) A)];exact ihm _
    | false=>
     rw[if_neg (by simp)]
     have:(if Da h pl l[i]=T then Br h wv ls (pl++ [l[i]]) (ch++ [(i:O)]) A else A)=A:=by
      split
      ·rename_i hnc
       refine A1k s hh ls _ _ A hgl (G.snoc ho) (by simp; omega) ?_;cases hft:CN h (pl++ [l[i]]) with
       | false=>rfl
       | true=>
        have:=b2.2 ⟨aZ.1 hnc,(Lu s hh (by simp; omega) (G.snoc ho).pl).2.1 hft⟩;cases this
      ·rfl
     rw[this];exact ihm A) (W _) A
  rw[DI,N7];have hw:=hF pl G (by omega)
  have go:In F (DI F q) (Px h os A pl ch) (wv pl) A.f=L (Px h os (Br h wv (l::ls) pl ch A) pl ch):=by
   unfold In;simp only[hz,Q,if_false,An,hol,P,Br];exact key
  simp only[hw,P,ZZ];cases hAf:A.f with
  | false=>rw[hAf] at go; simpa using go
  | true=>
   rw[hAf] at go
   cases hwl:wl (wv pl) A.w with
   | true=>simpa using go
   | false=>
    rw[A1m hm (m:=os.length) (l::ls) pl ch A (fun l' h'=>hg l' (by rw[← hd] at h'; exact List.mem_of_mem_drop h')) (by simp; omega) hAf hwl];simp only[if_true,Q,if_false];rw[← hAf]
abbrev Zx(h:X5)(os:N (N X0))(rest b:N O)(c:O)(f:Bool):Xf:=⟨h,os,Ez h os,rest,b,c,f⟩
theorem A0g(s:HSmall h)(hh:AT h=T)(h6:os.length≤6)(h8:∀l∈os,l.length≤8)(hg:∀l∈os,GoodC h l){rest:N O}(hr:rest.length=os.length+1):∀(ls:N (N X0)) (pl:N X0) (ch b:N O) (c:O) (f:Bool) (k:O) (n:Nat),ls.length<n→os.drop pl.length=ls→pl.length+ls.length=os.length→Chos os pl ch→GoodC h pl→
  ∃b' c',BW n (Zx h os rest b c f) ch k=L (Zx h os rest b' c' (f || ex h ls pl)):=by
 have up:∀(ls:N (N X0)) (pl:N X0) (ch b:N O) (c:O) (f:Bool) (k:O) (n:Nat),pl.length≤os.length→pl.length=ch.length→(∀g v4:Bool,∃b' c',H4 (BW n) ch k (Zx h os rest b c g) v4=L (Zx h os rest b' c' (v4 || ex h ls pl)))→∃b' c',BW (n+1) (Zx h os rest b c f) ch k=L (Zx h os rest b' c' (f || ex h ls pl)):=fun ls pl ch b c f k n hl hc H=>by
  rw[BW,Rd];cases f with
  | false=>simpa using H E E
  | true=>
   have hi:ch.length<rest.length:=by omega
   simp only[if_true,Ac hi,P];split
   ·exact⟨b,c,by simp⟩
   ·simpa using H T T
 intro ls
 induction ls with
 | nil=>
  intro pl ch b c f k n hn hd hl H G;obtain⟨q,rfl⟩:=sn (n:=n) (by simpa using hn);simp only[List.length_nil,Nat.add_zero] at hl
  have hlen:=H.1;refine up _ pl ch b c f k q (by omega) hlen fun g v4=> ?_
  have hz:((ch.length:O)==(os.length:O))=T:=by rw[← hlen,hl]; simp
  have hap:A3 ([]:N O).length ch.length 8=T:=AP (by simp) (by omega) (by omega)
  have e1:Dp (BW q) ch k (Zx h os rest b c g) v4 bigN 0 []=Dp (BW q) ch k (Zx h os rest b c g) v4 1 (ch.length:O) pl:=by
   refine B9 (fun n i=>Dp (BW q) ch k (Zx h os rest b c g) v4 n (i:O) (pl.take i)=Dp (BW q) ch k (Zx h os rest b c g) v4 1 (ch.length:O) pl) (Af (n:=pl.length) (by omega)) (fun n=> ?_) (fun n i hi ih=> ?_) (W _)
   ·have hd0:decide ((ch.length:O)<(ch.length:O))=E:=by simp
    rw[List.take_length,hlen,Dp,Dp];simp only[hd0,Q,if_false]
   ·obtain⟨l,x,c1,c2,c3⟩:=H.2 i hi;have hi':i<ch.length:=by omega
    rw[Dp];simp only[Ag,hi',decide_true,if_true,An,c1,c2,P,c3];rw[if_pos (AP (by simp; omega) (by simp) (by omega)),Am hi (Af (by omega)),← V hi];exact ih
  have hch:L8 pl=L (BF pl):=A1a (by omega) fun o ho=>(G o ho).1.2
  have e2:H4 (BW q) ch k (Zx h os rest b c g) v4=Dp (BW q) ch k (Zx h os rest b c g) v4 bigN 0 []:=by
   rw[H4,if_pos hz]
  rw[e2,e1,Dp,if_neg (by simp)];simp only[hch,P,mM s hh (pl:=pl) (by omega) G.pl,hap,if_true,ex];cases CN h pl with
  | false=>exact⟨b,c,by simp⟩
  | true=>exact⟨ch,k,by simp⟩
 | cons l ls ih=>
  intro pl ch b c f k n hn hd hl H G;obtain⟨q,rfl⟩:=sn (n:=n) (by omega);have hlen:=H.1;simp only[Y] at hl hn
  refine up _ pl ch b c f k q (by omega) hlen fun g v4=> ?_
  have hz:((ch.length:O)==(os.length:O))=E:=beq_eq_false_iff_ne.2 (by omega);have hpl:pl.length<os.length:=by omega
  have hol:os[pl.length]?=L l:=by
   have:=congrArg List.head? hd;rw[List.head?_drop] at this
   exact this
  have hd':os.drop (pl.length+1)=ls:=by rw[← List.tail_drop,hd]; rfl
  have hlm:=List.mem_of_getElem? hol;have hl8:=h8 l hlm;rw[H4];simp only[hz,Q,if_false];rw[← hlen,An,hol,P,ex]
  have key:=B9 (fun m i=>∀(b:N O) (c:O) (f:Bool),∃b' c',EJ (BW q) ch k l m (i:O) h.Forecast.Tide.Mean h.Forecast.Tide.Parts h.Forecast.Surges h.Chart.Points h.Chart.Segments h.Fleet h.Regime.Gap h.Regime.NoMeet h.Crew.Tugs h.Crew.Pilots h.Crew.Rest h.Crew.Moves os (Ez h os) rest c f b=L (Zx h os rest b' c' (f || (l.drop i).any fun o=>Da h pl o&&ex h ls (pl++ [o])))) (Af (n:=l.length) (by omega))
   (fun m b c f=>⟨b,c,by rw[EJ,if_neg (by simp),List.drop_length]; simp⟩) (fun m i hi ihm b c f=>by
    rw[EJ,if_pos (by simpa using hi),Ac hi,P,X hi,List.any_cons]
    have fits:=B9 (fun m2 j=>∀v:Bool,v=(!((pl.take j).any fun x=>Bz h.Chart h.Regime x.Passages l[i].Passages))→DL (BW q) ch k (i:O) l h.Forecast.Tide.Mean h.Forecast.Tide.Parts h.Forecast.Surges h.Chart.Points h.Chart.Segments h.Fleet h.Regime.Gap h.Regime.NoMeet h.Crew.Tugs h.Crew.Pilots h.Crew.Rest h.Crew.Moves os (Ez h os) rest c f l[i] b (EJ (BW q) ch k l m) m2 v (j:O) =
      DL (BW q) ch k (i:O) l h.Forecast.Tide.Mean h.Forecast.Tide.Parts h.Forecast.Surges h.Chart.Points h.Chart.Segments h.Fleet h.Regime.Gap h.Regime.NoMeet h.Crew.Tugs h.Crew.Pilots h.Crew.Rest h.Crew.Moves os (Ez h os) rest c f l[i] b (EJ (BW q) ch k l m) 1 (Da h pl l[i]) (ch.length:O)) (Af (n:=pl.length) (by omega))
     (fun m2 v hv=>by
      rw[List.take_length] at hv
      have ev:Da h pl l[i]=v:=by rw[hv]; rfl
      have hd0:decide ((ch.length:O)<(ch.length:O))=E:=by simp
      rw[ev,hlen,DL,DL];simp only[hd0,Q,if_false]) (fun m2 j hj ih2 v hv=>by
      have hj':j<ch.length:=by omega
      obtain⟨l',x,c1,c2,c3⟩:=H.2 j hj;have t1:(Ez h os)[pl.length]?=L (os.map fun b=>l.map fun o=>b.map fun p=>Bz h.Chart h.Regime o.Passages p.Passages):=by unfold Ez; rw[U,hol]; rfl
      have t2:(os.map fun b=>l.map fun o=>b.map fun p=>Bz h.Chart h.Regime o.Passages p.Passages)[j]?=L (l.map fun o=>l'.map fun p=>Bz h.Chart h.Regime o.Passages p.Passages):=by rw[U,c1]; rfl
      have t3:(l.map fun o=>l'.map fun p=>Bz h.Chart h.Regime o.Passages p.Passages)[i]?=L (l'.map fun p=>Bz h.Chart h.Regime l[i].Passages p.Passages):=by rw[U,List.getElem?_eq_getElem hi]; rfl
      have t4:(l'.map fun p=>Bz h.Chart h.Regime l[i].Passages p.Passages)[x]?=L (Bz h.Chart h.Regime l[i].Passages pl[j].Passages):=by rw[U,c3]; rfl
      rw[DL,if_pos (by simpa using hj'),An,c2,P,← hlen,An,t1,P,An,t2,P,An,t3,P,An,t4,P,Am hj (Af (by omega))];rw[← hlen] at ih2
      have ea:((pl.take (j+1)).any fun x=>Bz h.Chart h.Regime x.Passages l[i].Passages)=(((pl.take j).any fun x=>Bz h.Chart h.Regime x.Passages l[i].Passages) || Bz h.Chart h.Regime pl[j].Passages l[i].Passages):=by
       rw[V hj,List.any_append]; simp
      rw[lj];cases hcl:Bz h.Chart h.Regime pl[j].Passages l[i].Passages with
      | true=>rw[if_pos rfl]; exact ih2 E (by rw[ea,hcl]; simp)
      | false=>rw[if_neg (by simp)]; exact ih2 v (by rw[ea,hcl,hv]; simp)) (W _) T (by simp)
    have hap:A3 ([]:N O).length ch.length 8=T:=AP (by simp) (by omega) (by omega);have hap2:A3 ch.length [(i:O)].length 8=T:=AP (by omega) (by simp) (by omega);rw[show DL (BW q) ch k (i:O) l h.Forecast.Tide.Mean h.Forecast.Tide.Parts h.Forecast.Surges h.Chart.Points h.Chart.Segments h.Fleet h.Regime.Gap h.Regime.NoMeet h.Crew.Tugs h.Crew.Pilots h.Crew.Rest h.Crew.Moves os (Ez h os) rest c f l[i] b (EJ (BW q) ch k l m) bigN T 0=_ from fits,DL,if_neg (by simp)];cases hn2:Da h pl l[i] with
    | false=>
     simp only[Q,if_false,Am hi (Af (n:=l.length) (by omega)),Bool.false_and,Bool.false_or];exact ihm b c f
    | true=>
     simp only[if_true,hap,hap2,Am hi (Af (n:=l.length) (by omega)),Bool.true_and];obtain⟨b',c',e⟩:=ih (pl++ [l[i]]) (ch++ [(i:O)]) b c f (IntKind.i64.wrap (k+l[i].Cost)) q (by omega) (by simp[hd']) (by simp; omega) (H.snoc hol hi) (G.snoc (hg l hlm _ (Z hi)));obtain⟨b2,c2,e2⟩:=ihm b' c' (f || ex h ls (pl++ [l[i]]));refine⟨b2,c2,(congrArg (fun z=>Option.bind z _) e).trans (e2.trans ?_)⟩;rw[Bool.or_assoc]) (W _) b c v4
  exact key
theorem lg(l:N X0)(hl:l.length≤1000):∃r,QV l=L r∧(r<0→l= [])∧(0≤r→idx r l.length=T):=by
 refine B9 (fun n i=>∀v:O,(v<0→i=0)→v<i→∃r,GJ l n v (i:O)=L r∧(r<0→l= [])∧(0≤r→idx r l.length=T)) (Af (n:=l.length) (by omega)) (fun n v h1 h2=>⟨v,by rw[GJ,if_neg (by simp)],fun h=>List.length_eq_zero_iff.1 (h1 h),fun h=>Ha.2 (by omega)⟩) (fun n i hi ih v h1 h2=> ?_) (W _) (-1) (fun _=>rfl) (by omega);have B:=ih (i:O) (fun h=>by omega) (by omega);rw[GJ,if_pos (by simpa using hi),Ac hi,P];by_cases hv:v<0
 ·simp only[hv,decide_true,if_true,L9,Am hi (Af (n:=l.length) (by omega))];exact B
 ·obtain⟨j,rfl⟩:∃j:Nat,v=(j:O):=⟨v.toNat,by omega⟩;have hj:j<l.length:=by omega
  simp only[hv,decide_false,Q,if_false,Ac hj,P,L9,Am hi (Af (n:=l.length) (by omega))];split
  ·exact B
  ·exact ih (j:O) (fun h=>by omega) (by omega)
theorem kq(s:HSmall h)(hh:AT h=T)(h6:os.length≤6)(h8:∀l∈os,l.length≤8)(hg:∀l∈os,GoodC h l):∃b c,Oz h os=L (b,c,ex h os []):=by
 unfold Oz;have e1:IntKind.i64.wrap ((os.length:O)+1)=((os.length+1:Nat):O):=Ao (by omega) (by omega);have e2:IntKind.i64.wrap ((os.length:O) - 1)=(os.length:O) - 1:=Ao (by omega) (by omega);rw[lk hh h6 h8 hg,P,e1,e2,Ei (by omega) (by omega),P]
 have key:∀(k n:Nat) (v:N O),k<n→k≤os.length→v.length=os.length+1→∃b c,Jp os h (Ez h os) n ((k:O) - 1) v=L (b,c,ex h os []):=by
  intro k
  induction k with
  | zero=>
   intro n v hn _ hv;obtain⟨q,rfl⟩:=sn (n:=n) (by omega);obtain⟨b',c',e⟩:=A0g s hh h6 h8 hg hv os [] [] [] 0 E 0 bigN (by rw[C5]; omega) rfl (by simp) ⟨rfl,fun i hi=>by simp at hi⟩ (fun o ho=>by cases ho);have e:Tv ⟨h,os,Ez h os,v,[],0,E⟩ [] 0=L (Zx h os v b' c' (E || ex h os [])):=e;rw[Jp,if_neg (by simp),e,P,Bool.false_or];cases hx:ex h os [] with
   | false=>exact⟨_,_,rfl⟩
   | true=>exact⟨_,_,rfl⟩
  | succ k ih=>
   intro n v hn hk hv;obtain⟨q,rfl⟩:=sn (n:=n) (by omega);have hk':k<os.length:=by omega
   have ek:(((k+1:Nat):O) - 1)=(k:O):=by omega
   have ek1:IntKind.i64.wrap ((k:O)+1)=((k+1:Nat):O):=Ao (by omega) (by omega);have ek2:IntKind.i64.wrap ((k:O) - 1)=(k:O) - 1:=Ao (by omega) (by omega);have hm:=Z hk';obtain⟨r,r1,r2,r3⟩:=lg os[k] (by have:=h8 _ hm; omega);rw[ek,Jp,if_pos (by simp),Ac hk',P,r1,P];by_cases hr:r<0
   ·rw[if_pos (by simpa using hr),pz os [] (by rw[← r2 hr]; exact hm)];exact⟨_,_,rfl⟩
   ·have a1:k+1<v.length:=by omega
    have a2:k<v.length:=by omega
    rw[if_neg (by simpa using hr),ek1,Ac a1,P,(OV ⟨0,0,0,[]⟩ (r3 (by omega))).1,P,Ac a2,P,ek2];exact ih q _ (by omega) (by omega) (by simpa using hv)
 exact key os.length bigN _ (by rw[C5]; omega) (Nat.le_refl _) (by simp)
def UD(h:X5)(a:Xb):N X0:=(Ks h a).getD []
def Kb(pl:N X0):Xk:=⟨Ep pl,0⟩
end
end Go.Vi
