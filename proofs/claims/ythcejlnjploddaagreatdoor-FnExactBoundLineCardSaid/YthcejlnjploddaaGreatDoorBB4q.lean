/-
Plain laws. No condition.
-/
import Derived.Test.YthcejlnjploddaaGreatDoorBR8a
namespace Go.Vi
open Go.Lib
set_option linter.all false
open Option renaming bind_some → X, map_some → zT, some → O
open Bool renaming false_eq_true → Y, and_eq_true → zC, true → T, false → E
open List renaming mem_of_getElem? → Z, getElem_mem → C, replicate → I, getElem?_eq_getElem → zB, drop_eq_getElem_cons → zD, take_succ_eq_append_getElem → zE, mem_cons_of_mem → zG, getElem?_eq_some_iff → zH, mem_cons_self → zI, getElem?_map → zJ, length_cons → zL, drop_length → zM, mem_or_eq_of_mem_set → zP, take_length → zQ, all_eq_true → zR, foldr_cons → zS
open Nat renaming zero_le → zA
open Int renaming ofNat_lt → zF, toNat_natCast → zK, tmod_eq_emod_of_nonneg → zN, tdiv_eq_ediv_of_nonneg → zO
open IntKind renaming wrap → zU
open _root_ renaming List → P, Option → Q, Int → U, Bool → V, Nat → W
section
variable {h : X4} {cs : P Xb} {os : P (P X0)}
def ex(h:X4):P (P X0)→P X0→V
 | [],pl=>CB h pl
 | l::ls,pl=>l.any fun o=>C5 h pl o&&ex h ls (pl++ [o])
abbrev Px(h:X4)(os:P (P X0))(A:Fnd)(pl:P X0)(ch:P U):Xf:=⟨h,os,pl,ch,A.b,A.w,A.f⟩
theorem xg{wv:P X0→Xj}{m:W}(hm:∀(pl:P X0) (o:X0),0≤o.Cost→wl (wv (pl++ [o])) (wv pl)=E):∀(ls:P (P X0)) (pl:P X0) (ch:P U) (A:Fnd),(∀l∈ls,GoodC h l)→pl.length+ls.length=m→A.f=T→wl (wv pl) A.w=E→Bm h (wv) ls pl ch A=A:=by
 intro ls
 induction ls with
 | nil=>
  intro pl ch A _ _ hf hw;rw[Bm];split
  ·unfold Rq; rw[if_pos (by rw[hf,hw]; rfl)]
  ·rfl
 | cons l ls ih=>
  intro pl ch A hg hl hf hw;simp only[zL] at hl
  rw[Bm];refine W7 fun o ho n=> ?_
  split
  ·exact ih _ _ _ (fun l hm=>hg l (zG _ hm)) (by simp; omega) hf (A21 (hm _ _ (hg l (zI ..) o ho).2.1) hw)
  ·rfl
theorem sG{wv:P X0→Xj}{F:P X0→Q Xj}(hF:∀pl,GoodC h pl→pl.length≤os.length→F pl=O (wv pl))(hm:∀(pl:P X0) (o:X0),0≤o.Cost→wl (wv (pl++ [o])) (wv pl)=E)(s:HSmall h)(hh:AP h=T)(h6:os.length≤6)(h8:∀l∈os,l.length≤8)(hg:∀l∈os,GoodC h l):∀(ls:P (P X0)) (pl:P X0) (ch:P U) (A:Fnd) (n:W),ls.length<n→os.drop pl.length=ls→pl.length+ls.length=os.length→pl.length=ch.length→GoodC h pl→CB h pl=T→
  Du F n (Px h os A pl ch)=O (Px h os (Bm h wv ls pl ch A) pl ch):=by
 intro ls
 induction ls with
 | nil=>
  intro pl ch A n hn hd hl hlen G hf;obtain⟨q,rfl⟩:=sn (n:=n) (by simpa using hn);simp only[List.length_nil,Nat.add_zero] at hl
  have hz:((pl.length:U)==(os.length:U))=T:=by rw[hl]; simp
  have hcl:Bi ch=O ch:=LH (by omega);rw[Du,Mz];simp only[hF pl G (by omega),X,YX,HY,hz,if_true,hcl,Bm,hf,Rq];obtain⟨f,b,w⟩:=A;cases f with
  | false=>simp
  | true=>cases hw:wl (wv pl) w<;>simp[hw]
 | cons l ls ih=>
  intro pl ch A n hn hd hl hlen G hf;obtain⟨q,rfl⟩:=sn (n:=n) (by omega);simp only[zL] at hl hn
  have hz:((pl.length:U)==(os.length:U))=E:=beq_eq_false_iff_ne.2 (by omega);have hpl:pl.length<os.length:=by omega
  have hol:os[pl.length]?=O l:=by
   have:=congrArg List.head? hd;rw[List.head?_drop] at this
   exact this
  have hd':os.drop (pl.length+1)=ls:=by rw[← List.tail_drop,hd]; rfl
  have hlm:=Z hol;have hl8:=h8 l hlm;have hgl:∀l'∈ls,GoodC h l':=fun l' h'=>hg l' (by rw[← hd'] at h'; exact List.mem_of_mem_drop h')
  have key:=Bj (fun m i=>∀A:Fnd,DU F (Du F q) (Px h os A pl ch) l m (i:U) h os A.w.i0 A.w.i1 A.f pl ch A.b=O (Px h os (D4 (fun o n A=>if C5 h pl o=T then Bm h wv ls (pl++ [o]) (ch++ [n]) A else A) (l.drop i) i A) pl ch)) (Aj (n:=l.length) (by omega))
   (fun m A=>by rw[DU,if_neg (by simp),zM]; rfl) (fun m i hi ihm A=>by
    have ed:D4 (fun o n A=>if C5 h pl o=T then Bm h wv ls (pl++ [o]) (ch++ [n]) A else A) (l.drop i) i A=D4 (fun o n A=>if C5 h pl o=T then Bm h wv ls (pl++ [o]) (ch++ [n]) A else A) (l.drop (i+1)) (i+1) (if C5 h pl l[i]=T then Bm h wv ls (pl++ [l[i]]) (ch++ [(i:U)]) A else A):=by
     rw[zD hi]; rfl
    have ho:=hg l hlm _ (C hi);obtain⟨b,b1,b2⟩:=oK s hh (by omega) (G.snoc ho).pl
    have a0same:∀(A':Fnd) (m:W) (v:U),DU F (Du F q) (Px h os A pl ch) l m v=DU F (Du F q) (Px h os A' pl ch) l m v:=by
     intro A' m
     induction m with
     | zero=>intro v; funext a b c d e f g i; rfl
     | succ m ihh=>intro v; funext a b c d e f g i; simp only[DU,ihh]
    rw[ed,DU,if_pos (by simpa using hi),Ae hi,X,b1,X,At hi (Aj (by omega))];cases b with
    | true=>
     obtain⟨k1,k2⟩:=b2.1 rfl;have hfit:CB h (pl++ [l[i]])=T:=(KU s hh (by simp; omega) (G.snoc ho).pl).2.2 k2;have e:=ih (pl++ [l[i]]) (ch++ [(i:U)]) A q (by omega) (by simp[hd']) (by simp; omega) (by simp; omega) (G.snoc ho) hfit;rw[if_pos rfl,if_pos (AT (by omega) (by simp) (by omega)),if_pos (AT (by omega) (by simp) (by omega)),if_pos (Zk.2 k1)];refine(congrArg (fun z=>Option.bind z _) e).trans ?_;have t1:bnd (((pl++ [l[i]]).length:W):U) (pl.length:U) (0:U) (pl++ [l[i]]).length=O (0,pl.length):=F6 (by simp);have t2:bnd (((ch++ [(i:U)]).length:W):U) (pl.length:U) (0:U) (ch++ [(i:U)]).length=O (0,pl.length):=F6 (by simp; omega);have t3:(pl++ [l[i]]).take pl.length=pl:=by simp
     have t4:(ch++ [(i:U)]).take pl.length=ch:=by rw[hlen]; simp
     simp only[X,t1,t2,t3,t4];rw[a0same (Bm h wv ls (pl++ [l[i]]) (ch++ [(i:U)]) A)];exact ihm _
    | false=>
     rw[if_neg (by simp)]
     have:(if C5 h pl l[i]=T then Bm h wv ls (pl++ [l[i]]) (ch++ [(i:U)]) A else A)=A:=by
      split
      ·rename_i hnc
       refine xf s hh ls _ _ A hgl (G.snoc ho) (by simp; omega) ?_;cases hft:CB h (pl++ [l[i]]) with
       | false=>rfl
       | true=>
        have:=b2.2 ⟨Zk.1 hnc,(KU s hh (by simp; omega) (G.snoc ho).pl).2.1 hft⟩;cases this
      ·rfl
     rw[this];exact ihm A) (zA _) A
  rw[Du,Mz];have hw:=hF pl G (by omega)
  have go:HY F (Du F q) (Px h os A pl ch) (wv pl) A.f=O (Px h os (Bm h wv (l::ls) pl ch A) pl ch):=by
   unfold HY;simp only[hz,Y,if_false,Al,hol,X,Bm];exact key
  simp only[hw,X,YX];cases hAf:A.f with
  | false=>rw[hAf] at go; simpa using go
  | true=>
   rw[hAf] at go
   cases hwl:wl (wv pl) A.w with
   | true=>simpa using go
   | false=>
    rw[xg hm (m:=os.length) (l::ls) pl ch A (fun l' h'=>hg l' (by rw[← hd] at h'; exact List.mem_of_mem_drop h')) (by simp; omega) hAf hwl];simp only[if_true,Y,if_false];rw[← hAf]
abbrev Zx(h:X4)(os:P (P X0))(rest b:P U)(c:U)(f:V):Xe:=⟨h,os,El h os,rest,b,c,f⟩
def AH(h:X4)(a:Xb):P X0:=(D5 h a).getD []
def CT(pl:P X0):Xj:=⟨CJ pl,0⟩
theorem Vn(s:HSmall h)(hh:AP h=T)(h6:cs.length≤6)(hcs:∀a∈cs,Bx h a=T):NV h cs=O (cs.map (AH h))∧PY h cs=O (cs.map (AH h))∧(∀l∈cs.map (AH h),l.length≤8)∧∀l∈cs.map (AH h),GoodC h l:=by
 have opt:∀a∈cs,KF h a=O (AH h a)∧D5 h a=O (AH h a)∧(AH h a).length≤8∧GoodC h (AH h a):=fun a ha=>by
  obtain⟨L,l1,l2,l3⟩:=Ty s hh (hcs a ha);have:AH h a=L:=by unfold AH; rw[l2]; rfl
  rw[this];exact⟨l1,l2,l3⟩
 refine⟨?_,?_,fun l hl=> ?_,fun l hl=> ?_⟩
 ·refine EQ (L:=IT cs h) cs _ O (Aj (by omega)) (fun n i acc hi hacc=> ?_) fun n acc _=>by rw[IT,if_neg (by simp)]
  rw[IT];simp only[Ai,hi,decide_true,if_true,Ae hi,X,(opt _ (C hi)).1];rw[if_pos (AT (by omega) (by simp) (by omega))]
 ·refine EQ (L:=HP cs h) cs _ O (Aj (by omega)) (fun n i acc hi hacc=> ?_) fun n acc _=>by rw[HP,if_neg (by simp)]
  rw[HP];simp only[Ai,hi,decide_true,if_true,Ae hi,X,(opt _ (C hi)).2.1];rw[if_pos (AT (by omega) (by simp) (by omega))]
 ·obtain⟨a,ha,rfl⟩:=List.mem_map.1 hl;exact(opt a ha).2.2.1
 ·obtain⟨a,ha,rfl⟩:=List.mem_map.1 hl;exact(opt a ha).2.2.2
end
open Go.Lib
def mn:Q U→Q U→Q U
 | none,y=>y
 | x,none=>x
 | some a,O b=>O (if b<a then b else a)
theorem Lc(x:Q U):mn x none=x:=by cases x<;>rfl
theorem Zd(x y z:Q U):mn (mn x y) z=mn x (mn y z):=by
 cases x with
 | none=>rfl
 | some a=>cases y with
  | none=>rfl
  | some b=>cases z with
   | none=>simp[mn]
   | some c=>
    simp only[mn,Option.some.injEq];repeat' split
    all_goals omega
def mc(h:X4):P (P X0)→P X0→U→Q U
 | [],pl,k=>if CB h pl=T then O k else none
 | l::ls,pl,k=>l.foldr (fun o r=>mn (if C5 h pl o=T then mc h ls (pl++ [o]) (k+o.Cost) else none) r) none
def oF(f:V)(c:U):Q U:=if f=T then O c else none
theorem xh(h:X4):∀(ls:P (P X0)) (pl:P X0) (ch:P U) (A:Fnd),(A.f=T→A.w.i1=0)→((Bm h CT ls pl ch A).f=T→(Bm h CT ls pl ch A).w.i1=0)∧oF (Bm h CT ls pl ch A).f (Bm h CT ls pl ch A).w.i0=mn (oF A.f A.w.i0) (mc h ls pl (CJ pl)):=by
 intro ls
 induction ls with
 | nil=>
  intro pl ch A hA;rw[Bm,mc];split
  ·unfold Rq;split
   ·rename_i h1
    refine⟨hA,?_⟩;simp only[zC,Bool.not_eq_true',wl,CT,Bool.or_eq_false_iff,Bool.and_eq_false_iff,decide_eq_false_iff_not] at h1
    obtain⟨h1,h2,_⟩:=h1;have h2:¬CJ pl<A.w.i0:=of_decide_eq_false h2;rw[oF,if_pos h1,mn,if_neg h2]
   ·rename_i h1
    refine⟨fun _=>rfl,?_⟩;simp only[oF,if_true,CT];cases hf:A.f with
    | false=>rfl
    | true=>
     have h3:=hA hf;simp only[hf,Bool.true_and,Bool.not_eq_true',Bool.not_eq_false,wl,CT,Bool.or_eq_true,zC,decide_eq_true_eq] at h1
     have h4:CJ pl<A.w.i0:=h1.elim of_decide_eq_true fun⟨_,h5⟩=>by
      have h5:(0:U)<A.w.i1:=of_decide_eq_true h5;omega
     simp only[if_true,mn,if_pos h4]
  ·exact⟨hA,by rw[Lc]⟩
 | cons l ls ih=>
  intro pl ch A hA;rw[Bm,mc]
  have key:∀(l:P X0) (n:W) (A:Fnd),(A.f=T→A.w.i1=0)→((D4 (fun o n A=>if C5 h pl o=T then Bm h CT ls (pl++ [o]) (ch++ [n]) A else A) l n A).f=T→(D4 (fun o n A=>if C5 h pl o=T then Bm h CT ls (pl++ [o]) (ch++ [n]) A else A) l n A).w.i1=0)∧
    oF (D4 (fun o n A=>if C5 h pl o=T then Bm h CT ls (pl++ [o]) (ch++ [n]) A else A) l n A).f (D4 (fun o n A=>if C5 h pl o=T then Bm h CT ls (pl++ [o]) (ch++ [n]) A else A) l n A).w.i0=mn (oF A.f A.w.i0) (l.foldr (fun o r=>mn (if C5 h pl o=T then mc h ls (pl++ [o]) (CJ pl+o.Cost) else none) r) none):=by
   intro l
   induction l with
   | nil=>intro n A hA; exact⟨hA,by rw[D4,List.foldr_nil,Lc]⟩
   | cons o l ihl=>
    intro n A hA;rw[D4,zS,← Zd];cases hc:C5 h pl o with
    | false=>
     simp only[Y,if_false,Lc];exact ihl _ _ hA
    | true=>
     simp only[if_true];obtain⟨q1,q2⟩:=ih (pl++ [o]) (ch++ [(n:U)]) A hA;rw[RA] at q2
     obtain⟨r1,r2⟩:=ihl (n+1) _ q1;exact⟨r1,r2.trans (by rw[q2])⟩
  exact key l 0 A hA
open Go.Lib
section
variable {h : X4} {os : P (P X0)}
theorem xB(s:HSmall h)(hh:AP h=T)(h6:os.length≤6)(h8:∀l∈os,l.length≤8)(hg:∀l∈os,GoodC h l){rest:P U}(hr:rest.length=os.length+1)(hR:∀i,i≤os.length→∃R:U,rest[i]?=O R∧0≤R∧R≤100000∧∀pl k v,mc h (os.drop i) pl k=O v→k+R≤v):∀(ls:P (P X0)) (pl:P X0) (ch b:P U) (c:U) (f:V) (k:U) (n:W),ls.length<n→os.drop pl.length=ls→pl.length+ls.length=os.length→Chos os pl ch→GoodC h pl→k=CJ pl→
  ∃b' c' f',BO n (Zx h os rest b c f) ch k=O (Zx h os rest b' c' f')∧oF f' c'=mn (oF f c) (mc h ls pl k):=by
 have up:∀(ls:P (P X0)) (pl:P X0) (ch b:P U) (c:U) (f:V) (k:U) (n:W),pl.length≤os.length→pl.length=ch.length→os.drop pl.length=ls→0≤k→k≤100000→
   ((∀R,rest[pl.length]?=O R→f=T→k+R<c)→∃b' c' f',GM (BO n) ch k (Zx h os rest b c f) f=O (Zx h os rest b' c' f')∧oF f' c'=mn (oF f c) (mc h ls pl k))→
   ∃b' c' f',BO (n+1) (Zx h os rest b c f) ch k=O (Zx h os rest b' c' f')∧oF f' c'=mn (oF f c) (mc h ls pl k):=fun ls pl ch b c f k n hl hc hd k0 k1 H=>by
  rw[BO,Qr];cases f with
  | false=>simpa using H (fun _ _ h=>by cases h)
  | true=>
   obtain⟨R,r1,r2,r3,r4⟩:=hR pl.length hl;have r1':ix rest (ch.length:U)=O R:=by rw[Al,← hc,r1]
   simp only[if_true,r1',X];rw[Ak (by omega) (by omega)];split
   ·rename_i hle
    simp only[decide_eq_true_eq] at hle
    refine⟨b,c,T,rfl,?_⟩;cases hm:mc h ls pl k with
    | none=>rw[Lc]
    | some v=>
     have:=r4 pl k v (by rw[hd]; exact hm);simp only[oF,if_true,mn];rw[if_neg (by omega)]
   ·rename_i hle
    simp only[decide_eq_true_eq] at hle
    exact H (fun R' e _=>by rw[r1] at e; cases e; omega)
 intro ls
 induction ls with
 | nil=>
  intro pl ch b c f k n hn hd hl H G hk;obtain⟨k0,k1⟩:=TU G.cost;obtain⟨q,rfl⟩:=sn (n:=n) (by simpa using hn);simp only[List.length_nil,Nat.add_zero] at hl
  have hlen:=H.1;refine up _ pl ch b c f k q (by omega) hlen hd (by omega) (by omega) fun hlow=> ?_
  have hz:((ch.length:U)==(os.length:U))=T:=by rw[← hlen,hl]; simp
  have hap:A3 ([]:P U).length ch.length 8=T:=AT (by simp) (by omega) (by omega)
  have e1:D8 (BO q) ch k (Zx h os rest b c f) f bigN 0 []=D8 (BO q) ch k (Zx h os rest b c f) f 1 (ch.length:U) pl:=by
   refine Bj (fun n i=>D8 (BO q) ch k (Zx h os rest b c f) f n (i:U) (pl.take i)=D8 (BO q) ch k (Zx h os rest b c f) f 1 (ch.length:U) pl) (Aj (n:=pl.length) (by omega)) (fun n=> ?_) (fun n i hi ih=> ?_) (zA _)
   ·have hd0:decide ((ch.length:U)<(ch.length:U))=E:=by simp
    rw[zQ,hlen,D8,D8];simp only[hd0,Y,if_false]
   ·obtain⟨l,x,c1,c2,c3⟩:=H.2 i hi;have hi':i<ch.length:=by omega
    rw[D8];simp only[Ai,hi',decide_true,if_true,Al,c1,c2,X,c3];rw[if_pos (AT (by simp; omega) (by simp) (by omega)),At hi (Aj (by omega)),← zE hi];exact ih
  have hch:Kt pl=O (By pl):=xZ (by omega) fun o ho=>(G o ho).1.2
  have e2:GM (BO q) ch k (Zx h os rest b c f) f=D8 (BO q) ch k (Zx h os rest b c f) f bigN 0 []:=by
   rw[GM,if_pos hz]
  rw[e2,e1,D8,if_neg (by simp)];simp only[hch,X,ju s hh (pl:=pl) (by omega) G.pl,hap,if_true,mc];cases CB h pl with
  | false=>exact⟨b,c,f,by simp,by simp[Lc]⟩
  | true=>
   refine⟨ch,k,T,by simp,?_⟩;cases f with
   | false=>rfl
   | true=>
    obtain⟨R,r1,r2,_⟩:=hR pl.length (by omega);have:=hlow R r1 rfl;simp only[oF,if_true,mn];rw[if_pos (by omega)]
 | cons l ls ih=>
  intro pl ch b c f k n hn hd hl H G hk;obtain⟨k0,k1⟩:=TU G.cost;obtain⟨q,rfl⟩:=sn (n:=n) (by omega);have hlen:=H.1;simp only[zL] at hl hn
  refine up _ pl ch b c f k q (by omega) hlen hd (by omega) (by omega) fun hlow=> ?_
  have hz:((ch.length:U)==(os.length:U))=E:=beq_eq_false_iff_ne.2 (by omega);have hpl:pl.length<os.length:=by omega
  have hol:os[pl.length]?=O l:=by
   have:=congrArg List.head? hd;rw[List.head?_drop] at this
   exact this
  have hd':os.drop (pl.length+1)=ls:=by rw[← List.tail_drop,hd]; rfl
  have hlm:=Z hol;have hl8:=h8 l hlm;rw[GM];simp only[hz,Y,if_false];rw[← hlen,Al,hol,X,mc]
  have key:=Bj (fun m i=>∀(b:P U) (c:U) (f:V),∃b' c' f',EB (BO q) ch k l m (i:U) h.Forecast.Tide.Mean h.Forecast.Tide.Parts h.Forecast.Surges h.Chart.Points h.Chart.Segments h.Fleet h.Regime.Gap h.Regime.NoMeet h.Crew.Tugs h.Crew.Pilots h.Crew.Rest h.Crew.Moves os (El h os) rest c f b=O (Zx h os rest b' c' f')∧oF f' c'=mn (oF f c) ((l.drop i).foldr (fun o r=>mn (if C5 h pl o=T then mc h ls (pl++ [o]) (k+o.Cost) else none) r) none)) (Aj (n:=l.length) (by omega))
   (fun m b c f=>⟨b,c,f,by rw[EB,if_neg (by simp)],by rw[zM,List.foldr_nil,Lc]⟩) (fun m i hi ihm b c f=>by
    rw[EB,if_pos (by simpa using hi),Ae hi,X,zD hi,zS]
    have fits:=Bj (fun m2 j=>∀v:V,v=(!((pl.take j).any fun x=>Bf h.Chart h.Regime x.Passages l[i].Passages))→Dw (BO q) ch k (i:U) l h.Forecast.Tide.Mean h.Forecast.Tide.Parts h.Forecast.Surges h.Chart.Points h.Chart.Segments h.Fleet h.Regime.Gap h.Regime.NoMeet h.Crew.Tugs h.Crew.Pilots h.Crew.Rest h.Crew.Moves os (El h os) rest c f l[i] b (EB (BO q) ch k l m) m2 v (j:U) =
      Dw (BO q) ch k (i:U) l h.Forecast.Tide.Mean h.Forecast.Tide.Parts h.Forecast.Surges h.Chart.Points h.Chart.Segments h.Fleet h.Regime.Gap h.Regime.NoMeet h.Crew.Tugs h.Crew.Pilots h.Crew.Rest h.Crew.Moves os (El h os) rest c f l[i] b (EB (BO q) ch k l m) 1 (C5 h pl l[i]) (ch.length:U)) (Aj (n:=pl.length) (by omega))
     (fun m2 v hv=>by
      rw[zQ] at hv
      have ev:C5 h pl l[i]=v:=by rw[hv]; rfl
      have hd0:decide ((ch.length:U)<(ch.length:U))=E:=by simp
      rw[ev,hlen,Dw,Dw];simp only[hd0,Y,if_false]) (fun m2 j hj ih2 v hv=>by
      have hj':j<ch.length:=by omega
      obtain⟨l',x,c1,c2,c3⟩:=H.2 j hj;have t1:(El h os)[pl.length]?=O (os.map fun b=>l.map fun o=>b.map fun p=>Bf h.Chart h.Regime o.Passages p.Passages):=by unfold El; rw[zJ,hol]; rfl
      have t2:(os.map fun b=>l.map fun o=>b.map fun p=>Bf h.Chart h.Regime o.Passages p.Passages)[j]?=O (l.map fun o=>l'.map fun p=>Bf h.Chart h.Regime o.Passages p.Passages):=by rw[zJ,c1]; rfl
      have t3:(l.map fun o=>l'.map fun p=>Bf h.Chart h.Regime o.Passages p.Passages)[i]?=O (l'.map fun p=>Bf h.Chart h.Regime l[i].Passages p.Passages):=by rw[zJ,zB hi]; rfl
      have t4:(l'.map fun p=>Bf h.Chart h.Regime l[i].Passages p.Passages)[x]?=O (Bf h.Chart h.Regime l[i].Passages pl[j].Passages):=by rw[zJ,c3]; rfl
      rw[Dw,if_pos (by simpa using hj'),Al,c2,X,← hlen,Al,t1,X,Al,t2,X,Al,t3,X,Al,t4,X,At hj (Aj (by omega))];rw[← hlen] at ih2
      have ea:((pl.take (j+1)).any fun x=>Bf h.Chart h.Regime x.Passages l[i].Passages)=(((pl.take j).any fun x=>Bf h.Chart h.Regime x.Passages l[i].Passages) || Bf h.Chart h.Regime pl[j].Passages l[i].Passages):=by
       rw[zE hj,List.any_append]; simp
      rw[jZ];cases hcl:Bf h.Chart h.Regime pl[j].Passages l[i].Passages with
      | true=>rw[if_pos rfl]; exact ih2 E (by rw[ea,hcl]; simp)
      | false=>rw[if_neg (by simp)]; exact ih2 v (by rw[ea,hcl,hv]; simp)) (zA _) T (by simp)
    have hap:A3 ([]:P U).length ch.length 8=T:=AT (by simp) (by omega) (by omega);have hap2:A3 ch.length [(i:U)].length 8=T:=AT (by omega) (by simp) (by omega);rw[show Dw (BO q) ch k (i:U) l h.Forecast.Tide.Mean h.Forecast.Tide.Parts h.Forecast.Surges h.Chart.Points h.Chart.Segments h.Fleet h.Regime.Gap h.Regime.NoMeet h.Crew.Tugs h.Crew.Pilots h.Crew.Rest h.Crew.Moves os (El h os) rest c f l[i] b (EB (BO q) ch k l m) bigN T 0=_ from fits,Dw,if_neg (by simp)];cases hn2:C5 h pl l[i] with
    | false=>
     simp only[Y,if_false,At hi (Aj (n:=l.length) (by omega)),mn];exact ihm b c f
    | true=>
     simp only[if_true,hap,hap2,At hi (Aj (n:=l.length) (by omega))];have hoc:=(hg l hlm _ (C hi)).2;rw[Ak (by omega) (by omega)];obtain⟨b',c',f',e,e'⟩:=ih (pl++ [l[i]]) (ch++ [(i:U)]) b c f (k+l[i].Cost) q (by omega) (by simp[hd']) (by simp; omega) (H.snoc hol hi) (G.snoc (hg l hlm _ (C hi))) (by rw[RA,hk]);obtain⟨b2,c2,f2,e2,e3⟩:=ihm b' c' f';refine⟨b2,c2,f2,(congrArg (fun z=>Option.bind z _) e).trans e2,?_⟩;rw[e3,e',Zd]) (zA _) b c f
  exact key
end
open Go.Lib
section
variable {h : X4} {os : P (P X0)}
theorem ur{x y:Q U}{v:U}(e:mn x y=O v):x=O v∨y=O v:=by
 cases x with
 | none=>exact .inr (by cases y<;>exact e)
 | some a=>cases y with
  | none=>exact .inl e
  | some b=>
   simp only[mn] at e
   split at e
   ·exact .inr e
   ·exact .inl e
theorem Ws{p:X0→Q U}:∀{l:P X0} {v:U},l.foldr (fun o r=>mn (p o) r) none=O v→∃o∈l,p o=O v
 | [],v,e=>by cases e
 | o::l,v,e=>by
  rw[zS] at e
  rcases ur e with e|e
  ·exact⟨o,zI ..,e⟩
  ·obtain⟨o',h1,h2⟩:=Ws e;exact⟨o',zG _ h1,h2⟩
theorem Tr{l:P X0}{ls:P (P X0)}{pl:P X0}{k v:U}(e:mc h (l::ls) pl k=O v):∃o∈l,mc h ls (pl++ [o]) (k+o.Cost)=O v:=by
 rw[mc] at e
 obtain⟨o,h1,h2⟩:=Ws e;split at h2
 ·exact⟨o,h1,h2⟩
 ·cases h2
theorem uX:∀(ls:P (P X0)) (pl:P X0) (k:U),[]∈ls→mc h ls pl k=none:=by
 intro ls
 induction ls with
 | nil=>intro pl k hm; cases hm
 | cons l ls ih=>
  intro pl k hm;cases e:mc h (l::ls) pl k with
  | none=>rfl
  | some v=>
   obtain⟨o,h1,h2⟩:=Tr e;rcases List.mem_cons.1 hm with q|q
   ·subst q; cases h1
   ·rw[ih _ _ q] at h2; cases h2
theorem Sm(l:P X0)(hl:l.length≤1000):∃r,Gu l=O r∧(r<0→l= [])∧(0≤r→∃x,ix l r=O x∧∀o∈l,x.Cost≤o.Cost):=by
 refine Bj (fun n i=>∀v:U,(v<0→i=0)→(0≤v→∃x,ix l v=O x∧∀o∈l.take i,x.Cost≤o.Cost)→∃r,DW l n v (i:U)=O r∧(r<0→l= [])∧(0≤r→∃x,ix l r=O x∧∀o∈l,x.Cost≤o.Cost)) (Aj (n:=l.length) (by omega)) (fun n v h1 h2=>⟨v,by rw[DW,if_neg (by simp)],fun h=>List.length_eq_zero_iff.1 (h1 h),fun h=>by
  obtain⟨x,q1,q2⟩:=h2 h;exact⟨x,q1,by rwa [zQ] at q2⟩⟩) (fun n i hi ih v h1 h2=> ?_) (zA _) (-1) (fun _=>rfl) (fun h=>by omega)
 have ht:∀o∈l.take (i+1),o∈l.take i∨o=l[i]:=fun o ho=>by
  rw[zE hi,List.mem_append,List.mem_singleton] at ho
  exact ho
 have take:(∀o∈l.take i,l[i].Cost≤o.Cost)→∃r,DW l n (i:U) ((i+1:W):U)=O r∧(r<0→l= [])∧(0≤r→∃x,ix l r=O x∧∀o∈l,x.Cost≤o.Cost):=fun hm=>ih (i:U) (fun h=>by omega) fun _=>⟨l[i],Ae hi,fun o ho=>(ht o ho).elim (hm o) fun e=>by rw[e]; exact Int.le_refl _⟩
 rw[DW,if_pos (decide_eq_true (zF.2 hi)),Ae hi,X];simp only[Ku,if_true,At hi (Aj (n:=l.length) (by omega))];by_cases hv:v<0
 ·rw[if_pos (by simpa using hv)];have:=h1 hv;subst this;exact take (fun o ho=>by simp at ho)
 ·rw[if_neg (by simpa using hv)];obtain⟨x,q1,q2⟩:=h2 (by omega);rw[q1,X];split
  ·rename_i hlt
   simp only[decide_eq_true_eq] at hlt
   exact take fun o ho=>by have:=q2 o ho; omega
  ·rename_i hlt
   simp only[decide_eq_true_eq] at hlt
   exact ih v (fun h=>by omega) fun _=>⟨x,q1,fun o ho=>(ht o ho).elim (q2 o) fun e=>by rw[e]; omega⟩
def gX(h:X4)(os:P (P X0))(v:P U)(i:W):Prop:=∃R:U,v[i]?=O R∧0≤R∧R≤2880*((os.length:U) - i)∧∀pl k w,mc h (os.drop i) pl k=O w→k+R≤w
theorem ig(s:HSmall h)(hh:AP h=T)(h6:os.length≤6)(h8:∀l∈os,l.length≤8)(hg:∀l∈os,GoodC h l):∃b c f,NT h os=O (b,c,f)∧oF f c=mc h os [] 0:=by
 unfold NT;have e1:zU .i64 ((os.length:U)+1)=((os.length+1:W):U):=Ak (by omega) (by omega);have e2:zU .i64 ((os.length:U) - 1)=(os.length:U) - 1:=Ak (by omega) (by omega);rw[ja hh h6 h8 hg,X,e1,e2,E9 (by omega) (by omega),X]
 have key:∀(k n:W) (v:P U),k<n→k≤os.length→v.length=os.length+1→(∀i,k≤i→i≤os.length→gX h os v i)→∃b c f,IR os h (El h os) n ((k:U) - 1) v=O (b,c,f)∧oF f c=mc h os [] 0:=by
  intro k
  induction k with
  | zero=>
   intro n v hn _ hv hR;obtain⟨q,rfl⟩:=sn (n:=n) (by omega)
   obtain⟨b',c',f',e,e'⟩:=xB s hh h6 h8 hg hv (fun i hi=>by
    obtain⟨R,r1,r2,r3,r4⟩:=hR i (zA _) hi;exact⟨R,r1,r2,by omega,r4⟩) os [] [] [] 0 E 0 bigN (by rw[BD]; omega) rfl (by simp) ⟨rfl,fun i hi=>by simp at hi⟩ (fun o ho=>by cases ho) rfl
   have e:SI ⟨h,os,El h os,v,[],0,E⟩ [] 0=O (Zx h os v b' c' f'):=e;rw[IR,if_neg (by simp),e,X]
   have e':oF f' c'=mc h os [] 0:=by
    have:mn (oF E 0) (mc h os [] 0)=mc h os [] 0:=by
     show mn none _=_
     cases mc h os [] 0<;>rfl
    rw[e',this]
   cases f' with
   | false=>exact⟨_,_,_,rfl,e'⟩
   | true=>exact⟨_,_,_,rfl,e'⟩
  | succ k ih=>
   intro n v hn hk hv hR;obtain⟨q,rfl⟩:=sn (n:=n) (by omega);have hk':k<os.length:=by omega
   have ek:(((k+1:W):U) - 1)=(k:U):=by omega
   have ek1:zU .i64 ((k:U)+1)=((k+1:W):U):=Ak (by omega) (by omega);have ek2:zU .i64 ((k:U) - 1)=(k:U) - 1:=Ak (by omega) (by omega);have hm:=C hk';obtain⟨r,r1,r2,r3⟩:=Sm os[k] (by have:=h8 _ hm; omega);rw[ek,IR,if_pos (by simp),Ae hk',X,r1,X];by_cases hr:r<0
   ·rw[if_pos (by simpa using hr),uX os [] 0 (by rw[← r2 hr]; exact hm)];exact⟨_,_,_,rfl,rfl⟩
   ·obtain⟨x,x1,x2⟩:=r3 (by omega);have a1:k+1<v.length:=by omega
    have a2:k<v.length:=by omega
    obtain⟨R,t1,t2,t3,t4⟩:=hR (k+1) (Nat.le_refl _) hk;have ev:v[k+1]=R:=by rw[zB a1] at t1; exact Option.some.inj t1
    have xm:x∈os[k]:=by
     have:=Ay x1;exact Z this
    obtain⟨_,xc0,xc1⟩:=hg _ hm x xm;rw[if_neg (by simpa using hr),ek1,Ae a1,X,x1,X,Ae a2,X,ek2,ev,Ak (by omega) (by omega),zK];refine ih q _ (by omega) (by omega) (by simpa using hv) fun i hi1 hi2=> ?_
    by_cases hik:i=k
    ·subst hik;refine⟨R+x.Cost,by rw[List.getElem?_set_self a2],by omega,by omega,fun pl k w hw=> ?_⟩;rw[zD hk'] at hw
     obtain⟨o,o1,o2⟩:=Tr hw;have:=t4 _ _ _ o2;have:=x2 o o1;omega
    ·obtain⟨R',u1,u2,u3,u4⟩:=hR i (by omega) hi2;exact⟨R',by rw[List.getElem?_set_ne (by omega)]; exact u1,u2,u3,u4⟩
 refine key os.length bigN _ (by rw[BD]; omega) (Nat.le_refl _) (by simp) fun i h1 h2=> ?_
 have:i=os.length:=by omega
 subst this;refine⟨0,by simp,by omega,by omega,fun pl k w hw=> ?_⟩;rw[zM,mc] at hw
 split at hw
 ·cases hw; omega
 ·cases hw
end
open Go.Lib
section
variable {h : X4} {cs : P Xb}
theorem vE{f f':V}{c c':U}(e:oF f c=oF f' c'):f=f'∧(f=T→c=c'):=by
 cases f<;>cases f'<;>simp_all[oF]
theorem ib(s:HSmall h)(hok:Dr h cs=O T)(hsp:Fo h cs=O T)(hh:AP h=T)(h6:cs.length≤6)(hcs:∀a∈cs,Bx h a=T):∃b b' c c' f,Nj h cs=O (b,c,f)∧LQ h cs=O (b',c',f)∧(f=T→c=c'∧0≤c∧c≤100000):=by
 obtain⟨o1,o2,o3,o4⟩:=Vn s hh h6 hcs;have hl:(cs.map (AH h)).length≤6:=by simpa using h6
 obtain⟨b,c,f,e1,e2⟩:=ig s hh hl o3 o4;have hfit:CB h []=T:=(KU s hh (by simp) (fun o ho=>by cases ho)).2.2 (FitP.nil hh)
 have e:=sG (os:=cs.map (AH h)) (wv:=CT) (F:=fun z0=>Mo z0) (fun pl G hl=>by
  rw[List.length_map] at hl
  show(LX pl).bind _=_
  rw[jl (by omega) G.cost]; rfl) (fun pl o ho=>by
  simp only[wl,CT,RA,Bool.or_eq_false_iff,Bool.and_eq_false_iff,decide_eq_false_iff_not];omega) s hh hl o3 o4 (cs.map (AH h)) [] [] ⟨E,[],⟨0,0⟩⟩ bigN (by rw[BD]; simp; omega) rfl (by simp) rfl (fun o ho=>by cases ho) hfit
 have e:SG (fun z0=>Mo z0) ⟨h,cs.map (AH h),[],[],[],⟨0,0⟩,E⟩=_:=e;have hm:=(xh h (cs.map (AH h)) [] [] ⟨E,[],⟨0,0⟩⟩ (fun h=>by cases h)).2;generalize Bm h CT (cs.map (AH h)) [] [] ⟨E,[],⟨0,0⟩⟩=B at e hm
 have hm:oF B.f B.w.i0=mc h (cs.map (AH h)) [] 0:=by
  have z:∀x:Q U,mn none x=x:=fun x=>by cases x<;>rfl
  exact hm.trans (z (mc h (cs.map (AH h)) [] 0))
 obtain⟨q1,q2⟩:=vE (e2.trans hm.symm);refine⟨b,B.b,c,B.w.i0,f,?_,?_,fun hf=>⟨q2 hf,?_⟩⟩
 ·unfold Nj;rw[hsp,X,if_pos rfl,o1,X,e1,X]
 ·unfold LQ Q0;simp only[hok,o2,X,if_true,e];rw[q1]
 ·have low:∀(ls:P (P X0)) (pl:P X0) (k v:U),(∀l∈ls,GoodC h l)→mc h ls pl k=O v→k≤v∧v≤k+2880*(ls.length:U):=by
   intro ls
   induction ls with
   | nil=>
    intro pl k v _ hv;rw[mc] at hv
    split at hv
    ·cases hv; simp
    ·cases hv
   | cons l ls ih=>
    intro pl k v hg hv;obtain⟨o,h1,h2⟩:=Tr hv;obtain⟨_,x1,x2⟩:=hg l (zI ..) o h1;have:=ih _ _ _ (fun l hl=>hg l (zG _ hl)) h2;simp only[zL];omega
  rw[oF,if_pos hf] at e2
  have:=low _ _ _ _ o4 e2.symm;omega
theorem jY(l:P X0):∀(n:W) (v i:U),HA l n v i=DW l n v i:=by
 intro n
 induction n with
 | zero=>intro v i; rfl
 | succ n ih=>intro v i; simp only[HA,DW,LW,Ku,ih]
theorem jX(l:P X0):PP l=Gu l:=jY l _ _ _
def SL(l:P X0):Q U:=(Gu l).bind fun r=>if decide (r<0) then O (-1) else(ix l r).bind fun x=>O x.Cost
theorem oO(s:HSmall h)(hh:AP h=T){a:Xb}(ha:Bx h a=T):∃v,SL (AH h a)=O v∧LZ h a=O v∧ -1≤v∧v≤2880:=by
 obtain⟨L,l1,l2,l3,l4⟩:=Ty s hh ha;have el:AH h a=L:=by unfold AH; rw[l2]; rfl
 obtain⟨r,r1,r2,r3⟩:=Sm L (by omega);unfold SL LZ;rw[el,l2,X,jX,r1,X];by_cases hr:r<0
 ·have:=r2 hr;subst this;exact⟨-1,by rw[if_pos (by simpa using hr)],rfl,by omega,by omega⟩
 ·obtain⟨x,x1,x2⟩:=r3 (by omega);have hx:=Z (Ay x1);obtain⟨_,c0,c1⟩:=l4 x hx;refine⟨x.Cost,by rw[if_neg (by simpa using hr),x1]; rfl,?_,by omega,by omega⟩;have hl:L.length≠0:=fun e=>by rw[List.length_eq_zero_iff.1 e] at hx; cases hx
  rw[if_neg (by simp; exact fun e=>hl (by rw[e]; rfl)),X,x1];rfl
end
open Go.Lib
section
variable {h : X4}
theorem vb{L1 L1' L2:P X0}{x:X0}{a2:Xb}{i i':U}{K K':U→U→Q U}(hcl:∀y∈L2,Eo h.Chart h.Regime x.Passages y.Passages=Ew h.Chart h.Regime x.Passages y.Passages)(hK:∀v,K v (zU .i64 (i+1))=K' v (zU .i64 (i'+1))):∀(n:W) (v j:U),Gf L1 i L2 h a2 x K n v j=E1 L2 L1' i' h x K' n v j:=by
 intro n
 induction n with
 | zero=>intro v j; rfl
 | succ n ih=>
  intro v j;rw[Gf,E1];split
  ·cases hy:ix L2 j with
   | none=>rfl
   | some y=>
    simp only[X,hcl y (Z (Ay hy)),K4,IV,ih]
  ·exact hK v
theorem vd{a b:Xb}{L1 L2:P X0}(e1:D5 h a=O L1)(e2:D5 h b=O L2)(hcl:∀x∈L1,∀y∈L2,Eo h.Chart h.Regime x.Passages y.Passages=Ew h.Chart h.Regime x.Passages y.Passages):Mb h a b=KT h L1 L2:=by
 have key:∀(n:W) (v i:U),K3 L1 h b n v i=EC L2 L1 h n v i:=by
  intro n
  induction n with
  | zero=>intro v i; rfl
  | succ n ih=>
   intro v i;rw[K3,EC];split
   ·cases hx:ix L1 i with
    | none=>rfl
    | some x=>
     simp only[X,e2];exact vb (hcl x (Z (Ay hx))) (fun v=>ih v _) bigN v 0
   ·rfl
 unfold Mb KT;rw[e1,X];exact key _ _ _
theorem OS(s:HSmall h)(hh:AP h=T){a:Xb}(ha:Bx h a=T):D5 h a=O (AH h a)∧(AH h a).length≤8∧GoodC h (AH h a):=by
 obtain⟨L,l1,l2,l3,l4⟩:=Ty s hh ha;have el:AH h a=L:=by unfold AH; rw[l2]; rfl
 rw[el];exact⟨l2,l3,l4⟩
theorem VR(hh:AP h=T){L1 L2:P X0}(g1:GoodC h L1)(g2:GoodC h L2):∀x∈L1,∀y∈L2,Eo h.Chart h.Regime x.Passages y.Passages=O (Bf h.Chart h.Regime x.Passages y.Passages)∧Ew h.Chart h.Regime x.Passages y.Passages=O (Bf h.Chart h.Regime x.Passages y.Passages):=fun x hx y hy=>by
 obtain⟨_,hc,_,hr,_⟩:=EE hh;obtain⟨⟨p1,p2⟩,_⟩:=g1 x hx;obtain⟨⟨q1,q2⟩,_⟩:=g2 y hy;have:=Sn hc hr p1.inn q1.inn (by rw[Az]; omega) (by rw[Az]; omega);exact⟨this.2,this.1⟩
variable {cs : P Xb}
theorem jF(s:HSmall h)(hh:AP h=T)(hcs:∀a∈cs,Bx h a=T)(m:P U):∀(n:W) (v i:U),G6 cs m h n v i=Dx (cs.map (AH h)) m h n v i:=by
 intro n
 induction n with
 | zero=>intro v i; rfl
 | succ n ih=>
  intro v i;rw[G6,Dx];split
  ·cases hx:ix m i with
   | none=>rfl
   | some x=>
    simp only[X,Og];split
    ·cases ha:ix cs i with
     | none=>rfl
     | some a=>
      obtain⟨w,w1,w2,_⟩:=oO s hh (hcs a (Z (Ay ha)));unfold SL at w1
      simp only[zT,X,w2,G7,FD];cases hr:Gu (AH h a) with
      | none=>rw[hr] at w1; cases w1
      | some r=>
       rw[hr,X] at w1
       simp only[X];split at w1
       ·rename_i hlt
        cases w1;rw[if_pos hlt];rfl
       ·rename_i hlt
        rw[if_neg hlt];cases hy:ix (AH h a) r with
        | none=>rw[hy] at w1; cases w1
        | some y=>
         rw[hy] at w1
         cases w1;have h0:=((OS s hh (hcs a (Z (Ay ha)))).2.2 y (Z (Ay hy))).2.1;simp only[X];rw[if_neg (by simpa using h0)];exact ih _ _
    ·split
     ·cases ha:ix cs i with
      | none=>rfl
      | some a=>
       cases hb:ix cs x with
       | none=>rfl
       | some b=>
        obtain⟨p1,_,p3⟩:=OS s hh (hcs a (Z (Ay ha)));obtain⟨q1,_,q3⟩:=OS s hh (hcs b (Z (Ay hb)));have hcl:=VR hh p3 q3;simp only[zT,X,vd p1 q1 fun x hx y hy=>(hcl x hx y hy).1.trans (hcl x hx y hy).2.symm,G7,FD,ih]
     ·simp only[G7,FD,ih];rfl
  ·rfl
theorem VK(s:HSmall h)(hok:Dr h cs=O T)(hh:AP h=T)(hcs:∀a∈cs,Bx h a=T){m:P U}(hm:K0 cs m=O T):JU h cs m=GN h (cs.map (AH h)) m:=by
 unfold JU GN;rw[hok,X,if_pos rfl,hm,X];unfold LU;rw[if_neg (by simp)];exact jF s hh hcs m _ _ _
end
open Go.Lib
def J9(n:W):P (P U):=(Qs (I n (-1)) []).getD []
theorem gg:∀n:W,n<7→Qs (I n (-1)) []=O (J9 n):=by decide +kernel
def FR(n:W)(m:P U):V:=m.length==n&&(List.range n).all fun i=>match m[i]? with | some x=>decide (0≤x)&&decide (x<n)&&(m[x.toNat]?==O (i:U)) | none=>E
theorem uW:∀n:W,n<7→(J9 n).all (FR n)=T:=by decide +kernel
theorem uV:∀n:W,n<7→(J9 n).length≤100:=by decide +kernel
section
variable {h : X4} {cs : P Xb}
def Cn(h:X4)(cs:P Xb):P (P U)→V × U × P U→Q (V × U × P U)
 | [],st=>O st
 | m::L,st=>(Gi h cs m st.1 st.2.1 st.2.2).bind (Cn h cs L)
theorem Wr:∀(L1 L2:P (P U)) (st:V × U × P U),Cn h cs (L1++L2) st=(Cn h cs L1 st).bind (Cn h cs L2)
 | [],L2,st=>rfl
 | m::L1,L2,st=>by
  simp only[List.cons_append,Cn];cases Gi h cs m st.1 st.2.1 st.2.2 with
  | none=>rfl
  | some st'=>exact Wr L1 L2 st'
def OU(m:P U)(st:V × U × P U):P U × V × U × P U:=(m,st.1,st.2.1,st.2.2)
theorem back{m:P U}{i v:W}(hi:m[i]?=O (-1))(hv:m[v]?=O (-1))(a b:U):(((m.set i a).set v b).set i (-1)).set v (-1)=m:=by
 refine List.ext_getElem? fun j=> ?_
 simp only[List.getElem?_set,List.length_set];obtain⟨q1,p1⟩:=zH.1 hi;obtain⟨q2,p2⟩:=zH.1 hv;by_cases e1:v=j
 ·subst e1; simp[q2,hv,p2]
 ·by_cases e2:i=j
  ·subst e2; simp[e1,q1,hi,p1]
  ·simp[e1,e2]
theorem gh:∀(n:W) (m:P U) (out r:P (P U)),FB n m out=O r→(∀x∈m,x<0→x= -1)→m.length≤6→∃L,r=out++L∧∀st,Gj h cs n m st.1 st.2.1 st.2.2=(Cn h cs L st).map (OU m):=by
 intro n
 induction n with
 | zero=>intro m out r e; cases e
 | succ n ih=>
  intro m out r e hm h6;have hlm:m.length≤maxLen:=Aj (by omega)
  have two:∀(i:W),m[i]?=O (-1)→∀(N v:W) (out r:P (P U)),v≤m.length→IU (FB n) m (i:U) N (v:U) out=O r→∃L,r=out++L∧∀st,DR (Gj h cs n) (i:U) N (v:U) m st.1 st.2.1 st.2.2=(Cn h cs L st).map (OU m):=by
   intro i hi N
   induction N with
   | zero=>intro v out r _ e; cases e
   | succ N ihN=>
    intro v out r hvl e;rw[IU] at e
    by_cases hv:v<m.length
    ·have ew:zU .i64 ((v:U)+1)=((v+1:W):U):=At hv hlm;simp only[Ai,hv,decide_true,if_true,Ae hv,X] at e
     by_cases hneg:m[v]<0
     ·have hv1:m[v]?=O (-1):=by rw[zB hv,hm _ (C hv) hneg]
      obtain⟨hil,hie⟩:=zH.1 hi;have hi1:ix m (i:U)=O (-1):=by rw[Ae hil,hie]
      have hs:v<(m.set i (v:U)).length:=by simpa using hv
      rw[if_pos (by simpa using hneg),if_pos (AT (by simp) (by omega) (by omega)),hi1,X] at e
      simp only[zK,Ae hs,X,KR,ew] at e
      obtain⟨r1,e1,e⟩:=ob e
      have hm1:∀x∈(m.set i (v:U)).set v (i:U),x<0→x= -1:=fun x hx hx0=>by
       rcases zP hx with q|q
       ·rcases zP q with q|q
        ·exact hm x q hx0
        ·omega
       ·omega
      obtain⟨L1,rfl,f1⟩:=ih _ out r1 e1 hm1 (by simpa using h6);obtain⟨L2,rfl,f2⟩:=ihN (v+1) _ r (by omega) e;refine⟨L1++L2,by rw[List.append_assoc],fun st=> ?_⟩;rw[DR];simp only[Ai,hv,decide_true,if_true,Ae hv,X];rw[if_pos (by simpa using hneg),hi1,X];simp only[zK,Ae hs,X,ew,f1,Wr];cases Cn h cs L1 st with
      | none=>rfl
      | some st1=>
       have k1:i<((m.set i (v:U)).set v (i:U)).length:=by simpa using hil
       have k2:v<(((m.set i (v:U)).set v (i:U)).set i (-1)).length:=by simpa using hv
       simp only[zT,X,OU,Ae k1,Ae k2,back hi hv1];exact f2 st1
     ·rw[if_neg (by simpa using hneg)] at e
      simp only[KR,ew] at e
      obtain⟨L,rfl,f2⟩:=ihN (v+1) out r (by omega) e;refine⟨L,rfl,fun st=> ?_⟩;rw[DR];simp only[Ai,hv,decide_true,if_true,Ae hv,X,ew];rw[if_neg (by simpa using hneg)];exact f2 st
    ·rw[if_neg (by simpa using hv)] at e
     cases e;refine⟨[],by simp,fun st=> ?_⟩;rw[DR,if_neg (by simpa using hv)];rfl
  have one:∀(N v:W),v≤m.length→KQ (FB n) m out N (v:U)=O r→∃L,r=out++L∧∀st,DQ (Gj h cs n) h cs m st.1 st.2.1 st.2.2 N (v:U)=(Cn h cs L st).map (OU m):=by
   intro N
   induction N with
   | zero=>intro v _ e; cases e
   | succ N ihN=>
    intro v hvl e;rw[KQ] at e
    by_cases hv:v<m.length
    ·have ew:zU .i64 ((v:U)+1)=((v+1:W):U):=At hv hlm;simp only[Ai,hv,decide_true,if_true,Ae hv,X,ew] at e
     by_cases hp:0≤m[v]
     ·rw[if_pos (by simpa using hp)] at e
      obtain⟨L,rfl,f2⟩:=ihN (v+1) (by omega) e;refine⟨L,rfl,fun st=> ?_⟩;rw[DQ];simp only[Ai,hv,decide_true,if_true,Ae hv,X,ew];rw[if_pos (by simpa using hp)];exact f2 st
     ·rw[if_neg (by simpa using hp)] at e
      have hv1:m[v]?=O (-1):=by rw[zB hv,hm _ (C hv) (by omega)]
      obtain⟨L,rfl,f2⟩:=two v hv1 bigN v out r hvl e;refine⟨L,rfl,fun st=> ?_⟩;rw[DQ];simp only[Ai,hv,decide_true,if_true,Ae hv,X];rw[if_neg (by simpa using hp),Gh,if_neg (by rw[beq_iff_eq]; omega)];exact f2 st
    ·have:v=m.length:=by omega
     subst this;rw[if_neg (by simp)] at e
     split at e
     ·cases e;refine⟨[m],rfl,fun st=> ?_⟩;rw[DQ,if_neg (by simp),Gh,if_pos (by simp)];simp only[Cn];cases Gi h cs m st.1 st.2.1 st.2.2<;>rfl
     ·cases e
  rw[FB,Qt] at e
  obtain⟨L,e1,f1⟩:=one bigN 0 (zA _) e;exact⟨L,e1,fun st=>by rw[Gj]; exact f1 st⟩
end
open Go.Lib
section
variable {h : X4} {cs : P Xb}
theorem Z5{m:P U}(hm:FR cs.length m=T)(h6:cs.length≤6):K0 cs m=O T:=by
 simp only[FR,zC,beq_iff_eq,zR,List.mem_range] at hm
 obtain⟨hl,ha⟩:=hm;unfold K0;rw[if_neg (by simp[hl])];refine Bj (fun n i=>HH m n (i:U)=O T) (Aj (n:=m.length) (by omega)) (fun n=>by rw[HH,if_neg (by simp)]) (fun n i hi ih=> ?_) (zA _);have:=ha i (by omega);rw[zB hi] at this
 simp only[zC,decide_eq_true_eq,beq_iff_eq] at this
 obtain⟨⟨x0,x1⟩,x2⟩:=this;have hx:idx m[i] m.length=T:=IZ.2 ⟨x0,by omega⟩
 have hi2:ix m m[i]=O (i:U):=by
  unfold ix;rw[if_pos x0];exact x2
 rw[HH,if_pos (decide_eq_true (zF.2 hi)),Ae hi,X,J1,show(decide (0≤m[i])&&decide (m[i]<(m.length:U)))=T by simp; omega,X,if_pos rfl,hi2,X,if_neg (by simp),At hi (Aj (n:=m.length) (by omega))];exact ih
def PN(st:V × U × P U):P U × U × V:=if st.1=T then(st.2.2,st.2.1,T) else([],0,E)
theorem ii{L:P (P U)}(hB:∀m∈L,JU h cs m=GN h (cs.map (AH h)) m)(hc:∀m∈L,Bi m=O m)(hl:L.length≤100):∀st:V × U × P U,Et L h (cs.map (AH h)) bigN st.2.2 st.2.1 st.1 0=(Cn h cs L st).map PN:=by
 refine Bj (fun n i=>∀st:V × U × P U,Et L h (cs.map (AH h)) n st.2.2 st.2.1 st.1 (i:U)=(Cn h cs (L.drop i) st).map PN) (Aj (n:=L.length) (by omega)) (fun n st=> ?_) (fun n i hi ih st=> ?_) (zA _)
 ·rw[Et,if_neg (by simp),zM,Cn];obtain⟨f,k,b⟩:=st;cases f<;>rfl
 ·obtain⟨f,k,b⟩:=st;have hm:=C hi;rw[Et,if_pos (decide_eq_true (zF.2 hi)),Ae hi,X,zD hi,Cn];simp only[Gi,hB _ hm,hc _ hm,Km,At hi (Aj (n:=L.length) (by omega))];cases GN h (cs.map (AH h)) L[i] with
  | none=>rfl
  | some r=>
   obtain⟨n1,ok⟩:=r;simp only[X];cases ok with
   | false=>simp only[Y,if_false,X]; exact ih (f,k,b)
   | true=>
    cases f with
    | false=>simp only[Y,if_false,if_true,X]; exact ih (T,n1,L[i])
    | true=>
     simp only[if_true];cases decide (k<n1) with
     | false=>simp only[Y,if_false,X]; exact ih (T,k,b)
     | true=>simp only[if_true,X]; exact ih (T,n1,L[i])
end
open Go.Lib
section
variable {h : X4} {cs : P Xb}
theorem ve(hh:AP h=T){L1 L2:P X0}(g1:GoodC h L1)(g2:GoodC h L2)(l1:L1.length≤8)(l2:L2.length≤8):∃r,KT h L1 L2=O r∧ -1≤r∧r≤5760:=by
 have hcl:=VR hh g1 g2;refine Bj (fun n i=>∀v:U,-1≤v→v≤5760→∃r,EC L2 L1 h n v (i:U)=O r∧ -1≤r∧r≤5760) (Aj (n:=L1.length) (by omega)) (fun n v v0 v1=>⟨v,by rw[EC,if_neg (by simp)],v0,v1⟩) (fun n i hi ih v v0 v1=> ?_) (zA _) (-1) (by omega) (by omega);have hx:=C hi;obtain⟨_,c0,c1⟩:=g1 _ hx;rw[EC,if_pos (decide_eq_true (zF.2 hi)),Ae hi,X];refine Bj (fun n2 j=>∀v:U,-1≤v→v≤5760→∃r,E1 L2 L1 (i:U) h L1[i] (EC L2 L1 h n) n2 v (j:U)=O r∧ -1≤r∧r≤5760) (Aj (n:=L2.length) (by omega)) (fun n2 v v0 v1=> ?_) (fun n2 j hj ih2 v v0 v1=> ?_) (zA _) v v0 v1
 ·rw[E1,if_neg (by simp),At hi (Aj (n:=L1.length) (by omega))];exact ih v v0 v1
 ·have hy:=C hj;obtain⟨_,d0,d1⟩:=g2 _ hy;rw[E1,if_pos (decide_eq_true (zF.2 hj)),Ae hj,X];simp only[(hcl _ hx _ hy).2,X,IV,At hj (Aj (n:=L2.length) (by omega))];rw[Ak (n:=L1[i].Cost+L2[j].Cost) (by omega) (by omega)];have A:=ih2 (L1[i].Cost+L2[j].Cost) (by omega) (by omega);have B:=ih2 v v0 v1;repeat' split
  all_goals first | exact A | exact B
theorem jH(s:HSmall h)(hh:AP h=T)(h6:cs.length≤6)(hcs:∀a∈cs,Bx h a=T){m:P U}(hm:FR cs.length m=T):∃r,GN h (cs.map (AH h)) m=O r∧ -100000≤r.1∧r.1≤100000:=by
 simp only[FR,zC,beq_iff_eq,zR,List.mem_range] at hm
 obtain⟨hl,ha⟩:=hm;refine Bj (fun n i=>∀v:U,0≤v→v≤5760*(i:U)→∃r,Dx (cs.map (AH h)) m h n v (i:U)=O r∧ -100000≤r.1∧r.1≤100000) (Aj (n:=m.length) (by omega)) (fun n v v0 v1=>⟨_,by rw[Dx,if_neg (by simp)],by show -100000≤v; omega,by show v≤100000; omega⟩) (fun n i hi ih v v0 v1=> ?_) (zA _) 0 (by omega) (by omega);have:=ha i (by omega);rw[zB hi] at this
 simp only[zC,decide_eq_true_eq,beq_iff_eq] at this
 obtain⟨⟨x0,x1⟩,_⟩:=this;have hic:i<cs.length:=by omega
 have fail:∃r:U × V,(O ((0:U),E):Q (U × V))=O r∧ -100000≤r.1∧r.1≤100000:=⟨_,rfl,by simp,by simp⟩
 have go:∀w:U,0≤w→w≤5760→∃r,Dx (cs.map (AH h)) m h n (zU .i64 (v+w)) ((i+1:W):U)=O r∧ -100000≤r.1∧r.1≤100000:=fun w w0 w1=>by
  rw[Ak (by omega) (by omega)];exact ih (v+w) (by omega) (by omega)
 rw[Dx,if_pos (decide_eq_true (zF.2 hi)),Ae hi,X];simp only[FD,At hi (Aj (n:=m.length) (by omega))];obtain⟨_,p2,p3⟩:=OS s hh (hcs _ (C hic));have hi':i<(cs.map (AH h)).length:=by simpa using hic
 have ei:(cs.map (AH h))[i]=AH h cs[i]:=by simp
 split
 ·rw[Ae hi',ei,X];obtain⟨r,r1,r2,r3⟩:=Sm (AH h cs[i]) (by omega);rw[r1,X];split
  ·exact fail
  ·rename_i hlt
   obtain⟨y,y1,_⟩:=r3 (by simpa using hlt);obtain⟨_,y2,y3⟩:=p3 y (Z (Ay y1));rw[y1,X];exact go _ y2 (by omega)
 ·split
  ·obtain⟨xn,hxn⟩:∃xn:W,m[i]=(xn:U):=⟨m[i].toNat,by omega⟩;have hxc:xn<cs.length:=by omega
   have hx':xn<(cs.map (AH h)).length:=by simpa using hxc
   have ex:(cs.map (AH h))[xn]=AH h cs[xn]:=by simp
   obtain⟨_,q2,q3⟩:=OS s hh (hcs _ (C hxc));obtain⟨w,w1,w2,w3⟩:=ve hh p3 q3 p2 q2;rw[Ae hi',ei,X,hxn,Ae hx',ex,X,w1,X];split
   ·exact fail
   ·rename_i hlt
    exact go w (by simpa using hlt) w3
  ·exact go 0 (by omega) (by omega)
end
open Go.Lib
section
variable {h : X4} {cs : P Xb}
def Pt(st:V × U × P U):Prop:=(st.1=E→st.2.1=0)∧ -100000≤st.2.1∧st.2.1≤100000
theorem oR(s:HSmall h)(hok:Dr h cs=O T)(hh:AP h=T)(h6:cs.length≤6)(hcs:∀a∈cs,Bx h a=T):∀(L:P (P U)) (st:V × U × P U),(∀m∈L,FR cs.length m=T)→Pt st→∃st',Cn h cs L st=O st'∧Pt st':=by
 intro L
 induction L with
 | nil=>intro st _ h; exact⟨st,rfl,h⟩
 | cons m L ih=>
  intro st hp hs;have hm:=hp m (zI ..)
  have hl:m.length=cs.length:=by
   simp only[FR,zC,beq_iff_eq] at hm
   exact hm.1
  obtain⟨r,r1,r2,r3⟩:=jH s hh h6 hcs hm;have hc:Bi m=O m:=LH (by omega);have next:∀st,Pt st→∃st',Cn h cs L st=O st'∧Pt st':=fun st hs=>ih st (fun x hx=>hp x (zG _ hx)) hs
  rw[Cn];unfold Gi;rw[VK s hok hh hcs (Z5 hm h6),r1,X,hc];obtain⟨f,k,b⟩:=st;simp only[X];repeat' split
  all_goals first | exact next _ hs | exact next (T,r.1,m) ⟨(fun h=>by cases h),r2,r3⟩
theorem iZ(s:HSmall h)(hok:Dr h cs=O T)(hsp:Fo h cs=O T)(hh:AP h=T)(h6:cs.length≤6)(hcs:∀a∈cs,Bx h a=T):∃b b' k f f',Kl h cs=O (b,k,f)∧JT h cs=O (b',k,f')∧ -100000≤k∧k≤100000:=by
 have hn:cs.length<7:=by omega
 obtain⟨o1,_,_,_⟩:=Vn s hh h6 hcs;have hp:∀m∈J9 cs.length,FR cs.length m=T:=zR.1 (uW _ hn);obtain⟨st,st1,st2,st3,st4⟩:=oR s hok hh h6 hcs (J9 cs.length) (E,0,[]) hp ⟨fun _=>rfl,by simp,by simp⟩
 have hlen:∀m∈J9 cs.length,m.length=cs.length:=fun m hm=>by
  have:=hp m hm;simp only[FR,zC,beq_iff_eq] at this
  exact this.1
 have hloop:=ii (h:=h) (cs:=cs) (L:=J9 cs.length) (fun m hm=>VK s hok hh hcs (Z5 (hp m hm) h6)) (fun m hm=>LH (by have:=hlen m hm; omega)) (uV _ hn) (E,0,[]);rw[st1] at hloop
 have hall:=gg _ hn;obtain⟨L,eL,fL⟩:=gh (h:=h) (cs:=cs) bigN (I cs.length (-1)) [] _ hall (fun x hx hx0=>List.eq_of_mem_replicate hx) (by simpa using h6);rw[List.nil_append] at eL
 subst eL;have hai:=fL (E,0,[]);rw[st1] at hai
 have hai:PX h cs (I cs.length (-1)) E 0 []=O (OU (I cs.length (-1)) st):=hai
 have e1:Kl h cs=O (PN st):=by
  unfold Kl;rw[hsp,X,if_pos rfl,o1,X];refine Bj (fun n i=>Im cs h (cs.map (AH h)) n (i:U) (I i (-1))=O (PN st)) (Aj (n:=cs.length) (by omega)) (fun n=> ?_) (fun n i hi ih=> ?_) (zA _)
  ·rw[Im,if_neg (by simp),hall,X];exact hloop
  ·rw[Im,if_pos (decide_eq_true (zF.2 hi)),if_pos (AT (by simp; omega) (by simp) (by omega)),At hi (Aj (n:=cs.length) (by omega))];have:I i (-1:U)++ [(-1:U)]=I (i+1) (-1):=by rw[List.replicate_succ']
   rw[this];exact ih
 have e2:JT h cs=O (st.2.2,st.2.1,st.1):=by
  unfold JT;rw[hok,X,if_pos rfl,E9 (by omega) (by omega),X,List.length_replicate];refine Bj (fun n i=>Ht h cs (cs.length:U) n (i:U) (I i (-1)++I (cs.length - i) 0)=O (st.2.2,st.2.1,st.1)) (Aj (n:=cs.length) (by omega)) (fun n=> ?_) (fun n i hi ih=> ?_) (zA _)
  ·rw[Ht,if_neg (by simp),Nat.sub_self,List.replicate_zero,List.append_nil,hai];rfl
  ·have hl:i<(I i (-1:U)++I (cs.length - i) 0).length:=by simp; omega
   rw[Ht,if_pos (decide_eq_true (zF.2 hi)),Ae hl,X,At hi (Aj (n:=cs.length) (by omega)),zK]
   have:(I i (-1:U)++I (cs.length - i) 0).set i (-1)=I (i+1) (-1)++I (cs.length - (i+1)) 0:=by
    have ed:cs.length - i=(cs.length - (i+1))+1:=by omega
    rw[ed,List.replicate_succ,List.replicate_succ',List.append_assoc];rw[List.set_append_right _ _ (by simp)];simp
   rw[this];exact ih
 obtain⟨f,k,b⟩:=st;cases f with
 | true=>exact⟨_,_,k,_,_,e1,e2,st3,st4⟩
 | false=>
  have hk:k=0:=st2 rfl;subst hk;exact⟨_,_,0,_,_,e1,e2,st3,st4⟩
end
open Go.Lib
theorem A23{n:U}(h0:0≤n)(h1:n≤255):IntKind.u8.wrap n=n:=by
 rw[IntKind.wrap_u8];omega
theorem PJ{k:W}(h:k<10):([IntKind.u8.wrap (48+(k:U))]:P U).map Js= [UInt8.ofNat (48+k)]:=by
 rw[A23 (by omega) (by omega)];simp only[List.map_cons,List.map_nil,Js];congr 2
theorem tH(u:W):itoa (u:U)=decDigits u:=itoa_nonneg u
theorem oP(rec_:U→Q (P UInt8)):∀(u n:W) (s:P UInt8),u<n→u≤9223372036854775807→s.length+(decDigits u).length≤1000→Ky rec_ n (u:U) s=O (decDigits u++s):=by
 intro u
 induction u using Nat.strongRecOn with
 | _ u ih=>
  intro n s hn hu hs;obtain⟨m,rfl⟩:∃m,n=m+1:=⟨n - 1,by omega⟩;have hd1:1≤(decDigits u).length:=by have:=ly u; cases h:decDigits u<;>simp_all
  rw[Ky];by_cases h:u<10
  ·have hd:¬((9:U)<(u:U)):=by omega
   simp only[hd,decide_false,Y,if_false];rw[Ak (by omega) (by omega),PJ h,ifc (by simp; omega),decDigits_one h]
  ·have hd:(9:U)<(u:U):=by omega
   simp only[hd,decide_true,if_true];have e1:Int.tmod (u:U) 10=((u % 10:W):U):=by rw[zN (by omega)]; rfl
   have e2:Int.tdiv (u:U) 10=((u / 10:W):U):=by rw[zO (by omega)]; rfl
   rw[e1,e2,Ak (show -9223372036854775808≤((u % 10:W):U) by omega) (by omega),Ak (by omega) (by omega),Ak (by omega) (by omega),PJ (by omega),ifc (by simp; omega)];rw[Sw h] at hs
   rw[ih (u / 10) (by omega) m _ (by omega) (by omega) (by simp at hs ⊢; omega),Sw h];simp
theorem Zh:∀(k u:W),u<10 ^ (k+1)→nDigits u≤k+1
 | 0,u,h=>by rw[nDigits_small (by simpa using h)]; exact Nat.le_refl _
 | k+1,u,h=>by
  by_cases h9:u<10
  ·rw[nDigits_small h9]; omega
  ·rw[nDigits_big h9];have:=Zh k (u / 10) (by rw[Nat.pow_succ] at h; omega);omega
theorem Sx(u:W)(h:u≤9223372036854775808):(decDigits u).length≤19:=by
 rw[decDigits_length];exact Zh 18 u (by omega)
theorem zf(u:W):Int.tdiv (-(u:U)) 10= -((u / 10:W):U):=by
 rw[Int.neg_tdiv,zO (by omega)]; rfl
theorem zg(u:W):Int.tmod (-(u:U)) 10= -((u % 10:W):U):=by
 rw[Int.neg_tmod,zN (by omega)]; rfl
theorem tG{u:W}(h:1≤u):itoa (-(u:U))=45::decDigits u:=itoa_neg u h
theorem oQ:∀(u n:W),u<n→1≤u→u≤9223372036854775808→Ex n (-(u:U))=O (45::decDigits u):=by
 intro u
 induction u using Nat.strongRecOn with
 | _ u ih=>
  intro n hn h1 hu;obtain⟨m,rfl⟩:∃m,n=m+1:=⟨n - 1,by omega⟩;have hl:=Sx u hu;rw[Ex,Kz];have hd: -(u:U)<0:=by omega
  simp only[hd,decide_true,if_true];rw[zf,zg,Ak (show -9223372036854775808≤ -((u / 10:W):U) by omega) (by omega)];by_cases h:u<10
  ·have e0:u / 10=0:=by omega
   rw[e0];simp only[Int.ofNat_zero,Int.neg_zero,beq_self_eq_true,if_true];rw[show(48:U) - -(u:U)=48+(u:U) by omega,Ak (by omega) (by omega),PJ h,ifc (by simp),decDigits_one h];rfl
  ·have hne:(-((u / 10:W):U)==0)=E:=by simp; omega
   simp only[hne,Y,if_false];rw[ih (u / 10) (by omega) m (by omega) (by omega) (by omega)];have hl2:=Sx (u / 10) (by omega);simp only[X];rw[Ak (show -9223372036854775808≤ -((u % 10:W):U) by omega) (by omega),show(48:U) - -((u % 10:W):U)=48+((u % 10:W):U) by omega,Ak (by omega) (by omega),PJ (by omega),ifc (by simp; omega),Sw h];simp
theorem SM{n:U}(h:i64 n):Kx n=O (itoa n):=by
 obtain⟨h1,h2⟩:=h;unfold Kx;by_cases hn:n<0
 ·obtain⟨u,rfl⟩:∃u:W,n= -(u:U):=⟨n.natAbs,by omega⟩;rw[oQ u bigN (by rw[BD]; omega) (by omega) (by omega),tG (by omega)]
 ·obtain⟨u,rfl⟩:∃u:W,n=(u:U):=⟨n.toNat,by omega⟩;obtain⟨m,hm⟩:∃m,bigN=m+1:=⟨bigN - 1,by rw[BD]⟩;have e:Ex bigN (u:U)=Kz (Ex m) u:=by rw[hm,Ex]
  have hd:¬(u:U)<0:=by omega
  have hl:=Sx u (by omega);rw[e,Kz];simp only[hd,decide_false,Y,if_false];rw[oP _ u bigN [] (by rw[BD]; omega) (by omega) (by simp; omega),tH];simp
theorem sB{n:U}(h:i64 n):M2 n=O (itoa n):=by
 simp[M2,Qu,h]
def wd(w:Xo):P UInt8:=if w.isS=T then w.s else itoa w.n
theorem A22{ws:P Xo}(hl:ws.length≤100)(h:∀w∈ws,w.isS=T∨i64 w.n)(hj:(join (ws.map wd) [32]).length≤140737488355328):MF ws=O (join (ws.map wd) [32]):=by
 unfold MF;rw[EQ (L:=I4 ws) ws wd (fun v=>(JZ v ([32]:P UInt8)).bind fun r7=>O r7) (Aj (by omega)) (fun n i acc hi ha=> ?_) (fun n acc _=>by rw[I4,if_neg (by simp)]),sC (by simp; omega) hj]
 ·rfl
 ·have hw:ME ws[i]=O (wd ws[i]):=by
   unfold ME wd;rcases h _ (C hi) with e|e
   ·simp[e]
   ·split
    ·rfl
    ·rw[sB e]; rfl
  rw[I4,Ai,if_pos (by simpa using hi),Ae hi,X,hw,X,if_pos (AT (by omega) (by simp) (by omega))]
theorem jG{h:X4}(s:HSmall h){cs:P Xb}:∃r,Nl h cs=O r∧LS h cs=O r:=by
 obtain⟨b,b1,b2,b3⟩:=jO s (cs:=cs);unfold Nl LS;rw[b1,b2,X,X];cases b with
 | false=>exact⟨_,rfl,rfl⟩
 | true=>
  obtain⟨hh,h6,hcs⟩:=b3 rfl;obtain⟨p,p',c,c',f,e1,e2,e3⟩:=ib s b2 b1 hh h6 hcs;rw[if_pos rfl,if_pos rfl,e1,e2,X,X];cases f with
  | false=>exact⟨_,rfl,rfl⟩
  | true=>
   obtain⟨rfl,c0,c1⟩:=e3 rfl;obtain⟨m,m',k,g,g',k1,k2,k3,k4⟩:=iZ s b2 b1 hh h6 hcs;have a1:i64 c:=by unfold i64; omega
   have a2:i64 k:=by unfold i64; omega
   have a3:i64 (c - k):=by unfold i64; omega
   have l1:=QW a1;have l2:=QW a2;have l3:=QW a3;simp only[if_true,k1,k2,X,Ak (n:=c - k) (by omega) (by omega),SM a1,SM a2,SM a3];rw[A22 (by simp) (by simp[a1,a2,a3]) (by simp[wd,join]; omega),X];rw[if_pos (LG (by simp; omega)),if_pos (LG (by simp; omega)),if_pos (LG (by simp; omega)),if_pos (LG (by simp; omega)),if_pos (LG (by simp; omega))];exact⟨_,rfl,by simp[wd,join]⟩
theorem law_FnExactBoundLine(a:X4)(cs:P Xb)(ok:DsOk [.ag (X4.row a),.sc (.sl (List.map Xb.row cs))]):Q1 a cs=O T:=by
 unfold Q1;obtain⟨q1,q2,q3,q4,q5,s⟩:=qi ok.ag.1;have hcm:=GV (row:=Xb.row) ok.ag.2.sc.1;obtain⟨r,e,k⟩:=yl (a:=a) (l:=1048576) (by omega) (by omega) q1 q2 q3 q4 q5 s;by_cases hr:r<0
 ·simp[e,hr]
 obtain⟨b0,b1,b2,b3,b4,b5,b6⟩:=k (by omega)
 have hsz:MV cs r=O (if r - (cs.length:U)<0 then -1 else r - (cs.length:U)):=by
  unfold MV;rw[Az] at hcm
  rw[Ak (by omega) (by omega)];split<;>split<;>simp_all
 by_cases hc:r - (cs.length:U)<0
 ·simp[e,hr,hsz,hc]
 have kc:cs.length≤1048576:=by omega
 obtain⟨x,x1,x2⟩:=jG s (cs:=cs);simp only[e,hr,hsz,hc,X,decide_false,Y,if_false,zo b1 b2 b3 b4 b5 b6,zj kc,x1,x2,beq_self_eq_true,if_true,nM q1 q2 q3 q4 q5 s.mv,nG hcm]
end Go.Vi
