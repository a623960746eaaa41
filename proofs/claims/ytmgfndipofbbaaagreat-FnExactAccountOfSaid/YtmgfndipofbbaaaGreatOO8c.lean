/-
Plain laws. No condition.
-/
import Derived.Test.YtmgfndipofbbaaaGreatOO8b
namespace Go.Vi
set_option linter.all false
open Option renaming bind_some → O, some → E
open Bool renaming false_eq_true → P, and_eq_true → Y, true → T, false → F
open List renaming getElem?_eq_getElem → Q, getElem?_append_left → U, length_pos_iff → X, getElem?_append_right → Z
open Nat renaming zero_le → W
open IntKind renaming wrap → B
open _root_ renaming List → G, Int → N
theorem wW(l:G X4)(a:N)(hl:l.length≤100000):∃b,Nn l a=E b∧LU l a=E b:=by
 have e1:=E5 (L:=Ie a l) l (fun x=>decide (x.From≤a)&&decide (a≤x.To)) (E T) (E F) (Bb (by omega)) (fun n i h=>by
  rw[Ie];simp only[Au,h,decide_true,if_true,Ax h,O,BG]) fun n=>by simp[Ie]
 have e2:=E5 (L:=H8 a l) l (fun x=>decide (x.From≤a)&&decide (a≤x.To)) (E T) (E F) (Bb (by omega)) (fun n i h=>by
  rw[H8];simp only[Au,h,decide_true,if_true,Ax h,O,D9]) fun n=>by simp[H8]
 unfold Nn LU;rw[e1,e2];split
 ·exact⟨T,rfl,rfl⟩
 ·exact⟨F,rfl,rfl⟩
theorem A1m(l:G X4)(a:N)(hl:l.length≤100000):∃r,Nv l a=E r∧M2 l a=E r∧(r<0∨a≤r):=by
 have hm:l.length≤maxLen:=Bb (by omega);unfold Nv M2;rw[gi hm,eW hm,O,O];split
 ·exact BZ (fun n i=>∃r,Ii a l n (i:N)=E r∧Hb a l n (i:N)=E r∧(r<0∨a≤r)) hm (fun n=>⟨-1,by simp[Ii],by simp[Hb],Or.inl (by omega)⟩) (fun n i h ih=>by
   rw[Ii,Hb];simp only[Au,h,decide_true,if_true,Ax h,O,AT h hm];split
   ·exact⟨_,rfl,rfl,Or.inr (by split<;>omega)⟩
   ·exact ih) (W _)
 ·exact⟨-1,rfl,rfl,Or.inl (by omega)⟩
def wt(c:X6)(x:N):Bool:=(c.Points[x.toNat]?.getD ⟨[],F⟩).Wait
structure VoyOk (f:Xc) (c:X6) (s:X5) (rt pts:G N) (v:Xi):Prop where
 ne:rt≠ []
 r:RtOk c rt pts
 ml:v.minutes.length=rt.length
 ul:v.sure.length=rt.length
 m:∀i (h:i<rt.length),v.minutes[i]?=E (Bn (B1 c rt[i]) s)
 w:∀i (h:i<rt.length),∃x,pts[i]?=E x∧v.waits[i]?=E (wt c x)
 u:∀i (h:i<rt.length),∃l,v.sure[i]?=E l∧l.length≤2881
 st:Sk f c s rt=E v.sure
theorem A68{f:Xc}{c:X6}{s:X5}(hf:Dc f=T)(hc:Be c=T)(hs:CG s=T)(hsn:s.Name.length≤maxLen){rt pts:G N}{a:N}(hl:rt.length≤10000000)(hr:RtOk c rt pts)(h0:rt≠ [])
  (e1:FN c a rt=E T) (e2:ER c a rt=E pts):∃v,Hx f c s a rt=E (v,T)∧VoyOk f c s rt pts v:=by
 have hn:=(DK hc).2.2.1;have hz:((rt.length:N)==(0:N))=F:=by cases rt with | nil=>exact absurd rfl h0 | cons=>simp; omega
 have hp:=hr.len;have hlen:(pts.take rt.length).length=rt.length:=by simp; omega
 have hlm:rt.length≤maxLen:=Bb (by omega)
 have hspec:=BZ (fun n i=>∀us,us.length=i→∃vs,Gb rt f c s n (i:N) us=E (us++vs)∧∀ws ms,ws.length=i→ms.length=i→
   ∃ws' ms',Hz rt f c s (pts.take rt.length) ((pts.take rt.length).length:N) n (i:N) ws ms us=E (⟨ws++ws',ms++ms',us++vs⟩,T)∧ms'.length=rt.length - i∧vs.length=rt.length - i∧
    (∀j (h:j<rt.length),i≤j→ms'[j - i]?=E (Bn (B1 c rt[j]) s)∧(∃x,pts[j]?=E x∧ws'[j - i]?=E (wt c x))∧∃l,vs[j - i]?=E l∧l.length≤2881)) hlm
  (fun n us hu=>⟨[],by simp[Gb],fun ws ms hw hm=>⟨[],[],by simp[Hz,hlen],by simp,by simp,fun j h h'=>by omega⟩⟩)
  (fun n i h ih us hu=>by
   obtain⟨l,l1,l2,l3⟩:=A43 (s:=s) hf hn hsn hc hs (hr.seg i h);have hlt':i<(pts.take rt.length).length:=by omega
   have hpi:i<pts.length:=by omega
   have hpt:=hr.pt pts[i] (List.getElem_mem hpi);have hg:(pts.take rt.length)[i]=pts[i]:=by simp
   obtain⟨vs,v1,v2⟩:=ih (us++ [l]) (by simp; omega);refine⟨l::vs,?_,fun ws ms hw hm=> ?_⟩
   ·rw[Gb];simp only[Au,h,decide_true,if_true,Ax h,O,l1];rw[if_pos (CZ (by omega) (by simp) (by omega)),AT h hlm,v1];simp
   ·obtain⟨ws',ms',g1,g2,g2',g3⟩:=v2 (ws++ [wt c pts[i]]) (ms++ [Bn (B1 c rt[i]) s]) (by simp; omega) (by simp; omega);refine⟨wt c pts[i]::ws',Bn (B1 c rt[i]) s::ms',?_,by simp; omega,by simp; omega,fun j hj hij=> ?_⟩
    ·rw[Hz];simp only[Au,hlt',decide_true,if_true,Ax hlt',Ax h,hg,O,(Kz (⟨[],F⟩:X9) hpt).1,(C8 (hr.seg i h)).1,O2,l2];rw[if_pos (CZ (by omega) (by simp) (by omega)),if_pos (CZ (by omega) (by simp) (by omega)),if_pos (CZ (by omega) (by simp) (by omega)),AT h hlm];refine g1.trans ?_;simp
    ·by_cases hji:j=i
     ·subst hji;simp only[Nat.sub_self,List.getElem?_cons_zero];exact⟨trivial,⟨_,Q hpi,rfl⟩,l,rfl,l3⟩
     ·obtain⟨q,hq⟩:∃q,j - i=q+1:=⟨j - i - 1,by omega⟩;have:=g3 j hj (by omega);rw[show j - (i+1)=q by omega] at this
      rw[hq];simpa using this) (W _)
 obtain⟨vs,v1,v2⟩:=hspec [] rfl;obtain⟨ws',ms',g1,g2,g3,g4⟩:=v2 [] [] rfl rfl;refine⟨⟨ws',ms',vs⟩,?_,h0,hr,by simpa using g2,by simpa using g3,fun i h=>by simpa using(g4 i h (W _)).1,fun i h=>by simpa using(g4 i h (W _)).2.1,fun i h=>by simpa using(g4 i h (W _)).2.2,show Gb rt f c s bigN 0 []=E vs by simpa using v1⟩;unfold Hx;simp only[O1,Gl hsn,hf,hs,e1,e2,O,if_true,Hy,hz,P,if_false];rw[EL (by omega),O];simp only[List.drop_zero,Nat.sub_zero];exact g1
structure Sailed (c:X6) (s:X5) (rt:G N) (st:N) (l:G N):Prop where
 len:l.length=rt.length
 hd:l[0]?=E st
 up:∀i (h:i+1<rt.length),∃x y,l[i]?=E x∧l[i+1]?=E y∧B .i64 (x+Bn (B1 c rt[i]) s)≤y
theorem A30{f:Xc}{c:X6}{s:X5}(hc:Be c=T){rt pts:G N}{v:Xi}(hl:rt.length≤10000000)(H:VoyOk f c s rt pts v)(st:N) :
  ∃l b,NP c s pts rt v.sure st=E (l,b)∧Mu v st=E (l,b)∧(b=T→Sailed c s rt st l):=by
 have h0:0<rt.length:=X.2 H.ne;have hlm:rt.length≤maxLen:=Bb (by omega);obtain⟨l0,u1,u2⟩:=H.u 0 h0;obtain⟨b,b1,b2⟩:=wW l0 st (by omega);have hx:ix v.sure (0:N)=E l0:=by have:=Ay v.sure 0; rw[u1] at this; exact this
 unfold NP Mu;simp only[hx,O,b1,b2];cases b with
 | false=>exact⟨[],F,rfl,rfl,fun h=>by cases h⟩
 | true=>
  simp only[if_true]
  refine BZ (fun n i=>∀l,1≤i→l.length=i→l[0]?=E st→(∀j (h:j+1<rt.length),j+1<i→∃x y,l[j]?=E x∧l[j+1]?=E y∧B .i64 (x+Bn (B1 c rt[j]) s)≤y)→
   ∃l' b,Ei pts rt v.sure c s n (i:N) l=E (l',b)∧Ee v n (i:N) l=E (l',b)∧(b=T→Sailed c s rt st l')) hlm
   (fun n l h1 h2 h3 h4=>⟨l,T,by simp[Ei],by simp[Ee,H.ul],fun _=>⟨h2,h3,fun j h=>h4 j h h⟩⟩)
   (fun n i h ih l h1 h2 h3 h4=> ?_) (i:=1) (by omega) [st] (by omega) rfl rfl (fun j _ h=>by omega)
  obtain⟨w,g1,g2⟩:=H.u i h;have hu:i<v.sure.length:=by have:=H.ul; omega
  have ew:B .i64 ((i:N) - 1)=((i - 1:Nat):N):=by
   rw[show(i:N) - 1=((i - 1:Nat):N) by omega];exact AF (by omega) (by omega)
  have hi1:i - 1<rt.length:=by omega
  have hil:i - 1<l.length:=by omega
  obtain⟨x,x1,x2⟩:=H.w i h;have hpt:=H.r.pt x (List.mem_of_getElem? x1);obtain⟨r,r1,r2,r3⟩:=A1m w (B .i64 (l[i - 1]+Bn (B1 c rt[i - 1]) s)) (by omega);rw[Ei,Ee];simp only[Au,h,hu,decide_true,if_true,ew,Ax hil,Ax hi1,Ay,H.m _ hi1,(C8 (H.r.seg _ hi1)).1,O,OJ,g1,r1,r2,x1,x2,(Kz (⟨[],F⟩:X9) hpt).1];have fail:∃l' b,(E (([]:G N),F):Option (G N × Bool))=E (l',b)∧(E (([]:G N),F):Option (G N × Bool))=E (l',b)∧(b=T→Sailed c s rt st l'):=⟨[],F,rfl,rfl,fun h=>by cases h⟩;by_cases hr0:r<0
  ·simp only[hr0,decide_true,if_true,IA,HA];exact fail
  ·have hge:=r3.resolve_left hr0
   have hne:(r !=B .i64 (l[i - 1]+Bn (B1 c rt[i - 1]) s))=decide (B .i64 (l[i - 1]+Bn (B1 c rt[i - 1]) s)<r):=by
    rw[Jh];by_cases e:r=B .i64 (l[i - 1]+Bn (B1 c rt[i - 1]) s)
    ·simp[← e]
    ·have:B .i64 (l[i - 1]+Bn (B1 c rt[i - 1]) s)<r:=by omega
     simp[e,this]
   have go:∃l' b,Ei pts rt v.sure c s n (B .i64 ((i:N)+1)) (l++ [r])=E (l',b)∧Ee v n (B .i64 ((i:N)+1)) (l++ [r])=E (l',b)∧(b=T→Sailed c s rt st l'):=by
    rw[AT h hlm];refine ih (l++ [r]) (by omega) (by simp; omega) (by rw[U (by omega)]; exact h3) fun j hj1 hj2=> ?_
    by_cases hji:j+1=i
    ·subst hji;exact⟨l[j],r,by rw[U (by omega),Q],by rw[Z (by omega),h2]; simp,by simpa using hge⟩
    ·obtain⟨x,y,q1,q2,q3⟩:=h4 j hj1 (by omega);exact⟨x,y,by rw[U (by omega)]; exact q1,by rw[U (by omega)]; exact q2,q3⟩
   have hap:AP l.length [r].length 8=T:=CZ (by omega) (by simp) (by omega);simp only[hr0,decide_false,P,if_false,hne,IA,HA,hap,if_true];split
   ·change ∃l' b,(if(!wt c x)=T then _ else _)=_∧_
    split
    ·exact fail
    ·exact go
   ·exact go
def P3(c:X6)(s:X5)(sh:N)(rt pts l:G N)(i:Nat)(ps:G X1):Prop:=
 ps.length=i∧∀j (h:j<rt.length),j<i→∃x y,pts[j]?=E x∧l[j]?=E y∧0≤y∧y≤2880∧ps[j]?=E ⟨sh,rt[j],(B1 c rt[j]).A==x,y,B .i64 (y+Bn (B1 c rt[j]) s)⟩
theorem A2j{c:X6}{s:X5}(hs:CG s=T)(hsn:s.Name.length≤maxLen){rt pts l:G N}{a sh:N}(hl:rt.length≤10000000)(hr:RtOk c rt pts)(hlen:l.length=rt.length)
  (e1:G7 c a rt=E T) (e2:FN c a rt=E T) (e3:G8 c a rt=E pts) (e4:ER c a rt=E pts) :
  ∃ps,Nx c sh s a rt l=E ps∧M6 c sh s a rt l=E ps∧(ps≠ []→P3 c s sh rt pts l rt.length ps):=by
 have hlm:rt.length≤maxLen:=Bb (by omega);have hz:((rt.length:N) !=(l.length:N))=F:=by rw[hlen]; simp
 unfold Nx M6;simp only[e1,e2,e3,e4,IX hsn,Gl hsn,hs,O,if_true,hz,P,if_false]
 refine BZ (fun n i=>∀ps,P3 c s sh rt pts l i ps→∃ps',Ij sh l rt c s pts n (i:N) ps=E ps'∧Hc sh l rt c s pts n (i:N) ps=E ps'∧(ps'≠ []→P3 c s sh rt pts l rt.length ps')) hlm
  (fun n ps hp=>⟨ps,by simp[Ij],by simp[Hc],fun _=>hp⟩) (fun n i h ih ps hp=> ?_) (W _) [] ⟨rfl,fun j _ h=>by omega⟩
 have hi:i<l.length:=by omega
 have hpi:i<pts.length:=by have:=hr.len; omega
 rw[Ij,Hc];simp only[Au,h,decide_true,if_true,Ax h,Ax hi,Ax hpi,(C8 (hr.seg i h)).1,O,BG,Gm,OJ,O2,BEq.comm (a:=pts[i])];split
 ·rename_i hm
  simp only[Y,decide_eq_true_eq] at hm
  have hp1:=hp.1;rw[if_pos (CZ (by omega) (by simp) (by omega)),if_pos (CZ (by omega) (by simp) (by omega)),AT h hlm];refine ih _ ⟨by simp; omega,fun j hj1 hj2=> ?_⟩;by_cases hji:j=i
  ·subst hji;exact⟨pts[j],l[j],Q _,Q _,hm.1,hm.2,by rw[Z (by omega),hp1]; simp⟩
  ·obtain⟨x,y,q1,q2,q3,q4,q5⟩:=hp.2 j hj1 (by omega);exact⟨x,y,q1,q2,q3,q4,by rw[U (by omega)]; exact q5⟩
 ·exact⟨[],rfl,rfl,fun h=>absurd rfl h⟩
theorem A3i{c:X6}(hc:Be c=T){rt:G N}(hl:rt.length≤10000000)(hs:∀i (h:i<rt.length),idx rt[i] c.Segments.length=T):∃r,NC c rt=E r∧M8 c rt=E r∧0≤r:=by
 have hlm:rt.length≤maxLen:=Bb (by omega);have hn:=(DK hc).2.2.1;have h10:=(DK hc).2.1;unfold NC M8;simp only[Fw hn,II hn,hc,O,if_true];refine BZ (fun n i=>∀v:N,0≤v→v≤240*(i:N)→∃r,In rt c n v (i:N)=E r∧He rt c n v (i:N)=E r∧0≤r) hlm (fun n v h1 h2=>⟨v,by simp[In],by simp[He],h1⟩) (fun n i h ih v h1 h2=> ?_) (W _) 0 (by omega) (by omega);obtain⟨_,_,a,b⟩:=(Fv hc).2.2 _ (C8 (hs i h)).2;rw[In,He];simp only[Au,h,decide_true,if_true,Ax h,(C8 (hs i h)).1,O,El,Dw _ (show c.Segments.length≤1000 by omega),hs i h,AT h hlm];rw[AF (by omega) (by omega)];exact ih _ (by omega) (by omega)
theorem oh{c:X6}{s:X5}(hc:Be c=T)(hs:CG s=T)(hsn:s.Name.length≤maxLen){rt l:G N}(hl:rt.length≤10000000)(hsg:∀i (h:i<rt.length),idx rt[i] c.Segments.length=T)(hlen:l.length=rt.length)(h0:rt≠ []) :
  ∃r,Nh c s rt l=E r∧LN c s rt l=E r∧∀y,l[rt.length - 1]?=E y→0≤y→y≤2880→∃x,rt[rt.length - 1]?=E x∧r=B .i64 (y+Bn (B1 c x) s):=by
 obtain⟨m,m1,m2,m3⟩:=A3i hc hl hsg;have hp:0<rt.length:=X.2 h0;have hz:((rt.length:N)==(0:N))=F:=beq_eq_false_iff_ne.2 (by omega);have hq:((rt.length:N) !=(l.length:N))=F:=by rw[hlen]; simp
 have ew:B .i64 ((rt.length:N) - 1)=((rt.length - 1:Nat):N):=by
  rw[show(rt.length:N) - 1=((rt.length - 1:Nat):N) by omega];exact AF (by omega) (by omega)
 have h1:rt.length - 1<rt.length:=by omega
 have h2:rt.length - 1<l.length:=by omega
 unfold Nh LN;simp only[m1,m2,O,show decide (m<0)=F by simp; omega,P,if_false,IX hsn,Gl hsn,hs,if_true,hq,hz,hlen,ew,Ax h1,Ax h2,BG,Gm,(C8 (hsg _ h1)).1,OJ,O2,bne_self_eq_false];split
 ·refine⟨_,rfl,rfl,fun y e _ _=>⟨_,Q h1,?_⟩⟩;rw[Q h2,Option.some.injEq] at e
  rw[e]
 ·rename_i hm
  refine⟨-1,rfl,rfl,fun y e a b=>absurd ?_ hm⟩;rw[Q h2,Option.some.injEq] at e
  simp only[Y,decide_eq_true_eq,e];exact⟨a,b⟩
structure AtOk (h:X7) (a:Xa) (rt:G N) (st:N) (o:X2):Prop where
 hh:BS h=T
 ha:CU h a=T
 mo:∃pts l,RtOk h.Chart rt pts∧Sailed h.Chart (BV h.Fleet a.Ship) rt st l∧(o.Passages≠ []→P3 h.Chart (BV h.Fleet a.Ship) a.Ship rt pts l rt.length o.Passages)∧o.Arrival≤2880∧
  ∀y,l[rt.length - 1]?=E y→0≤y→y≤2880→∃x,rt[rt.length - 1]?=E x∧o.Arrival=B .i64 (y+Bn (B1 h.Chart x) (BV h.Fleet a.Ship))
theorem qN{h:X7}{s:X5}{rt:G N}{v:Xi}{f:Xc}{pts:G N}(hl:rt.length≤10000000)(H:VoyOk f h.Chart s rt pts v)(st r:N)(ps:G X1)(c0:N) :
  ∃w,Gh rt h s st r ps bigN 0 c0=E (⟨st,r,w,ps⟩,decide (r≤2880))∧FT v st r ps bigN 0 c0=E (⟨st,r,w,ps⟩,decide (r≤2880)):=by
 have hlm:rt.length≤maxLen:=Bb (by omega);refine BZ (fun n i=>∀c0,∃w,Gh rt h s st r ps n (i:N) c0=E (⟨st,r,w,ps⟩,decide (r≤2880))∧FT v st r ps n (i:N) c0=E (⟨st,r,w,ps⟩,decide (r≤2880))) hlm (fun n c0=>⟨c0,by simp[Gh],by simp[FT,H.ml]⟩) (fun n i hi ih c0=> ?_) (W _) c0;have hm:i<v.minutes.length:=by have:=H.ml; omega
 rw[Gh,FT];simp only[Au,hi,hm,decide_true,if_true,Ax hi,Ay,H.m i hi,(C8 (H.r.seg i hi)).1,O,OJ,AT hi hlm];exact ih _
theorem A17{h:X7}(s:HSmall h)(a:Xa){rt:G N}(hl:rt.length≤10000000)(st:N) :
  ∃o b,Ke h a rt st=E (o,b)∧JD h a rt st=E (o,b)∧(b=T→AtOk h a rt st o):=by
 have fail:∃o b,(E (⟨0,0,0,[]⟩,F):Option (X2 × Bool))=E (o,b)∧(E (⟨0,0,0,[]⟩,F):Option (X2 × Bool))=E (o,b)∧(b=T→AtOk h a rt st o):=⟨_,F,rfl,rfl,fun h=>by cases h⟩;unfold Ke JD;rw[WP s,xA s,O,O];cases hq:BS h&&CU h a with
 | false=>exact fail
 | true=>
  rw[Y] at hq
  obtain⟨hh,ha⟩:=hq;obtain⟨hf,hc,hfl,_,_⟩:=Ek hh;have ha':=ha;simp only[CU,Y,decide_eq_true_eq] at ha'
  obtain⟨q1,q2,q3,q4,_⟩:=ha';obtain⟨s1,s2⟩:=IK q1;have hso:=(Kq hfl).2 _ s2;have hsn:=s.fn _ s2;simp only[if_true,BG,D9,O];cases hw:decide (a.Ready≤st)&&decide (st≤a.Due) with
  | false=>exact fail
  | true=>
   obtain⟨pts,b,e1,e2,e3,e4,e5,e6⟩:=A3j hc (a:=a.From) hl;simp only[if_true,Bool.not_true,M3,P,if_false,Sn,RL,e3,e4,O];cases b with
   | false=>
    rw[e5 rfl];exact fail
   | true=>
    have hr:=e6 rfl;have hpl:=hr.len;have hz:((pts.length:N)==(0:N))=F:=beq_eq_false_iff_ne.2 (by omega)
    have hlast:∃x,pts.getLast?=E x:=by
     cases hp:pts.getLast? with
     | none=>rw[List.getLast?_eq_none_iff] at hp; rw[hp] at hpl; simp at hpl
     | some x=>exact⟨x,rfl⟩
    obtain⟨x,hx⟩:=hlast;simp only[hz,P,if_false,SR (Bb (by omega)) hx,O];by_cases h0:rt= []
    ·have hvo:Hx h.Forecast h.Chart (BV h.Fleet a.Ship) a.From rt=E (⟨[],[],[]⟩,F):=by
      unfold Hx;simp only[O1,Gl hsn,hf,hso,e2,O,if_true];rw[h0];rfl
     have h1:¬(1:N)<(pts.length:N):=by rw[hpl,h0]; simp
     simp only[h1,decide_false,P,if_false,O,Bool.not_false,G5,if_true,Hn,s1,hvo];split<;>exact fail
    ·have h1:(1:N)<(pts.length:N):=by have:=X.2 h0; omega
     simp only[h1,decide_true,if_true,O];by_cases hto:x=a.To
     ·have t1:(x==a.To)=T:=by simpa using hto
      have t2:(x !=a.To)=F:=by simpa using hto
      obtain⟨v,v1,V⟩:=A68 hf hc hso hsn hl hr h0 e2 e4;obtain⟨l,b,b1,b2,b3⟩:=A30 hc hl V st;have hz0:((rt.length:N)==(0:N))=F:=beq_eq_false_iff_ne.2 (by have:=X.2 h0; omega)
      have hsr:ND h.Forecast h.Chart (BV h.Fleet a.Ship) a.From rt st=E (l,b):=by
       unfold ND;simp only[WR,IX hsn,hf,hso,e1,O,if_true,Io,hz0,P,if_false,e3,V.st,b1]
      simp only[t1,t2,Bool.not_true,G5,Hn,P,if_false,s1,v1,O,hsr,if_true,RN,b2];cases b with
      | false=>exact fail
      | true=>
       have S:=b3 rfl;obtain⟨ps,p1,p2,p3⟩:=A2j (sh:=a.Ship) hso hsn hl hr S.len e1 e2 e3 e4;obtain⟨r,r1,r2,r3⟩:=oh hc hso hsn hl hr.seg S.len h0;obtain⟨w,w1,w2⟩:=qN hl V st r ps (B .i64 (r - a.Ready));have hx0:ix l (0:N)=E st:=by have:=Ay l 0; rw[S.hd] at this; exact this
       simp only[if_true,So,s1,O,hx0,r1,r2,p1,p2,w1,w2];by_cases h28:r≤2880
       ·simp only[h28,decide_true,if_true];exact⟨_,T,rfl,rfl,fun _=>⟨hh,ha,pts,l,hr,S,p3,h28,r3⟩⟩
       ·simp only[h28,decide_false,P,if_false];exact fail
     ·have t1:(x==a.To)=F:=by simpa using hto
      have t2:(x !=a.To)=T:=by simpa using hto
      simp only[t1,t2,Bool.not_false,G5,Hn,if_true,O,P,if_false];exact fail
end Go.Vi
