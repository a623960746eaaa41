/-
Plain laws. No condition.
-/
import Derived.Test.YtmgfndipofbbaaaGreatOO8c
namespace Go.Vi
set_option linter.all false
open Option renaming bind_some → E, some → F
open Option.some renaming injEq → G
open List renaming getElem_mem → N, drop_eq_getElem_cons → P, getElem_map → U, getElem?_eq_getElem → V
open Bool renaming false_eq_true → O, and_eq_true → Q, true → T
theorem gC(x y:X1):((x.Ship==y.Ship)&&((x.Segment==y.Segment)&&((x.Toward==y.Toward)&&((x.Start==y.Start)&&((x.End==y.End)&&T)))))=decide (x=y):=by
 cases x; cases y;rw[Bool.eq_iff_iff];simp[X1.mk.injEq]
theorem dn{L:Nat→Int→Option Bool}(l m:List X1)(hl:l.length≤maxLen)(hm:l.length=m.length)
  (hs:∀(n i:Nat) (h:i<l.length) (h':i<m.length),L (n+1) (i:Int)=if decide (l[i]=m[i])=T then L n (IntKind.i64.wrap ((i:Int)+1)) else F false) (he:∀n,L (n+1) (l.length:Int)=F T):L bigN 0=F (decide (l=m)):=by
 have:=BZ (fun n i=>L n (i:Int)=F (decide (l.drop i=m.drop i))) hl (fun n=>by rw[he,List.drop_length,hm,List.drop_length]; rfl) (fun n i h ih=>by
  have h':i<m.length:=by omega
  simp only[hs n i h h',AT h hl,ih,P h,P h',List.cons.injEq];by_cases e:l[i]=m[i]<;>simp[e]) (Nat.zero_le _)
 simpa using this
theorem A31{x o:X2}(h:x.Passages.length≤maxLen):Ip x o=F (decide (x=o))∧Hf x o=F (decide (x=o)):=by
 obtain⟨x1,x2,x3,x4⟩:=x;obtain⟨o1,o2,o3,o4⟩:=o
 have e:∀hl:x4.length=o4.length,Iq ⟨x1,x2,x3,x4⟩ ⟨o1,o2,o3,o4⟩ bigN 0=F (decide (x4=o4))∧I2 x4 o4 bigN 0=F (decide (x4=o4)):=fun hl=>by
  refine⟨dn x4 o4 h hl (fun n i h1 h2=> ?_) fun n=>by simp[Iq],dn x4 o4 h hl (fun n i h1 h2=> ?_) fun n=>by simp[I2]⟩
  ·rw[Iq];simp only[Au,h1,decide_true,if_true,Ax h1,Ax h2,E,gC]
  ·rw[I2];simp only[Au,h1,decide_true,if_true,Ax h1,Ax h2,E,gC]
 have hne:x4.length≠o4.length→x4≠o4:=fun h e=>h (by rw[e])
 unfold Ip Hf Sc;simp only[X2.mk.injEq,Jh];by_cases c1:x1=o1
 ·by_cases c2:x2=o2
  ·by_cases c3:x3=o3
   ·by_cases c4:x4.length=o4.length
    ·simp[c1,c2,c3,c4,e c4];subst c1 c2 c3;exact(e c4).1
    ·have:¬((x4.length:Int)=(o4.length:Int)):=by omega
     simp[c1,c2,c3,hne c4,this]
   ·simp[c1,c2,c3]
  ·simp[c1,c2]
 ·simp[c1]
structure GoodP (c:X6) (fl:List X5) (l:List X1):Prop where
 ne:l≠ []
 inn:∀p∈l,Cd c fl p=T
 ship:∃sh,∀p∈l,p.Ship=sh
 link:∀j (h:j+1<l.length),(Cy c l[j+1]).1=(Cy c l[j]).2∧l[j].End≤l[j+1].Start
theorem tC{s:X3}{x:Int}(h:0≤CF s x):(if(s.A==x)=T then(s.A,s.B) else(s.B,s.A))=(x,CF s x):=by
 unfold CF at *
 by_cases h1:s.A=x
 ·subst h1; simp
 ·have h1':¬x=s.A:=fun e=>h1 e.symm
  by_cases h2:x=s.B
  ·subst h2; simp[h1,h1']
  ·simp[h1',h2] at h
theorem AtOk.good{h:X7}{a:Xa}{st:Int}{o:X2}(H:AtOk h a (o.Passages.map fun p=>p.Segment) st o):GoodP h.Chart h.Fleet o.Passages:=by
 obtain⟨hh,ha,pts,l,hr,S,hp,h28,hlast⟩:=H;obtain⟨_,hc,hfl,_,_⟩:=Ek hh;simp only[CU,Q] at ha
 have hne:o.Passages≠ []:=fun e=>by
  have h1:=S.hd;have h2:=S.len;rw[e] at h2
  cases l with
  | nil=>cases h1
  | cons=>simp at h2
 obtain⟨_,hp⟩:=hp hne;generalize hps:o.Passages=ps at *
 have hlen:(ps.map fun p=>p.Segment).length=ps.length:=by simp
 have hpos:0<ps.length:=List.length_pos_iff.2 hne
 have at_:∀j (hj:j<ps.length),∃x y,pts[j]?=F x∧l[j]?=F y∧0≤y∧y≤2880∧idx ps[j].Segment h.Chart.Segments.length=T∧ps[j]=⟨a.Ship,ps[j].Segment,(B1 h.Chart ps[j].Segment).A==x,y,y+Bn (B1 h.Chart ps[j].Segment) (BV h.Fleet a.Ship)⟩:=fun j hj=>by
  obtain⟨x,y,q1,q2,q3,q4,q5⟩:=hp j (by omega) (by omega);have hs:=hr.seg j (by omega);simp only[U] at hs q5
  obtain⟨m1,m2⟩:=Wt (s:=BV h.Fleet a.Ship) hc hs;rw[AF (by omega) (by omega),V hj,G] at q5
  exact⟨x,y,q1,q2,q3,q4,hs,q5⟩
 have up:∀j (hj:j+1<ps.length),ps[j].End≤ps[j+1].Start:=fun j hj=>by
  obtain⟨x,y,_,q2,q3,q4,q5,q6⟩:=at_ j (by omega);obtain⟨x',y',_,r2,_,_,_,r6⟩:=at_ (j+1) hj;obtain⟨u,v,s1,s2,s3⟩:=S.up j (by omega);rw[q2,G] at s1
  rw[r2,G] at s2
  subst s1 s2;simp only[U] at s3
  obtain⟨m1,m2⟩:=Wt (s:=BV h.Fleet a.Ship) hc q5;rw[AF (by omega) (by omega)] at s3
  rw[q6,r6];exact s3
 refine⟨hne,fun p hpm=> ?_,⟨a.Ship,fun p hpm=> ?_⟩,fun j hj=>⟨?_,up j hj⟩⟩
 ·obtain⟨j,hj,rfl⟩:=List.getElem_of_mem hpm;obtain⟨x,y,q1,q2,q3,q4,q5,q6⟩:=at_ j hj;obtain⟨m1,m2⟩:=Wt (s:=BV h.Fleet a.Ship) hc q5
  have hend:y+Bn (B1 h.Chart ps[j].Segment) (BV h.Fleet a.Ship)≤2880:=by
   by_cases hj1:j+1<ps.length
   ·obtain⟨x',y',_,_,_,r4,_,r6⟩:=at_ (j+1) hj1;have:=up j hj1;rw[q6,r6] at this
    exact Int.le_trans this r4
   ·have hjl:j=ps.length - 1:=by omega
    obtain⟨z,z1,z2⟩:=hlast y (by rw[hlen,← hjl]; exact q2) q3 q4;rw[hlen,← hjl,List.getElem?_map,V hj] at z1
    simp only[Option.map_some,G] at z1
    rw[← z1,AF (by omega) (by omega)] at z2
    omega
  rw[q6];simp only[Cd,Cq,Q,decide_eq_true_eq];exact⟨ha.1,q5,⟨q3,q4⟩,hend,(AF (by omega) (by omega)).symm⟩
 ·obtain⟨j,hj,rfl⟩:=List.getElem_of_mem hpm;obtain⟨x,y,q1,q2,q3,q4,q5,q6⟩:=at_ j hj;rw[q6]
 ·have e:∀j (hj:j<ps.length),∃x,pts[j]?=F x∧0≤CF (B1 h.Chart ps[j].Segment) x∧pts[j+1]?=F (CF (B1 h.Chart ps[j].Segment) x)∧Cy h.Chart ps[j]=(x,CF (B1 h.Chart ps[j].Segment) x):=fun j hj=>by
   obtain⟨x,y,q1,q2,q3,q4,q5,q6⟩:=at_ j hj;obtain⟨x',t1,t2,t3⟩:=hr.stp j (by omega);simp only[U] at t2 t3
   rw[q1,G] at t1
   subst t1;refine⟨x,q1,t3,t2,?_⟩;rw[← tC t3];have ht:ps[j].Toward=((B1 h.Chart ps[j].Segment).A==x):=by rw[q6]
   unfold Cy;rw[ht]
  obtain⟨x,_,_,g3,g4⟩:=e j (by omega);obtain⟨x',k1,_,_,k4⟩:=e (j+1) hj;rw[g3,G] at k1
  rw[g4,k4,k1]
theorem yg{h:X7}(s:HSmall h)(a:Xa){o:X2}(hl:o.Passages.length≤10000000):∃b,Kc h a o=F b∧H9 h a o=F b∧(b=T→GoodP h.Chart h.Fleet o.Passages):=by
 have hlm:o.Passages.length≤maxLen:=Bb (by omega);have hml:(o.Passages.map fun p=>p.Segment).length≤10000000:=by simpa using hl
 obtain⟨x,q,e1,e2,e3⟩:=A17 s a hml o.Start
 have l1:=OB (L:=If o h a) o.Passages (fun p=>p.Segment) (fun rt=>(Ke h a rt o.Start).bind fun r9=>if r9.2 then(Ip r9.1 o).bind fun r11=>F r11 else F false) hlm (fun n i acc h ha=>by
  rw[If];simp only[Au,h,decide_true,if_true,Ax h,E];rw[if_pos (CZ (by omega) (by simp) (by omega))]) fun n acc ha=>by rw[If,if_neg (by simp)]
 have l2:=OB (L:=Ha o h a) o.Passages (fun p=>p.Segment) (fun rt=>(JD h a rt o.Start).bind fun r9=>if r9.2 then(Hf r9.1 o).bind fun r11=>F r11 else F false) hlm (fun n i acc h ha=>by
  rw[Ha];simp only[Au,h,decide_true,if_true,Ax h,E];rw[if_pos (CZ (by omega) (by simp) (by omega))]) fun n acc ha=>by rw[Ha,if_neg (by simp)]
 unfold Kc H9;rw[WP s,E,l1,l2,e1,e2,E,E];cases q with
 | false=>exact⟨false,by split<;>rfl,rfl,fun h=>by cases h⟩
 | true=>
  have A:=e3 rfl
  have hxo:∀hx:x.Passages.length≤maxLen,∃b,(if T=T then(Ip x o).bind fun r11=>F r11 else F false)=F b∧(if T=T then(Hf x o).bind fun r11=>F r11 else F false)=F b∧(b=T→x=o):=fun hx=>by
   obtain⟨g1,g2⟩:=A31 (o:=o) hx;exact⟨decide (x=o),by rw[g1]; rfl,by rw[g2]; rfl,fun h=>by simpa using h⟩
  have hx:x.Passages.length≤maxLen:=by
   by_cases hn:x.Passages= []
   ·rw[hn]; exact Nat.zero_le _
   ·obtain⟨_,_,_,_,hp,_⟩:=A.mo;have:=(hp hn).1;exact Bb (by omega)
  obtain⟨b,b1,b2,b3⟩:=hxo hx;refine⟨b,?_,b2,fun hb=> ?_⟩
  ·rw[if_pos (by rw[A.hh,A.ha]; rfl)]; exact b1
  ·have hx:=b3 hb;subst hx;exact A.good
def DW(a b g:Int):Bool:=decide (a - b<g∧b - a<g)
def DX(p q:X1):Bool:=decide (p.Start<q.End∧q.Start<p.End)
def DL(c:X6)(r:Xg)(p q:X1):Bool:=
 decide (p.Segment=q.Segment)&&(if p.Ship=q.Ship then DX p q else if p.Toward=q.Toward then(DW p.Start q.Start r.Gap || (DW p.End q.End r.Gap || decide ((p.Start<q.Start∧q.End<p.End)∨(q.Start<p.Start∧p.End<q.End)))) else DX p q&&(r.NoMeet || !(B1 c p.Segment).Meet))
theorem da(c:X6)(r:Xg)(p q:X1):DL c r p q=DL c r q p:=by
 have n:∀a b g,DW a b g=DW b a g:=fun a b g=>by unfold DW; congr 1; exact propext And.comm
 have v:DX p q=DX q p:=by unfold DX; congr 1; exact propext And.comm
 unfold DL;by_cases e:p.Segment=q.Segment
 ·simp only[e,n q.Start,n q.End,← v,eq_comm (a:=q.Ship),eq_comm (a:=q.Toward),or_comm (a:=q.Start<p.Start∧p.End<q.End)]
 ·have e':¬q.Segment=p.Segment:=fun h=>e h.symm
  simp[e,e']
theorem gk{a b g:Int}(a0:0≤a)(a1:a≤2880)(b0:0≤b)(b1:b≤2880):Kl a b g=F (DW a b g):=by
 unfold Kl NQ DW;by_cases h:b<a
 ·have h':¬a<b:=by omega
  simp only[h,h',if_true,if_false,show ¬b<0 by omega,decide_false,O,AF (n:=a - b) (by omega) (by omega),G,decide_eq_decide];omega
 ·simp only[h,if_false,show ¬a<0 by omega,decide_false,O,G,decide_eq_decide];by_cases h':a<b
  ·simp only[h',if_true,AF (n:=b - a) (by omega) (by omega)]; omega
  ·simp only[h',if_false,AF (n:=a - a) (by omega) (by omega)]; omega
theorem ee{a b g:Int}(a0:0≤a)(a1:a≤2880)(b0:0≤b)(b1:b≤2880)(g0:0≤g)(g1:g≤60):JN a b g=F (DW a b g):=by
 unfold JN DW;rw[ED g0 (by omega)];by_cases h:b<a
 ·have h':¬a<b:=by omega
  simp only[h,h',if_true,if_false,ED (n:=a) (by omega) (by omega),ED (n:=b) (by omega) (by omega),ED (n:=a - b) (by omega) (by omega),G,decide_eq_decide];omega
 ·by_cases h':a<b
  ·simp only[h,h',if_true,if_false,ED (n:=a) (by omega) (by omega),ED (n:=b) (by omega) (by omega),ED (n:=b - a) (by omega) (by omega),G,decide_eq_decide];omega
  ·simp only[h,h',if_true,if_false,ED (n:=a) (by omega) (by omega),ED (n:=a - a) (by omega) (by omega),G,decide_eq_decide];omega
theorem A2e{p q:X1}(hp:p.Start<p.End)(hq:q.Start<q.End):Kf p q=F (DX p q)∧JE p q=F (DX p q):=by
 have:decide ((if p.Start<q.Start then q.Start else p.Start)<(if q.End<p.End then q.End else p.End))=DX p q:=by
  unfold DX;rw[decide_eq_decide];split<;>split<;>omega
 unfold Kf JE;rw[this];exact⟨rfl,rfl⟩
theorem db{c:X6}{fl:List X5}{r:Xg}(hc:Be c=T)(hr:IV r=T){p q:X1}(hp:Cd c fl p=T)(hq:Cd c fl q=T) :
  (∃n,Nl c r p q=F n∧(n !=0)=DL c r p q)∧∃n,Mi c r p q=F n∧(n !=0)=DL c r p q:=by
 obtain⟨_,p2,p3,p4,p5⟩:=DC hc hp;obtain⟨_,q2,q3,q4,q5⟩:=DC hc hq;have hn:=(DK hc).2.2.1;have h10:=(DK hc).2.1;have hr':=hr;simp only[IV,Q,decide_eq_true_eq] at hr'
 obtain⟨o1,o2⟩:=A2e (Oy hc hp) (Oy hc hq);have n1:=gk (a:=p.Start) (b:=q.Start) (g:=r.Gap) (by omega) (by omega) (by omega) (by omega);have n2:=gk (a:=p.End) (b:=q.End) (g:=r.Gap) (by omega) (by omega) (by omega) (by omega);have m1:=ee (a:=p.Start) (b:=q.Start) (g:=r.Gap) (by omega) (by omega) (by omega) (by omega) hr'.1 hr'.2;have m2:=ee (a:=p.End) (b:=q.End) (g:=r.Gap) (by omega) (by omega) (by omega) (by omega) hr'.1 hr'.2;have hreg:Im r=F T:=by simp only[Im,BG,E]; exact congrArg F hr
 unfold Nl Mi Mj Ml Hr Mm DL;simp only[Fw hn,hc,hreg,E,if_true,Dw _ (show c.Segments.length≤1000 by omega),p2,El,o1,o2,n1,n2,m1,m2,(C8 p2).1,Bool.not_true,O,if_false];by_cases e1:p.Segment=q.Segment
 ·by_cases e2:p.Ship=q.Ship
  ·cases ho:DX p q<;>simp[e1,e2]
  ·by_cases e3:p.Toward=q.Toward
   ·cases h1:DW p.Start q.Start r.Gap<;>cases h2:DW p.End q.End r.Gap<;>simp[e1,e2,e3];by_cases g1:p.Start<q.Start<;>by_cases g2:q.End<p.End<;>by_cases g3:q.Start<p.Start<;>by_cases g4:p.End<q.End<;>simp[g1,g2,g3,g4]<;>omega
   ·cases ho:DX p q<;>cases hm:r.NoMeet<;>cases hs:(B1 c p.Segment).Meet<;>simp[e1,e2,e3]<;>simp_all
 ·simp[e1]
def E7(c:X6)(r:Xg)(a b:List X1):Bool:=a.any fun p=>b.any fun q=>DL c r p q
theorem dU(c:X6)(r:Xg)(a b:List X1):E7 c r a b=E7 c r b a:=by
 rw[Bool.eq_iff_iff];simp only[E7,List.any_eq_true];constructor
 ·rintro⟨p,hp,q,hq,h⟩
  exact⟨q,hq,p,hp,by rw[da]; exact h⟩
 ·rintro⟨p,hp,q,hq,h⟩
  exact⟨q,hq,p,hp,by rw[da]; exact h⟩
theorem dV{c:X6}{fl:List X5}{r:Xg}(hc:Be c=T)(hr:IV r=T){a b:List X1}(ha:∀p∈a,Cd c fl p=T)(hb:∀p∈b,Cd c fl p=T)(la:a.length≤maxLen)(lb:b.length≤maxLen) :
  Nk c r a b=F (E7 c r a b)∧Mh c r a b=F (E7 c r a b):=by
 have fin:∀x:Bool,(if x=T then F T else F false)=F x:=fun x=>by cases x<;>rfl
 constructor
 ·have:=E5 (L:=F6 b a c r) a (fun p=>b.any fun q=>DL c r p q) (F T) (F false) la (fun n i h=>by
   rw[F6];simp only[Au,h,decide_true,if_true,Ax h,E]
   exact E5 (L:=I7 b a (i:Int) c r a[i] (F6 b a c r n)) b (fun q=>DL c r a[i] q) (F T) (F6 b a c r n (IntKind.i64.wrap ((i:Int)+1))) lb (fun m j hj=>by
    obtain⟨x,x1,x2⟩:=(db hc hr (ha _ (N h)) (hb _ (N hj))).1;rw[I7];simp only[Au,hj,decide_true,if_true,Ax hj,E,x1,x2]) fun m=>by rw[I7,if_neg (by simp)]) fun n=>by rw[F6,if_neg (by simp)]
  unfold Nk;rw[this,fin];rfl
 ·have:=E5 (L:=EV b a c r) a (fun p=>b.any fun q=>DL c r p q) (F T) (F false) la (fun n i h=>by
   rw[EV];simp only[Au,h,decide_true,if_true,Ax h,E]
   exact E5 (L:=Hq b a (i:Int) c r a[i] (EV b a c r n)) b (fun q=>DL c r a[i] q) (F T) (EV b a c r n (IntKind.i64.wrap ((i:Int)+1))) lb (fun m j hj=>by
    obtain⟨x,x1,x2⟩:=(db hc hr (ha _ (N h)) (hb _ (N hj))).2;rw[Hq];simp only[Au,hj,decide_true,if_true,Ax hj,E,x1,x2]) fun m=>by rw[Hq,if_neg (by simp)]) fun n=>by rw[EV,if_neg (by simp)]
  unfold Mh;rw[this,fin];rfl
end Go.Vi
