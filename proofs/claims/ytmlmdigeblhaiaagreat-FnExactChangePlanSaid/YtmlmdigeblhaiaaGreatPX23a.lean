/-
Plain laws. No condition.
-/
import Derived.Test.YtmlmdigeblhaiaaGreatPX22a
namespace Go.Vi
set_option linter.all false
open Option renaming bind_some → P, some → G
open Bool renaming false_eq_true → Q, and_eq_true → Y, true → T, false → E
open List renaming drop_eq_getElem_cons → W, getElem_mem → X
open _root_ renaming List → N, Int → O
def A6m{xs:N X1}(h:xs.length<=1048576):Ox xs=G xs:=by
 unfold Ox;rw[DQ h a9];have:=FG (L:=Jp xs) xs id (Es h) (fun n i acc hi ha=>by simp[Jp,Am,hi,ha,RB]) (fun n acc=>by simp[Jp]) (List.replicate xs.length ⟨0,0,E,0,0⟩) d0;simpa using this
def A6k{x:X0}(h:x.Passages.length<=1048576):Ov x=G x:=by
 simp[Ov,A6m h]
def fG{xs:N X0}(h:xs.length<=1048576)(hp:∀x∈xs,x.Passages.length<=1048576):Ei xs=G xs:=by
 unfold Ei;rw[DQ h a9];have:=FG (L:=Jn xs) xs id (Es h) (fun n i acc hi ha=>by simp[Jn,Am,hi,ha,A6k (hp _ (X hi))]) (fun n acc=>by simp[Jn]) (List.replicate xs.length ⟨0,0,0,[]⟩) d0;simpa using this
def A5y{x:X0}{l:O}(h0:0<=l)(h1:l<=1048576)(hx:x.Passages.length<=maxLen):∃r,Og x l=G r/\(0<=r->r<=l/\x.Passages.length<=1048576):=by
 unfold Og Rw;rw[Az] at hx
 rw[Ai a9 a9];by_cases h:l - (x.Passages.length:O)<0
 .exact⟨-1,by simp[h],a9⟩
 .exact⟨l - x.Passages.length,by simp[h],a9⟩
def eg{xs:N X0}{l:O}(h0:0<=l)(h1:l<=1048576)(hx:xs.length<=maxLen)(hn:∀x∈xs,x.Passages.length<=maxLen):∃r,Jk xs l=G r/\(0<=r->r<=l/\xs.length<=1048576/\∀x∈xs,x.Passages.length<=1048576):=by
 unfold Jk;have hx':=hx;rw[Az] at hx'
 rw[Ai a9 a9];by_cases h:l - (xs.length:O)<0
 .exact⟨-1,by simp[h],a9⟩
 .have key:∀(k i n:Nat) (v:O),i+k=xs.length->k<n->0<=v->v<=l->∃r,Hf xs n v (i:O)=G r/\(0<=r->r<=l/\∀j (hj:j<xs.length),i<=j->xs[j].Passages.length<=1048576):=by
   intro k
   induction k with
   | zero=>
    intro i n v hi hn2 hv hv2;obtain⟨m,rfl⟩:∃m,n=m+1:=⟨n - 1,a9⟩;have:i=xs.length:=by omega
    subst this;exact⟨v,by simp[Hf],fun _=>⟨hv2,fun j hj h=>by omega⟩⟩
   | succ k ih=>
    intro i n v hi hn2 hv hv2;obtain⟨m,rfl⟩:∃m,n=m+1:=⟨n - 1,a9⟩;have hlt:i<xs.length:=by omega
    obtain⟨r,e,hr⟩:=A5y (x:=xs[i]) hv a9 (hn _ (X hlt));by_cases hr0:r<0
    .exact⟨-1,by simp[Hf,Am,hlt,e,hr0],a9⟩
    .obtain⟨g1,g2⟩:=hr a9;obtain⟨r2,e2,h2⟩:=ih (i+1) m r a9 a9 a9 a9;refine⟨r2,?_,fun h0=>⟨(h2 h0).1,fun j hj hij=> ?_⟩⟩
     .rw[<- Au hlt hx] at e2
      simp only[Hf,Am,List.getElem?_eq_getElem hlt,P,Aj,hlt,decide_true,if_true,e,hr0,decide_false,Q,if_false];exact e2
     .by_cases hji:j=i
      .subst hji; exact g2
      .exact(h2 h0).2 j hj a9
  obtain⟨r,e,hr⟩:=key xs.length 0 bigN (l - xs.length) a9 (BG hx) a9 a9;refine⟨r,?_,fun h0=>⟨(hr h0).1,a9,fun x hx2=> ?_⟩⟩
  .simp only[h,decide_false,Q,if_false];exact e
  .obtain⟨j,hj,rfl⟩:=List.getElem_of_mem hx2;exact(hr h0).2 j hj (Nat.zero_le _)
def A19{h:X3}(s:HSmall h)(a:X8){rt:N O}(hl:rt.length<=10000000)(st:O) :
  ∃o b,LW h a rt st=G (o,b)/\Lb h a rt st=G (o,b)/\(b=T->B4 h=T/\BV h a=T/\AtOk h a rt st o/\0<=o.Cost/\o.Cost<=2880):=by
 have fail:∃o b,(G (⟨0,0,0,[]⟩,E):Option (X0 × Bool))=G (o,b)/\(G (⟨0,0,0,[]⟩,E):Option (X0 × Bool))=G (o,b)/\(b=T->B4 h=T/\BV h a=T/\AtOk h a rt st o/\0<=o.Cost/\o.Cost<=2880):=⟨_,E,rfl,rfl,fun h=>by cases h⟩;unfold LW Lb;rw[Qt s,UV s,P,P];cases hq:B4 h&&BV h a with
 | false=>exact fail
 | true=>
  rw[Y] at hq
  obtain⟨hh,ha⟩:=hq;obtain⟨hf,hc,hfl,_,_⟩:=F2 hh;have ha':=ha;simp only[BV,C7,Y,decide_eq_true_eq] at ha'
  obtain⟨q1,q2,q3,q4,⟨q5,q6⟩,q7,q8⟩:=ha';obtain⟨s1,s2⟩:=HR q1;have hso:=(Ma hfl).2 _ s2;have hsn:=s.fn _ s2;simp only[if_true,Bw,D8,P];cases hw:decide (a.Ready<=st)&&decide (st<=a.Due) with
  | false=>exact fail
  | true=>
   simp only[Y,decide_eq_true_eq] at hw
   obtain⟨pts,b,e1,e2,e3,e4,e5,e6⟩:=VF hc (a:=a.From) hl;simp only[if_true,Bool.not_true,Np,Q,if_false,RZ,FQ,e3,e4,P];cases b with
   | false=>
    rw[e5 rfl];exact fail
   | true=>
    have hr:=e6 rfl;have hpl:=hr.len;have hz:((pts.length:O)==(0:O))=E:=beq_eq_false_iff_ne.2 a9
    have hlast:∃x,pts.getLast?=G x:=by
     cases hp:pts.getLast? with
     | none=>rw[List.getLast?_eq_none_iff] at hp; rw[hp] at hpl; simp at hpl
     | some x=>exact⟨x,rfl⟩
    obtain⟨x,hx⟩:=hlast;simp only[hz,Q,if_false,HT (Ak a9) hx,P];by_cases h0:rt= []
    .have hvo:FW h.Forecast h.Chart (AO h.Fleet a.Ship) a.From rt=G (⟨[],[],[]⟩,E):=by
      unfold FW;simp only[Mi,Gs hsn,hf,hso,e2,P,if_true];rw[h0];rfl
     have h1:¬(1:O)<(pts.length:O):=by rw[hpl,h0]; simp
     simp only[h1,decide_false,Q,if_false,P,Bool.not_false,Hr,if_true,FR,s1,hvo];split<;>exact fail
    .have h1:(1:O)<(pts.length:O):=by have:=List.length_pos_iff.2 h0; omega
     simp only[h1,decide_true,if_true,P];by_cases hto:x=a.To
     .have t1:(x==a.To)=T:=by simpa using hto
      have t2:(x !=a.To)=E:=by simpa using hto
      obtain⟨v,v1,V⟩:=fX hf hc hso hsn hl hr h0 e2 e4;obtain⟨l,b,b1,c2,c3⟩:=cn ha hc hso hsn hl V e1 e2 e3 e4 hw.1 a9;have hz0:((rt.length:O)==(0:O))=E:=beq_eq_false_iff_ne.2 (by have:=List.length_pos_iff.2 h0; omega)
      have hsr:P8 h.Forecast h.Chart (AO h.Fleet a.Ship) a.From rt st=G (l,b):=by
       unfold P8;simp only[VM,Kw hsn,hf,hso,e1,P,if_true,JQ,hz0,Q,if_false,e3,V.st,b1]
      simp only[t1,t2,Bool.not_true,Hr,FR,Q,if_false,s1,v1,P,hsr,if_true];cases b with
      | false=>
       obtain⟨o,o1⟩:=c2 rfl;simp only[o1,P,Q,if_false];exact fail
      | true=>
       obtain⟨o,o1,o2,o3,_,o4,o5,_⟩:=c3 rfl;simp only[o1,o2,P,if_true];exact⟨_,T,rfl,rfl,fun _=>⟨hh,ha,o3,o4,o5⟩⟩
     .have t1:(x==a.To)=E:=by simpa using hto
      have t2:(x !=a.To)=T:=by simpa using hto
      simp only[t1,t2,Bool.not_false,Hr,FR,if_true,P,Q,if_false];exact fail
def dB(x y:X1):((x.Ship==y.Ship)&&((x.Segment==y.Segment)&&((x.Toward==y.Toward)&&((x.Start==y.Start)&&((x.End==y.End)&&T)))))=decide (x=y):=by
 cases x; cases y;rw[Bool.eq_iff_iff];simp[X1.mk.injEq]
def YT{L:Nat->O->Option Bool}(l m:N X1)(hl:l.length<=maxLen)(hm:l.length=m.length)
  (hs:∀(n i:Nat) (h:i<l.length) (h':i<m.length),L (n+1) (i:O)=if decide (l[i]=m[i])=T then L n (IntKind.i64.wrap ((i:O)+1)) else G E) (he:∀n,L (n+1) (l.length:O)=G T):L bigN 0=G (decide (l=m)):=by
 have:=Bi (fun n i=>L n (i:O)=G (decide (l.drop i=m.drop i))) hl (fun n=>by rw[he,List.drop_length,hm,List.drop_length]; rfl) (fun n i h ih=>by
  have h':i<m.length:=by omega
  simp only[hs n i h h',Au h hl,ih,W h,W h',List.cons.injEq];by_cases e:l[i]=m[i]<;>simp[e]) (Nat.zero_le _)
 simpa using this
def VI{x o:X0}(h:x.Passages.length<=maxLen):EY x o=G (decide (x=o))/\EN x o=G (decide (x=o)):=by
 obtain⟨x1,x2,x3,x4⟩:=x;obtain⟨o1,o2,o3,o4⟩:=o
 have e:∀hl:x4.length=o4.length,JR ⟨x1,x2,x3,x4⟩ ⟨o1,o2,o3,o4⟩ bigN 0=G (decide (x4=o4))/\Ju x4 o4 bigN 0=G (decide (x4=o4)):=fun hl=>by
  refine⟨YT x4 o4 h hl (fun n i h1 h2=> ?_) fun n=>by simp[JR],YT x4 o4 h hl (fun n i h1 h2=> ?_) fun n=>by simp[Ju]⟩
  .rw[JR];simp only[Aj,h1,decide_true,if_true,Af h1,Af h2,P,dB]
  .rw[Ju];simp only[Aj,h1,decide_true,if_true,Af h1,Af h2,P,dB]
 have hne:x4.length≠o4.length->x4≠o4:=fun h e=>h (by rw[e])
 unfold EY EN RL;simp only[X0.mk.injEq,KT];by_cases c1:x1=o1
 .by_cases c2:x2=o2
  .by_cases c3:x3=o3
   .by_cases c4:x4.length=o4.length
    .simp[c1,c2,c3,c4,e c4];subst c1 c2 c3;exact(e c4).1
    .have:¬((x4.length:O)=(o4.length:O)):=by omega
     simp[c1,c2,c3,hne c4,this]
   .simp[c1,c2,c3]
  .simp[c1,c2]
 .simp[c1]
def xv{h:X3}(s:HSmall h)(a:X8){o:X0}(hl:o.Passages.length<=10000000):∃b,LU h a o=G b/\II h a o=G b/\(b=T->GoodP h.Chart h.Fleet o.Passages/\0<=o.Cost/\o.Cost<=2880):=by
 have hlm:o.Passages.length<=maxLen:=Ak a9;have hml:(o.Passages.map fun p=>p.Segment).length<=10000000:=by simpa using hl
 obtain⟨x,q,e1,e2,e3⟩:=A19 s a hml o.Start
 have l1:=GI (L:=JG o h a) o.Passages (fun p=>p.Segment) (fun rt=>(LW h a rt o.Start).bind fun r9=>if r9.2 then(EY r9.1 o).bind fun r11=>G r11 else G E) hlm (fun n i acc h ha=>by
  rw[JG];simp only[Aj,h,decide_true,if_true,Af h,P];rw[if_pos (AT a9 d0 a9)]) fun n acc ha=>by rw[JG,if_neg d0]
 have l2:=GI (L:=IJ o h a) o.Passages (fun p=>p.Segment) (fun rt=>(Lb h a rt o.Start).bind fun r9=>if r9.2 then(EN r9.1 o).bind fun r11=>G r11 else G E) hlm (fun n i acc h ha=>by
  rw[IJ];simp only[Aj,h,decide_true,if_true,Af h,P];rw[if_pos (AT a9 d0 a9)]) fun n acc ha=>by rw[IJ,if_neg d0]
 unfold LU II;rw[Qt s,P,l1,l2,e1,e2,P,P];cases q with
 | false=>exact⟨E,by split<;>rfl,rfl,fun h=>by cases h⟩
 | true=>
  obtain⟨hh,ha,A,k1,k2⟩:=e3 rfl
  have hxo:∀hx:x.Passages.length<=maxLen,∃b,(if T=T then(EY x o).bind fun r11=>G r11 else G E)=G b/\(if T=T then(EN x o).bind fun r11=>G r11 else G E)=G b/\(b=T->x=o):=fun hx=>by
   obtain⟨g1,g2⟩:=VI (o:=o) hx;exact⟨decide (x=o),by rw[g1]; rfl,by rw[g2]; rfl,fun h=>by simpa using h⟩
  have hx:x.Passages.length<=maxLen:=by
   obtain⟨_,_,_,_,hp⟩:=A.mo;have:=hp.1;exact Ak a9
  obtain⟨b,b1,b2,b3⟩:=hxo hx;refine⟨b,?_,b2,fun hb=> ?_⟩
  .rw[if_pos (by rw[hh,ha]; rfl)]; exact b1
  .have hx:=b3 hb;subst hx;exact⟨AtOk.good hh A,k1,k2⟩
def MC(h:X3)(a:X8)(o:X0):Bool:=(II h a o).getD E
def A1v{h:X3}(s:HSmall h)(a:X8){o:X0}(hl:o.Passages.length<=1048576):LU h a o=G (MC h a o)/\II h a o=G (MC h a o)/\(MC h a o=T->GoodP h.Chart h.Fleet o.Passages/\0<=o.Cost/\o.Cost<=2880):=by
 obtain⟨b,b1,b2,b3⟩:=xv s a (o:=o) a9;have:MC h a o=b:=by unfold MC; rw[b2]; rfl
 rw[this];exact⟨b1,b2,b3⟩
section
variable {h : X3}
def MQ(os:N (N X0))(ch:N O):Prop:=∀i (hi:i<ch.length),∃(hj:i<os.length) (k:Nat),ch[i]=(k:O)/\k<os[i].length
def rg{F:X0->O->Fnd->Fnd}{p:Fnd->Prop}:∀(l:N X0) (n:Nat) (A:Fnd),(∀i (hi:i<l.length) A,p A->p (F l[i] ((n+i:Nat):O) A))->p A->p (Ci F l n A):=by
 intro l
 induction l with
 | nil=>intro n A _ h; exact h
 | cons o l ih=>
  intro n A H h;rw[Ci];refine ih _ _ (fun i hi A hA=> ?_) (H 0 d0 A h);have:=H (i+1) d3 A hA;simp only[List.getElem_cons_succ] at this
  rw[show n+(i+1)=n+1+i by omega] at this
  exact this
def A40(wv:N X0->Xj)(os:N (N X0)):∀(ls:N (N X0)) (pl:N X0) (ch:N O) (A:Fnd),os.drop ch.length=ls->MQ os ch->(A.f=T->MQ os A.b)->((AE h wv ls pl ch A).f=T->MQ os (AE h wv ls pl ch A).b):=by
 intro ls
 induction ls with
 | nil=>
  intro pl ch A hd hc hA;rw[AE];split
  .unfold I3;split
   .exact hA
   .exact fun _=>hc
  .exact hA
 | cons l ls ih=>
  intro pl ch A hd hc hA
  have hlt:ch.length<os.length:=by
   have:=congrArg List.length hd;simp only[List.length_drop,List.length_cons] at this
   omega
  rw[W hlt,List.cons.injEq] at hd
  rw[AE];refine rg (p:=fun A=>A.f=T->MQ os A.b) l 0 A (fun i hi A hA=> ?_) hA;split
  .refine ih _ _ _ (by simpa using hd.2) (fun j hj=> ?_) hA;simp only[List.length_append,List.length_cons,List.length_nil] at hj
   by_cases e:j=ch.length
   .subst e;refine⟨hlt,i,d0,?_⟩;rw[hd.1]; exact hi
   .obtain⟨q1,k,q2,q3⟩:=hc j a9;exact⟨q1,k,by rw[List.getElem_append_left a9]; exact q2,q3⟩
  .exact hA
end
def od{os:N (N X0)}{ch:N O}(H:MQ os ch)(hl:ch.length<=1000):∃r,Lj os ch=G r/\r.length=ch.length/\∀o∈r,∃l∈os,o∈l:=by
 unfold Lj;refine Bi (fun n i=>∀acc:N X0,acc.length=i->(∀o∈acc,∃l∈os,o∈l)->∃r,DE os ch n (i:O) acc=G r/\r.length=ch.length/\∀o∈r,∃l∈os,o∈l) (Ak (n:=ch.length) a9) (fun n acc h1 h2=>⟨acc,by rw[DE,if_neg d0],h1,h2⟩) (fun n i hi ih acc hacc hm=> ?_) (Nat.zero_le _) [] rfl (fun o ho=>by cases ho);obtain⟨hj,k,e,hk⟩:=H i hi
 obtain⟨r,hr,h1,h2⟩:=ih (acc++ [os[i][k]]) d3 (fun o ho=>by
  rcases List.mem_append.1 ho with ho|ho
  .exact hm o ho
  .rw[List.mem_singleton.1 ho];exact⟨_,X hj,X hk⟩)
 refine⟨r,?_,h1,h2⟩;rw[DE,if_pos (decide_eq_true (Int.ofNat_lt.2 hi)),Af hi,P,Af hj,P,e,Af hk,P,if_pos (AT a9 d0 a9),Au hi (Ak a9)];exact hr
end Go.Vi
