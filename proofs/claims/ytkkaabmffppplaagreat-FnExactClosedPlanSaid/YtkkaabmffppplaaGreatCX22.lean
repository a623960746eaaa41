/-
The law of ClosedPlan. No condition.
-/
import Derived.Test.YtkkaabmffppplaaGreatCD8d
import Derived.Test.YtkkaabmffppplaaGreatCX22a
import Derived.Test.YtkkaabmffppplaaGreatCWClosedPlan
namespace Go.Vi
set_option linter.all false
open Option renaming bind_some → P, some → E
open Bool renaming false_eq_true → Q, and_true → X, not_true → Y, false → T
open List renaming getElem_mem → U, length_cons → W
open Int renaming toNat_natCast → V
open _root_ renaming List → N, Int → O
theorem Ym{l:N XT}{a:XT→Option Bool}{p:XT→Bool}(hl:l.length≤1000)(ha:∀x∈l,a x=E (p x)):KK l a=E (l.filter fun x=> !p x):=by
 have e0:=YG (F:=Ih a l) l p (Ah (by omega)) (fun n i h=>by
  rw[Ih];simp only[Ae,h,decide_true,if_true,Af h,P,ha _ (U h)]) fun n=>by simp[Ih]
 unfold KK QP;rcases e0 with ⟨e,h⟩|⟨k,hk,e,h,h0⟩
 ·rw[e,P];have:(l.filter fun x=> !p x)=l:=List.filter_eq_self.2 fun x hx=>by simp[h x hx]
  rw[this]; rfl
 ·rw[e,P];have hne:(((k:Nat):O)==(-1:O))=T:=by simp
  rw[hne];simp only[Q,if_false]
  have key:∀(d j n i:Nat) (v:N XT),j+d=l.length→d<n→i≤j→v.length=l.length→v.take i=(l.take j).filter (fun x=> !p x)→v.drop j=l.drop j→
    GJ a n (i:O) (j:O) v=E (l.filter fun x=> !p x):=by
   intro d
   induction d with
   | zero=>
    intro j n i v hj hn hij hv h1 h2;obtain⟨q,rfl⟩:=sn (n:=n) (by omega);have:j=l.length:=by omega
    subst this;rw[List.take_length] at h1
    rw[GJ]
    have b1:bnd (v.length:O) (v.length:O) (i:O) v.length=E (i,v.length):=by
     unfold bnd; rw[if_pos ⟨by omega,by omega,by omega,by omega⟩]; simp
    have hl2:(v.take i++List.replicate (v.length - i) (⟨⟨(0:O),(0:O),(0:O),([]:N X1)⟩,0⟩:XT)).length=v.length:=by simp; omega
    have b2:bnd (v.length:O) (i:O) 0 v.length=E (0,i):=E7 (by omega);simp only[hv,Ae,Nat.lt_irrefl,decide_false,Q,if_false];rw[← hv,b1,P,hl2,b2,P];rw[List.take_append_of_le_length (by simp; omega),List.take_take,Nat.min_self,h1]
   | succ d ih=>
    intro j n i v hj hn hij hv h1 h2;obtain⟨q,rfl⟩:=sn (n:=n) (by omega);have hlt:j<l.length:=by omega
    have hlv:j<v.length:=by omega
    have hvj:v[j]=l[j]:=by
     have:=congrArg (fun z=>z[0]?) h2;simpa[hlv,hlt] using this
    have hd1:v.drop (j+1)=l.drop (j+1):=by
     have:=congrArg (List.drop 1) h2;simpa[List.drop_drop] using this
    rw[GJ];simp only[hv,Ae,hlt,decide_true,if_true,Af hlv,hvj,P,ha _ (U hlt)];cases hp:p l[j] with
    | true=>
     simp only[if_true,KL];rw[An hlt (Ah (by omega))];exact ih (j+1) q i v (by omega) (by omega) (by omega) hv (by rw[I2 hlt,hp,h1]; simp) hd1
    | false=>
     have hiv:i<v.length:=by omega
     simp only[Q,if_false,KL,Af hiv,P,V];rw[An hlt (Ah (by omega)),An hiv (Ah (by omega))];refine ih (j+1) q (i+1) _ (by omega) (by omega) (by omega) (by simpa using hv) ?_ ?_
     ·rw[I2 hlt,hp];have hset:i<(v.set i l[j]).length:=by simpa using hiv
      rw[List.take_succ_eq_append_getElem hset];rw[List.take_set_of_le (Nat.le_refl i),h1];simp
     ·rw[List.drop_set_of_lt (by omega)];exact hd1
  have hw:=An hk (Ah (by omega));rw[hw];refine key (l.length - (k+1)) (k+1) bigN k l (by omega) (Bm (Ah (by omega))) (by omega) rfl ?_ rfl;rw[I2 hk,h];simp only[Y,Q,if_false,List.append_nil];refine(List.filter_eq_self.2 fun x hx=> ?_).symm;obtain⟨j,hj,rfl⟩:=List.getElem_of_mem hx;have hjk:j<k:=by simp at hj; omega
  simp[h0 j hjk]
theorem rd(x y:X1):NQ x y=E (decide (x=y)):=by
 unfold NQ;cases x; cases y;simp only[X1.mk.injEq];repeat' split
 all_goals simp_all
theorem rc{xs ys:N X1}(h:xs.length≤maxLen):NR xs ys=E (decide (xs=ys)):=by
 unfold NR;by_cases hl:xs.length=ys.length
 ·have:=GI (L:=IY xs ys) xs ys h hl (fun n i h1 h2=>by simp[IY,Ak,h1,h2,rd]) (fun n=>by simp[IY]);simp[hl,this]
 ·have:¬(xs.length:O)=ys.length:=by omega
  have:xs≠ys:=fun e=>hl (by rw[e])
  simp_all
theorem rY{x:X0}(h:x.Passages.length≤maxLen):NN x x=E true:=by
 simp[NN,rc h]
theorem rX{xs:N X0}(h:xs.length≤maxLen)(hp:∀x∈xs,x.Passages.length≤maxLen):H2 xs xs=E true:=by
 unfold H2;have:=E5 (L:=IW xs xs) xs (fun _=>true) h (fun n i hi=>by simp[IW,Ak,hi,rY (hp _ (U hi))]) (fun n=>by simp[IW]);simp[this]
theorem zf(xs:N X1)(k:O)(h0:0≤k)(hk:k≤10000000000)(hl:xs.length≤1048576):∃ys,H3 xs k=E (k+5*(xs.length:O),ys)∧ys.length=xs.length∧O0 ys k=E (k+5*(xs.length:O)):=by
 unfold H3 O0;refine zg (Lm:=FP) (Lh:=J4) xs 5 (fun k=>⟨k,k+1,(IntKind.i64.wrap (Int.tmod (k+1+1) (3:O)))==(0:O),k+1+1+1,k+1+1+1+1⟩) k h0 (by omega) hl hk (fun n i k acc hi ha k0 k1=> ?_) (fun n k acc=>by simp[FP]) (fun n i k ys hi hy k0 k1 he=> ?_) (fun n k ys=>by simp[J4])
 ·simp (disch:=omega) only[FP,Ae,hi,decide_true,if_true,Af hi,P,V,HF hi,List.set_set,Aj,So,An hi (F1 ha)]
 ·simp (disch:=omega) only[J4,Ae,hi,decide_true,if_true,Af hi,P,An hi (F1 hy),Aj,he,bne_self_eq_false,Q,if_false,beq_self_eq_true,So]
theorem bd:∀(os:N X0) (k:O),0≤k→k+5242883*(os.length:O)≤100000000→os.length≤12→(∀o∈os,o.Passages.length≤1048576)→∃m,FN os k=E m∧m.2.length=os.length∧k≤m.1∧m.1≤k+5242883*(os.length:O)∧
  ∀(done:N X0) (n:Nat),os.length<n→done.length+os.length≤1000→J3 (done++m.2) n k (done.length:O)=E m.1
 | [],k,h0,hk,_,_=>⟨(k,[]),rfl,rfl,by simp,by simp,fun done n hn _=>by
  obtain⟨n,rfl⟩:∃q,n=q+1:=⟨n - 1,by omega⟩;simp[J3]⟩
 | o::os,k,h0,hk,hl,hp=>by
  have hpo:=hp o List.mem_cons_self;have hk':k≤100000000:=by simp only[W] at hk; omega
  obtain⟨ys,y1,y2,y3⟩:=zf o.Passages (k+1+1+1) (by omega) (by omega) hpo;simp only[W] at hl hk
  obtain⟨m,m1,m2,m3,m4,m5⟩:=bd os (k+1+1+1+5*(o.Passages.length:O)) (by omega) (by omega) (by omega) fun x hx=>hp x (List.mem_cons_of_mem _ hx)
  refine⟨(m.1,⟨k,k+1,k+1+1,ys⟩::m.2),?_,by simp[m2],by simp only; omega,by simp only[W]; omega,fun done n hn hd=> ?_⟩
  ·rw[FN];simp (disch:=omega) only[Aj,y1,P,m1]
  ·obtain⟨n,rfl⟩:∃q,n=q+1:=⟨n - 1,by omega⟩;simp only[W] at hn hd
   have hlt:done.length<(done++(⟨k,k+1,k+1+1,ys⟩::m.2:N X0)).length:=by simp
   have:=m5 (done++ [⟨k,k+1,k+1+1,ys⟩]) n (by omega) (by simp; omega);simp only[List.append_assoc,List.singleton_append,List.length_append,List.length_singleton] at this
   rw[J3];simp (disch:=omega) only[Ae,hlt,decide_true,if_true,Ge,P,Aj,bne_self_eq_false,Q,if_false,y3];rw[if_neg (by rw[decide_eq_true_eq]; omega)];exact this
theorem A0y{h:X6}(s:HSmall h){a:Xc}{cl:N X7}(hcl:cl.length≤maxLen):∃g,FX h a cl=E g∧CX h a cl=E g∧HD h a cl g∧g.length≤8∧∀o∈g,o.Passages.length≤1048576:=by
 have hsp:=SL s (a:=a);have him:=UH s (a:=a);cases hv:(Bh h&&Cl h a) with
 | false=>
  rw[hv] at hsp him
  have e:DE h a=E []:=by unfold DE; rw[him,P,if_neg (by simp)]
  refine⟨[],?_,?_,fun r5 _ h5=> ?_,by simp,fun o ho=>by cases ho⟩
  ·unfold FX;rw[hsp,P,if_neg (by simp)]
  ·unfold CX;rw[him,P,if_neg (by simp)]
  ·rw[e] at h5
   cases h5;refine⟨fun _=>T,rfl,fun ts ht=> ?_⟩;obtain rfl:=List.map_eq_nil_iff.1 ht;exact Ym (p:=fun _=>T) (by simp) fun x hx=>by cases hx
 | true=>
  simp only[Bool.and_eq_true] at hv
  obtain⟨L,l1,l2,l3,l4⟩:=cI s hv.1 hv.2;have hp:∀o∈L,o.Passages.length≤maxLen:=fun o ho=>by rw[AA]; have:=(l4 o ho).1.2; omega
  rw[hv.1,hv.2] at hsp him
  cases hc:Fu h.Chart cl with
  | false=>
   refine⟨[],?_,?_,fun r5 h5=> ?_,by simp,fun o ho=>by cases ho⟩
   ·unfold FX;rw[hsp,P,X,if_pos rfl,Q8 s.pn,hc,P,if_neg (by simp)]
   ·unfold CX;rw[him,P,X,if_pos rfl,M4 s.pn,hc,P,if_neg (by simp)]
   ·rw[M4 s.pn,hc] at h5
    cases h5
  | true=>
   refine⟨L.filter fun o=> !CO o cl,?_,?_,fun r5 _ h5=> ?_,Nat.le_trans (List.length_filter_le _ _) l3,fun o ho=>(l4 o (List.mem_filter.1 ho).1).1.2⟩
   ·unfold FX;rw[hsp,X,P,if_pos rfl,Q8 s.pn,hc,P,if_pos rfl,l1,P];refine BE (fun n i=>Eg cl L n (i:O) ((L.take i).filter fun o=> !CO o cl)=E (L.filter fun o=> !CO o cl)) (Ah (n:=L.length) (by omega)) (fun n=> ?_) (fun n i hi ih=> ?_) (Nat.zero_le _)
    ·rw[Eg,if_neg (by simp),List.take_length]
    ·rw[Eg,if_pos (decide_eq_true (Int.ofNat_lt.2 hi)),Af hi,P,dI (hp _ (U hi)) hcl,P,An hi (Ah (by omega))];rw[I2 hi] at ih
     cases e:CO L[i] cl with
     | true=>
      rw[e] at ih
      simp only[Y,Q,if_false,List.append_nil] at ih
      rw[if_pos rfl];exact ih
     | false=>
      rw[e] at ih
      rw[if_neg (by simp),if_pos (B0 (by
       have:=List.length_filter_le (fun o=> !CO o cl) (L.take i);simp only[List.length_take] at this
       omega) (by simp) (by omega))]
      exact ih
   ·unfold CX
    rw[him,X,P,if_pos rfl,M4 s.pn,hc,P,if_pos rfl,l2,P,Yn (p:=fun o=>CO o cl) (by omega) (fun o ho=>by
     show(GT o cl).bind _=_
     rw[UJ (hp o ho) hcl]; rfl)]
    rfl
   ·rw[l2] at h5
    cases h5;refine⟨fun o=>CO o cl,rfl,fun ts ht=>Ym (p:=fun t=>CO t.o cl) (by rw[← List.length_map (f:=XT.o),ht]; omega) fun t htm=> ?_⟩;show(GT t.o cl).bind _=_
    rw[UJ (hp t.o (ht▸List.mem_map_of_mem htm)) hcl];rfl
theorem nZ{os:N (N X0)}{ch:N O}(H:MC os ch)(hl:ch.length≤1000):∃r,IE os ch=E r∧r.length=ch.length∧∀o∈r,∃l∈os,o∈l:=by
 unfold IE;refine BE (fun n i=>∀acc:N X0,acc.length=i→(∀o∈acc,∃l∈os,o∈l)→∃r,DF os ch n (i:O) acc=E r∧r.length=ch.length∧∀o∈r,∃l∈os,o∈l) (Ah (n:=ch.length) (by omega)) (fun n acc h1 h2=>⟨acc,by rw[DF,if_neg (by simp)],h1,h2⟩) (fun n i hi ih acc hacc hm=> ?_) (Nat.zero_le _) [] rfl (fun o ho=>by cases ho);obtain⟨hj,k,e,hk⟩:=H i hi
 obtain⟨r,hr,h1,h2⟩:=ih (acc++ [os[i][k]]) (by simp; omega) (fun o ho=>by
  rcases List.mem_append.1 ho with ho|ho
  ·exact hm o ho
  ·rw[List.mem_singleton.1 ho];exact⟨_,U hj,U hk⟩)
 refine⟨r,?_,h1,h2⟩;rw[DF,if_pos (decide_eq_true (Int.ofNat_lt.2 hi)),Af hi,P,Af hj,P,e,Af hk,P,if_pos (B0 (by omega) (by simp) (by omega)),An hi (Ah (by omega))];exact hr
theorem A3q(os:N (N X0))(q:N O × O × Bool):∀(n:Nat) (v:O) (acc r:N X0),DF os q.1 n v acc=E r→Jq q os n v acc=E (r,true):=by
 intro n
 induction n with
 | zero=>intro v acc r h; cases h
 | succ n ih=>
  intro v acc r h;rw[DF] at h;rw[Jq];split
  ·rename_i hd
   rw[if_pos hd] at h;cases e1:ix q.1 v with
   | none=>rw[e1] at h; cases h
   | some x=>
    rw[e1,P] at h;rw[P];cases e2:ix os v with
    | none=>rw[e2] at h; cases h
    | some y=>
     rw[e2,P] at h;rw[P];cases e3:ix y x with
     | none=>rw[e3] at h; cases h
     | some z=>
      rw[e3,P] at h;rw[P];split
      ·rename_i ha
       rw[if_pos ha] at h;exact ih _ _ _ h
      ·rename_i ha
       rw[if_neg ha] at h;cases h
  ·rename_i hd
   rw[if_neg hd] at h;cases h;rfl
theorem nh{h:X6}(s:HSmall h){cs:N Xc}{cl:N X7}:∃g,H7 h cs cl=E g∧Ea h cs cl=E g∧g.1.length≤12∧∀o∈g.1,o.Passages.length≤1048576:=by
 obtain⟨b,b1,b2,b3⟩:=nP s (cs:=cs);cases b with
 | false=>
  refine⟨([],T),?_,?_,by simp,fun o ho=>by cases ho⟩
  ·unfold H7; rw[b1]; rfl
  ·unfold Ea; rw[b2]; rfl
 | true=>
  obtain⟨hh,h6,hcs⟩:=b3 rfl;cases hc:Fu h.Chart cl with
  | false=>
   refine⟨([],T),?_,?_,by simp,fun o ho=>by cases ho⟩
   ·unfold H7; rw[b1,P,if_pos rfl,Q8 s.pn,hc]; rfl
   ·unfold Ea; rw[b2,P,if_pos rfl,M4 s.pn,hc]; rfl
  | true=>
   obtain⟨o1,o3,o4⟩:=A0z s hh hc h6 hcs;have hfit:CI h []=true:=(LU s hh (by simp) (fun o ho=>by cases ho)).2.2 (FitP.nil hh)
   have e:=wF (os:=cs.map (BO h cl)) (wv:=D5) (F:=fun z0=>L0 z0) (fun pl G hl=>by
    rw[List.length_map] at hl
    show(N0 pl).bind _=_
    rw[ny (by omega) G.cost]; rfl) (fun pl o ho=>by
    simp only[wl,D5,SM,Bool.or_eq_false_iff,Bool.and_eq_false_iff,decide_eq_false_iff_not];omega) s hh (by simpa using h6) o3 o4 (cs.map (BO h cl)) [] [] ⟨T,[],⟨0,0⟩⟩ bigN (by rw[C7]; simp; omega) rfl (by simp) rfl (fun o ho=>by cases ho) hfit
   have e:TW (fun z0=>L0 z0) ⟨h,cs.map (BO h cl),[],[],[],⟨0,0⟩,T⟩=_:=e;have hp:=A3v D5 (h:=h) (cs.map (BO h cl)) (cs.map (BO h cl)) [] [] ⟨T,[],⟨0,0⟩⟩ rfl (fun i hi=>by simp at hi) (fun h=>by cases h);have hb:=A3u D5 (h:=h) (cs.map (BO h cl)) [] [] ⟨T,[],⟨0,0⟩⟩ (by simp; omega) (by simp);obtain⟨b',c',f',eb,q1,q2⟩:=mh s hh (os:=cs.map (BO h cl)) (by simpa using h6) o3 o4;generalize AX h D5 (cs.map (BO h cl)) [] [] ⟨T,[],⟨0,0⟩⟩=B at e hp hb q1 q2
   have push:=Gr (L:=In cl cs h) cs (BO h cl) (fun os=>(Nz h os (fun z0=>L0 z0)).bind fun r12=>if r12.2.2 then((IE os r12.1).bind fun r14=>E (r14,true)) else E (([]:N X0),T)) (Ah (by omega)) (fun n i acc hi hacc=>by
    rw[In];simp only[Ae,hi,decide_true,if_true,Af hi,P,(SB s hh hc (hcs _ (U hi))).2.1];rw[if_pos (B0 (by omega) (by simp) (by omega))]) fun n acc _=>by rw[In,if_neg (by simp)]
   have hI:Ea h cs cl=if B.f=true then(IE (cs.map (BO h cl)) B.b).bind fun r14=>E (r14,true) else E (([]:N X0),T):=by
    unfold Ea;rw[b2,P,if_pos rfl,M4 s.pn,hc,P];unfold MZ;rw[if_neg (by simp),push];unfold Nz;rw[e,P,P]
   have hS:H7 h cs cl=if f'=true then Jq (b',c',f') (cs.map (BO h cl)) bigN 0 [] else E (([]:N X0),T):=by
    unfold H7;rw[b1,P,if_pos rfl,Q8 s.pn,hc,P];unfold Ov;rw[if_neg (by simp),o1,P,eb,P]
   rw[hI,hS,q1];cases f' with
   | false=>exact⟨([],T),by simp,by simp,by simp,fun o ho=>by cases ho⟩
   | true=>
    rw[q2 rfl] at hp hb ⊢
    obtain⟨r,r1,r2,r3⟩:=nZ (hp q1) (by omega);refine⟨(r,true),?_,?_,by rw[r2]; exact hb,fun o ho=> ?_⟩
    ·rw[if_pos rfl];exact A3q _ (b',c',true) _ _ _ _ r1
    ·rw[if_pos rfl,r1]; rfl
    ·obtain⟨l,l1,l2⟩:=r3 o ho;exact(o4 l l1 o l2).1.2
theorem law_FnExactClosedPlan(a:X6)(cs:N Xc)(cl:N X7)(ok:DsOk [.ag (X6.row a),.sc (.sl (List.map Xc.row cs)),.sc (.sl (List.map X7.row cl))]):QZ a cs cl=E true∧∀s1 s2 s3,J9 a 1048576=E s1→decide (s1<0)=T→J7 cs s1=E s2→decide (s2<0)=T→J8 cl s2=E s3→decide (s3<0)=T→∀h c l,EO a=E h→EM cs=E c→EN cl=E l→(∀x∈c,∀g,CX h x l=E g→HD h x l g)∧∀g,Ea h c l=E g→g.1.length≤maxLen:=by
 obtain⟨q1,q2,q3,q4,q5,s⟩:=uv ok.ag.1;have hcm:=Gg (row:=Xc.row) ok.ag.2.sc.1;have hlm:=Gg (row:=X7.row) ok.ag.2.sc.2.sc.1;obtain⟨r,e,k⟩:=A4p (a:=a) (l:=1048576) (by omega) (by omega) q1 q2 q3 q4 q5 s
 have hsz:0≤r→r≤1048576→J7 cs r=E (if r - (cs.length:O)<0 then -1 else r - (cs.length:O)):=fun _ _=>by
  unfold J7;rw[AA] at hcm
  rw[Aj (by omega) (by omega)];split<;>split<;>simp_all
 obtain⟨x,x1,x2,x4,x5⟩:=nh s (cs:=cs) (cl:=cl);constructor
 ·unfold QZ;by_cases hr:r<0
  ·simp[e,hr]
  obtain⟨b0,b1,b2,b3,b4,b5,b6⟩:=k (by omega);have hsz:=hsz (by omega) (by omega);by_cases hc:r - (cs.length:O)<0
  ·simp[e,hr,hsz,hc]
  have kc:cs.length≤1048576:=by omega
  obtain⟨r3,e3,k3⟩:=dt (xs:=cl) (l:=r - (cs.length:O)) (by omega) (by omega) hlm;by_cases hr3:r3<0
  ·simp[e,hr,hsz,hc,e3,hr3]
  obtain⟨_,kl⟩:=k3 (by omega);obtain⟨m1,f1,g1,g2⟩:=ze a b1 b2 b3 b4 b5 b6
  obtain⟨m2,f2,g3,g4⟩:=HK (Lm:=FJ) 5 (by omega) (fun n i k acc hi h0 h1=>⟨_,by
   simp (disch:=omega) only[FJ,Ae,hi,decide_true,if_true,Af hi,P,V,HF hi,List.set_set,Aj,So];rfl⟩) (fun n k acc=>by simp[FJ]) cs m1.1 g1 (by omega) kc
  have f2:Ld cs m1.1=E m2:=f2
  obtain⟨m3,f3,g5,g6⟩:=HK (Lm:=FL) 3 (by omega) (fun n i k acc hi h0 h1=>⟨_,by
   simp (disch:=omega) only[FL,Ae,hi,decide_true,if_true,Af hi,P,V,HF hi,List.set_set,Aj,UQ];rfl⟩) (fun n k acc=>by simp[FL]) cl m2.1 g3 (by omega) kl
  have f3:Lf cl m2.1=E m3:=f3;obtain⟨m,w1,w2,w3,w4,w5⟩:=bd x.1 1 (by omega) (by omega) x4 x5
  have w6:Lc m.2 1=E m.1:=by
   have:=w5 [] bigN (Bm (Ah (by omega))) (by simp; omega);unfold Lc;simpa using this
  have ea:H2 x.1 x.1=E true:=rX (Ah (by omega)) fun o ho=>by rw[AA]; have:=x5 o ho; omega
  have ec:Lb cl cl=E true:=by simp[rN (xs:=cl) (ys:=cl) hlm]
  have n3:¬m3.1<0:=by omega
  have n4:¬m.1<0:=by omega
  simp only[e,hr,hsz,hc,e3,hr3,P,decide_false,Q,if_false,eB b1 b2 b3 b4 b5 b6,dz kc,eA kl,x1,x2,ea,ec,if_true,rV q1 q2 q3 q4 q5 s.mv,rK hcm,f1,f2,f3,n3,w1,w6,n4,bne_self_eq_false,beq_self_eq_true,Y]
 ·intro s1 s2 s3 h1 h2 h3 h4 h5 h6 h c l ht hc hl;rw[e] at h1
  cases h1;have hr:¬r<0:=by simpa using h2
  obtain⟨b0,b1,b2,b3,b4,b5,b6⟩:=k (by omega);rw[hsz (by omega) (by omega),Option.some.injEq] at h3
  have h4:¬s2<0:=by simpa using h4
  have hcc:¬r - (cs.length:O)<0:=fun hh=>by rw[if_pos hh] at h3; omega
  rw[if_neg hcc] at h3
  have kc:cs.length≤1048576:=by omega
  obtain⟨r3,e3,k3⟩:=dt (xs:=cl) (l:=s2) (by omega) (by omega) hlm;rw[e3] at h5
  cases h5;obtain⟨_,kl⟩:=k3 (by have:¬s3<0:=(by simpa using h6); omega);rw[eB b1 b2 b3 b4 b5 b6] at ht
  rw[dz kc] at hc
  rw[eA kl] at hl
  cases ht; cases hc; cases hl;refine⟨fun y _ g hg=> ?_,fun g hg=> ?_⟩
  ·obtain⟨z,z1,z2,z3,z4,z5⟩:=A0y s (a:=y) hlm;rw[z2] at hg
   cases hg;exact z3
  ·rw[x2] at hg
   cases hg;rw[AA]; omega
end Go.Vi
