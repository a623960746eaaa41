/-
The law of OpenOptions. No condition.
-/
import Derived.Test.YtpigjggbnclpbaaGreatOD8x
import Derived.Test.YtpigjggbnclpbaaGreatOWOpenOptions
namespace Go.Vi
set_option linter.all false
open Option renaming bind_some → G, some → T
open Bool renaming false_eq_true → H, and_true → P
open List renaming getElem_mem → N, length_cons → O
open Int renaming toNat_natCast → Q
open _root_ renaming Int → E
theorem Rq{l:List XT}{a:XT→Option Bool}{p:XT→Bool}(hl:l.length≤1000)(ha:∀x∈l,a x=T (p x)):HP l a=T (l.filter fun x=> !p x):=by
 have e0:=RL (F:=Fsz a l) l p (AG (by omega)) (fun n i h=>by
  rw[Fsz];simp only[Aj,h,decide_true,if_true,At h,G,ha _ (N h)]) fun n=>by simp[Fsz]
 unfold HP Mh;rcases e0 with ⟨e,h⟩|⟨k,hk,e,h,h0⟩
 ·rw[e,G];have:(l.filter fun x=> !p x)=l:=List.filter_eq_self.2 fun x hx=>by simp[h x hx]
  rw[this]; rfl
 ·rw[e,G];have hne:(((k:Nat):E)==(-1:E))=false:=by simp
  rw[hne];simp only[H,if_false]
  have key:∀(d j n i:Nat) (v:List XT),j+d=l.length→d<n→i≤j→v.length=l.length→v.take i=(l.take j).filter (fun x=> !p x)→v.drop j=l.drop j→
    EL a n (i:E) (j:E) v=T (l.filter fun x=> !p x):=by
   intro d
   induction d with
   | zero=>
    intro j n i v hj hn hij hv h1 h2;obtain⟨q,rfl⟩:=sn (n:=n) (by omega);have:j=l.length:=by omega
    subst this;rw[List.take_length] at h1
    rw[EL]
    have b1:bnd (v.length:E) (v.length:E) (i:E) v.length=T (i,v.length):=by
     unfold bnd; rw[if_pos ⟨by omega,by omega,by omega,by omega⟩]; simp
    have hl2:(v.take i++List.replicate (v.length - i) (⟨⟨(0:E),(0:E),(0:E),([]:List X3)⟩,0⟩:XT)).length=v.length:=by simp; omega
    have b2:bnd (v.length:E) (i:E) 0 v.length=T (0,i):=Jc (by omega);simp only[hv,Aj,Nat.lt_irrefl,decide_false,H,if_false];rw[← hv,b1,G,hl2,b2,G];rw[List.take_append_of_le_length (by simp; omega),List.take_take,Nat.min_self,h1]
   | succ d ih=>
    intro j n i v hj hn hij hv h1 h2;obtain⟨q,rfl⟩:=sn (n:=n) (by omega);have hlt:j<l.length:=by omega
    have hlv:j<v.length:=by omega
    have hvj:v[j]=l[j]:=by
     have:=congrArg (fun z=>z[0]?) h2;simpa[hlv,hlt] using this
    have hd1:v.drop (j+1)=l.drop (j+1):=by
     have:=congrArg (List.drop 1) h2;simpa[List.drop_drop] using this
    rw[EL];simp only[hv,Aj,hlt,decide_true,if_true,At hlv,hvj,G,ha _ (N hlt)];cases hp:p l[j] with
    | true=>
     simp only[if_true,HQ];rw[AK hlt (AG (by omega))];exact ih (j+1) q i v (by omega) (by omega) (by omega) hv (by rw[Hj hlt,hp,h1]; simp) hd1
    | false=>
     have hiv:i<v.length:=by omega
     simp only[H,if_false,HQ,At hiv,G,Q];rw[AK hlt (AG (by omega)),AK hiv (AG (by omega))];refine ih (j+1) q (i+1) _ (by omega) (by omega) (by omega) (by simpa using hv) ?_ ?_
     ·rw[Hj hlt,hp];have hset:i<(v.set i l[j]).length:=by simpa using hiv
      rw[List.take_succ_eq_append_getElem hset];rw[List.take_set_of_le (Nat.le_refl i),h1];simp
     ·rw[List.drop_set_of_lt (by omega)];exact hd1
  have hw:=AK hk (AG (by omega));rw[hw];refine key (l.length - (k+1)) (k+1) bigN k l (by omega) (Bo (AG (by omega))) (by omega) rfl ?_ rfl;rw[Hj hk,h];simp only[Bool.not_true,H,if_false,List.append_nil];refine(List.filter_eq_self.2 fun x hx=> ?_).symm;obtain⟨j,hj,rfl⟩:=List.getElem_of_mem hx;have hjk:j<k:=by simp at hj; omega
  simp[h0 j hjk]
theorem dR(x y:X3):JZ x y=T (decide (x=y)):=by
 unfold JZ;cases x; cases y;simp only[X3.mk.injEq];repeat' split
 all_goals simp_all
theorem dQ{xs ys:List X3}(h:xs.length≤maxLen):K0 xs ys=T (decide (xs=ys)):=by
 unfold K0;by_cases hl:xs.length=ys.length
 ·have:=EK (L:=Gm xs ys) xs ys h hl (fun n i h1 h2=>by simp[Gm,Ao,h1,h2,dR]) (fun n=>by simp[Gm]);simp[hl,this]
 ·have:¬(xs.length:E)=ys.length:=by omega
  have:xs≠ys:=fun e=>hl (by rw[e])
  simp_all
theorem dN{x:X5}(h:x.Passages.length≤maxLen):JW x x=T true:=by
 simp[JW,dQ h]
theorem dM{xs:List X5}(h:xs.length≤maxLen)(hp:∀x∈xs,x.Passages.length≤maxLen):EX xs xs=T true:=by
 unfold EX;have:=EE (L:=Gk xs xs) xs (fun _=>true) h (fun n i hi=>by simp[Gk,Ao,hi,dN (hp _ (N hi))]) (fun n=>by simp[Gk]);simp[this]
theorem lI(xs:List X3)(k:E)(h0:0≤k)(hk:k≤10000000000)(hl:xs.length≤1048576):∃ys,EY xs k=T (k+5*(xs.length:E),ys)∧ys.length=xs.length∧Ka ys k=T (k+5*(xs.length:E)):=by
 unfold EY Ka;refine lJ (Lm:=E0) (Lh:=Gt) xs 5 (fun k=>⟨k,k+1,(IntKind.i64.wrap (Int.tmod (k+1+1) (3:E)))==(0:E),k+1+1+1,k+1+1+1+1⟩) k h0 (by omega) hl hk (fun n i k acc hi ha k0 k1=> ?_) (fun n k acc=>by simp[E0]) (fun n i k ys hi hy k0 k1 he=> ?_) (fun n k ys=>by simp[Gt])
 ·simp (disch:=omega) only[E0,Aj,hi,decide_true,if_true,At hi,G,Q,H4 hi,List.set_set,Au,Ph,AK hi (Ej ha)]
 ·simp (disch:=omega) only[Gt,Aj,hi,decide_true,if_true,At hi,G,AK hi (Ej hy),Au,he,bne_self_eq_false,H,if_false,beq_self_eq_true,Ph]
theorem TK:∀(os:List X5) (k:E),0≤k→k+5242883*(os.length:E)≤100000000→os.length≤8→(∀o∈os,o.Passages.length≤1048576)→∃m,DY os k=T m∧m.2.length=os.length∧k≤m.1∧m.1≤k+5242883*(os.length:E)∧
  ∀(done:List X5) (n:Nat),os.length<n→done.length+os.length≤1000→Gs (done++m.2) n k (done.length:E)=T m.1
 | [],k,h0,hk,_,_=>⟨(k,[]),rfl,rfl,by simp,by simp,fun done n hn _=>by
  obtain⟨n,rfl⟩:∃q,n=q+1:=⟨n - 1,by omega⟩;simp[Gs]⟩
 | o::os,k,h0,hk,hl,hp=>by
  have hpo:=hp o List.mem_cons_self;have hk':k≤100000000:=by simp only[O] at hk; omega
  obtain⟨ys,y1,y2,y3⟩:=lI o.Passages (k+1+1+1) (by omega) (by omega) hpo;simp only[O] at hl hk
  obtain⟨m,m1,m2,m3,m4,m5⟩:=TK os (k+1+1+1+5*(o.Passages.length:E)) (by omega) (by omega) (by omega) fun x hx=>hp x (List.mem_cons_of_mem _ hx)
  refine⟨(m.1,⟨k,k+1,k+1+1,ys⟩::m.2),?_,by simp[m2],by simp only; omega,by simp only[O]; omega,fun done n hn hd=> ?_⟩
  ·rw[DY];simp (disch:=omega) only[Au,y1,G,m1]
  ·obtain⟨n,rfl⟩:∃q,n=q+1:=⟨n - 1,by omega⟩;simp only[O] at hn hd
   have hlt:done.length<(done++(⟨k,k+1,k+1+1,ys⟩::m.2:List X5)).length:=by simp
   have:=m5 (done++ [⟨k,k+1,k+1+1,ys⟩]) n (by omega) (by simp; omega);simp only[List.append_assoc,List.singleton_append,List.length_append,List.length_singleton] at this
   rw[Gs];simp (disch:=omega) only[Aj,hlt,decide_true,if_true,Eh,G,Au,bne_self_eq_false,H,if_false,y3];rw[if_neg (by rw[decide_eq_true_eq]; omega)];exact this
theorem mI{h:X9}(s:HSmall h){a:Xe}{cl:List X7}(hcl:cl.length≤maxLen):∃g,GN h a cl=T g∧Dm h a cl=T g∧HD h a cl g∧g.length≤8∧∀o∈g,o.Passages.length≤1048576:=by
 have hsp:=UC s (a:=a);have him:=Tf s (a:=a);cases hv:(Cp h&&Cz h a) with
 | false=>
  rw[hv] at hsp him
  have e:D5 h a=T []:=by unfold D5; rw[him,G,if_neg (by simp)]
  refine⟨[],?_,?_,fun r5 _ h5=> ?_,by simp,fun o ho=>by cases ho⟩
  ·unfold GN;rw[hsp,G,if_neg (by simp)]
  ·unfold Dm;rw[him,G,if_neg (by simp)]
  ·rw[e] at h5
   cases h5;refine⟨fun _=>false,rfl,fun ts ht=> ?_⟩;obtain rfl:=List.map_eq_nil_iff.1 ht;exact Rq (p:=fun _=>false) (by simp) fun x hx=>by cases hx
 | true=>
  simp only[Bool.and_eq_true] at hv
  obtain⟨L,l1,l2,l3,l4⟩:=mO s hv.1 hv.2;have hp:∀o∈L,o.Passages.length≤maxLen:=fun o ho=>by rw[AI]; have:=(l4 o ho).1.2; omega
  rw[hv.1,hv.2] at hsp him
  cases hc:Jh h.Chart cl with
  | false=>
   refine⟨[],?_,?_,fun r5 h5=> ?_,by simp,fun o ho=>by cases ho⟩
   ·unfold GN;rw[hsp,G,P,if_pos rfl,UD s.pn,hc,G,if_neg (by simp)]
   ·unfold Dm;rw[him,G,P,if_pos rfl,Pb s.pn,hc,G,if_neg (by simp)]
   ·rw[Pb s.pn,hc] at h5
    cases h5
  | true=>
   refine⟨L.filter fun o=> !Df o cl,?_,?_,fun r5 _ h5=> ?_,Nat.le_trans (List.length_filter_le _ _) l3,fun o ho=>(l4 o (List.mem_filter.1 ho).1).1.2⟩
   ·unfold GN;rw[hsp,P,G,if_pos rfl,UD s.pn,hc,G,if_pos rfl,l1,G];refine CQ (fun n i=>F5 cl L n (i:E) ((L.take i).filter fun o=> !Df o cl)=T (L.filter fun o=> !Df o cl)) (AG (n:=L.length) (by omega)) (fun n=> ?_) (fun n i hi ih=> ?_) (Nat.zero_le _)
    ·rw[F5,if_neg (by simp),List.take_length]
    ·rw[F5,if_pos (decide_eq_true (Int.ofNat_lt.2 hi)),At hi,G,oK (hp _ (N hi)) hcl,G,AK hi (AG (by omega))];rw[Hj hi] at ih
     cases e:Df L[i] cl with
     | true=>
      rw[e] at ih
      simp only[Bool.not_true,H,if_false,List.append_nil] at ih
      rw[if_pos rfl];exact ih
     | false=>
      rw[e] at ih
      rw[if_neg (by simp),if_pos (BH (by
       have:=List.length_filter_le (fun o=> !Df o cl) (L.take i);simp only[List.length_take] at this
       omega) (by simp) (by omega))]
      exact ih
   ·unfold Dm
    rw[him,P,G,if_pos rfl,Pb s.pn,hc,G,if_pos rfl,l2,G,bd (p:=fun o=>Df o cl) (by omega) (fun o ho=>by
     show(G7 o cl).bind _=_
     rw[Ti (hp o ho) hcl]; rfl)]
    rfl
   ·rw[l2] at h5
    cases h5;refine⟨fun o=>Df o cl,rfl,fun ts ht=>Rq (p:=fun t=>Df t.o cl) (by rw[← List.length_map (f:=XT.o),ht]; omega) fun t htm=> ?_⟩;show(G7 t.o cl).bind _=_
    rw[Ti (hp t.o (ht▸List.mem_map_of_mem htm)) hcl];rfl
theorem law_FnExactOpenOptions(a:X9)(c:Xe)(cl:List X7)(ok:DsOk [.ag (X9.row a),.ag (Xe.row c),.sc (.sl (List.map X7.row cl))]):Mr a c cl=T true∧∀s1 s2,Gx a 1048576=T s1→decide (s1<0)=false→Gw cl s1=T s2→decide (s2<0)=false→∀h c' l,Ds a=T h→F1 c=T c'→Dr cl=T l→∀g,Dm h c' l=T g→HD h c' l g∧g.length≤maxLen:=by
 obtain⟨q1,q2,q3,q4,q5,s⟩:=gg ok.ag.1;have hlm:=Fo (row:=X7.row) ok.ag.2.ag.2.sc.1;obtain⟨r,e,k⟩:=oz (a:=a) (l:=1048576) (by omega) (by omega) q1 q2 q3 q4 q5 s;obtain⟨x,x1,x2,x3,x4,x5⟩:=mI s (a:=c) hlm;have etc:F1 c=T c:=rfl;constructor
 ·unfold Mr;by_cases hr:r<0
  ·simp[e,hr]
  obtain⟨b0,b1,b2,b3,b4,b5,b6⟩:=k (by omega);obtain⟨r3,e3,k3⟩:=V9 (xs:=cl) (l:=r) (by omega) (by omega) hlm;by_cases hr3:r3<0
  ·simp[e,hr,e3,hr3]
  obtain⟨_,kl⟩:=k3 (by omega);obtain⟨m1,f1,g1,g2⟩:=lH a b1 b2 b3 b4 b5 b6
  obtain⟨m3,f3,g5,g6⟩:=H6 (Lm:=DW) 3 (by omega) (fun n i k acc hi h0 h1=>⟨_,by
   simp (disch:=omega) only[DW,Aj,hi,decide_true,if_true,At hi,G,Q,H4 hi,List.set_set,Au,Pg];rfl⟩) (fun n k acc=>by simp[DW]) cl m1.1 g1 (by omega) kl
  have f3:I3 cl m1.1=T m3:=f3;obtain⟨m,w1,w2,w3,w4,w5⟩:=TK x 1 (by omega) (by omega) x4 x5
  have w6:I1 m.2 1=T m.1:=by
   have:=w5 [] bigN (Bo (AG (by omega))) (by simp; omega);unfold I1;simpa using this
  have ea:EX x x=T true:=dM (AG (by omega)) fun o ho=>by rw[AI]; have:=x5 o ho; omega
  have ec:I0 cl cl=T true:=by simp[dE (xs:=cl) (ys:=cl) hlm]
  have n3:¬m3.1<0:=by omega
  have n4:¬m.1<0:=by omega
  simp only[e,hr,e3,hr3,G,decide_false,H,if_false,Vg b1 b2 b3 b4 b5 b6,etc,Vf kl,x1,x2,ea,ec,if_true,dK q1 q2 q3 q4 q5 s.mv,f1,f3,n3,w1,w6,n4,bne_self_eq_false]
 ·intro s1 s2 h1 h2 h3 h4 h c' l ht hc hl g hg;rw[e] at h1
  cases h1;have hr:¬r<0:=by simpa using h2
  obtain⟨b0,b1,b2,b3,b4,b5,b6⟩:=k (by omega);obtain⟨r3,e3,k3⟩:=V9 (xs:=cl) (l:=r) (by omega) (by omega) hlm;rw[e3] at h3
  cases h3
  obtain⟨_,kl⟩:=k3 (by have:¬s2<0:=(by simpa using h4); omega)
  rw[Vg b1 b2 b3 b4 b5 b6] at ht
  rw[etc] at hc
  rw[Vf kl] at hl
  cases ht; cases hc; cases hl;rw[x2] at hg
  cases hg;exact⟨x3,by rw[AI]; omega⟩
end Go.Vi
