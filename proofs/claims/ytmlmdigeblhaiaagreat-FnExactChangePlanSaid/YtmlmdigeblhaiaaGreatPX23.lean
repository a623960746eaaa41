/-
The law of ChangePlan. No condition.
-/
import Derived.Test.YtmlmdigeblhaiaaGreatPD8x
import Derived.Test.YtmlmdigeblhaiaaGreatPX23c
import Derived.Test.YtmlmdigeblhaiaaGreatPWChangePlan
namespace Go.Vi
set_option linter.all false
open Option renaming bind_some → F, some → T
open List renaming length_cons → E
open Bool renaming false_eq_true → G
def sW(x y:X1):O2 x y=T (decide (x=y)):=by
 unfold O2;cases x; cases y;simp only[X1.mk.injEq];repeat' split
 all_goals simp_all
def sV{xs ys:List X1}(h:xs.length<=maxLen):O3 xs ys=T (decide (xs=ys)):=by
 unfold O3;by_cases hl:xs.length=ys.length
 .have:=Iv (L:=J9 xs ys) xs ys h hl (fun n i h1 h2=>by simp[J9,Am,h1,h2,sW]) (fun n=>by simp[J9]);simp[hl,this]
 .have:¬(xs.length:Int)=ys.length:=by omega
  have:xs≠ys:=fun e=>hl (by rw[e])
  simp_all
def sR{x:X0}(h:x.Passages.length<=maxLen):NZ x x=T true:=by
 simp[NZ,sV h]
def YS{xs:List X0}(h:xs.length<=maxLen)(hp:∀x∈xs,x.Passages.length<=maxLen):ET xs xs=T true:=by
 unfold ET;have:=Fz (L:=J7 xs xs) xs (fun _=>true) h (fun n i hi=>by simp[J7,Am,hi,sR (hp _ (List.getElem_mem hi))]) (fun n=>by simp[J7]);simp[this]
def A0x(xs:List X1)(k:Int)(h0:0<=k)(hk:k<=100000000000000)(hl:xs.length<=1048576):∃ys,He xs k=T (k+5*(xs.length:Int),ys)/\ys.length=xs.length/\Oc ys k=T (k+5*(xs.length:Int)):=by
 unfold He Oc;refine A0y (Lm:=G1) (Lh:=Jf) xs 5 (fun k=>⟨k,k+1,(IntKind.i64.wrap (Int.tmod (k+1+1) (3:Int)))==(0:Int),k+1+1+1,k+1+1+1+1⟩) k h0 a9 hl hk (fun n i k acc hi ha k0 k1=> ?_) (fun n k acc=>by simp[G1]) (fun n i k ys hi hy k0 k1 he=> ?_) (fun n k ys=>by simp[Jf])
 .simp (disch:=omega) only[G1,Aj,hi,decide_true,if_true,Af hi,F,Int.toNat_natCast,Ke hi,List.set_set,Ai,SI,Au hi (Es ha)]
 .simp (disch:=omega) only[Jf,Aj,hi,decide_true,if_true,Af hi,F,Au hi (Es hy),Ai,he,bne_self_eq_false,G,if_false,beq_self_eq_true,SI]
def Vk:∀(os:List X0) (k:Int),0<=k->k+5242883*(os.length:Int)<=10000000000000->os.length<=1048576->(∀o∈os,o.Passages.length<=1048576)->∃m,EU os k=T m/\m.2.length=os.length/\k<=m.1/\m.1<=k+5242883*(os.length:Int)/\
  ∀(done:List X0) (n:Nat),os.length<n->done.length+os.length<=1000->Je (done++m.2) n k (done.length:Int)=T m.1
 | [],k,h0,hk,_,_=>⟨(k,[]),rfl,rfl,d0,d0,fun done n hn _=>by
  obtain⟨n,rfl⟩:∃q,n=q+1:=⟨n - 1,a9⟩;simp[Je]⟩
 | o::os,k,h0,hk,hl,hp=>by
  have hpo:=hp o List.mem_cons_self;have hk':k<=10000000000000:=by simp only[E] at hk; omega
  obtain⟨ys,y1,y2,y3⟩:=A0x o.Passages (k+1+1+1) a9 a9 hpo;simp only[E] at hl hk
  obtain⟨m,m1,m2,m3,m4,m5⟩:=Vk os (k+1+1+1+5*(o.Passages.length:Int)) a9 a9 a9 fun x hx=>hp x (List.mem_cons_of_mem _ hx)
  refine⟨(m.1,⟨k,k+1,k+1+1,ys⟩::m.2),?_,by simp[m2],by simp only; omega,by simp only[E]; omega,fun done n hn hd=> ?_⟩
  .rw[EU];simp (disch:=omega) only[Ai,y1,F,m1]
  .obtain⟨n,rfl⟩:∃q,n=q+1:=⟨n - 1,a9⟩;simp only[E] at hn hd
   have hlt:done.length<(done++(⟨k,k+1,k+1+1,ys⟩::m.2:List X0)).length:=by simp
   have:=m5 (done++ [⟨k,k+1,k+1+1,ys⟩]) n a9 d3;simp only[List.append_assoc,List.singleton_append,List.length_append,List.length_singleton] at this
   rw[Je];simp (disch:=omega) only[Aj,hlt,decide_true,if_true,Gu,F,Ai,bne_self_eq_false,G,if_false,y3];rw[if_neg (by rw[decide_eq_true_eq]; omega)];exact this
def law_FnExactChangePlan(a:X3)(cs:List X8)(old:List X0)(ok:DsOk [.ag (X3.row a),.sc (.sl (List.map X8.row cs)),.sc (.sl (List.map X0.row old))]):Rp a cs old=T true/\∀s1 s2 s3,Jj a 1048576=T s1->decide (s1<0)=false->Ji cs s1=T s2->decide (s2<0)=false->Jk old s2=T s3->decide (s3<0)=false->∀h c l,EW a=T h->EV cs=T c->Ei old=T l->l.length<=maxLen/\∀g,GX h c l=T g->g.1.length<=maxLen:=by
 obtain⟨q1,q2,q3,q4,q5,s⟩:=vp ok.ag.1;have hcm:=F8 (row:=X8.row) ok.ag.2.sc.1;have o1:=F8 (row:=X0.row) ok.ag.2.sc.2.sc.1;have o2:∀x∈old,x.Passages.length<=maxLen:=fun x hx=>F8 (row:=X1.row) (ok.ag.2.sc.2.sc.1.sl.2 (X0.row x) (List.mem_map_of_mem hx) (.sl (List.map X1.row x.Passages)) (by simp[X0.row_eq]))
 obtain⟨r,e,k⟩:=A5w (a:=a) (l:=1048576) a9 a9 q1 q2 q3 q4 q5 s
 have hsz:0<=r->r<=1048576->Ji cs r=T (if r - (cs.length:Int)<0 then -1 else r - (cs.length:Int)):=fun _ _=>by
  unfold Ji;rw[Az] at hcm
  rw[Ai a9 a9];split<;>split<;>simp_all
 constructor
 .unfold Rp;by_cases hr:r<0
  .simp[e,hr]
  obtain⟨b0,b1,b2,b3,b4,b5,b6⟩:=k a9;have hsz:=hsz a9 a9;by_cases hc:r - (cs.length:Int)<0
  .simp[e,hr,hsz,hc]
  have kc:cs.length<=1048576:=by omega
  obtain⟨r3,e3,k3⟩:=eg (xs:=old) (l:=r - (cs.length:Int)) a9 a9 o1 o2;by_cases hr3:r3<0
  .simp[e,hr,hsz,hc,e3,hr3]
  obtain⟨_,kl,kp⟩:=k3 a9;obtain⟨x,x1,x2,x4,x5⟩:=Yv s (cs:=cs) kp kl;obtain⟨m1,f1,g1,g2⟩:=A0w a b1 b2 b3 b4 b5 b6
  obtain⟨m2,f2,g3,g4⟩:=Ki (Lm:=FY) 5 a9 (fun n i k acc hi h0 h1=>⟨_,by
   simp (disch:=omega) only[FY,Aj,hi,decide_true,if_true,Af hi,F,Int.toNat_natCast,Ke hi,List.set_set,Ai,SI];rfl⟩) (fun n k acc=>by simp[FY]) cs m1.1 g1 a9 kc
  have f2:Lu cs m1.1=T m2:=f2;obtain⟨m3,f3,_,g5,g6,_⟩:=Vk old m2.1 g3 a9 kl kp;obtain⟨m,w1,w2,w3,w4,w5⟩:=Vk x.1 1 a9 a9 a9 x5
  have w6:Lt m.2 1=T m.1:=by
   have:=w5 [] bigN (BG (Ak a9)) d3;unfold Lt;simpa using this
  have ea:ET x.1 x.1=T true:=YS (Ak a9) fun o ho=>by rw[Az]; have:=x5 o ho; omega
  have ec:ET old old=T true:=YS o1 o2;have n3:¬m3.1<0:=by omega
  have n4:¬m.1<0:=by omega
  simp only[e,hr,hsz,hc,e3,hr3,F,decide_false,G,if_false,fA b1 b2 b3 b4 b5 b6,ey kc,fG kl kp,x1,x2,ea,ec,if_true,sP q1 q2 q3 q4 q5 s.mv,sJ hcm,f1,f2,f3,n3,w1,w6,n4,bne_self_eq_false,beq_self_eq_true,Bool.not_true]
 .intro s1 s2 s3 h1 h2 h3 h4 h5 h6 h c l ht hc hl;rw[e] at h1
  cases h1;have hr:¬r<0:=by simpa using h2
  obtain⟨b0,b1,b2,b3,b4,b5,b6⟩:=k a9;rw[hsz a9 a9,Option.some.injEq] at h3
  have h4:¬s2<0:=by simpa using h4
  have hcc:¬r - (cs.length:Int)<0:=fun hh=>by rw[if_pos hh] at h3; omega
  rw[if_neg hcc] at h3
  have kc:cs.length<=1048576:=by omega
  obtain⟨r3,e3,k3⟩:=eg (xs:=old) (l:=s2) a9 a9 o1 o2;rw[e3] at h5
  cases h5;have h6:¬s3<0:=by simpa using h6
  obtain⟨_,kl,kp⟩:=k3 a9;rw[fA b1 b2 b3 b4 b5 b6] at ht
  rw[ey kc] at hc
  rw[fG kl kp] at hl
  cases ht; cases hc; cases hl;refine⟨o1,fun g hg=> ?_⟩;obtain⟨x,x1,x2,x4,x5⟩:=Yv s (cs:=cs) kp kl;rw[x2] at hg
  cases hg;rw[Az]; omega
end Go.Vi
