/-
Plain laws. No condition.
-/
import Derived.Test.YtkkaabmffppplaaGreatCR8b
namespace Go.Vi
set_option linter.all false
open Option renaming bind_some → V, some → G
open Int renaming toNat_natCast → W
open Bool renaming false_eq_true → X, eq_iff_iff → Y, true → T, false → E
open List renaming take_succ_eq_append_getElem → Z, set_set → A, drop_eq_getElem_cons → B, getElem?_eq_getElem → C
open _root_ renaming List → N, Option → O, Int → P, Bool → Q, Nat → U
theorem zg{α:Type}{Lm:U→P→P→N α→O (P × N α)}{Lh:N α→U→P→P→O P}(xs:N α)(c:U)(e:P→α)(k0:P)(h0:0≤k0)(hc:c≤100)(hl:xs.length≤1048576)(hk:k0≤10000000000)
  (hm:∀(n i:U) (k:P) (acc:N α),i<acc.length→acc.length≤1048576→0≤k→k≤100000000000→Lm (n+1) k (i:P) acc=Lm n (k+c) ((i+1:U):P) (acc.set i (e k)))
  (hme:∀(n:U) (k:P) (acc:N α),Lm (n+1) k (acc.length:P) acc=G (k,acc))
  (hh:∀(n i:U) (k:P) (ys:N α) (hi:i<ys.length),ys.length≤1048576→0≤k→k≤100000000000→ys[i]=e k→Lh ys (n+1) k (i:P)=Lh ys n (k+c) ((i+1:U):P))
  (hhe:∀(n:U) (k:P) (ys:N α),Lh ys (n+1) k (ys.length:P)=G k) :
  ∃ys,Lm bigN k0 0 xs=G (k0+c*(xs.length:P),ys)∧ys.length=xs.length∧Lh ys bigN k0 0=G (k0+c*(xs.length:P)):=by
 have bnd:∀i:U,i≤xs.length→k0+(c:P)*(i:P)≤100000000000∧0≤k0+(c:P)*(i:P):=by
  intro i hi;have h1:c*i≤100*1048576:=Nat.mul_le_mul hc (by omega);have h2:((c*i:U):P)=(c:P)*(i:P):=by simp
  omega
 have keym:∀(k i n:U) (acc:N α),i+k=acc.length→acc.length=xs.length→k<n→(∀j (hj:j<acc.length),j<i→acc[j]=e (k0+c*(j:P)))→
   ∃ys,Lm n (k0+c*(i:P)) (i:P) acc=G (k0+c*(xs.length:P),ys)∧ys.length=xs.length∧∀j (hj:j<ys.length),ys[j]=e (k0+c*(j:P)):=by
  intro k
  induction k with
  | zero=>
   intro i n acc hi ha hn hj;obtain⟨m,rfl⟩:∃m,n=m+1:=⟨n - 1,by omega⟩;have:i=acc.length:=by omega
   subst this;exact⟨acc,by rw[hme,ha],ha,fun j hj2=>hj j hj2 hj2⟩
  | succ k ih=>
   intro i n acc hi ha hn hj;obtain⟨m,rfl⟩:∃m,n=m+1:=⟨n - 1,by omega⟩;have hb:=bnd i (by omega);rw[hm m i _ acc (by omega) (by omega) hb.2 hb.1]
   obtain⟨ys,e1,e2,e3⟩:=ih (i+1) m (acc.set i (e (k0+c*(i:P)))) (by simp; omega) (by simpa using ha) (by omega) (fun j hj2 hlt=>by
    by_cases e1:j=i
    ·subst e1; simp
    ·rw[List.getElem_set_ne (Ne.symm e1)];exact hj j (by simpa using hj2) (by omega))
   refine⟨ys,?_,e2,e3⟩;rw[← e1];congr 1
   rw[show(((i+1:U):P))=(i:P)+1 from rfl,Int.mul_add,Int.mul_one];omega
 obtain⟨ys,e1,e2,e3⟩:=keym xs.length 0 bigN xs (by omega) rfl (Bm (by rw[AA]; omega)) (fun j _ h=>by omega)
 have keyh:∀(k i n:U),i+k=ys.length→k<n→Lh ys n (k0+c*(i:P)) (i:P)=G (k0+c*(xs.length:P)):=by
  intro k
  induction k with
  | zero=>
   intro i n hi hn;obtain⟨m,rfl⟩:∃m,n=m+1:=⟨n - 1,by omega⟩;have:i=ys.length:=by omega
   subst this;rw[hhe,e2]
  | succ k ih=>
   intro i n hi hn;obtain⟨m,rfl⟩:∃m,n=m+1:=⟨n - 1,by omega⟩;have hb:=bnd i (by omega);rw[hh m i _ ys (by omega) (by omega) hb.2 hb.1 (e3 i (by omega))];rw[← ih (i+1) m (by omega) (by omega)];congr 1
   rw[show(((i+1:U):P))=(i:P)+1 from rfl,Int.mul_add,Int.mul_one];omega
 refine⟨ys,?_,e2,?_⟩
 ·simpa using e1
 ·have:=keyh ys.length 0 bigN (by omega) (Bm (by rw[AA]; omega));simpa using this
def i64(n:P):Prop:= -9223372036854775808≤n∧n≤9223372036854775807
theorem HK{α:Type}{Lm:U→P→P→N α→O (P × N α)}(c:U)(hc:c≤10)
  (hm:∀(n i:U) (k:P) (acc:N α),i<acc.length→0≤k→k≤1000000000000→∃e,Lm (n+1) k (i:P) acc=Lm n (k+c) (IntKind.i64.wrap ((i:P)+1)) (acc.set i e))
  (he:∀(n:U) (k:P) (acc:N α),Lm (n+1) k (acc.length:P) acc=G (k,acc)) (xs:N α) (k0:P) (h0:0≤k0) (hk:k0≤100000000000) (hl:xs.length≤1048576):∃r,Lm bigN k0 0 xs=G r∧0≤r.1∧r.1≤k0+10485760:=by
 have hlm:xs.length≤maxLen:=Ah (by omega);refine BE (fun n i=>∀(k:P) acc,acc.length=xs.length→0≤k→k≤k0+(10*i:U)→∃r,Lm n k (i:P) acc=G r∧0≤r.1∧r.1≤k0+10485760) hlm (fun n k acc h1 h2 h3=>⟨(k,acc),by rw[← h1]; exact he n k acc,h2,by simp only; omega⟩) (fun n i hi ih k acc h1 h2 h3=> ?_) (Nat.zero_le _) k0 xs rfl h0 (by omega);obtain⟨e,e1⟩:=hm n i k acc (by omega) h2 (by omega);rw[e1,An hi hlm];exact ih _ _ (by simpa using h1) (by omega) (by omega)
theorem HF{α:Type}{l:N α}{i:U}{v:α}(h:i<l.length):ix (l.set i v) (i:P)=G v:=by rw[Ak,List.getElem?_set_self h]
theorem be(k:P)(h0:0≤k)(hk:k≤1000000000000):∃r,Lq k=G r:=by
 have key:∀(m n:U) (v:P) (acc:N UInt8),m<n→0≤v→v<10 ^ m→v≤1000000000000→acc.length+m≤1000→∃r,J6 n v acc=G r:=by
  intro m
  induction m with
  | zero=>
   intro n v acc hn h0 hv _ ha;obtain⟨q,rfl⟩:=sn (n:=n) (by omega);have hv0:¬(0:P)<v:=by simp at hv; omega
   exact⟨[109]++acc,by rw[J6,if_neg (by simp[hv0]),if_pos (TB (by simp; omega))]⟩
  | succ m ih=>
   intro n v acc hn h0 hv hb ha;obtain⟨q,rfl⟩:=sn (n:=n) (by omega);rw[J6];by_cases hp:(0:P)<v
   ·rw[if_pos (by simp[hp]),if_pos (TB (by simp; omega)),show Int.tdiv v 10=v / 10 from Int.tdiv_eq_ediv_of_nonneg h0,Aj (by omega) (by omega)];refine ih q _ _ (by omega) (by omega) ?_ (by omega) (by simp; omega);have:(10:P) ^ (m+1)=10 ^ m*10:=Int.pow_succ 10 m;omega
   ·exact⟨[109]++acc,by rw[if_neg (by simp[hp]),if_pos (TB (by simp; omega))]⟩
 unfold Lq;by_cases h:k≤0
 ·exact⟨[109,48],by simp only[h,decide_true,if_true]⟩
 ·simp only[h,decide_false,X,if_false];exact key 13 bigN k [] (Bm (Ah (by omega))) h0 (by simp; omega) hk (by simp)
theorem xW(k:P):k+1+1=k+(2:U):=by omega
theorem UQ(k:P):k+1+1+1=k+(3:U):=by omega
theorem So(k:P):k+1+1+1+1+1=k+(5:U):=by omega
theorem xX(k:P):k+1+1+1+1+1+1=k+(6:U):=by omega
theorem ze(a:X6)(b1:a.Forecast.Tide.Parts.length≤1048576)(b2:a.Forecast.Surges.length≤1048576)(b3:a.Chart.Points.length≤1048576)(b4:a.Chart.Segments.length≤1048576)(b5:a.Fleet.length≤1048576)(b6:a.Crew.Moves.length≤1048576) :
  ∃r,J5 a 1=G r∧0≤r.1∧r.1≤1000000000:=by
 obtain⟨r1,e1,l1,u1⟩:=HK (Lm:=FO) 3 (by omega) (fun n i k acc hi h0 h1=>⟨_,by
  simp (disch:=omega) only[FO,Ae,hi,decide_true,if_true,Af hi,V,W,HF hi,A,Aj,UQ];rfl⟩) (fun n k acc=>by simp[FO]) a.Forecast.Tide.Parts 1 (by omega) (by omega) b1
 obtain⟨r2,e2,l2,u2⟩:=HK (Lm:=FT) 3 (by omega) (fun n i k acc hi h0 h1=>⟨_,by
  simp (disch:=omega) only[FT,Ae,hi,decide_true,if_true,Af hi,V,W,HF hi,A,Aj,UQ];rfl⟩) (fun n k acc=>by simp[FT]) a.Forecast.Surges r1.1 l1 (by omega) b2
 obtain⟨r3,e3,l3,u3⟩:=HK (Lm:=FQ) 2 (by omega) (fun n i k acc hi h0 h1=>by
  obtain⟨t,ht⟩:=be k h0 h1
  exact⟨_,by
   simp (disch:=omega) only[FQ,ht,Ae,hi,decide_true,if_true,Af hi,V,W,HF hi,A,Aj,xW];rfl⟩) (fun n k acc=>by simp[FQ]) a.Chart.Points r2.1 l2 (by omega) b3
 obtain⟨r4,e4,l4,u4⟩:=HK (Lm:=FR) 5 (by omega) (fun n i k acc hi h0 h1=>⟨_,by
  simp (disch:=omega) only[FR,Ae,hi,decide_true,if_true,Af hi,V,W,HF hi,A,Aj,So];rfl⟩) (fun n k acc=>by simp[FR]) a.Chart.Segments r3.1 l3 (by omega) b4
 obtain⟨r5,e5,l5,u5⟩:=HK (Lm:=Fsz) 6 (by omega) (fun n i k acc hi h0 h1=>by
  obtain⟨t,ht⟩:=be k h0 h1
  exact⟨_,by
   simp (disch:=omega) only[Fsz,ht,Ae,hi,decide_true,if_true,Af hi,V,W,HF hi,A,Aj,xX];rfl⟩) (fun n k acc=>by simp[Fsz]) a.Fleet r4.1 l4 (by omega) b5
 obtain⟨r6,e6,l6,u6⟩:=HK (Lm:=FM) 1 (by omega) (fun n i k acc hi h0 h1=>⟨_,by
  simp (disch:=omega) only[FM,Ae,hi,decide_true,if_true,Af hi,V,W,Aj];rfl⟩) (fun n k acc=>by simp[FM]) a.Crew.Moves r5.1 l5 (by omega) b6
 refine⟨(r6.1,r1.2,r2.2,r3.2,r4.2,r5.2,r6.2),?_,l6,by simp only; omega⟩;simp only[J5,Li,Lr,Lk,e1,V,Lp,e2,Le,Ll,e3,Ln,e4,Lo,e5,Lg,Lj,e6]
theorem eA{xs:N X7}(h:xs.length≤1048576):EN xs=G xs:=by
 unfold EN;rw[Es h (by omega)];have:=GH (L:=Jb xs) xs id (F1 h) (fun n i acc hi ha=>by simp[Jb,Ak,hi,ha,Rb]) (fun n acc=>by simp[Jb]) (List.replicate xs.length ⟨0,0,0⟩) (by simp);simpa using this
theorem rO(x y:X7):NJ x y=G (decide (x=y)):=by
 unfold NJ;cases x; cases y;simp only[X7.mk.injEq];repeat' split
 all_goals simp_all
theorem rN{xs ys:N X7}(h:xs.length≤maxLen):Lb xs ys=G (decide (xs=ys)):=by
 unfold Lb;by_cases hl:xs.length=ys.length
 ·have:=GI (L:=IU xs ys) xs ys h hl (fun n i h1 h2=>by simp[IU,Ak,h1,h2,rO]) (fun n=>by simp[IU]);simp[hl,this]
 ·have:¬(xs.length:P)=ys.length:=by omega
  have:xs≠ys:=fun e=>hl (by rw[e])
  simp_all
theorem dt{xs:N X7}{l:P}(h0:0≤l)(h1:l≤1048576)(hx:xs.length≤maxLen):∃r,J8 xs l=G r∧(0≤r→r≤l∧xs.length≤1048576):=by
 unfold J8;rw[AA] at hx
 rw[Aj (by omega) (by omega)];by_cases h:l - (xs.length:P)<0
 ·exact⟨-1,by simp[h],by omega⟩
 ·exact⟨l - xs.length,by simp[h],by omega⟩
def Cv(p:X1)(x:X7):Q:=decide (x.Segment=p.Segment)&&decide ((if p.Start<x.From then x.From else p.Start)<(if x.To<p.End then x.To else p.End))
theorem XI{α:Type}{L:U→P→O Q}(xs:N α)(p:α→Q)(hl:xs.length≤maxLen)
  (hs:∀(n i:U) (h:i<xs.length),L (n+1) (i:P)=if p xs[i]=T then G T else L n (IntKind.i64.wrap ((i:P)+1))) (he:∀n,L (n+1) (xs.length:P)=G E):L bigN 0=G (xs.any p):=by
 have key:∀(k i n:U),i+k=xs.length→k<n→L n (i:P)=G ((xs.drop i).any p):=by
  intro k
  induction k with
  | zero=>
   intro i n hi hn;obtain⟨m,rfl⟩:∃m,n=m+1:=⟨n - 1,by omega⟩;have:i=xs.length:=by omega
   subst this;rw[he]; simp
  | succ k ih=>
   intro i n hi hn;obtain⟨m,rfl⟩:∃m,n=m+1:=⟨n - 1,by omega⟩;have hlt:i<xs.length:=by omega
   rw[hs m i hlt,An hlt hl,ih (i+1) m (by omega) (by omega),B hlt,List.any_cons];cases p xs[i]<;>simp
 have:=key xs.length 0 bigN (by omega) (Bm hl);simpa using this
theorem as_{α:Type}{L:U→P→O P}(xs:N α)(p:α→Q)(hl:xs.length≤maxLen)
  (hs:∀(n i:U) (h:i<xs.length),L (n+1) (i:P)=if p xs[i]=T then G (i:P) else L n (IntKind.i64.wrap ((i:P)+1))) (he:∀n,L (n+1) (xs.length:P)=G (-1)) :
  ∃r,L bigN 0=G r∧decide (0≤r)=xs.any p:=by
 have key:∀(k i n:U),i+k=xs.length→k<n→∃r,L n (i:P)=G r∧decide (0≤r)=(xs.drop i).any p:=by
  intro k
  induction k with
  | zero=>
   intro i n hi hn;obtain⟨m,rfl⟩:∃m,n=m+1:=⟨n - 1,by omega⟩;have:i=xs.length:=by omega
   subst this;exact⟨-1,he m,by simp⟩
  | succ k ih=>
   intro i n hi hn;obtain⟨m,rfl⟩:∃m,n=m+1:=⟨n - 1,by omega⟩;have hlt:i<xs.length:=by omega
   obtain⟨r,h1,h2⟩:=ih (i+1) m (by omega) (by omega);rw[hs m i hlt,An hlt hl,B hlt,List.any_cons];cases p xs[i] with
   | true=>exact⟨i,by simp,by simp⟩
   | false=>exact⟨r,by simpa using h1,by simp[h2]⟩
 have:=key xs.length 0 bigN (by omega) (Bm hl);simpa using this
theorem A3e{p:X1}{l:N X7}(h:l.length≤maxLen):Rt p l=G (l.any (Cv p)):=by
 refine XI (L:=H9 l p) l (Cv p) h (fun n i hi=> ?_) (fun n=>by simp[H9]);simp only[H9,Af hi,V,Ae,hi,decide_true,if_true,Cv];by_cases h1:l[i].Segment=p.Segment<;>simp[h1]
theorem wB(x:X7)(p:X1):KT x p=G (Cv p x):=by
 unfold KT Cv
 have e1:(if x.From<p.Start then p.Start else x.From)=(if p.Start<x.From then x.From else p.Start):=by
  split<;>split<;>omega
 have e2:(if p.End<x.To then p.End else x.To)=(if x.To<p.End then x.To else p.End):=by
  split<;>split<;>omega
 rw[e1,e2];by_cases h1:x.Segment=p.Segment<;>simp[h1]
theorem vn{p:X1}{l:N X7}(h:l.length≤maxLen):N5 p l=G (l.any (Cv p)):=by
 obtain⟨r,h1,h2⟩:=as_ (L:=Ji (fun z0=>KT z0 p) l) l (Cv p) h (fun n i hi=>by
  simp only[Ji,Af hi,V,Ae,hi,decide_true,if_true,wB]) (fun n=>by simp[Ji])
 simp only[N5,Rl,Rn,h1,V,h2]
def CO(o:X0)(l:N X7):Q:=o.Passages.any fun p=>l.any (Cv p)
theorem dI{o:X0}{l:N X7}(h1:o.Passages.length≤maxLen)(h2:l.length≤maxLen):Rw o l=G (CO o l):=
 XI (L:=JH l o) o.Passages (fun p=>l.any (Cv p)) h1 (fun n i hi=>by
  simp only[JH,Af hi,V,Ae,hi,decide_true,if_true,A3e h2]) (fun n=>by simp[JH])
theorem UJ{o:X0}{l:N X7}(h1:o.Passages.length≤maxLen)(h2:l.length≤maxLen):GT o l=G (CO o l):=by
 obtain⟨r,e1,e2⟩:=as_ (L:=Jk (fun z0=>Nl z0 l) o.Passages) o.Passages (fun p=>l.any (Cv p)) h1 (fun n i hi=>by
  simp only[Jk,Af hi,V,Ae,hi,decide_true,if_true,Nl,vn h2]) (fun n=>by simp[Jk])
 simp only[GT,Rm,Rp,e1,V,e2,CO]
def MP(c:X3)(x:X7):Q:=idx x.Segment c.Segments.length&&(decide (0≤x.From)&&(decide (x.From<x.To)&&decide (x.To≤2880)))
def Fu(c:X3)(l:N X7):Q:=AH c&&(decide (l.length≤4)&&l.all (MP c))
theorem Y6{c:X3}(h:AH c=T):c.Segments.length≤1000:=by
 simp only[AH,Bool.and_eq_true,decide_eq_true_eq] at h;omega
theorem xa(i:P){n:U}(h:n≤1000):Az i 0 (IntKind.i64.wrap ((n:P) - 1))=G (idx i n):=by rw[By,UL i h]
theorem xB(i:P)(n:U):Bv i (n:P)=G (idx i n):=JY i n
theorem nf(b:Q)(f t:P)(K:O Q) :
  (if b=T then(if(decide (0≤f)&&decide (f≤2880))=T then(if decide (t≤f)=T then G E else if decide (2880<t)=T then G E else K) else G E) else G E) =
   if(b&&(decide (0≤f)&&(decide (f<t)&&decide (t≤2880))))=T then K else G E:=by
 cases b
 ·rfl
 ·have e1:decide (t≤f)= !decide (f<t):=by rw[Y]; simp
  have e2:decide (2880<t)= !decide (t≤2880):=by rw[Y]; simp
  rw[e1,e2];by_cases a:f≤2880
  ·rw[show decide (f≤2880)=T from decide_eq_true a];cases decide (0≤f)<;>cases decide (f<t)<;>cases decide (t≤2880)<;>rfl
  ·have e4:(decide (f<t)&&decide (t≤2880))=E:=by
    rw[Bool.and_eq_false_iff];simp only[decide_eq_false_iff_not];omega
   rw[e4,show decide (f≤2880)=E from decide_eq_false a];cases decide (0≤f)<;>rfl
theorem nd(b:Q)(f t:P)(K:O Q) :
  (if b=T then(if decide (f<0)=T then G E else(if decide (t≤f)=T then G E else if decide (2880<t)=T then G E else K)) else G E) =
   if(b&&(decide (0≤f)&&(decide (f<t)&&decide (t≤2880))))=T then K else G E:=by
 cases b
 ·rfl
 ·have e1:decide (t≤f)= !decide (f<t):=by rw[Y]; simp
  have e2:decide (2880<t)= !decide (t≤2880):=by rw[Y]; simp
  have e3:decide (f<0)= !decide (0≤f):=by rw[Y]; simp
  rw[e1,e2,e3];cases decide (0≤f)<;>cases decide (f<t)<;>cases decide (t≤2880)<;>rfl
theorem Q8{c:X3}{l:N X7}(hn:∀x∈c.Points,x.Name.length≤maxLen):LA c l=G (Fu c l):=by
 unfold LA Fu;rw[DB hn,V];cases hc:AH c with
 | false=>rfl
 | true=>
  have hs:=Y6 hc;by_cases h1:l.length≤4
  ·have h1':¬(4:P)<l.length:=by omega
   rw[E5 (L:=Jr l c) l (MP c) (by rw[AA]; omega) (fun n i hi=> ?_) (fun n=>by simp[Jr])]
   ·simp[h1,h1']
   ·simp only[Jr,Ak,C hi,V,Ae,hi,decide_true,if_true,xa _ hs,By,MP];exact nf _ _ _ _
  ·have h1':(4:P)<l.length:=by omega
   simp[h1,h1']
theorem M4{c:X3}{l:N X7}(hn:∀x∈c.Points,x.Name.length≤maxLen):GN c l=G (Fu c l):=by
 unfold GN Fu;rw[EW hn,V];cases hc:AH c with
 | false=>rfl
 | true=>
  have hs:=Y6 hc;by_cases h1:l.length≤4
  ·have h1':¬(4:P)<l.length:=by omega
   rw[E5 (L:=Io l c) l (MP c) (by rw[AA]; omega) (fun n i hi=> ?_) (fun n=>by simp[Io])]
   ·simp[h1,h1']
   ·simp only[Io,Ak,C hi,V,Ae,hi,decide_true,if_true,xB,MP];exact nd _ _ _ _
  ·have h1':(4:P)<l.length:=by omega
   simp[h1,h1']
theorem YG{α:Type}{F:U→P→O P}(l:N α)(p:α→Q)(hl:l.length≤maxLen)
  (hs:∀(n i:U) (h:i<l.length),F (n+1) (i:P)=if p l[i]=T then G (i:P) else F n (IntKind.i64.wrap ((i:P)+1))) (he:∀n,F (n+1) (l.length:P)=G (-1)) :
  (F bigN 0=G (-1)∧∀x∈l,p x=E)∨∃(k:U) (h:k<l.length),F bigN 0=G (k:P)∧p l[k]=T∧∀j (hj:j<k),p l[j]=E:=by
 have key:∀(d i n:U),i+d=l.length→d<n→(∀j (hj:j<l.length),j<i→p l[j]=E)→(F n (i:P)=G (-1)∧∀x∈l,p x=E)∨∃(k:U) (h:k<l.length),F n (i:P)=G (k:P)∧p l[k]=T∧∀j (hj:j<k),p l[j]=E:=by
  intro d
  induction d with
  | zero=>
   intro i n hi hn H;obtain⟨q,rfl⟩:=sn (n:=n) (by omega);have:i=l.length:=by omega
   subst this;refine .inl ⟨he q,fun x hx=> ?_⟩;obtain⟨j,hj,rfl⟩:=List.getElem_of_mem hx;exact H j hj hj
  | succ d ih=>
   intro i n hi hn H;obtain⟨q,rfl⟩:=sn (n:=n) (by omega);have hlt:i<l.length:=by omega
   rw[hs q i hlt];cases hp:p l[i] with
   | true=>exact .inr ⟨i,hlt,by simp,hp,fun j hj=>H j (by omega) hj⟩
   | false=>
    simp only[X,if_false];rw[An hlt hl];refine ih (i+1) q (by omega) (by omega) fun j hj hji=> ?_
    by_cases h:j=i
    ·subst h; exact hp
    ·exact H j hj (by omega)
 exact key l.length 0 bigN (by omega) (Bm hl) fun j _ hj=>absurd hj (by omega)
theorem I2{α:Type}{p:α→Q}{l:N α}{j:U}(h:j<l.length):(l.take (j+1)).filter p=(l.take j).filter p++(if p l[j]=T then [l[j]] else []):=by
 rw[Z h,List.filter_append];congr 1
 cases hp:p l[j]<;>simp[hp]
theorem Yn{l:N X0}{a:X0→O Q}{p:X0→Q}(hl:l.length≤1000)(ha:∀x∈l,a x=G (p x)):Om l a=G (l.filter fun x=> !p x):=by
 have e0:=YG (F:=Jj a l) l p (Ah (by omega)) (fun n i h=>by
  rw[Jj];simp only[Ae,h,decide_true,if_true,Af h,V,ha _ (List.getElem_mem h)]) fun n=>by simp[Jj]
 unfold Om Ro;rcases e0 with ⟨e,h⟩|⟨k,hk,e,h,h0⟩
 ·rw[e,V];have:(l.filter fun x=> !p x)=l:=List.filter_eq_self.2 fun x hx=>by simp[h x hx]
  rw[this]; rfl
 ·rw[e,V];have hne:(((k:U):P)==(-1:P))=E:=by simp
  rw[hne];simp only[X,if_false]
  have key:∀(d j n i:U) (v:N X0),j+d=l.length→d<n→i≤j→v.length=l.length→v.take i=(l.take j).filter (fun x=> !p x)→v.drop j=l.drop j→
    H6 a n (i:P) (j:P) v=G (l.filter fun x=> !p x):=by
   intro d
   induction d with
   | zero=>
    intro j n i v hj hn hij hv h1 h2;obtain⟨q,rfl⟩:=sn (n:=n) (by omega);have:j=l.length:=by omega
    subst this;rw[List.take_length] at h1
    rw[H6]
    have b1:bnd (v.length:P) (v.length:P) (i:P) v.length=G (i,v.length):=by
     unfold bnd; rw[if_pos ⟨by omega,by omega,by omega,by omega⟩]; simp
    have hl2:(v.take i++List.replicate (v.length - i) (⟨(0:P),(0:P),(0:P),([]:N X1)⟩:X0)).length=v.length:=by simp; omega
    have b2:bnd (v.length:P) (i:P) 0 v.length=G (0,i):=E7 (by omega);simp only[hv,Ae,Nat.lt_irrefl,decide_false,X,if_false];rw[← hv,b1,V,hl2,b2,V];rw[List.take_append_of_le_length (by simp; omega),List.take_take,Nat.min_self,h1]
   | succ d ih=>
    intro j n i v hj hn hij hv h1 h2;obtain⟨q,rfl⟩:=sn (n:=n) (by omega);have hlt:j<l.length:=by omega
    have hlv:j<v.length:=by omega
    have hvj:v[j]=l[j]:=by
     have:=congrArg (fun z=>z[0]?) h2;simpa[hlv,hlt] using this
    have hd1:v.drop (j+1)=l.drop (j+1):=by
     have:=congrArg (List.drop 1) h2;simpa[List.drop_drop] using this
    rw[H6];simp only[hv,Ae,hlt,decide_true,if_true,Af hlv,hvj,V,ha _ (List.getElem_mem hlt)];cases hp:p l[j] with
    | true=>
     simp only[if_true,Lu];rw[An hlt (Ah (by omega))];exact ih (j+1) q i v (by omega) (by omega) (by omega) hv (by rw[I2 hlt,hp,h1]; simp) hd1
    | false=>
     have hiv:i<v.length:=by omega
     simp only[X,if_false,Lu,Af hiv,V,W];rw[An hlt (Ah (by omega)),An hiv (Ah (by omega))];refine ih (j+1) q (i+1) _ (by omega) (by omega) (by omega) (by simpa using hv) ?_ ?_
     ·rw[I2 hlt,hp];have hset:i<(v.set i l[j]).length:=by simpa using hiv
      rw[Z hset];rw[List.take_set_of_le (Nat.le_refl i),h1];simp
     ·rw[List.drop_set_of_lt (by omega)];exact hd1
  have hw:=An hk (Ah (by omega));rw[hw];refine key (l.length - (k+1)) (k+1) bigN k l (by omega) (Bm (Ah (by omega))) (by omega) rfl ?_ rfl;rw[I2 hk,h];simp only[Bool.not_true,X,if_false,List.append_nil];refine(List.filter_eq_self.2 fun x hx=> ?_).symm;obtain⟨j,hj,rfl⟩:=List.getElem_of_mem hx;have hjk:j<k:=by simp at hj; omega
  simp[h0 j hjk]
end Go.Vi
