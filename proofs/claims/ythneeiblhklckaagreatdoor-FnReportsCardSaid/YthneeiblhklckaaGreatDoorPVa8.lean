/-
Plain law of covers. No condition.
-/
import Derived.Test.YthneeiblhklckaaGreatDoorPVi33
import Derived.Test.YthneeiblhklckaaGreatDoorPNf
import Derived.KernelRfl
namespace Go.Vi
open Option renaming bind_some → W, some → G
open Bool renaming and_eq_true → X, false_eq_true → zA, eq_iff_iff → zK, true_and → zT, or_eq_true → yJ, true → F, false → E
open List renaming getElem?_eq_getElem → Y, range → I, getElem_mem → zB, replicate → zE, getElem?_set_ne → zH, getElem?_set_self → zI, all_eq_true → zJ, range' → zL, mem_range → zO, length_singleton → zP, length_append → zX, getElem_set_self → zZ, foldr_cons → yA, getElem_of_mem → yC, getElem?_map → yG, range'_succ → yH
open Int renaming tdiv → Z, tdiv_eq_ediv_of_nonneg → C, tmod_eq_emod_of_nonneg → zC, toNat_natCast → zD, ediv_nonneg → zV, mul_le_mul_of_nonneg_right → yB, emod_lt_of_pos → yE, emod_nonneg → yK, mul_le_mul → yL, tmod → yM
open Nat renaming mod_two_eq_zero_or_one → zF, lt_trans → zG, lt_or_ge → zM, testBit_or → zN, pow_le_pow_right → zQ, eq_of_testBit_eq → zR, pow_lt_pow_right → zS, testBit_and → zU, lt_of_lt_of_le → zW, or_lt_two_pow → zY, mul_le_mul → yD, lt_of_le_of_lt → yF, and_div_two → yI
open IntKind renaming wrap → yN
open _root_ renaming List → H, Option → O, Int → P, Bool → Q, Nat → U, UInt8 → V
theorem sn{n:U}(h:0<n):∃q,n=q+1:=⟨n - 1,by omega⟩
set_option linter.all false
def Av(a b:U):U:=a ^^^ (a &&& b)
theorem Ej(a b i:U):(Av a b).testBit i=(a.testBit i&& !b.testBit i):=by
 simp only[Av,Nat.testBit_xor,zU];cases a.testBit i<;>cases b.testBit i<;>rfl
theorem HG(n i:U):(2 ^ n).testBit i=decide (n=i):=Nat.testBit_two_pow
theorem G8{s n i:U}(h:s<2 ^ n)(hi:s.testBit i=F):i<n:=by
 rcases zM i n with h1|h1
 ·exact h1
 ·have:s<2 ^ i:=zW h (zQ (by omega) h1);rw[Nat.testBit_lt_two_pow this] at hi
  cases hi
theorem qB{s i:U}(hi:s.testBit i=F):i<s:=G8 Nat.lt_two_pow_self hi
theorem TQ(p:U→Q):∀k:U,∃q:U,∀i,q.testBit i=(decide (i<k)&&p i)
 | 0=>⟨0,fun i=>by simp⟩
 | k+1=>by
  obtain⟨q,hq⟩:=TQ p k;refine⟨q ||| (if p k then 2 ^ k else 0),fun i=> ?_⟩;rw[zN,hq];by_cases hp:p k=F
  ·rw[if_pos hp,HG];by_cases h:k=i
   ·subst h; simp[hp]
   ·have:decide (i<k+1)=decide (i<k):=by simp; omega
    simp[h,this]
  ·rw[if_neg hp,Nat.zero_testBit];by_cases h:k=i
   ·subst h; simp[hp]
   ·have:decide (i<k+1)=decide (i<k):=by simp; omega
    simp[this]
theorem pk{q r:U}(h:q &&& r=q){i:U}(hi:q.testBit i=F):r.testBit i=F:=by
 have:=congrArg (fun x=>x.testBit i) h;simp only[zU,hi,zT] at this
 exact this
theorem PP{q r:U}(h:∀i,q.testBit i=F→r.testBit i=F):q &&& r=q:=by
 apply zR
 intro i;rw[zU];cases hq:q.testBit i with
 | false=>rfl
 | true=>rw[h i hq]; rfl
theorem mI:∀(n r p q:U),r≤n→p &&& r=p→q &&& r=q→q<p→q≤(p - 1) &&& r:=by
 intro n
 induction n with
 | zero=>
  intro r p q hr hp hq hlt;have:r=0:=by omega
  subst this;rw[Nat.and_zero] at hp hq
  omega
 | succ n ih=>
  intro r p q hr hp hq hlt;by_cases h0:r=0
  ·subst h0;rw[Nat.and_zero] at hp hq
   omega
  have hp2:(p / 2) &&& (r / 2)=p / 2:=by rw[← yI,hp]
  have hq2:(q / 2) &&& (r / 2)=q / 2:=by rw[← yI,hq]
  have e2:∀a b:U,(a &&& b) % 2=(a % 2)*(b % 2):=fun a b=>by
   have h:=zU a b 0;simp only[Nat.testBit_zero] at h;rcases zF a with ha|ha<;>rcases zF b with hb|hb<;>rcases zF (a &&& b) with hc|hc<;>simp_all
  have hpm:=e2 p r;have hqm:=e2 q r;rw[hp] at hpm
  rw[hq] at hqm
  have hd:((p - 1) &&& r) / 2=((p - 1) / 2) &&& (r / 2):=yI;have hm:=e2 (p - 1) r;rcases zF p with h1|h1
  ·-- an even one
   have i1:=ih (r / 2) (p / 2) (q / 2) (by omega) hp2 hq2 (by omega);have e3:(p - 1) / 2=p / 2 - 1:=by omega
   rw[e3] at hd
   have e4:(p - 1) % 2=1:=by omega
   rw[e4,Nat.one_mul] at hm
   have hqr:q % 2≤r % 2:=by
    rcases zF q with h2|h2
    ·omega
    ·rw[h2,Nat.one_mul] at hqm; omega
   omega
  ·have e3:(p - 1) / 2=p / 2:=by omega
   rw[e3,hp2] at hd
   omega
theorem YE{p r:U}(h:0<p):(p - 1) &&& r<p:=by
 have:= @Nat.and_le_left (p - 1) r;omega
theorem YF(p r:U):(p &&& r) &&& r=p &&& r:=by rw[Nat.and_assoc,Nat.and_self]
def Ds(B:U→U→Q)(S m:U):Prop:=∃f:U→U,(∀i,S.testBit i=F→f i<m)∧∀i j,S.testBit i=F→S.testBit j=F→i≠j→f i=f j→B i j=F
def Em(B:U→U→Q)(S:U):Prop:=∀i j,S.testBit i=F→S.testBit j=F→i≠j→B i j=F
def Dt(B:U→U→Q)(S n:U):Prop:=Ds B S n∧∀m,Ds B S m→n≤m
theorem MB{B:U→U→Q}{S n:U}(h:S<2 ^ n):Ds B S n:=⟨id,fun i hi=>G8 h hi,fun i j _ _ hne e=>absurd e hne⟩
theorem ku{B:U→U→Q}:Dt B 0 0:=⟨⟨id,fun i hi=>by simp at hi,fun i j hi=>by simp at hi⟩,fun m _=>Nat.zero_le m⟩
theorem aZ{B:U→U→Q}{S t rest q n:U}(hS:∀i,S.testBit i=F→i=t∨rest.testBit i=F)(hq:Em B (q ||| 2 ^ t))(h:Ds B (Av rest q) n):Ds B S (1+n):=by
 obtain⟨f,f1,f2⟩:=h
 have key:∀i,S.testBit i=F→(i=t∨q.testBit i=F)∨(Av rest q).testBit i=F:=fun i hi=>by
  rcases hS i hi with h|h
  ·exact .inl (.inl h)
  ·cases hb:q.testBit i with
   | true=>exact .inl (.inr rfl)
   | false=>right; rw[Ej,h,hb]; rfl
 have hin:∀i,(i=t∨q.testBit i=F)→(q ||| 2 ^ t).testBit i=F:=fun i hi=>by
  rw[zN,HG];rcases hi with h|h
  ·simp[h]
  ·simp[h]
 refine⟨fun i=>if i=t∨q.testBit i=F then n else f i,fun i hi=> ?_,fun i j hi hj hne e=> ?_⟩
 ·by_cases hx:i=t∨q.testBit i=F
  ·simp only[hx,if_true]; omega
  ·simp only[hx,if_false];rcases key i hi with h|h
   ·exact absurd h hx
   ·have:=f1 i h; omega
 ·by_cases hx:i=t∨q.testBit i=F
  ·by_cases hy:j=t∨q.testBit j=F
   ·exact hq i j (hin i hx) (hin j hy) hne
   ·simp only[hx,hy,if_true,if_false] at e
    have:=f1 j ((key j hj).resolve_left hy);omega
  ·by_cases hy:j=t∨q.testBit j=F
   ·simp only[hx,hy,if_true,if_false] at e
    have:=f1 i ((key i hi).resolve_left hx);omega
   ·simp only[hx,hy,if_false] at e
    exact f2 i j ((key i hi).resolve_left hx) ((key j hj).resolve_left hy) hne e
theorem aa{B:U→U→Q}{S t rest m:U}(hS:S.testBit t=F)(hr:∀i,rest.testBit i=F→S.testBit i=F)(h:Ds B S m):∃q n,q &&& rest=q∧Em B (q ||| 2 ^ t)∧n+1=m∧Ds B (Av rest q) n:=by
 obtain⟨f,f1,f2⟩:=h;obtain⟨q,hq⟩:=TQ (fun i=>rest.testBit i&&decide (f i=f t)) rest
 have hq2:∀i,q.testBit i=F↔rest.testBit i=F∧f i=f t:=fun i=>by
  rw[hq i];constructor
  ·intro h;simp only[X,decide_eq_true_eq] at h;exact h.2
  ·intro⟨h1,h2⟩;simp only[X,decide_eq_true_eq];exact⟨qB h1,h1,h2⟩
 have hm:=f1 t hS;refine⟨q,m - 1,PP fun i hi=>((hq2 i).1 hi).1,fun i j hi hj hne=> ?_,by omega,fun i=>if f i=m - 1 then f t else f i,fun i hi=> ?_,fun i j hi hj hne e=> ?_⟩
 ·have side:∀i,(q ||| 2 ^ t).testBit i=F→S.testBit i=F∧f i=f t:=fun i hi=>by
   rw[zN,HG,yJ,decide_eq_true_eq] at hi
   rcases hi with h|h
   ·exact⟨hr i ((hq2 i).1 h).1,((hq2 i).1 h).2⟩
   ·subst h; exact⟨hS,rfl⟩
  obtain⟨i1,i2⟩:=side i hi;obtain⟨j1,j2⟩:=side j hj;exact f2 i j i1 j1 hne (i2.trans j2.symm)
 ·rw[Ej,X] at hi
  have hne:f i≠f t:=fun e=>by
   have:=(hq2 i).2 ⟨hi.1,e⟩;rw[this] at hi
   simp at hi
  have:=f1 i (hr i hi.1);show(if f i=m - 1 then f t else f i)<m - 1
  split<;>omega
 ·rw[Ej,X] at hi hj
  have hni:f i≠f t:=fun e=>by
   have:=(hq2 i).2 ⟨hi.1,e⟩;rw[this] at hi
   simp at hi
  have hnj:f j≠f t:=fun e=>by
   have:=(hq2 j).2 ⟨hj.1,e⟩;rw[this] at hj
   simp at hj
  have e2:f i=f j:=by
   have e:(if f i=m - 1 then f t else f i)=(if f j=m - 1 then f t else f j):=e;split at e<;>split at e<;>omega
  exact f2 i j (hr i hi.1) (hr j hj.1) hne e2
theorem CS(n lo hi:P):Bx n lo hi=G (decide (lo≤n)&&decide (n≤hi)):=by
 unfold Bx;by_cases h:lo≤n<;>simp[h]
theorem PJ{n bytes:U}(h:n≤1048576)(hb:bytes≤1000):BT (n:P) (n:P) bytes=G n:=by
 unfold BT
 have:(n:P)*(bytes:P)≤140737488355328:=by
  have:n*bytes≤1048576*1000:=yD h hb;have e:((n*bytes:U):P)=(n:P)*(bytes:P):=by simp
  omega
 rw[if_pos ⟨by omega,by omega,this,by omega⟩];simp
theorem FU(n:P):CI n=G (decide (0≤n)&&decide (n≤2880)):=by simp[CI,CS]
theorem Si{len:U}(p:U→Q)(K:O Q):∀(k i:U),(zL i k).foldr (fun i r=>if p i=F then r else G E) K=if(zL i k).all p=F then K else G E
 | 0,i=>by simp
 | k+1,i=>by
  rw[yH,yA,Si (len:=len) p K k (i+1),List.all_cons];cases p i<;>rfl
theorem Sj{len:U}(p:U→Q)(K:O Q):∀(k i:U),(zL i k).foldr (fun i r=>if p i=F then G E else r) K=if(zL i k).any p=F then G E else K
 | 0,i=>by simp
 | k+1,i=>by
  rw[yH,yA,Sj (len:=len) p K k (i+1),List.any_cons];cases p i<;>rfl
theorem Mi{L:U→P→O Q}(len:U)(p:U→Q)(K:O Q)(hl:len≤maxLen)
  (hs:∀(n i:U),i<len→L (n+1) (i:P)=if p i=F then L n (yN .i64 ((i:P)+1)) else G E) (he:∀n,L (n+1) (len:P)=K):L bigN 0=if(I len).all p=F then K else G E:=by
 have:=LJ L len hl (fun i r=>if p i=F then r else G E) K hs he len 0 bigN (by omega) (Al hl);rw[Si (len:=len),← List.range_eq_range'] at this
 exact this
theorem YI{L:U→P→O Q}(len:U)(p:U→Q)(K:O Q)(hl:len≤maxLen)
  (hs:∀(n i:U),i<len→L (n+1) (i:P)=if p i=F then G E else L n (yN .i64 ((i:P)+1))) (he:∀n,L (n+1) (len:P)=K):L bigN 0=if(I len).any p=F then G E else K:=by
 have:=LJ L len hl (fun i r=>if p i=F then G E else r) K hs he len 0 bigN (by omega) (Al hl);rw[Sj (len:=len),← List.range_eq_range'] at this
 exact this
def NP(s:H V)(i:U):Q:=match s[i]? with
 | some b=>(decide (97≤(b.toNat:P))&&decide ((b.toNat:P)≤122)) || (!(decide (i=0))&&(decide (48≤(b.toNat:P))&&decide ((b.toNat:P)≤57)))
 | none=>E
def PK(s:H V):Q:=decide (1≤(s.length:P))&&decide ((s.length:P)≤8)
def Dk(s:H V):Q:=PK s&&(I s.length).all (NP s)
theorem mP(c:P)(K:O Q)(z':Q)(z:P)(i:U)(hz:z=(i:P)) :
  (if decide (97≤c)=F then(if decide (c≤122)=F then K else if(z==0)=F then G E else if decide (c<48)=F then G E else if decide (57<c)=F then G E else K)
   else if E=F then K else if(z==0)=F then G E else if decide (c<48)=F then G E else if decide (57<c)=F then G E else K) =
  if((decide (97≤c)&&decide (c≤122)) || (!(decide (i=0))&&(decide (48≤c)&&decide (c≤57))))=F then K else G E:=by
 subst hz;have e0:(((i:U):P)==0)=decide (i=0):=by rw[zK]; simp
 have e1:decide (c<48)= !decide (48≤c):=by rw[zK]; simp
 have e2:decide (57<c)= !decide (c≤57):=by rw[zK]; simp
 rw[e0,e1,e2];cases decide (i=0)<;>cases decide (97≤c)<;>cases decide (c≤122)<;>cases decide (48≤c)<;>cases decide (c≤57)<;>rfl
theorem Td{s:H V}(h:s.length≤maxLen):Ih s=G (Dk s):=by
 unfold Ih;rw[CS];rw[Mi (L:=Fu s) s.length (NP s) (G F) h (fun n i hi=> ?_) (fun n=>by simp[Fu])]
 ·unfold Dk PK;simp only[W];cases(I s.length).all (NP s)<;>cases(decide (1≤(s.length:P))&&decide ((s.length:P)≤8))<;>simp
 ·simp only[Fu,JV,JW,Br,NP,Y hi,W,Ag,hi,decide_true,if_true];exact mP _ _ F (i:P) i rfl
theorem P7{R:Type}(p:U→Q)(f:U→R)(z:R):∀(k i:U),(zL i k).foldr (fun i r=>if p i=F then G (f i) else r) (G z)=G ((zL i k).foldr (fun i r=>if p i=F then f i else r) z)
 | 0,i=>by simp
 | k+1,i=>by
  rw[yH,yA,P7 p f z k (i+1),yA];cases p i<;>simp
def PY(xs:H Xa)(s:H V)(i:U):Q:=match xs[i]? with
 | some x=>decide (x.Name=s)
 | none=>E
def PZ(xs:H Xa)(s:H V):P:=(zL 0 xs.length).foldr (fun i r=>if PY xs s i=F then(i:P) else r) (-1)
theorem ij{c:X5}{s:H V}(h:c.Points.length≤maxLen):Ke c s=G (PZ c.Points s):=by
 unfold Ke;exact(LJ (GQ s c) c.Points.length h (fun i r=>if PY c.Points s i=F then G (i:P) else r) (G (-1)) (fun n i hi=>by simp[GQ,Br,hi,PY]) (fun n=>by simp[GQ]) c.Points.length 0 bigN (by omega) (Al h)).trans (P7 _ _ _ _ _)
def jn(y:X1)(a b:P):Q:=(decide (y.A=a)&&decide (y.B=b)) || (decide (y.A=b)&&decide (y.B=a))
theorem ip(y:X1)(a b:P):Kj y a b=G (jn y a b):=by
 unfold Kj jn;by_cases h1:y.A=a<;>by_cases h2:y.B=b<;>by_cases h3:y.A=b<;>by_cases h4:y.B=a<;>simp_all
theorem Hm(i n:P):B4 i n=G (decide (0≤i)&&decide (i<n)):=by
 unfold B4;by_cases h:0≤i<;>simp[h]
def idx(i:P)(n:U):Q:=decide (0≤i)&&decide (i<(n:P))
def DI(c:X5)(i:U):Q:=match c.Segments[i]? with
 | some x=>idx x.A c.Points.length&&(idx x.B c.Points.length&&(!(decide (x.A=x.B))&&((decide (0≤x.Depth)&&decide (x.Depth≤3000))&&((decide (1≤x.Minutes)&&decide (x.Minutes≤240))&& !((I i).any fun j=>match c.Segments[j]? with | some y=>jn y x.A x.B | none=>E)))))
 | none=>E
def Ja(c:X5)(i:U):Q:=match c.Points[i]? with
 | some x=>Dk x.Name&&decide (PZ c.Points x.Name=(i:P))
 | none=>E
def AH(c:X5):Q:=decide (c.Points.length≤8)&&(decide (c.Segments.length≤10)&&((I c.Points.length).all (Ja c)&&(I c.Segments.length).all (DI c)))
theorem Eu{n i:U}(h:i≤n):bnd (n:P) (i:P) (0:P) n=G (0,i):=by
 unfold bnd;rw[if_pos ⟨by omega,by omega,by omega,by omega⟩];simp
theorem pw{α:Type}{l:H α}{i j:U}(hj:j<i):(l.take i)[j]?=l[j]?:=by simp[List.getElem?_take,hj]
theorem D4{c:X5}(hn:∀x∈c.Points,x.Name.length≤maxLen):CH c=G (AH c):=by
 unfold CH AH;by_cases h1:c.Points.length≤8
 ·have h1':¬(8:P)<c.Points.length:=by omega
  by_cases h2:c.Segments.length≤10
  ·have h2':¬(10:P)<c.Segments.length:=by omega
   have hp:c.Points.length≤maxLen:=by rw[Bj]; omega
   have hs:c.Segments.length≤maxLen:=by rw[Bj]; omega
   have inner:DU c bigN 0=G ((I c.Segments.length).all (DI c)):=by
    rw[Mi (L:=DU c) c.Segments.length (DI c) (G F) hs (fun n i hi=> ?_) (fun n=>by simp[DU])]
    ·cases(I c.Segments.length).all (DI c)<;>rfl
    ·simp only[DU,Br,Y hi,W,Ag,hi,decide_true,if_true,CS,Hm,show ∀(a:P) (n:U),(decide (0≤a)&&decide (a<(n:P)))=idx a n from fun _ _=>rfl,Eu (Nat.le_of_lt hi),DI,List.drop_zero,Nat.sub_zero];have hl:(c.Segments.take i).length=i:=by simp; omega
     rw[hl]
     rw[YI (L:=Gs c i c.Segments[i] (c.Segments.take i) (i:P) (DU c n)) i (fun j=>match c.Segments[j]? with | some y=>jn y c.Segments[i].A c.Segments[i].B | none=>E)
      (DU c n (yN .i64 ((i:P)+1))) (by omega) (fun m j hj=>by
       have hj2:j<c.Segments.length:=by omega
       simp only[Gs,Br,pw hj,Y hj2,W,Ag,hj,decide_true,if_true,ip]) (fun m=>by simp[Gs])]
     have e:(c.Segments[i].A==c.Segments[i].B)=decide (c.Segments[i].A=c.Segments[i].B):=rfl;rw[e]
     cases idx c.Segments[i].A c.Points.length<;>cases idx c.Segments[i].B c.Points.length<;>cases decide (c.Segments[i].A=c.Segments[i].B)<;>cases(decide (0≤c.Segments[i].Depth)&&decide (c.Segments[i].Depth≤3000)) <;>
      cases(decide (1≤c.Segments[i].Minutes)&&decide (c.Segments[i].Minutes≤240))<;>cases((I i).any fun j=>match c.Segments[j]? with | some y=>jn y c.Segments[i].A c.Segments[i].B | none=>E)<;>rfl
   rw[Mi (L:=Gr c) c.Points.length (Ja c) _ hp (fun n i hi=> ?_) (fun n=>by simp only[Gr,Int.lt_irrefl,decide_false,zA,if_false]; exact inner)]
   ·simp only[h1,h2,h1',h2',decide_true,decide_false,zT,zA,if_false];cases(I c.Points.length).all (Ja c)<;>rfl
   ·simp only[Gr,Br,Y hi,W,Ag,hi,decide_true,if_true,Td (hn _ (zB hi)),ij hp,Ja];by_cases e:PZ c.Points c.Points[i].Name=(i:P)<;>cases Dk c.Points[i].Name<;>simp[e]
  ·have h2':(10:P)<c.Segments.length:=by omega
   simp[h1,h1',h2,h2']
 ·have h1':(8:P)<c.Points.length:=by omega
  simp[h1,h1']
theorem LA{s:H V}(h:Dk s=F):1≤s.length∧s.length≤8:=by
 simp only[Dk,PK,X,decide_eq_true_eq] at h;omega
def BO(s:X9):Q:=Dk s.Name&&((decide (10≤s.Length)&&decide (s.Length≤400))&&((decide (100≤s.Draught)&&decide (s.Draught≤2000))&&((decide (0≤s.Line)&&decide (s.Line≤3))&&(decide (0≤s.Tugs)&&decide (s.Tugs≤4)))))
theorem iZ(a b:Q):(if a=F then G b else G E)=G (a&&b):=by cases a<;>rfl
theorem Hj{s:X9}(h:s.Name.length≤maxLen):Dw s=G (BO s):=by
 have e:(decide (0≤s.Line)&&decide (s.Line<4))=(decide (0≤s.Line)&&decide (s.Line≤3)):=by
  congr 1
  rw[zK]; simp; omega
 simp only[Dw,Td h,CS,Hm,W,iZ,BO,e]
theorem Q7{s:X9}(h:BO s=F):Dk s.Name=F∧i64 s.Length∧i64 s.Draught∧i64 s.Line∧i64 s.Tugs:=by
 simp only[BO,X,decide_eq_true_eq] at h;unfold i64;exact⟨h.1,by omega,by omega,by omega,by omega⟩
def F6(xs:H X9)(s:H V)(i:U):Q:=match xs[i]? with
 | some x=>decide (x.Name=s)
 | none=>E
def Ei(xs:H X9)(s:H V):P:=(zL 0 xs.length).foldr (fun i r=>if F6 xs s i=F then(i:P) else r) (-1)
theorem ik{xs:H X9}{s:H V}(h:xs.length≤maxLen):Km xs s=G (Ei xs s):=by
 unfold Km;exact(LJ (GU s xs) xs.length h (fun i r=>if F6 xs s i=F then G (i:P) else r) (G (-1)) (fun n i hi=>by simp[GU,Br,hi,F6]) (fun n=>by simp[GU]) xs.length 0 bigN (by omega) (Al h)).trans (P7 _ _ _ _ _)
def L5(xs:H X9)(i:U):Q:=match xs[i]? with
 | some x=>BO x&&decide (Ei xs x.Name=(i:P))
 | none=>E
def E6(xs:H X9):Q:=decide (xs.length≤6)&&(I xs.length).all (L5 xs)
theorem Rr(a b:P):(a !=b)= !decide (a=b):=rfl
theorem Tc{xs:H X9}(hn:∀x∈xs,x.Name.length≤maxLen):Ig xs=G (E6 xs):=by
 unfold Ig E6;by_cases h:xs.length≤6
 ·have h':¬(6:P)<xs.length:=by omega
  have hm:xs.length≤maxLen:=by rw[Bj]; omega
  simp only[h,h',decide_true,decide_false,zA,if_false,zT];refine YB (L:=GB xs) xs.length (L5 xs) hm (fun n i hi=> ?_) (fun n=>by simp[GB]);simp only[GB,Ag,hi,decide_true,if_true,Ad hi,W,Hj (hn _ (zB hi)),ik hm,L5,Y hi,Rr];cases BO xs[i]<;>by_cases e:Ei xs xs[i].Name=(i:P)<;>simp[e]
 ·have h':(6:P)<xs.length:=by omega
  simp[h,h']
theorem FR{xs:H X9}(h:E6 xs=F):xs.length≤6∧∀x∈xs,BO x=F:=by
 simp only[E6,X,decide_eq_true_eq,zJ,zO] at h;refine⟨h.1,fun x hx=> ?_⟩;obtain⟨i,hi,rfl⟩:=yC hx;have:=h.2 i hi;simp only[L5,Y hi,X] at this
 exact this.1
def Bk(x:X1)(s:X9):P:=if s.Slow=F then yN .i64 (2*x.Minutes) else x.Minutes
def Q9(c:V):H V→H V→H (H V)
 | cur,[]=> [cur]
 | cur,b::r=>if b=c then cur::Q9 c [] r else Q9 c (cur++ [b]) r
def split(c:V)(s:H V):H (H V):=Q9 c [] s
theorem Lh(x:X1)(s:X9):EI s x=G (Bk x s):=by unfold EI Bk; split<;>rfl
def B6(c:X5)(i:P):X1:=c.Segments[i.toNat]?.getD ⟨0,0,0,0,E⟩
def Bo(l:H X9)(i:P):X9:=l[i.toNat]?.getD ⟨[],0,0,0,0,E⟩
theorem Py{α:Type}{l:H α}{i:P}(d:α)(h:idx i l.length=F):ix l i=G (l[i.toNat]?.getD d)∧l[i.toNat]?.getD d∈l:=by
 simp only[idx,X,decide_eq_true_eq] at h;obtain⟨k,rfl⟩:∃k:U,i=(k:P):=⟨i.toNat,by omega⟩;have hk:k<l.length:=by omega
 have e:l[((k:U):P).toNat]?.getD d=l[k]:=by simp[hk]
 rw[Ad hk,e];exact⟨rfl,zB hk⟩
theorem BS{c:X5}{i:P}(h:idx i c.Segments.length=F):ix c.Segments i=G (B6 c i)∧B6 c i∈c.Segments:=Py _ h
theorem EW{l:H X9}{i:P}(h:idx i l.length=F):ix l i=G (Bo l i)∧Bo l i∈l:=Py _ h
theorem CN(i:P)(n:U):B4 i (n:P)=G (idx i n):=Hm i n
def G1(p:P):Q:=(decide (4≤p)&&decide (p≤2880))&&(yN .i64 (yM p 4)==0)
def Eg(x:Xh):Q:=(decide (0≤x.Amp)&&decide (x.Amp≤1000))&&(G1 x.Period&&(decide (0≤x.Phase)&&decide (x.Phase≤yN .i64 (x.Period - 1))))
def G9(t:Xn):Q:=(decide (-1000≤t.Mean)&&decide (t.Mean≤1000))&&(decide (t.Parts.length≤4)&&t.Parts.all Eg)
theorem Tx(p:P):Iw p=G (G1 p):=by
 simp only[Iw,CS,W,G1];cases(decide (4≤p)&&decide (p≤2880))<;>rfl
theorem ii(x:Xh):K6 x=G (Eg x):=by
 simp only[K6,CS,Tx,W,Eg];cases(decide (0≤x.Amp)&&decide (x.Amp≤1000))<;>cases G1 x.Period<;>rfl
theorem im(t:Xn):Kr t=G (G9 t):=by
 simp only[Kr,CS,W,G9];cases(decide (-1000≤t.Mean)&&decide (t.Mean≤1000)) with
 | false=>rfl
 | true=>
  by_cases h1:t.Parts.length≤4
  ·have h1':¬(4:P)<t.Parts.length:=by omega
   rw[Mh (L:=GW t) t.Parts Eg (by rw[Bj]; omega) (fun n i hi=>by simp only[GW,Br,Y hi,W,Ag,hi,decide_true,if_true,ii]) (fun n=>by simp[GW])];simp[h1,h1']
  ·have h1':(4:P)<t.Parts.length:=by omega
   simp[h1,h1']
def Jh(x p:P):P:=if x<yN .i64 (Z p 2) then
  yN .i64 (Z (yN .i64 (yN .i64 (40000*x)*yN .i64 (yN .i64 (Z p 2) - x))) (yN .i64 (yN .i64 (Z p 2)*yN .i64 (Z p 2))))
 else yN .i64 (0 - yN .i64 (Z (yN .i64 (yN .i64 (40000*yN .i64 (x - yN .i64 (Z p 2)))*yN .i64 (yN .i64 (Z p 2) - yN .i64 (x - yN .i64 (Z p 2))))) (yN .i64 (yN .i64 (Z p 2)*yN .i64 (Z p 2)))))
theorem Ua{p:P}(h:G1 p=F):4≤p∧p≤2880∧yN .i64 (yM p 4)=0:=by
 simp only[G1,X,decide_eq_true_eq,beq_iff_eq] at h;exact⟨h.1.1,h.1.2,h.2⟩
theorem hO{p:P}(h1:4≤p)(h2:p≤2880):(yN .i64 (yN .i64 (Z p 2)*yN .i64 (Z p 2))==0)=E:=by
 have e:Z p 2=p / 2:=C (by omega);rw[e,A8 (n:=p / 2) (by omega) (by omega)];generalize hq:p / 2=q
 have q1:2≤q:=by omega
 have q2:q≤1440:=by omega
 have m1:2*2≤q*q:=yL q1 q1 (by omega) (by omega);have m2:q*q≤1440*1440:=yL q2 q2 (by omega) (by omega);rw[A8 (by omega) (by omega)];simp only[beq_eq_false_iff_ne,ne_eq];omega
theorem io{n p:P}(hp:G1 p=F)(hn:0≤n)(hn2:n≤100000):Kt n p=G (Jh (yM n p) p):=by
 obtain⟨p1,p2,p3⟩:=Ua hp;have hm:yM n p=n % p:=zC hn;have r1:=yK n (show p≠0 by omega);have r2:=yE n (show 0<p by omega);have k3:(p==0)=E:=by simp; omega
 have hmm:yM (n % p+p) p=n % p:=by
  rw[zC (by omega),Int.add_emod_right,Int.emod_emod]
 unfold Kt;rw[Tx,hp,W,hm,A8 (n:=n % p) (by omega) (by omega),A8 (n:=n % p+p) (by omega) (by omega),hmm,A8 (n:=n % p) (by omega) (by omega),hO p1 p2];simp only[k3,zA,if_false,if_true,decide_eq_true_eq];unfold Jh;by_cases hx:n % p<yN .i64 (Z p 2)
 ·rw[if_pos hx,if_neg (by omega)]
 ·rw[if_neg hx,if_pos (by omega)]
def F7(x:Xe):Q:=(decide (0≤x.From)&&decide (x.From≤2880))&&((decide (-500≤x.Low)&&decide (x.Low≤500))&&(decide (x.Low≤x.High)&&decide (x.High≤500)))
theorem il(x:Xe):Kq x=G (F7 x):=by
 simp only[Kq,FU,W,F7];cases(decide (0≤x.From)&&decide (x.From≤2880))
 ·rfl
 ·by_cases a1: -500≤x.Low<;>by_cases a2:x.Low≤x.High<;>by_cases a3:x.High≤500<;>by_cases a4:x.Low≤500<;>simp[a1,a2,a3,a4]
  omega
def Jc(l:H Xe)(i:U):Q:=match l[i]? with
 | some x=>F7 x&&(match i with | 0=>F | j+1=>match l[j]? with | some y=> !(decide (x.From≤y.From)) | none=>E)
 | none=>E
def Qb(l:H Xe):Q:=match l[0]? with
 | some x=>decide (x.From=0)
 | none=>E
def CK(f:Xd):Q:=G9 f.Tide&&((decide (1≤(f.Surges.length:P))&&decide ((f.Surges.length:P)≤6))&&(Qb f.Surges&&(I f.Surges.length).all (Jc f.Surges)))
theorem sg(j:U)(h:j≤1000):yN .i64 (((j+1:U):P) - 1)=(j:P):=by
 rw[A8 (by omega) (by omega)];omega
theorem Nr(f:Xd):EA f=G (CK f):=by
 simp only[EA,im,CS,W,CK];cases G9 f.Tide with
 | false=>rfl
 | true=>
  cases hb:(decide (1≤(f.Surges.length:P))&&decide ((f.Surges.length:P)≤6)) with
  | false=>rfl
  | true=>
   simp only[X,decide_eq_true_eq] at hb
   have h0:0<f.Surges.length:=by omega
   have hl:f.Surges.length≤maxLen:=by rw[Bj]; omega
   rw[Mi (L:=Fq f) f.Surges.length (Jc f.Surges) (G F) hl (fun n i hi=> ?_) (fun n=>by simp[Fq])]
   ·have e0:ix f.Surges 0=G f.Surges[0]:=Ad h0;simp only[e0,W,Qb,Y h0,zT,if_true];by_cases e:f.Surges[0].From=0<;>cases(I f.Surges.length).all (Jc f.Surges)<;>simp[e]
   ·simp only[Fq,Br,Y hi,W,Ag,hi,decide_true,if_true,il,Jc];cases i with
    | zero=>cases F7 f.Surges[0]<;>simp
    | succ j=>
     have hj:j<f.Surges.length:=by omega
     rw[sg j (by omega)];simp only[Br,Y hj,W];have hp:(0:P)<((j+1:U):P):=by omega
     cases F7 f.Surges[j+1]<;>cases decide (f.Surges[j+1].From≤f.Surges[j].From)<;>simp
theorem eI{f:Xd}(h:CK f=F):G9 f.Tide=F∧0<f.Surges.length∧f.Surges.length≤6:=by
 simp only[CK,X,decide_eq_true_eq] at h;refine⟨h.1,?_,?_⟩<;>omega
def Cg(m:P):Q:=decide (0≤m)&&decide (m≤2880)
theorem qC{a b:P}(hb:1≤b){B:P}(h1: -B≤a)(h2:a≤B): -B≤Z a b∧Z a b≤B:=by
 have hB:0≤B:=by omega
 by_cases ha:0≤a
 ·rw[C ha];have:=zV ha (show 0≤b by omega);have:=Int.ediv_le_self b ha;omega
 ·obtain⟨c,rfl⟩:∃c,a= -c:=⟨-a,by omega⟩;rw[Int.neg_tdiv,C (by omega)];have:=zV (show 0≤c by omega) (show 0≤b by omega);have:=Int.ediv_le_self b (show 0≤c by omega);omega
theorem NN{a b A B:P}(a1: -A≤a)(a2:a≤A)(b1: -B≤b)(b2:b≤B): -(A*B)≤a*b∧a*b≤A*B:=by
 have hA:0≤A:=by omega
 have hB:0≤B:=by omega
 have h:(a*b).natAbs≤(A*B).natAbs:=by
  rw[Int.natAbs_mul,Int.natAbs_mul];exact yD (by omega) (by omega)
 have hp:0≤A*B:=Int.mul_nonneg hA hB;omega
theorem sP{x p:P}(h0:0≤x)(hx:x<p)(p1:4≤p)(p2:p≤2880): -200000000000≤Jh x p∧Jh x p≤200000000000:=by
 have e:Z p 2=p / 2:=C (by omega);unfold Jh;rw[e,A8 (n:=p / 2) (by omega) (by omega)];generalize hq:p / 2=q
 have q1:2≤q:=by omega
 have q2:q≤1440:=by omega
 have qq:=NN (a:=q) (b:=q) (A:=1440) (B:=1440) (by omega) (by omega) (by omega) (by omega);have q4:2*2≤q*q:=yL q1 q1 (by omega) (by omega);rw[A8 (n:=q*q) (by omega) (by omega)]
 have key:∀y:P,-3000≤y→y≤3000→ -200000000000≤Z (yN .i64 (yN .i64 (40000*y)*yN .i64 (q - y))) (q*q)∧Z (yN .i64 (yN .i64 (40000*y)*yN .i64 (q - y))) (q*q)≤200000000000*5:=by
  intro y y1 y2;rw[A8 (n:=40000*y) (by omega) (by omega),A8 (n:=q - y) (by omega) (by omega)];have m:=NN (a:=40000*y) (b:=q - y) (A:=120000000) (B:=5000) (by omega) (by omega) (by omega) (by omega);rw[A8 (by omega) (by omega)];have t:=qC (b:=q*q) (show 1≤q*q by omega) (B:=600000000000) (a:=40000*y*(q - y)) (by omega) (by omega)
  have t4:∀a:P,-600000000000≤a→a≤600000000000→ -150000000000≤Z a (q*q)∧Z a (q*q)≤150000000000:=by
   intro a a1 a2
   have hd:∀c:P,0≤c→c≤600000000000→0≤c / (q*q)∧c / (q*q)≤150000000000:=by
    intro c c1 c2;refine⟨zV c1 (by omega),?_⟩;have h3:=Int.mul_ediv_self_le (x:=c) (k:=q*q) (by omega);have h4:0≤c / (q*q):=zV c1 (by omega);have h5:4*(c / (q*q))≤q*q*(c / (q*q)):=yB (by omega) h4;omega
   by_cases ha:0≤a
   ·rw[C ha];have:=hd a ha a2;omega
   ·obtain⟨c,rfl⟩:∃c,a= -c:=⟨-a,by omega⟩;rw[Int.neg_tdiv,C (by omega)];have:=hd c (by omega) (by omega);omega
  have:=t4 (40000*y*(q - y)) (by omega) (by omega);omega
 have key2:∀y:P,-3000≤y→y≤3000→ -150000000000≤Z (yN .i64 (yN .i64 (40000*y)*yN .i64 (q - y))) (q*q)∧Z (yN .i64 (yN .i64 (40000*y)*yN .i64 (q - y))) (q*q)≤150000000000:=by
  intro y y1 y2;rw[A8 (n:=40000*y) (by omega) (by omega),A8 (n:=q - y) (by omega) (by omega)];have m:=NN (a:=40000*y) (b:=q - y) (A:=120000000) (B:=5000) (by omega) (by omega) (by omega) (by omega);rw[A8 (by omega) (by omega)]
  have hd:∀c:P,0≤c→c≤600000000000→0≤c / (q*q)∧c / (q*q)≤150000000000:=by
   intro c c1 c2;have h4:0≤c / (q*q):=zV c1 (by omega);refine⟨h4,?_⟩;have h3:=Int.mul_ediv_self_le (x:=c) (k:=q*q) (by omega);have h5:4*(c / (q*q))≤q*q*(c / (q*q)):=yB (by omega) h4;omega
  generalize hz:40000*y*(q - y)=z at m
  by_cases ha:0≤z
  ·rw[C ha];have:=hd z ha (by omega);omega
  ·obtain⟨c,rfl⟩:∃c,z= -c:=⟨-z,by omega⟩;rw[Int.neg_tdiv,C (by omega)];have:=hd c (by omega) (by omega);omega
 split
 ·have:=key2 x (by omega) (by omega);rw[A8 (by omega) (by omega)];omega
 ·rw[A8 (n:=x - q) (by omega) (by omega)];have:=key2 (x - q) (by omega) (by omega);rw[A8 (n:=Z _ _) (by omega) (by omega),A8 (by omega) (by omega)];omega
theorem pq{f:Xd}(hf:CK f=F)(a:U)(ha:a<f.Surges.length): -500≤f.Surges[a].Low∧f.Surges[a].Low≤500∧f.Surges[a].Low≤f.Surges[a].High∧f.Surges[a].High≤500:=by
 simp only[CK,X,zJ,zO] at hf
 have:=hf.2.2.2 a ha;simp only[Jc,Y ha,X,F7,decide_eq_true_eq] at this
 omega
def Gl(w:Xo):Q:=(decide (0≤w.Tugs)&&decide (w.Tugs≤12))&&((decide (0≤w.Pilots)&&decide (w.Pilots≤12))&&(Cg w.Rest&&(decide (w.Moves.length=64)&&w.Moves.all fun x=>decide (0≤x)&&decide (x≤240))))
theorem Ta(a b:Q):(if a=F then G b else G E)=G (a&&b):=by cases a<;>rfl
theorem TY{l:H P}(h:l.length≤maxLen):FI l bigN 0=G (l.all fun x=>decide (0≤x)&&decide (x≤240)):=
 Mh (L:=FI l) l _ h (fun n i hi=>by simp[FI,Br,hi,CS]) (fun n=>by simp[FI])
theorem Pu{w:Xo}(h:w.Moves.length≤maxLen):Gy w=G (Gl w):=by
 simp only[Gy,FH,CS,FU,W,TY h,Gl,Cg];by_cases e:w.Moves.length=64
 ·have e':((w.Moves.length:P) !=64)=E:=by simp; omega
  simp only[e,e',zA,if_false,decide_true,zT,W];cases(decide (0≤w.Tugs)&&decide (w.Tugs≤12))<;>cases(decide (0≤w.Pilots)&&decide (w.Pilots≤12))<;>cases(decide (0≤w.Rest)&&decide (w.Rest≤2880))<;>rfl
 ·have e':((w.Moves.length:P) !=64)=F:=by simp; omega
  simp only[e,e',if_true,decide_false,Bool.false_and,Bool.and_false,W];cases(decide (0≤w.Tugs)&&decide (w.Tugs≤12))<;>cases(decide (0≤w.Pilots)&&decide (w.Pilots≤12))<;>cases(decide (0≤w.Rest)&&decide (w.Rest≤2880))<;>rfl
def Q3(r:Xl):Q:=decide (0≤r.Gap)&&decide (r.Gap≤60)
def As(h:X3):Q:=CK h.Forecast&&(AH h.Chart&&(E6 h.Fleet&&(Q3 h.Regime&&Gl h.Crew)))
structure HSmall (h:X3):Prop where
 pn:∀x∈h.Chart.Points,x.Name.length≤maxLen
 fn:∀x∈h.Fleet,x.Name.length≤maxLen
 mv:h.Crew.Moves.length≤maxLen
theorem Pv{h:X3}(s:HSmall h):GE h=G (As h):=by
 simp only[GE,MN,Nr,D4 s.pn,Tc s.fn,Pu s.mv,CS,W,Ta,As,Q3]
theorem LN{c:X5}(h:AH c=F):c.Points.length≤8∧c.Segments.length≤10∧∀x∈c.Segments,0≤x.Depth∧x.Depth≤3000∧1≤x.Minutes∧x.Minutes≤240:=by
 simp only[AH,X,decide_eq_true_eq,zJ,zO] at h;obtain⟨h1,h2,h3,h4⟩:=h;refine⟨h1,h2,fun x hx=> ?_⟩;obtain⟨i,hi,rfl⟩:=yC hx;have:=h4 i hi;simp only[DI,Y hi,X,decide_eq_true_eq] at this
 omega
def CP(c:X5)(fl:H X9)(p:X2):Q:=idx p.Ship fl.length&&(idx p.Segment c.Segments.length&&(Cg p.Start&&(decide (p.End≤2880)&&decide (p.End=yN .i64 (p.Start+Bk (B6 c p.Segment) (Bo fl p.Ship))))))
theorem iq{c:X5}{fl:H X9}{p:X2}:KE c fl p=G (CP c fl p):=by
 unfold KE;simp only[CN,W,FU,CP,Cg];cases h3:idx p.Ship fl.length with
 | false=>simp
 | true=>
  cases h4:idx p.Segment c.Segments.length with
  | false=>simp
  | true=>
   cases h5:decide (0≤p.Start)&&decide (p.Start≤2880) with
   | false=>simp
   | true=>
    simp only[if_true,zT,(EW h3).1,(BS h4).1,W,Lh];have e0:decide (2880<p.End)= !decide (p.End≤2880):=by rw[zK]; simp
    rw[e0];cases decide (p.End≤2880)<;>simp;rfl
theorem CQ{c:X5}{fl:H X9}{p:X2}(hc:AH c=F)(h:CP c fl p=F):idx p.Ship fl.length=F∧idx p.Segment c.Segments.length=F∧0≤p.Start∧p.Start≤p.End∧p.End≤2880:=by
 simp only[CP,Cg,X,decide_eq_true_eq] at h;obtain⟨h3,h4,h5,h6,h7⟩:=h;refine⟨h3,h4,h5.1,?_,h6⟩;obtain⟨_,_,a,b⟩:=(LN hc).2.2 _ (BS h4).2;rw[h7];unfold Bk;split
 ·rw[A8 (n:=2*_) (by omega) (by omega),A8 (by omega) (by omega)]; omega
 ·rw[A8 (by omega) (by omega)]; omega
def UE(s:X9):P:=if s.Slow=F then yN .i64 (Z s.Draught 50) else yN .i64 (Z s.Draught 20)
def NO(c:X5)(i:P)(s:X9):P:=yN .i64 (yN .i64 (yN .i64 (s.Draught+UE s)+50) - (B6 c i).Depth)
theorem ig{c:X5}{s:X9}{i:P}(hn:∀x∈c.Points,x.Name.length≤maxLen)(hs:s.Name.length≤maxLen)(h1:AH c=F)(h2:BO s=F)(h3:idx i c.Segments.length=F):JY c i s=G (NO c i s):=by
 unfold JY Iz MO MP;simp only[D4 hn,Hj hs,h1,h2,W,if_true,CN,h3,(BS h3).1,NO,UE];cases s.Slow<;>rfl
structure CurOk (c:X4):Prop where
 i0:0≤c.i
 i1:c.i≤(c.b.length:P)
 len:c.b.length≤maxLen
theorem Mj(x:P):0≤AI .and .i64 x 255∧AI .and .i64 x 255≤255:=by
 have h:(BitVec.ofInt IntKind.i64.bits x &&& BitVec.ofInt IntKind.i64.bits 255).toNat≤255:=by
  rw[BitVec.toNat_and];exact Nat.le_trans Nat.and_le_right (by decide)
 have e:AI .and .i64 x 255=((BitVec.ofInt IntKind.i64.bits x &&& BitVec.ofInt IntKind.i64.bits 255).toNat:P):=by
  unfold AI;exact A8 (by omega) (by omega)
 rw[e];omega
theorem Jz{c:X4}(h:CurOk c):∃v c',ET c=G (v,c')∧CurOk c'∧0≤v∧v≤255:=by
 unfold ET;have hl:=h.len;rw[Bj] at hl
 by_cases hlt:c.i<(c.b.length:P)
 ·obtain⟨i,hi⟩:∃i:U,c.i=(i:P):=⟨c.i.toNat,by have:=h.i0; omega⟩;have h2:i<c.b.length:=by omega
  simp only[hlt,decide_true,if_true];rw[hi,Ad h2];simp only[W];refine⟨_,_,rfl,⟨?_,?_,h.len⟩,(Mj _).1,(Mj _).2⟩
  ·show 0≤yN .i64 ((i:P)+1)
   rw[A8 (by omega) (by omega)]; omega
  ·show yN .i64 ((i:P)+1)≤(c.b.length:P)
   rw[A8 (by omega) (by omega)]; omega
 ·simp only[hlt,decide_false,zA,if_false];exact⟨_,_,rfl,⟨h.i0,h.i1,h.len⟩,(Mj _).1,(Mj _).2⟩
theorem AS{c:X4}{n:P}(h:CurOk c)(hn:n≤1000000):∃v c',An c n=G (v,c')∧CurOk c'∧0≤v∧(0<n→v<n)∧(n≤0→v=0):=by
 unfold An;by_cases h0:n≤0
 ·simp only[h0,decide_true,if_true];exact⟨0,c,rfl,h,by omega,fun h=>by omega,fun _=>rfl⟩
 simp only[h0,decide_false,zA,if_false];have hne:(n==0)=E:=by simpa using fun e:n=0=>h0 (by omega)
 by_cases h1:n≤256
 ·obtain⟨v,c',e,k1,k2,k3⟩:=Jz h;simp only[h1,decide_true,if_true,e,W,hne,zA,if_false];have hm:=yK v (b:=n) (by omega);have hm2:=yE v (b:=n) (by omega);refine⟨_,_,rfl,k1,?_,?_,fun h=>by first | exact h.elim | exact absurd h h0⟩
  ·rw[zC k2,A8 (by omega) (by omega)]; exact hm
  ·intro _; rw[zC k2,A8 (by omega) (by omega)]; exact hm2
 ·obtain⟨v1,c1,e1,a1,a2,a3⟩:=Jz h;obtain⟨v2,c2,e2,b1,b2,b3⟩:=Jz a1;obtain⟨v3,c3,e3,d1,d2,d3⟩:=Jz b1;obtain⟨v4,c4,e4,g1,g2,g3⟩:=Jz d1;simp only[h1,decide_false,zA,if_false,e1,e2,e3,e4,W,hne]
  rw[A8 (n:=v1*16777216) (by omega) (by omega),A8 (n:=v2*65536) (by omega) (by omega),A8 (n:=v3*256) (by omega) (by omega),A8 (n:=v1*16777216+v2*65536) (by omega) (by omega),
   A8 (n:=v1*16777216+v2*65536+v3*256) (by omega) (by omega),A8 (n:=v1*16777216+v2*65536+v3*256+v4) (by omega) (by omega)]
  have k2:0≤v1*16777216+v2*65536+v3*256+v4:=by omega
  have hm:=yK (v1*16777216+v2*65536+v3*256+v4) (b:=n) (by omega);have hm2:=yE (v1*16777216+v2*65536+v3*256+v4) (b:=n) (by omega);refine⟨_,_,rfl,g1,?_,?_,fun h=>by first | exact h.elim | exact absurd h h0⟩
  ·rw[zC k2,A8 (by omega) (by omega)]; exact hm
  ·intro _; rw[zC k2,A8 (by omega) (by omega)]; exact hm2
theorem mG{a:H P}(ha:a.length≤maxLen):∃c,KR a=G c∧CurOk c:=by
 unfold KR
 have key:∀(k i n:U) (v:P),i+k=a.length→k<n→∃c,Hc a n v (i:P)=G c∧CurOk c:=by
  intro k
  induction k with
  | zero=>
   intro i n v hi hn;obtain⟨m,rfl⟩:=sn (n:=n) (by omega);have:i=a.length:=by omega
   subst this;exact⟨_,by simp[Hc,ID]; rfl,⟨by simp,by simp,ha⟩⟩
  | succ k ih=>
   intro i n v hi hn;obtain⟨m,rfl⟩:=sn (n:=n) (by omega);have hlt:i<a.length:=by omega
   simp only[Hc,Ag,hlt,decide_true,if_true,Ad hlt,W,Am hlt ha];by_cases h4:(i:P)<4000
   ·simp only[h4,decide_true,if_true];exact ih (i+1) m _ (by omega) (by omega)
   ·simp only[h4,decide_false,zA,if_false,ID];exact⟨_,rfl,⟨by simp,by simp,ha⟩⟩
 exact key a.length 0 bigN _ (by omega) (Al ha)
theorem F4{c:X4}{n:P}(h:CurOk c)(hn:n≤1000000):∃b c',Cu c n=G (b,c')∧CurOk c':=by
 obtain⟨v,c',e,h1,_⟩:=AS h hn;refine⟨_,c',by simp only[Cu,e,W]; rfl,h1⟩
def LO(s:X1):Q:=(decide (0≤s.Depth)&&decide (s.Depth≤3000))&&(decide (1≤s.Minutes)&&decide (s.Minutes≤240))
def Jx(s:X1):X1:=⟨s.A,s.B,0,1,s.Meet⟩
def HY(c:X5):X5:=⟨c.Points,c.Segments.map Jx⟩
theorem oZ{c:X5}{i:U}(hi:i<c.Segments.length)(h:DI (HY c) i=F)(hs:LO c.Segments[i]=F):DI c i=F:=by
 have e:∀(A B:P),((I i).any fun j=>match (c.Segments.map Jx)[j]? with | some y=>jn y A B | none=>E)=((I i).any fun j=>match c.Segments[j]? with | some y=>jn y A B | none=>E):=by
  intro A B;congr 1
  funext j
  rw[yG];cases c.Segments[j]?<;>rfl
 have hb:(HY c).Segments[i]?=G (Jx c.Segments[i]):=by
  show(c.Segments.map Jx)[i]?=_
  rw[yG,Y hi];rfl
 unfold DI at h ⊢
 rw[hb] at h;rw[Y hi];simp only[X] at h ⊢
 obtain⟨h1,h2,h3,_,_,h6⟩:=h;simp only[LO,X] at hs
 refine⟨h1,h2,h3,hs.1,hs.2,?_⟩;have h6':(!((I i).any fun j=>match (c.Segments.map Jx)[j]? with | some y=>jn y c.Segments[i].A c.Segments[i].B | none=>E))=F:=h6;rw[e] at h6'
 exact h6'
theorem Mx{c:X5}(h1:AH (HY c)=F)(h2:∀s∈c.Segments,LO s=F):AH c=F:=by
 unfold AH at h1 ⊢
 simp only[X] at h1 ⊢
 obtain⟨a1,a2,a3,a4⟩:=h1;refine⟨a1,?_,a3,?_⟩
 ·have:(HY c).Segments.length=c.Segments.length:=by simp[HY]
  rw[this] at a2
  exact a2
 ·rw[zJ] at a4 ⊢
  intro i hi;have hlt:i<c.Segments.length:=zO.1 hi;exact oZ hlt (a4 i (by rw[zO]; simpa[HY] using hlt)) (h2 _ (zB hlt))
theorem O3{A B d m:P}{b:Q}(h1:0≤d∧d≤3000)(h2:1≤m∧m≤240):LO ⟨A,B,d,m,b⟩=F:=by
 simp only[LO,X,decide_eq_true_eq];exact⟨h1,h2⟩
theorem YN{m n b:U}(h:m+n≤2000000)(hb:b≤1000):A7 m n b=F:=by
 unfold A7;rw[decide_eq_true_eq];have:(m+n)*b≤2000000*1000:=yD h hb;omega
theorem Lf{α:Type}{m n b:U}(h:m+n≤2000000)(hb:b≤1000)(x y:α):(if A7 m n b=F then x else y)=x:=by rw[if_pos (YN h hb)]
theorem qO{n:P}(h0:0≤n)(h1:n<18446744073709551616):IntKind.u64.wrap n=n:=by
 simp only[IntKind.wrap,IntKind.bits,IntKind.signed];have:n % 18446744073709551616=n:=Int.emod_eq_of_lt h0 h1;simp[this]
theorem DG{n:U}(h:n<2 ^ 63):yN .i64 (n:P)=n:=A8 (by omega) (by omega)
theorem J2{n:U}(h:n<2 ^ 64):IntKind.u64.wrap (n:P)=n:=qO (by omega) (by omega)
theorem IW{s n:U}(h:∀i,s.testBit i=F→i<n):s<2 ^ n:=Nat.lt_pow_two_of_testBit s fun i hi=>by
 cases hb:s.testBit i with
 | false=>rfl
 | true=>have:=h i hb; omega
theorem Rb{a b n:U}(h:a<2 ^ n):Av a b<2 ^ n:=IW fun i hi=>by
 rw[Ej,X] at hi
 exact G8 h hi.1
theorem FZ{w n:U}(h:n<2 ^ w):(BitVec.ofInt w (n:P)).toNat=n:=by
 rw[BitVec.ofInt_natCast,BitVec.toNat_ofNat,Nat.mod_eq_of_lt h]
theorem Ru{w a b:U}(ha:a<2 ^ w)(hb:b<2 ^ w):(BitVec.ofInt w (a:P) &&& ~~~ BitVec.ofInt w (b:P)).toNat=Av a b:=by
 rw[BitVec.toNat_and,BitVec.toNat_not,FZ ha,FZ hb];apply zR
 intro i;rw[show 2 ^ w - 1 - b=2 ^ w - (b+1) by omega,zU,Nat.testBit_two_pow_sub_succ hb,Ej];cases hi:a.testBit i with
 | false=>rfl
 | true=>simp[G8 ha hi]
theorem YD{a b:U}(ha:a<2 ^ 63)(hb:b<2 ^ 63):AI .and .i64 (a:P) (b:P)=((a &&& b:U):P):=by
 show yN .i64 ((BitVec.ofInt 64 (a:P) &&& BitVec.ofInt 64 (b:P)).toNat:P)=_
 rw[BitVec.toNat_and,FZ (zG ha (by decide)),FZ (zG hb (by decide)),DG (Nat.and_lt_two_pow a hb)]
theorem ml{a b:U}(ha:a<2 ^ 63)(hb:b<2 ^ 63):AI .or .i64 (a:P) (b:P)=((a ||| b:U):P):=by
 show yN .i64 ((BitVec.ofInt 64 (a:P) ||| BitVec.ofInt 64 (b:P)).toNat:P)=_
 rw[BitVec.toNat_or,FZ (zG ha (by decide)),FZ (zG hb (by decide)),DG (zY ha hb)]
theorem R9{a b:U}(ha:a<2 ^ 63)(hb:b<2 ^ 63):AI .andNot .i64 (a:P) (b:P)=((Av a b:U):P):=by
 show yN .i64 ((BitVec.ofInt 64 (a:P) &&& ~~~ BitVec.ofInt 64 (b:P)).toNat:P)=_
 rw[Ru (zG ha (by decide)) (zG hb (by decide)),DG (Rb ha)]
theorem PR{a b:U}(ha:a<2 ^ 64)(hb:b<2 ^ 64):AI .or .u64 (a:P) (b:P)=((a ||| b:U):P):=by
 show IntKind.u64.wrap ((BitVec.ofInt 64 (a:P) ||| BitVec.ofInt 64 (b:P)).toNat:P)=_
 rw[BitVec.toNat_or,FZ ha,FZ hb,J2 (zY ha hb)]
theorem Ju{a b:U}(ha:a<2 ^ 64)(hb:b<2 ^ 64):AI .andNot .u64 (a:P) (b:P)=((Av a b:U):P):=by
 show IntKind.u64.wrap ((BitVec.ofInt 64 (a:P) &&& ~~~ BitVec.ofInt 64 (b:P)).toNat:P)=_
 rw[Ru ha hb,J2 (Rb ha)]
theorem O4{n:U}(h:n≤20):Bb .i64 (1:P) (n:P)=((2 ^ n:U):P):=by
 have hp:2 ^ n<2 ^ 63:=zS (by omega) (by omega);unfold Bb;rw[zD,show min n IntKind.i64.bits=n by simp[IntKind.bits]; omega,Int.one_mul];have:((2:P) ^ n)=((2 ^ n:U):P):=by simp
 rw[this,DG hp]
theorem Q8{n:U}(h:n≤20):Bb .u64 (1:P) (n:P)=((2 ^ n:U):P):=by
 have hp:2 ^ n<2 ^ 64:=zS (by omega) (by omega);unfold Bb;rw[zD,show min n IntKind.u64.bits=n by simp[IntKind.bits]; omega,Int.one_mul];have:((2:P) ^ n)=((2 ^ n:U):P):=by simp
 rw[this,J2 hp]
theorem Zp(n:U):((n:P)==(0:P))=decide (n=0):=by
 rw[zK];simp
def TK:H V:= [0,1,2,2,3,3,3,3,4,4,4,4,4,4,4,4,5,5,5,5,5,5,5,5,5,5,5,5,5,5,5,5,6,6,6,6,6,6,6,6,6,6,6,6,6,6,6,6,6,6,6,6,6,6,6,6,6,6,6,6,6,6,6,6,7,7,7,7,7,7,7,7,7,7,7,7,7,7,7,7,7,7,7,7,7,7,7,7,7,7,7,7,7,7,7,7,7,7,7,7,7,7,7,7,7,7,7,7,7,7,7,7,7,7,7,7,7,7,7,7,7,7,7,7,7,7,7,7,8,8,8,8,8,8,8,8,8,8,8,8,8,8,8,8,8,8,8,8,8,8,8,8,8,8,8,8,8,8,8,8,8,8,8,8,8,8,8,8,8,8,8,8,8,8,8,8,8,8,8,8,8,8,8,8,8,8,8,8,8,8,8,8,8,8,8,8,8,8,8,8,8,8,8,8,8,8,8,8,8,8,8,8,8,8,8,8,8,8,8,8,8,8,8,8,8,8,8,8,8,8,8,8,8,8,8,8,8,8,8,8,8,8,8,8,8,8,8,8,8,8,8,8,8,8,8,8]
theorem kv(v8 v9:P):IC v8 v9=(ix TK (IntKind.u8.wrap v8)).bind fun b10=>G (yN .i64 (v9+(yN .i64 (b10.toNat:P)))):=rfl
def TJ(x:U):Q:=match TK[x]? with
 | some b=>decide (b.toNat≤8)&&(decide (x<2 ^ b.toNat)&&(x==0 || (decide (1≤b.toNat)&&decide (2 ^ (b.toNat - 1)≤x))))
 | none=>E
theorem kw:(I 256).all TJ=F:=by kernel_rfl
theorem TI{x:U}(hx:x<256)(n:P):∃l:U,IC (x:P) n=G (yN .i64 (n+(l:P)))∧l≤8∧x<2 ^ l∧(0<x→1≤l∧2 ^ (l - 1)≤x):=by
 have h:=zJ.1 kw x (by simpa using hx);unfold TJ at h;split at h
 ·rename_i b hb
  simp only[X,decide_eq_true_eq,yJ,beq_iff_eq] at h
  have hw:IntKind.u8.wrap (x:P)=(x:P):=by
   simp only[IntKind.wrap,IntKind.bits,IntKind.signed];have:(x:P) % 256=x:=Int.emod_eq_of_lt (by omega) (by omega);simp[this]
  refine⟨b.toNat,?_,h.1,h.2.1,fun h0=> ?_⟩
  ·rw[kv,hw,Br,hb,W,DG (n:=b.toNat) (by omega)]
  ·rcases h.2.2 with h3|h3
   ·omega
   ·exact h3
 ·cases h
theorem lB{s:U}(h1:1≤s)(h2:s<4096):∃t:U,IB (s:P)=G ((t+1:U):P)∧2 ^ t≤s∧s<2 ^ (t+1)∧t<12:=by
 have key:∃l:U,IB (s:P)=G ((l:U):P)∧1≤l∧2 ^ (l - 1)≤s∧s<2 ^ l:=by
  unfold IB N0;rw[if_neg (by simp; omega)];unfold KL;rw[if_neg (by simp; omega)];unfold KM;by_cases hs:s<256
  ·rw[if_neg (by simp; omega)];obtain⟨l,e,l8,a1,a2⟩:=TI hs 0;obtain⟨a3,a4⟩:=a2 h1;refine⟨l,?_,a3,a4,a1⟩;rw[e,W,Int.zero_add,DG (by omega)]
  ·rw[if_pos (by simp; omega)]
   have e8:B7 .u64 (s:P) 8=((s / 256:U):P):=by
    unfold B7;rw[show min 8 IntKind.u64.bits=8 by rfl,Int.fdiv_eq_ediv_of_nonneg _ (by decide)];have:((s:P) / 2 ^ 8)=((s / 256:U):P):=by simp
    rw[this,J2 (by omega)]
   have e9:yN .i64 ((0:P)+8)=((8:U):P):=by rw[A8 (by omega) (by omega)]; rfl
   rw[e8,e9];obtain⟨l,e,l8,a1,a2⟩:=TI (x:=s / 256) (by omega) ((8:U):P);obtain⟨a3,a4⟩:=a2 (by omega);refine⟨8+l,?_,by omega,?_,?_⟩
   ·have:((8:U):P)+(l:P)=((8+l:U):P):=by omega
    rw[e,W,this,DG (by omega)]
   ·rw[show 8+l - 1=(l - 1)+8 by omega,Nat.pow_add];omega
   ·rw[Nat.add_comm,Nat.pow_add];omega
 obtain⟨l,e,a1,a2,a3⟩:=key;obtain⟨t,rfl⟩:=sn (n:=l) (by omega);refine⟨t,e,by simpa using a2,a3,?_⟩;rcases zM t 12 with h|h
 ·exact h
 ·have:=zQ (show 0<2 by omega) h;simp at a2
  omega
theorem Qk{s t:U}(h1:2 ^ t≤s)(h2:s<2 ^ (t+1)):s.testBit t=F∧Av s (2 ^ t)<2 ^ t∧(∀i,(Av s (2 ^ t)).testBit i=F→s.testBit i=F)∧(∀i,s.testBit i=F→i=t∨(Av s (2 ^ t)).testBit i=F):=by
 have hb:∀i,(Av s (2 ^ t)).testBit i=(s.testBit i&& !decide (t=i)):=fun i=>by rw[Ej,HG]
 refine⟨Nat.testBit_of_two_pow_le_and_two_pow_add_one_gt h1 h2,IW fun i hi=> ?_,fun i hi=> ?_,fun i hi=> ?_⟩
 ·rw[hb,X] at hi
  have:=G8 h2 hi.1;have h3:t≠i:=by simpa using hi.2
  omega
 ·rw[hb,X] at hi
  exact hi.1
 ·by_cases h:i=t
  ·exact .inl h
  ·right
   rw[hb,hi];simpa using fun e:t=i=>h e.symm
theorem Uj{α β R:Type}{L:U→P→H β→O R}(xs:H α)(g:α→β)(K:H β→O R)(hl:xs.length≤maxLen)
  (hs:∀(n i:U) (acc:H β) (h:i<xs.length),acc.length=i→L (n+1) (i:P) acc=L n (yN .i64 ((i:P)+1)) (acc++ [g xs[i]])) (he:∀n acc,acc.length=xs.length→L (n+1) (xs.length:P) acc=K acc):L bigN 0 []=K (xs.map g):=by
 have key:∀(k i n:U) (acc:H β),i+k=xs.length→k<n→acc=(xs.take i).map g→L n (i:P) acc=K (xs.map g):=by
  intro k
  induction k with
  | zero=>
   intro i n acc hi hn ha;obtain⟨m,rfl⟩:=sn (n:=n) (by omega);have:i=xs.length:=by omega
   subst this;rw[List.take_length] at ha
   rw[he m acc (by rw[ha]; simp),ha]
  | succ k ih=>
   intro i n acc hi hn ha;obtain⟨m,rfl⟩:=sn (n:=n) (by omega);have hlt:i<xs.length:=by omega
   rw[hs m i acc hlt (by rw[ha]; simp; omega),Am hlt hl];refine ih (i+1) m _ (by omega) (by omega) ?_;rw[List.take_succ_eq_append_getElem hlt,List.map_append,ha];rfl
 exact key xs.length 0 bigN [] (by omega) (Al hl) (by simp)
def Bw(d:Xb):Q:=decide (0≤d.From)&&(decide (d.From<d.To)&&(decide (d.To≤2880)&&((decide (0≤d.A)&&decide (d.A<8))&&(decide (0≤d.B)&&decide (d.B<8)))))
theorem ib{R:Type}(a b c d e:Q)(x y:R):(if(!a)=F then y else if(!b)=F then y else if(!c)=F then y else if d=F then(if e=F then x else y) else y)=if(a&&(b&&(c&&(d&&e))))=F then x else y:=by
 cases a<;>cases b<;>cases c<;>cases d<;>cases e<;>rfl
theorem IP{l:H Xb}:Gz l=G (decide (l.length≤12)&&l.all Bw):=by
 unfold Gz;by_cases h:l.length≤12
 ·rw[if_neg (by simp; omega),Mh (L:=GA l) l Bw (by rw[Bj]; omega) (fun n i hi=> ?_) (fun n=>by simp[GA])]
  ·simp[h]
  ·simp only[GA,Ag,hi,decide_true,if_true,Ad hi,W,Hm,Bw];generalize l[i]=d
   have g1:decide (d.From<0)= !decide (0≤d.From):=by by_cases h:0≤d.From<;>simp[h]<;>omega
   have g2:decide (d.To≤d.From)= !decide (d.From<d.To):=by by_cases h:d.From<d.To<;>simp[h]<;>omega
   have g3:decide (2880<d.To)= !decide (d.To≤2880):=by by_cases h:d.To≤2880<;>simp[h]<;>omega
   simp only[g1,g2,g3];exact ib _ _ _ _ _ _ _
 ·rw[if_pos (by simp; omega)];simp[h]
def Hr(m:H P):Q:=decide (m.length=64)&&m.all fun x=>decide (0≤x)&&decide (x≤240)
def CC(p:P)(m:H P):Q:=Cg p&&Hr m
theorem Nu{m:H P}(h:m.length≤maxLen):FH m=G (Hr m):=by
 unfold FH Hr;rw[TY h];by_cases h1:m.length=64
 ·simp[h1]
 ·have:((m.length:P) !=64)=F:=by simpa using(by omega:¬((m.length:P)=64))
  simp[h1,this]
theorem NM(p:P):CI p=G (Cg p):=by rw[FU]; rfl
def II(p:P)(m:H P)(d e:Xb):Q:=decide (yN .i64 (d.To+yN .i64 (p+m[(8*d.B+e.A).toNat]?.getD 0))≤e.From)
theorem RX{d:Xb}(h:Bw d=F):0≤d.From∧d.From<d.To∧d.To≤2880∧0≤d.A∧d.A<8∧0≤d.B∧d.B<8:=by
 simp only[Bw,X,decide_eq_true_eq] at h;omega
theorem mE{m:H P}(hm:Hr m=F){b a:P}(h0:0≤b)(h1:b<8)(h2:0≤a)(h3:a<8):ix m (8*b+a)=G (m[(8*b+a).toNat]?.getD 0):=by
 simp only[Hr,X,decide_eq_true_eq] at hm
 obtain⟨k,hk⟩:∃k:U,8*b+a=(k:P):=⟨(8*b+a).toNat,by omega⟩;rw[hk,Br,zD,Y (by omega)];rfl
theorem Tf{p:P}{m:H P}{d e:Xb}(hl:m.length≤maxLen)(ht:CC p m=F)(hd:Bw d=F)(he:Bw e=F):Ie p m d e=G (II p m d e):=by
 obtain⟨_,_,_,_,_,b0,b1⟩:=RX hd;obtain⟨_,_,_,a0,a1,_,_⟩:=RX he;have ht':=ht;simp only[CC,X] at ht'
 unfold Ie MJ;have c1:(decide (0≤d.B)&&decide (d.B<8))=F:=by simp; omega
 have c2:(decide (0≤e.A)&&decide (e.A<8))=F:=by simp; omega
 have o1:(decide ([d].length≤12)&& [d].all Bw)=F:=by simp[hd]
 have o2:(decide ([e].length≤12)&& [e].all Bw)=F:=by simp[he]
 rw[NM,ht'.1,W,if_pos rfl,Nu hl,ht'.2,W,if_pos rfl,Hm,c1,W,if_pos rfl,Hm,c2,W];unfold GD;rw[if_neg (by simp),A8 (n:=8*d.B) (by omega) (by omega),A8 (n:=8*d.B+e.A) (by omega) (by omega),mE ht'.2 b0 b1 a0 a1,W,W,if_pos rfl,IP,o1,W,if_pos rfl,IP,o2,W,if_pos rfl];rfl
def Cq(p:P)(m:H P)(l:H Xb)(i k:U):Q:=match l[i]?,l[k]? with
 | some d,G e=>II p m d e || II p m e d
 | _,_=>E
theorem Rt(p:P)(m:H P)(l:H Xb)(i k:U):Cq p m l i k=Cq p m l k i:=by
 unfold Cq;cases l[i]?<;>cases l[k]?<;>simp[Bool.or_comm]
theorem Mo{n m b:U}(h:n+m≤1000000)(hb:b≤100):A7 n m b=F:=by
 unfold A7;have:(n+m)*b≤1000000*100:=yD h hb;simp;omega
def nn(ms:H U):H P:=ms.map fun x:U=>(x:P)
theorem Ec(ms:H U):(nn ms).length=ms.length:=by simp[nn]
theorem DH{ms:H U}{i:U}(h:i<ms.length):ix (nn ms) (i:P)=G ((ms[i]:U):P):=by
 rw[Br,nn,yG,Y h]; rfl
theorem Ht(ms:H U)(i a:U):(nn ms).set i (a:P)=nn (ms.set i a):=by simp[nn,List.map_set]
theorem mQ(ms:H U)(a:U):nn ms++ [(a:P)]=nn (ms++ [a]):=by simp[nn]
section
variable {p : P} {m : H P} {l : H Xb}
theorem ZL{i k:U}(hi:i<l.length)(hk:k<l.length):Cq p m l i k=(II p m l[i] l[k] || II p m l[k] l[i]):=by
 unfold Cq;rw[Y hi,Y hk]
def Ep(p:P)(m:H P)(l:H Xb)(i j:U):Q:=decide (j<l.length)&&(decide (i≠j)&&Cq p m l i j)
theorem my(hl:m.length≤maxLen)(ht:CC p m=F)(hd:∀d∈l,Bw d=F)(hN:l.length≤12)(K:P→H P→O (H P)){i:U}(hi:i<l.length)(ms:H U)(hms:ms.length=l.length) :
  ∀(r k n a:U),k+r=l.length→r<n→(∀j,a.testBit j=(decide (j<k)&&(decide (i≠j)&&Cq p m l i j)))→
   ∃q,(∀j,q.testBit j=Ep p m l i j)∧Dz p m l (i:P) l[i] K n (k:P) (nn (ms.set i a))=K (yN .i64 ((i:P)+1)) (nn (ms.set i q)):=by
 have hm:l.length≤maxLen:=by rw[Bj]; omega
 intro r
 induction r with
 | zero=>
  intro k n a hk hn ha;obtain⟨n,rfl⟩:=sn (n:=n) (by omega);refine⟨a,fun j=> ?_,?_⟩
  ·rw[ha,show k=l.length by omega]; rfl
  ·rw[Dz,if_neg (by simp; omega)]
 | succ r ih=>
  intro k n a hk hn ha;obtain⟨n,rfl⟩:=sn (n:=n) (by omega);have hlt:k<l.length:=by omega
  have a12:a<2 ^ 12:=IW fun j hj=>by
   rw[ha,X,decide_eq_true_eq] at hj; omega
  have step:∀v:Q,v=(decide (i≠k)&&Cq p m l i k)→∃q,(∀j,q.testBit j=Ep p m l i j)∧H6 p m l (i:P) (k:P) l[i] (nn (ms.set i a)) (Dz p m l (i:P) l[i] K n) v=K (yN .i64 ((i:P)+1)) (nn (ms.set i q)):=by
   intro v hv;unfold H6;cases v with
   | true=>
    rw[if_pos rfl,DH (by simp; omega),W,if_neg (by simp),Q8 (by omega),zZ];have h12:2 ^ k<2 ^ 64:=zS (by omega) (by omega);rw[PR (zG a12 (by decide)) h12,zD,Ht,List.set_set,Am hlt hm];refine ih (k+1) n _ (by omega) (by omega) fun j=> ?_
    rw[zN,ha,HG];by_cases hjk:k=j
    ·subst hjk;have hx:¬i=k∧Cq p m l i k=F:=by simpa using hv.symm
     simp[hx.1,hx.2]
    ·have e:decide (j<k+1)=decide (j<k):=decide_eq_decide.2 (by omega);rw[e];simp[hjk]
   | false=>
    rw[if_neg (by simp),Am hlt hm];refine ih (k+1) n a (by omega) (by omega) fun j=> ?_
    rw[ha];by_cases hjk:k=j
    ·subst hjk;rw[← hv];simp
    ·have e:decide (j<k+1)=decide (j<k):=decide_eq_decide.2 (by omega);rw[e]
  rw[Dz,Ag,if_pos (by simpa using hlt),Ad hlt,W];by_cases hik:i=k
  ·subst hik;rw[if_neg (by simp)];exact step E (by simp)
  ·have hne:((i:P) !=(k:P))=F:=by simp; omega
   rw[if_pos hne,Tf hl ht (hd _ (zB hi)) (hd _ (zB hlt)),W];have hb:=ZL (p:=p) (m:=m) hi hlt;cases hf:II p m l[i] l[k] with
   | true=>
    rw[if_pos rfl];exact step F (by rw[hb,hf]; simp[hik])
   | false=>
    rw[if_neg (by simp),Tf hl ht (hd _ (zB hlt)) (hd _ (zB hi)),W];exact step _ (by rw[hb,hf]; simp[hik])
theorem Tg(hl:m.length≤maxLen)(ht:CC p m=F)(hd:∀d∈l,Bw d=F)(hN:l.length≤12):∃ms:H U,ms.length=l.length∧(∀i j:U,i<l.length→(ms[i]?.getD 0).testBit j=Ep p m l i j)∧KD p m l=G (nn ms):=by
 have hm:l.length≤maxLen:=by rw[Bj]; omega
 have key:∀(r i n:U) (ms:H U),i+r=l.length→r<n→ms.length=l.length→(∀i' j:U,i'<i→(ms[i']?.getD 0).testBit j=Ep p m l i' j)→(∀i':U,i≤i'→ms[i']?.getD 0=0)→
   ∃ms':H U,ms'.length=l.length∧(∀i j:U,i<l.length→(ms'[i]?.getD 0).testBit j=Ep p m l i j)∧EO p m l n (i:P) (nn ms)=G (nn ms'):=by
  intro r
  induction r with
  | zero=>
   intro i n ms hi hn hms h1 h2;obtain⟨n,rfl⟩:=sn (n:=n) (by omega);exact⟨ms,hms,fun i' j h=>h1 i' j (by omega),by rw[EO,if_neg (by simp; omega)]⟩
  | succ r ih=>
   intro i n ms hi hn hms h1 h2;obtain⟨n,rfl⟩:=sn (n:=n) (by omega);have hlt:i<l.length:=by omega
   obtain⟨q,hq,e⟩:=my hl ht hd hN (EO p m l n) hlt ms hms l.length 0 bigN 0 (by omega) (Al hm) (fun j=>by simp)
   have e0:ms.set i 0=ms:=by
    have h3:=h2 i (Nat.le_refl _);rw[Y (by omega)] at h3
    have h3:ms[i]'(by omega)=0:=h3;apply List.ext_getElem (by simp)
    intro j hj1 hj2;by_cases hij:i=j
    ·subst hij; simp[h3]
    ·rw[List.getElem_set_ne hij]
   rw[e0] at e
   rw[EO,Ag,if_pos (by simpa using hlt),Ad hlt,W];have e:Dz p m l (i:P) l[i] (EO p m l n) bigN 0 (nn ms)=_:=e;rw[e,Am hlt hm];refine ih (i+1) n (ms.set i q) (by omega) (by omega) (by simpa using hms) (fun i' j h=> ?_) (fun i' h=> ?_)
   ·by_cases hii:i=i'
    ·subst hii;rw[zI (by omega)];exact hq j
    ·rw[zH hii];exact h1 i' j (by omega)
   ·rw[zH (by omega)];exact h2 i' (by omega)
 unfold KD;rw[PJ (by omega) (by omega),W];have hz:zE l.length (0:P)=nn (zE l.length 0):=by simp[nn]
 rw[hz]
 exact key l.length 0 bigN _ (by omega) (Al hm) (by simp) (fun i' j h=>by omega) (fun i' h=>by
  rw[List.getElem?_replicate];split<;>rfl)
end
section
variable {B : U → U → Q} {N : U} {ms : H U}
def Yp(B:U→U→Q)(N:U)(ms:H U):Prop:=ms.length=N∧∀i j:U,i<N→(ms[i]?.getD 0).testBit j=(decide (j<N)&&(decide (i≠j)&&B i j))
theorem aK:Em B 0:=fun i j hi=>by simp at hi
theorem aJ(hB:∀i j,B i j=B j i){s t:U}(h1:2 ^ t≤s)(h2:s<2 ^ (t+1)):Em B s↔Em B (Av s (2 ^ t))∧∀i,(Av s (2 ^ t)).testBit i=F→B t i=F:=by
 obtain⟨a1,a2,a3,a4⟩:=Qk h1 h2;constructor
 ·intro h;exact⟨fun i j hi hj=>h i j (a3 i hi) (a3 j hj),fun i hi=>h t i a1 (a3 i hi) (by have:=G8 a2 hi; omega)⟩
 ·rintro⟨k1,k2⟩ i j hi hj hne
  rcases a4 i hi with rfl|hi
  ·rcases a4 j hj with rfl|hj
   ·exact absurd rfl hne
   ·exact k2 j hj
  ·rcases a4 j hj with rfl|hj
   ·rw[hB]; exact k2 i hi
   ·exact k1 i j hi hj hne
theorem Ox{a b:U}:Av a b=0↔∀i,a.testBit i=F→b.testBit i=F:=by
 constructor
 ·intro h i hi;have:=Ej a b i;rw[h,hi] at this
  cases hb:b.testBit i with
  | true=>rfl
  | false=>rw[hb] at this; simp at this
 ·intro h;apply zR
  intro i;rw[Ej,Nat.zero_testBit];cases hi:a.testBit i with
  | false=>rfl
  | true=>rw[h i hi]; rfl
theorem Ra(a b:U):Av a b≤a:=by
 rcases zM a (Av a b) with h|h
 ·obtain⟨i,h1,h2⟩:=Nat.exists_testBit_ne_of_ne (Nat.ne_of_lt h) |>.elim fun i hi=>(⟨i,hi,⟨⟩⟩:∃i,a.testBit i≠(Av a b).testBit i∧True)
  exfalso
  have:Av a b &&& a=Av a b:=PP fun i hi=>by
   rw[Ej,X] at hi
   exact hi.1
  have h3:= @Nat.and_le_right (Av a b) a;omega
 ·exact h
def Ol(B:U→U→Q)(tg:H Q)(s:U):Prop:=∀x,x<s→(tg[x]?.getD E=F↔Em B x)
def QX(B:U→U→Q)(ls:H U)(s:U):Prop:=∀x,x<s→Dt B x (ls[x]?.getD 0)
theorem TH(hN:N≤12){x n:U}(hx:x<2 ^ N)(h:Dt B x n):n≤12:=Nat.le_trans (h.2 N (MB hx)) hN
theorem NA{tg:H Q}{x:U}(h:x<tg.length):ix tg (x:P)=G (tg[x]?.getD E):=by
 rw[Br,Y h]; rfl
theorem Nx{ls:H U}{x:U}(h:x<ls.length):ix (nn ls) (x:P)=G (((ls[x]?.getD 0:U)):P):=by
 rw[DH h,Y h]; rfl
theorem Ug(hN:N≤12):2 ^ N≤4096:=by
 have:=zQ (show 0<2 by omega) hN;simpa using this
theorem kt(hN:N≤12)(y5:P){s t:U}(hs:s<2 ^ N)(h1:2 ^ t≤s)(h2:s<2 ^ (t+1)){tg:H Q}{ls:H U}(htl:tg.length=2 ^ N)(hll:ls.length=2 ^ N)(ht:Ol B tg (s+1))(hl:QX B ls s)(K:P→H Q→H P→O P) :
  ∀(n q c:U),q<n→q &&& Av s (2 ^ t)=q→Ds B s c→c≤100→(∀q',q' &&& Av s (2 ^ t)=q'→q<q'→Em B (q' ||| 2 ^ t)→c≤1+ls[Av (Av s (2 ^ t)) q']?.getD 0)→
   ∃c',Dt B s c'∧FG (nn ms) y5 (s:P) (t:P) ((Av s (2 ^ t):U):P) tg K n (q:P) (nn (ls.set s c))=K (yN .i64 ((s:P)+1)) tg (nn (ls.set s c')):=by
 obtain⟨a1,a2,a3,a4⟩:=Qk h1 h2;have hp:=Ug hN;have h2s:Av s (2 ^ t)<s:=zW a2 h1;generalize hr:Av s (2 ^ t)=r at a2 a3 a4 h2s
 intro n
 induction n with
 | zero=>intro q c hq; omega
 | succ n ih=>
  intro q c hq hsub hc hc1 hall
  have ht12:t<12:=by
   rcases zM t 12 with h|h
   ·exact h
   ·have:=zQ (show 0<2 by omega) h;simp at this
    omega
  have hqr:q≤r:=by have:= @Nat.and_le_right q r; omega
  have hor:q ||| 2 ^ t≤s:=by
   have hsb:(q ||| 2 ^ t) &&& s=q ||| 2 ^ t:=PP fun i hi=>by
    rw[zN,HG,yJ,decide_eq_true_eq] at hi
    rcases hi with h|h
    ·exact a3 i (pk hsub h)
    ·subst h; exact a1
   have:= @Nat.and_le_right (q ||| 2 ^ t) s;omega
  have hsml:∀x:U,x≤s→x<2 ^ 63:=fun x hx=>yF hx (zW hs (Nat.le_trans hp (by decide)))
  have hand:Av r q<s:=yF (Ra r q) h2s;have hset:s<(ls.set s c).length:=by simp; omega
  have hnext:∀c1:U,Ds B s c1→c1≤100→(∀q',q' &&& r=q'→q≤q'→Em B (q' ||| 2 ^ t)→c1≤1+ls[Av r q']?.getD 0)→
    ∃c',Dt B s c'∧Iy (nn ms) y5 (s:P) (t:P) (r:P) (q:P) tg K (FG (nn ms) y5 (s:P) (t:P) (r:P) tg K n) (nn (ls.set s c1))=K (yN .i64 ((s:P)+1)) tg (nn (ls.set s c')):=by
   intro c1 g1 g2 g3;unfold Iy;by_cases h0:q=0
   ·subst h0;refine⟨c1,⟨g1,fun m hm=> ?_⟩,by rw[if_pos (by simp)]⟩;obtain⟨q',n',e1,e2,e3,e4⟩:=aa a1 a3 hm;have:=(hl (Av r q') (yF (Ra r q') h2s)).2 n' e4;have:=g3 q' e1 (Nat.zero_le _) e2;omega
   ·rw[if_neg (by simpa using h0)]
    have ew:yN .i64 ((q:P) - 1)=((q - 1:U):P):=by
     rw[show(q:P) - 1=((q - 1:U):P) by omega];exact DG (hsml _ (by omega))
    rw[ew,YD (hsml _ (by omega)) (hsml _ (by omega))];have hlt:= @YE q r (by omega);refine ih ((q - 1) &&& r) c1 (by omega) (YF _ _) g1 g2 fun q' e1 e2 e3=> ?_
    refine g3 q' e1 ?_ e3;rcases zM q' q with h|h
    ·have:=mI r r q q' (Nat.le_refl _) hsub e1 h;omega
    ·exact h
  rw[FG,if_neg (by simp),O4 (by omega),ml (hsml _ (by omega)) (hsml _ (by omega)),NA (by omega),W];have hk:=ht (q ||| 2 ^ t) (by omega);cases hb:tg[q ||| 2 ^ t]?.getD E with
  | false=>
   rw[if_neg (by simp)];refine hnext c hc hc1 fun q' e1 e2 e3=> ?_
   rcases zM q q' with h|h
   ·exact hall q' e1 h e3
   ·have:q'=q:=by omega
    subst this;rw[hb] at hk
    exact absurd (hk.2 e3) (by simp)
  | true=>
   rw[if_pos rfl];have hcq:=hk.1 hb
   have e26:ix (nn (ls.set s c)) (s:P)=G (c:P):=by
    rw[DH hset,zZ]
   have e27:ix (nn (ls.set s c)) (AI .andNot .i64 (r:P) (q:P))=G ((ls[Av r q]?.getD 0:U):P):=by
    rw[R9 (hsml _ (by omega)) (hsml _ (by omega)),Nx (by simp; omega),zH (by omega)]
   rw[e26,W,e27,W];have hle:=hl (Av r q) hand;have h12:=TH hN (zG hand hs) hle;generalize hv:ls[Av r q]?.getD 0=v at hle h12
   have ew:yN .i64 ((1:P)+(v:P))=((1+v:U):P):=by
    rw[show(1:P)+(v:P)=((1+v:U):P) by omega];exact DG (by omega)
   have emin:(if yN .i64 ((1:P)+(v:P))<(c:P) then yN .i64 ((1:P)+(v:P)) else(c:P))=((if 1+v<c then 1+v else c:U):P):=by
    rw[ew];by_cases h:1+v<c
    ·rw[if_pos (by omega),if_pos h]
    ·rw[if_neg (by omega),if_neg h]
   rw[emin,zD,Ht,List.set_set];refine hnext _ ?_ (by split<;>omega) fun q' e1 e2 e3=> ?_
   ·split
    ·exact aZ a4 hcq hle.1
    ·exact hc
   ·rcases zM q q' with h|h
    ·have:=hall q' e1 h e3;split<;>omega
    ·have:q'=q:=by omega
     subst this;rw[hv];split<;>omega
theorem TF(hB:∀i j,B i j=B j i)(hN:N≤12)(hm:Yp B N ms):∃n:U,Dt B (2 ^ N - 1) n∧n≤12∧Kz (nn ms)=G (n:P):=by
 have hp:=Ug hN;have hp0:0<2 ^ N:=Nat.pow_pos (by omega);obtain⟨hml,hmb⟩:=hm
 have key:∀(k s n:U) (tg:H Q) (ls:H U),s+k=2 ^ N→k<n→1≤s→tg.length=2 ^ N→ls.length=2 ^ N→Ol B tg s→QX B ls s→
   ∃v:U,Dt B (2 ^ N - 1) v∧v≤12∧E4 (nn ms) ((2 ^ N:U):P) n (s:P) tg (nn ls)=G (v:P):=by
  intro k
  induction k with
  | zero=>
   intro s n tg ls hs hn hs1 htl hll ht hl;obtain⟨n,rfl⟩:=sn (n:=n) (by omega);have:=hl (2 ^ N - 1) (by omega);refine⟨_,this,TH hN (by omega) this,?_⟩
   have ew:yN .i64 (((2 ^ N:U):P) - 1)=((2 ^ N - 1:U):P):=by
    rw[show((2 ^ N:U):P) - 1=((2 ^ N - 1:U):P) by omega];exact DG (by omega)
   rw[E4,if_neg (by simp only[Ag,decide_eq_true_eq]; omega),ew,Nx (by omega),W]
  | succ k ih=>
   intro s n tg ls hs hn hs1 htl hll ht hl;obtain⟨n,rfl⟩:=sn (n:=n) (by omega);obtain⟨t,e1,h1,h2,ht12⟩:=lB hs1 (show s<4096 by omega);obtain⟨a1,a2,a3,a4⟩:=Qk h1 h2;have htN:t<N:=G8 (show s<2 ^ N by omega) a1;have h2s:Av s (2 ^ t)<s:=zW a2 h1
   have hsml:∀x:U,x≤s→x<2 ^ 63:=fun x hx=>by
    have:(4096:U)<2 ^ 63:=by decide
    omega
   have ew:yN .i64 (((t+1:U):P) - 1)=(t:P):=by
    rw[show((t+1:U):P) - 1=(t:P) by omega];exact DG (by omega)
   have er:AI .andNot .i64 (s:P) (Bb .i64 (1:P) (t:P))=((Av s (2 ^ t):U):P):=by
    rw[O4 (by omega),R9 (hsml _ (Nat.le_refl _)) (hsml _ h1)]
   have hu:IntKind.u64.wrap (s:P)=(s:P):=J2 (by omega);have hct:=aJ hB h1 h2
   have rest:∀b:Q,(b=F↔Em B s)→∃v:U,Dt B (2 ^ N - 1) v∧v≤12∧
     Ix (nn ms) ((2 ^ N:U):P) (s:P) (nn ls) (E4 (nn ms) ((2 ^ N:U):P) n) (t:P) ((Av s (2 ^ t):U):P) (tg.set s b)=G (v:P):=by
    intro b hb
    have ht':Ol B (tg.set s b) (s+1):=fun x hx=>by
     by_cases h:s=x
     ·subst h;rw[zI (by omega)];exact hb
     ·rw[zH h];exact ht x (by omega)
    unfold Ix;rw[Nx (by omega),W,Ec,hml,zD,Ht]
    obtain⟨c',k1,k2⟩:=kt (ms:=ms) hN ((2 ^ N:U):P) (show s<2 ^ N by omega) h1 h2 (tg:=tg.set s b) (ls:=ls) (by simpa using htl) hll ht' hl (E4 (nn ms) ((2 ^ N:U):P) n) bigN (Av s (2 ^ t)) N (by rw[C9]; omega) (Nat.and_self _) (MB (by omega)) (by omega) (fun q' g1 g2=>by
     have:= @Nat.and_le_right q' (Av s (2 ^ t));omega)
    rw[k2,Am (show s<4096 by omega) (by rw[Bj]; omega)];refine ih (s+1) n (tg.set s b) (ls.set s c') (by omega) (by omega) (by omega) (by simpa using htl) (by simpa using hll) ht' fun x hx=> ?_
    by_cases h:s=x
    ·subst h;rw[zI (by omega)];exact k1
    ·rw[zH h];exact hl x (by omega)
   rw[E4,Ag,if_pos (by simp; omega),hu,e1,W,ew,if_neg (by simp),er,NA (by omega),W,zD];have hk:=ht (Av s (2 ^ t)) h2s;cases hb:tg[Av s (2 ^ t)]?.getD E with
   | true=>
    rw[if_pos rfl,Nx (by omega),W,NA (by omega),W]
    have hmt:ms[t]?.getD 0<2 ^ 12:=IW fun j hj=>by
     rw[hmb t j htN,X,decide_eq_true_eq] at hj
     omega
    rw[J2 (n:=Av s (2 ^ t)) (by omega),Ju (by omega) (zG hmt (by decide)),Zp];refine rest _ ?_;rw[decide_eq_true_eq,Ox,hct];constructor
    ·intro h;refine⟨hk.1 hb,fun i hi=> ?_⟩;have:=h i hi;rw[hmb t i htN] at this
     simp at this
     exact this.2.2
    ·rintro⟨_,h⟩ i hi
     have hit:=G8 a2 hi;rw[hmb t i htN,h i hi];simp;omega
   | false=>
    rw[if_neg (by simp),NA (by omega),W];refine rest E ?_;rw[hct];constructor
    ·intro h; cases h
    ·rintro⟨h,_⟩
     have:=hk.2 h;rw[hb] at this
     cases this
 unfold Kz
 have hm1:∀b:U,b≤1000→BT (Bb .i64 (1:P) ((N:U):P)) (Bb .i64 (1:P) ((N:U):P)) b=G (2 ^ N):=fun b hb=>by
  rw[O4 (by omega)]; exact PJ (by omega) hb
 rw[Ec,hml,if_neg (by simp),hm1 1 (by omega),W,hm1 8 (by omega),W,O4 (by omega)]
 have e0:ix (zE (2 ^ N) E) (0:P)=G E:=by
  have:=Ad (l:=zE (2 ^ N) E) (i:=0) (by simpa using hp0);simpa using this
 have hz:zE (2 ^ N) (0:P)=nn (zE (2 ^ N) 0):=by simp[nn]
 rw[e0,W,hz]
 obtain⟨v,k1,k2,k3⟩:=key (2 ^ N - 1) 1 bigN ((zE (2 ^ N) E).set 0 F) (zE (2 ^ N) 0) (by omega) (by rw[C9]; omega) (by omega) (by simp) (by simp)
  (fun x hx=>by
   have:x=0:=by omega
   subst this;rw[zI (by simpa using hp0)];exact⟨fun _=>aK,fun _=>rfl⟩)
  (fun x hx=>by
   have:x=0:=by omega
   subst this;rw[List.getElem?_replicate,if_pos hp0];exact ku)
 exact⟨v,k1,k2,k3⟩
end
theorem YH{g i:U}(h:g<2 ^ i):Av (g ||| 2 ^ i) (2 ^ i)=g:=by
 apply zR
 intro j;rw[Ej,zN,HG];by_cases hj:i=j
 ·subst hj;rw[Nat.testBit_lt_two_pow h];simp
 ·simp[hj]
theorem ot{α:Type}{l:H α}{i:U}{x:α}(h:l[i]?=G x):l.set i x=l:=by
 apply List.ext_getElem?
 intro j;by_cases hij:i=j
 ·subst hij;rw[zI (List.getElem?_eq_some_iff.1 h).1,h]
 ·rw[zH hij]
theorem RS:∀(d fuel:U) (sm gs:H U) (most:P) (who:H P),who.length+d=sm.length→d<fuel→(∀x∈sm,x<2 ^ 12)→sm.length≤12→(∀g∈gs,0<g∧g<2 ^ who.length)→gs.length≤who.length→
  ∃b r,Dx fuel ⟨nn sm,most,nn gs,who⟩=G (b,r)∧r.most=most∧(b=E→r=⟨nn sm,most,nn gs,who⟩):=by
 intro d
 induction d with
 | zero=>
  intro fuel sm gs most who hd hf h1 h2 h3 h4;obtain⟨fuel,rfl⟩:=sn (n:=fuel) (by omega);refine⟨F,⟨nn sm,most,nn gs,who⟩,?_,rfl,fun h=>by cases h⟩;rw[Dx,Kx,if_pos (by simp[Ec]; omega)]
 | succ d ih=>
  intro fuel sm gs most who hd hf h1 h2 h3 h4;obtain⟨fuel,rfl⟩:=sn (n:=fuel) (by omega);rw[Dx,Kx,if_neg (by simp[Ec]; omega)];have hi12:who.length≤11:=by omega
  have hpw:2 ^ who.length<2 ^ 64:=zS (by omega) (by omega);have hp0:0<2 ^ who.length:=Nat.pow_pos (by omega);have hpd:2 ^ (who.length+1)=2 ^ who.length+2 ^ who.length:=by rw[Nat.pow_succ]; omega
  have hsi:who.length<sm.length:=by omega
  have hsm:sm[who.length]<2 ^ 64:=zG (h1 _ (zB hsi)) (by decide)
  have key:∀(k p n:U),p+k=gs.length+1→k<n→∃b r,EL (Dx fuel) ⟨nn sm,most,nn gs,who⟩ n (p:P) (nn sm) most (nn gs) who=G (b,r)∧r.most=most∧(b=E→r=⟨nn sm,most,nn gs,who⟩):=by
   intro k
   induction k with
   | zero=>
    intro p n hp hn;obtain⟨n,rfl⟩:=sn (n:=n) (by omega);refine⟨E,_,?_,rfl,fun _=>rfl⟩;rw[EL,if_neg (by simp[Ec]; omega)]
   | succ k ihk=>
    intro p n hp hn;obtain⟨n,rfl⟩:=sn (n:=n) (by omega);have hpl:p≤gs.length:=by omega
    rw[EL,if_pos (by simp[Ec]; omega)];cases hmost:decide ((p:P)<most) with
    | false=>exact⟨E,_,by rw[if_neg (by simp)],rfl,fun _=>rfl⟩
    | true=>
     rw[if_pos rfl];by_cases hpe:p=gs.length
     ·-- a new person
      rw[if_pos (by simp[Ec]; omega),if_pos (Mo (by simp[Ec]; omega) (by omega))];have e0:nn gs++ [(0:P)]=nn (gs++ [0]):=mQ gs 0;rw[e0];unfold Iv;dsimp only
      have hpg:p<(gs++ [0]).length:=by simp; omega
      have hg0:(gs++ [0])[p]=0:=by simp[hpe]
      rw[DH hpg,W,hg0,DH hsi,W,Ju (by decide) hsm];have ez:Av 0 sm[who.length]=0:=Ox.2 fun i hi=>by simp at hi
      rw[ez,if_pos (by simp),if_neg (by simp),if_pos (Mo (by simp; omega) (by omega)),Q8 (by omega),PR (by decide) hpw,Nat.zero_or,zD,Ht]
      have es:(gs++ [0]).set p (2 ^ who.length)=gs++ [2 ^ who.length]:=by
       rw[List.set_append_right _ _ (by omega)];simp[hpe]
      rw[es]
      obtain⟨b,r,k1,k2,k3⟩:=ih fuel sm (gs++ [2 ^ who.length]) most (who++ [(p:P)]) (by simp; omega) (by omega) h1 h2 (fun g hg=>by
       rw[zX,zP,hpd];rcases List.mem_append.1 hg with hg|hg
       ·have:=h3 g hg; omega
       ·rw[List.mem_singleton] at hg; omega) (by simp; omega)
      rw[k1,W];cases b with
      | true=>exact⟨F,r,by rw[if_pos rfl],k2,fun h=>by cases h⟩
      | false=>
       have:=k3 rfl;subst this;rw[if_neg (by simp)];have hw:((who++ [(p:P)]).length:P)=((who.length+1:U):P):=by simp
       simp only[zX,zP];rw[show bnd ((who.length+1:U):P) (who.length:P) 0 (who.length+1)=G (0,who.length) from Eu (by omega),W];have hpg2:p<(gs++ [2 ^ who.length]).length:=by simp; omega
       have hg2:(gs++ [2 ^ who.length])[p]=2 ^ who.length:=by simp[hpe]
       rw[DH hpg2,W,hg2,if_neg (by simp),Ju hpw hpw,Ht];have ez2:Av (2 ^ who.length) (2 ^ who.length)=0:=Ox.2 fun i hi=>hi
       have es2:(gs++ [2 ^ who.length]).set p 0=gs++ [0]:=by
        rw[List.set_append_right _ _ (by omega)];simp[hpe]
       have et:(who++ [(p:P)]).take who.length=who:=by simp
       rw[ez2,es2,et];unfold H3;rw[DH hpg,W,hg0,if_pos (by simp),Ec];have hl1:(gs++ [0]).length=gs.length+1:=by simp
       rw[hl1,show bnd ((gs.length+1:U):P) (p:P) 0 (gs.length+1)=G (0,p) from Eu (by omega),W];have et2:(nn (gs++ [0])).take p=nn gs:=by rw[hpe]; simp[nn]
       show ∃b r,G (E,(⟨nn sm,most,(nn (gs++ [0])).take p,who⟩:Xf))=G (b,r)∧_
       rw[et2];exact⟨E,_,rfl,rfl,fun _=>rfl⟩
     ·-- one that is there
      rw[if_neg (by simp[Ec]; omega)];have hpg:p<gs.length:=by omega
      have hgm:=h3 _ (zB hpg)
      have hnext:∃b r,H3 (Dx fuel) ⟨nn sm,most,nn gs,who⟩ (p:P) (EL (Dx fuel) ⟨nn sm,most,nn gs,who⟩ n) (nn sm) most (nn gs) who=G (b,r)∧r.most=most∧(b=E→r=⟨nn sm,most,nn gs,who⟩):=by
       unfold H3;rw[DH hpg,W,if_neg (by simp; omega),Am hpg (by rw[Bj]; omega)];exact ihk (p+1) n (by omega) (by omega)
      unfold Iv;dsimp only
      rw[DH hpg,W,DH hsi,W,Ju (by omega) hsm];cases hfit:(((Av gs[p] sm[who.length]:U):P)==0) with
      | false=>rw[if_neg (by simp)]; exact hnext
      | true=>
       rw[if_pos rfl,if_neg (by simp),if_pos (Mo (by simp; omega) (by omega)),Q8 (by omega),PR (by omega) hpw,zD,Ht];have hor:gs[p] ||| 2 ^ who.length<2 ^ (who.length+1):=zY (by omega) (by omega)
       have hop:0<gs[p] ||| 2 ^ who.length:=by
        have:= @Nat.left_le_or gs[p] (2 ^ who.length);omega
       have hor64:gs[p] ||| 2 ^ who.length<2 ^ 64:=zY (by omega) hpw
       obtain⟨b,r,k1,k2,k3⟩:=ih fuel sm (gs.set p (gs[p] ||| 2 ^ who.length)) most (who++ [(p:P)]) (by simp; omega) (by omega) h1 h2 (fun g hg=>by
        rw[zX,zP];rcases List.mem_or_eq_of_mem_set hg with hg|hg
        ·have:=h3 g hg; omega
        ·subst hg; exact⟨hop,hor⟩) (by simp; omega)
       rw[k1,W];cases b with
       | true=>exact⟨F,r,by rw[if_pos rfl],k2,fun h=>by cases h⟩
       | false=>
        have:=k3 rfl;subst this;rw[if_neg (by simp)];simp only[zX,zP];have hps:p<(gs.set p (gs[p] ||| 2 ^ who.length)).length:=by simp; omega
        rw[show bnd ((who.length+1:U):P) (who.length:P) 0 (who.length+1)=G (0,who.length) from Eu (by omega),W,DH hps,W,zZ,if_neg (by simp),Ju hor64 hpw,Ht,YH hgm.2,List.set_set,ot (Y hpg)];have et:(who++ [(p:P)]).take who.length=who:=by simp
        rw[et];exact hnext
  exact key (gs.length+1) 0 bigN (by omega) (by rw[C9]; omega)
section
variable {p : P} {m : H P} {l : H Xb}
end
section
variable {c : X5} {fl : H X9}
def Dh(c:X5)(p:X2):P × P:=if p.Toward=F then((B6 c p.Segment).A,(B6 c p.Segment).B) else((B6 c p.Segment).B,(B6 c p.Segment).A)
theorem Lg{p:X2}(h:idx p.Segment c.Segments.length=F):EF p c=G (Dh c p):=by
 unfold EF Dh;rw[(BS h).1,W];split<;>rfl
theorem S0{p:X2}(hc:AH c=F)(h:idx p.Segment c.Segments.length=F):0≤(Dh c p).1∧(Dh c p).1<8∧0≤(Dh c p).2∧(Dh c p).2<8:=by
 have hp:=(LN hc).1;have hx:=(BS h).2;simp only[AH,X,decide_eq_true_eq,zJ,zO] at hc
 obtain⟨i,hi,e⟩:=yC hx;have:=hc.2.2.2 i hi;simp only[DI,Y hi,e,idx,X,decide_eq_true_eq] at this
 unfold Dh;split<;>(simp only; omega)
theorem U8{p:X2}(hc:AH c=F)(h:CP c fl p=F):p.Start<p.End:=by
 simp only[CP,Cg,X,decide_eq_true_eq] at h;obtain⟨h3,h4,h5,h6,h7⟩:=h;obtain⟨_,_,a,b⟩:=(LN hc).2.2 _ (BS h4).2;rw[h7];unfold Bk;split
 ·rw[A8 (n:=2*_) (by omega) (by omega),A8 (by omega) (by omega)]; omega
 ·rw[A8 (by omega) (by omega)]; omega
theorem Ns{p:X2}(hn:∀x∈c.Points,x.Name.length≤maxLen)(hf:∀x∈fl,x.Name.length≤maxLen)(h1:AH c=F)(h2:E6 fl=F):GL c fl p=G (CP c fl p):=by
 unfold GL;rw[D4 hn,h1,W,if_pos rfl,Tc hf,h2,W,if_pos rfl,iq,W]
def CW(c:X5)(p q:X2):Xb:=⟨p.Start,q.End,(Dh c p).1,(Dh c q).2⟩
theorem Nt{p q:X2}(h1:idx p.Segment c.Segments.length=F)(h2:idx q.Segment c.Segments.length=F):H4 c p q=G (CW c p q):=by
 unfold H4;rw[Lg h1,W,Lg h2,W];rfl
theorem RW{p q:X2}(hc:AH c=F)(h1:idx p.Segment c.Segments.length=F)(h2:idx q.Segment c.Segments.length=F)(h3:0≤p.Start)(h4:p.Start<q.End)(h5:q.End≤2880):Bw (CW c p q)=F:=by
 obtain⟨a1,a2,_,_⟩:=S0 hc h1;obtain⟨_,_,b1,b2⟩:=S0 hc h2;unfold Bw CW;simp only[X,decide_eq_true_eq];exact⟨h3,h4,h5,⟨a1,a2⟩,b1,b2⟩
theorem Vs{p:X2}{s:X9}(h1:idx p.Segment c.Segments.length=F)(all:H X2)(v1:P)(K:P→H Xb→O (H Xb × Q)){T:U}(hT:s.Tugs=(T:P))(hT4:T≤4) :
  ∀(r k n:U) (acc:H Xb),k+r=T→r<n→acc.length≤12+k→EP fl all v1 s c p K n (k:P) acc =
   if(decide ((12:P)<((acc++zE r (CW c p p)).length:P))) then G (([]:H Xb),E) else K (yN .i64 (v1+(1:P))) (acc++zE r (CW c p p)):=by
 intro r
 induction r with
 | zero=>
  intro k n acc hk hn ha;obtain⟨n,rfl⟩:=sn (n:=n) (by omega);rw[EP,if_neg (by rw[hT]; simp; omega)];simp
 | succ r ih=>
  intro k n acc hk hn ha;obtain⟨n,rfl⟩:=sn (n:=n) (by omega);rw[EP,if_pos (by rw[hT]; simp; omega),Nt h1 h1,W,if_pos (Mo (by simp; omega) (by omega)),Am (i:=k) (n:=5) (by omega) (by rw[Bj]; omega)];have:=ih (k+1) n (acc++ [CW c p p]) (by omega) (by omega) (by simp; omega);refine this.trans ?_;rw[List.append_assoc];rfl
theorem OR{w:Xo}(h:Gl w=F):Cg w.Rest=F∧Hr w.Moves=F:=by
 simp only[Gl,X] at h;exact⟨h.2.2.1,by simp only[Hr,X]; exact h.2.2.2⟩
def small(n:P):Prop:= -1≤n∧n≤12
end
end Go.Vi
