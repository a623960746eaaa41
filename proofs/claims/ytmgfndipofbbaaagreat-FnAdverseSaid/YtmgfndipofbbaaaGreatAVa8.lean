/-
Plain law of covers. No condition.
-/
import Derived.Test.YtmgfndipofbbaaaGreatAVi33
import Derived.Test.YtmgfndipofbbaaaGreatANf
import Derived.KernelRfl
namespace Go.Vi
open Option renaming bind_some → O, some → G
open Bool renaming and_eq_true → P, false_eq_true → W, eq_iff_iff → zF, true_and → zN, or_eq_true → yD, true → F, false → E
open List renaming getElem?_eq_getElem → Q, range → X, getElem_mem → Y, replicate → I, getElem?_set_ne → zC, getElem?_set_self → zD, all_eq_true → zE, range' → zG, length_singleton → zJ, length_append → zR, mem_range → zS, getElem_set_self → zU, foldr_cons → zV, getElem?_map → yA, range'_succ → yB
open Int renaming tdiv_eq_ediv_of_nonneg → U, tdiv → V, tmod_eq_emod_of_nonneg → Z, toNat_natCast → C, ediv_nonneg → zP, mul_le_mul_of_nonneg_right → zW, emod_lt_of_pos → zY, emod_nonneg → yE, mul_le_mul → yF, tmod → yG
open Nat renaming mod_two_eq_zero_or_one → zA, lt_trans → zB, lt_or_ge → zH, testBit_or → zI, pow_le_pow_right → zK, eq_of_testBit_eq → zL, pow_lt_pow_right → zM, testBit_and → zO, lt_of_lt_of_le → zQ, or_lt_two_pow → zT, mul_le_mul → zX, lt_of_le_of_lt → zZ, and_div_two → yC
open IntKind renaming wrap → yH
theorem sn{n:Nat}(h:0<n):∃q,n=q+1:=⟨n - 1,by omega⟩
set_option linter.all false
def L7(a b:Nat):Nat:=a ^^^ (a &&& b)
theorem A5a(a b i:Nat):(L7 a b).testBit i=(a.testBit i&& !b.testBit i):=by
 simp only[L7,Nat.testBit_xor,zO]
 cases a.testBit i<;>cases b.testBit i<;>rfl
theorem B0q(n i:Nat):(2 ^ n).testBit i=decide (n=i):=Nat.testBit_two_pow
theorem B1c{s n i:Nat}(h:s<2 ^ n)(hi:s.testBit i=F):i<n:=by
 rcases zH i n with h1|h1
 ·exact h1
 ·have:s<2 ^ i:=zQ h (zK (by omega) h1)
  rw[Nat.testBit_lt_two_pow this] at hi
  cases hi
theorem D99{s i:Nat}(hi:s.testBit i=F):i<s:=B1c Nat.lt_two_pow_self hi
theorem C8j(p:Nat→Bool):∀k:Nat,∃q:Nat,∀i,q.testBit i=(decide (i<k)&&p i)
 | 0=>⟨0,fun i=>by simp⟩
 | k+1=>by
  obtain⟨q,hq⟩:=C8j p k
  refine⟨q ||| (if p k then 2 ^ k else 0),fun i=> ?_⟩
  rw[zI,hq]
  by_cases hp:p k=F
  ·rw[if_pos hp,B0q]
   by_cases h:k=i
   ·subst h; simp[hp]
   ·have:decide (i<k+1)=decide (i<k):=by simp; omega
    simp[h,this]
  ·rw[if_neg hp,Nat.zero_testBit]
   by_cases h:k=i
   ·subst h; simp[hp]
   ·have:decide (i<k+1)=decide (i<k):=by simp; omega
    simp[this]
theorem E4c{q r:Nat}(h:q &&& r=q){i:Nat}(hi:q.testBit i=F):r.testBit i=F:=by
 have:=congrArg (fun x=>x.testBit i) h
 simp only[zO,hi,zN] at this
 exact this
theorem C6j{q r:Nat}(h:∀i,q.testBit i=F→r.testBit i=F):q &&& r=q:=by
 apply zL
 intro i
 rw[zO]
 cases hq:q.testBit i with
 | false=>rfl
 | true=>rw[h i hq]; rfl
theorem D8k:∀(n r p q:Nat),r≤n→p &&& r=p→q &&& r=q→q<p→q≤(p - 1) &&& r:=by
 intro n
 induction n with
 | zero=>
  intro r p q hr hp hq hlt
  have:r=0:=by omega
  subst this
  rw[Nat.and_zero] at hp hq
  omega
 | succ n ih=>
  intro r p q hr hp hq hlt
  by_cases h0:r=0
  ·subst h0
   rw[Nat.and_zero] at hp hq
   omega
  have hp2:(p / 2) &&& (r / 2)=p / 2:=by rw[← yC,hp]
  have hq2:(q / 2) &&& (r / 2)=q / 2:=by rw[← yC,hq]
  have e2:∀a b:Nat,(a &&& b) % 2=(a % 2)*(b % 2):=fun a b=>by
   have h:=zO a b 0
   simp only[Nat.testBit_zero] at h
   rcases zA a with ha|ha<;>rcases zA b with hb|hb<;>rcases zA (a &&& b) with hc|hc<;>simp_all
  have hpm:=e2 p r
  have hqm:=e2 q r
  rw[hp] at hpm
  rw[hq] at hqm
  have hd:((p - 1) &&& r) / 2=((p - 1) / 2) &&& (r / 2):=yC
  have hm:=e2 (p - 1) r
  rcases zA p with h1|h1
  ·
   have i1:=ih (r / 2) (p / 2) (q / 2) (by omega) hp2 hq2 (by omega)
   have e3:(p - 1) / 2=p / 2 - 1:=by omega
   rw[e3] at hd
   have e4:(p - 1) % 2=1:=by omega
   rw[e4,Nat.one_mul] at hm
   have hqr:q % 2≤r % 2:=by
    rcases zA q with h2|h2
    ·omega
    ·rw[h2,Nat.one_mul] at hqm; omega
   omega
  ·have e3:(p - 1) / 2=p / 2:=by omega
   rw[e3,hp2] at hd
   omega
theorem E33{p r:Nat}(h:0<p):(p - 1) &&& r<p:=by
 have:= @Nat.and_le_left (p - 1) r
 omega
theorem E27(p r:Nat):(p &&& r) &&& r=p &&& r:=by rw[Nat.and_assoc,Nat.and_self]
def Cov(B:Nat→Nat→Bool)(S m:Nat):Prop:=∃f:Nat→Nat,(∀i,S.testBit i=F→f i<m)∧∀i j,S.testBit i=F→S.testBit j=F→i≠j→f i=f j→B i j=F
def Clq(B:Nat→Nat→Bool)(S:Nat):Prop:=∀i j,S.testBit i=F→S.testBit j=F→i≠j→B i j=F
def B1k(B:Nat→Nat→Bool)(S n:Nat):Prop:=Cov B S n∧∀m,Cov B S m→n≤m
theorem D34{B:Nat→Nat→Bool}{S n:Nat}(h:S<2 ^ n):Cov B S n:=⟨id,fun i hi=>B1c h hi,fun i j _ _ hne e=>absurd e hne⟩
theorem C9c{B:Nat→Nat→Bool}:B1k B 0 0:=⟨⟨id,fun i hi=>by simp at hi,fun i j hi=>by simp at hi⟩,fun m _=>Nat.zero_le m⟩
theorem D69{B:Nat→Nat→Bool}{S t rest q n:Nat}(hS:∀i,S.testBit i=F→i=t∨rest.testBit i=F)(hq:Clq B (q ||| 2 ^ t))(h:Cov B (L7 rest q) n):Cov B S (1+n):=by
 obtain⟨f,f1,f2⟩:=h
 have key:∀i,S.testBit i=F→(i=t∨q.testBit i=F)∨(L7 rest q).testBit i=F:=fun i hi=>by
  rcases hS i hi with h|h
  ·exact .inl (.inl h)
  ·cases hb:q.testBit i with
   | true=>exact .inl (.inr rfl)
   | false=>right; rw[A5a,h,hb]; rfl
 have hin:∀i,(i=t∨q.testBit i=F)→(q ||| 2 ^ t).testBit i=F:=fun i hi=>by
  rw[zI,B0q]
  rcases hi with h|h
  ·simp[h]
  ·simp[h]
 refine⟨fun i=>if i=t∨q.testBit i=F then n else f i,fun i hi=> ?_,fun i j hi hj hne e=> ?_⟩
 ·by_cases hx:i=t∨q.testBit i=F
  ·simp only[hx,if_true]; omega
  ·simp only[hx,if_false]
   rcases key i hi with h|h
   ·exact absurd h hx
   ·have:=f1 i h; omega
 ·by_cases hx:i=t∨q.testBit i=F
  ·by_cases hy:j=t∨q.testBit j=F
   ·exact hq i j (hin i hx) (hin j hy) hne
   ·simp only[hx,hy,if_true,if_false] at e
    have:=f1 j ((key j hj).resolve_left hy)
    omega
  ·by_cases hy:j=t∨q.testBit j=F
   ·simp only[hx,hy,if_true,if_false] at e
    have:=f1 i ((key i hi).resolve_left hx)
    omega
   ·simp only[hx,hy,if_false] at e
    exact f2 i j ((key i hi).resolve_left hx) ((key j hj).resolve_left hy) hne e
theorem D40{B:Nat→Nat→Bool}{S t rest m:Nat}(hS:S.testBit t=F)(hr:∀i,rest.testBit i=F→S.testBit i=F)(h:Cov B S m):∃q n,q &&& rest=q∧Clq B (q ||| 2 ^ t)∧n+1=m∧Cov B (L7 rest q) n:=by
 obtain⟨f,f1,f2⟩:=h
 obtain⟨q,hq⟩:=C8j (fun i=>rest.testBit i&&decide (f i=f t)) rest
 have hq2:∀i,q.testBit i=F↔rest.testBit i=F∧f i=f t:=fun i=>by
  rw[hq i]
  constructor
  ·intro h
   simp only[P,decide_eq_true_eq] at h
   exact h.2
  ·intro⟨h1,h2⟩
   simp only[P,decide_eq_true_eq]
   exact⟨D99 h1,h1,h2⟩
 have hm:=f1 t hS
 refine⟨q,m - 1,C6j fun i hi=>((hq2 i).1 hi).1,fun i j hi hj hne=> ?_,by omega,fun i=>if f i=m - 1 then f t else f i,fun i hi=> ?_,fun i j hi hj hne e=> ?_⟩
 ·have side:∀i,(q ||| 2 ^ t).testBit i=F→S.testBit i=F∧f i=f t:=fun i hi=>by
   rw[zI,B0q,yD,decide_eq_true_eq] at hi
   rcases hi with h|h
   ·exact⟨hr i ((hq2 i).1 h).1,((hq2 i).1 h).2⟩
   ·subst h; exact⟨hS,rfl⟩
  obtain⟨i1,i2⟩:=side i hi
  obtain⟨j1,j2⟩:=side j hj
  exact f2 i j i1 j1 hne (i2.trans j2.symm)
 ·rw[A5a,P] at hi
  have hne:f i≠f t:=fun e=>by
   have:=(hq2 i).2 ⟨hi.1,e⟩
   rw[this] at hi
   simp at hi
  have:=f1 i (hr i hi.1)
  show(if f i=m - 1 then f t else f i)<m - 1
  split<;>omega
 ·rw[A5a,P] at hi hj
  have hni:f i≠f t:=fun e=>by
   have:=(hq2 i).2 ⟨hi.1,e⟩
   rw[this] at hi
   simp at hi
  have hnj:f j≠f t:=fun e=>by
   have:=(hq2 j).2 ⟨hj.1,e⟩
   rw[this] at hj
   simp at hj
  have e2:f i=f j:=by
   have e:(if f i=m - 1 then f t else f i)=(if f j=m - 1 then f t else f j):=e
   split at e<;>split at e<;>omega
  exact f2 i j (hr i hi.1) (hr j hj.1) hne e2
def i64(n:Int):Prop:= -9223372036854775808≤n∧n≤9223372036854775807
theorem T6(n lo hi:Int):E4 n lo hi=G (decide (lo≤n)&&decide (n≤hi)):=by
 unfold E4
 by_cases h:lo≤n<;>simp[h]
theorem C8d{n bytes:Nat}(h:n≤1048576)(hb:bytes≤1000):mkS (n:Int) (n:Int) bytes=G n:=by
 unfold mkS
 have:(n:Int)*(bytes:Int)≤140737488355328:=by
  have:n*bytes≤1048576*1000:=zX h hb
  have e:((n*bytes:Nat):Int)=(n:Int)*(bytes:Int):=by simp
  omega
 rw[if_pos ⟨by omega,by omega,this,by omega⟩]
 simp
def A8p(x:Int):Bool:=decide (0≤x)&&decide (x≤1000)
def A0o(xs:List Int):Bool:=(decide (1≤(xs.length:Int))&&decide ((xs.length:Int)≤48))&&xs.all A8p
theorem A5n{xs:List Int}(h:xs.length≤maxLen):Q0 xs=G (A0o xs):=by
 have:=A97 (L:=X5 xs) xs A8p h (fun n i hi=>by simp[X5,Z1,hi,T6,A8p]) (fun n=>by simp[X5])
 simp only[Q0,T6,O,this,A0o]
 cases(decide (1≤(xs.length:Int))&&decide ((xs.length:Int)≤48))<;>simp
theorem Z4(n:Int):G9 n=G (decide (0≤n)&&decide (n≤2880)):=by simp[G9,T6]
theorem C1s{len:Nat}(p:Nat→Bool)(K:Option Bool):∀(k i:Nat),(zG i k).foldr (fun i r=>if p i=F then r else G E) K=if(zG i k).all p=F then K else G E
 | 0,i=>by simp
 | k+1,i=>by
  rw[yB,zV,C1s (len:=len) p K k (i+1),List.all_cons]
  cases p i<;>rfl
theorem C00{len:Nat}(p:Nat→Bool)(K:Option Bool):∀(k i:Nat),(zG i k).foldr (fun i r=>if p i=F then G E else r) K=if(zG i k).any p=F then G E else K
 | 0,i=>by simp
 | k+1,i=>by
  rw[yB,zV,C00 (len:=len) p K k (i+1),List.any_cons]
  cases p i<;>rfl
theorem B1m{L:Nat→Int→Option Bool}(len:Nat)(p:Nat→Bool)(K:Option Bool)(hl:len≤maxLen)
  (hs:∀(n i:Nat),i<len→L (n+1) (i:Int)=if p i=F then L n (yH .i64 ((i:Int)+1)) else G E) (he:∀n,L (n+1) (len:Int)=K):L bigN 0=if(X len).all p=F then K else G E:=by
 have:=A7v L len hl (fun i r=>if p i=F then r else G E) K hs he len 0 bigN (by omega) (E9 hl)
 rw[C1s (len:=len),← List.range_eq_range'] at this
 exact this
theorem D4e{L:Nat→Int→Option Bool}(len:Nat)(p:Nat→Bool)(K:Option Bool)(hl:len≤maxLen)
  (hs:∀(n i:Nat),i<len→L (n+1) (i:Int)=if p i=F then G E else L n (yH .i64 ((i:Int)+1))) (he:∀n,L (n+1) (len:Int)=K):L bigN 0=if(X len).any p=F then G E else K:=by
 have:=A7v L len hl (fun i r=>if p i=F then G E else r) K hs he len 0 bigN (by omega) (E9 hl)
 rw[C00 (len:=len),← List.range_eq_range'] at this
 exact this
def C9n(s:List UInt8)(i:Nat):Bool:=match s[i]? with
 | some b=>(decide (97≤(b.toNat:Int))&&decide ((b.toNat:Int)≤122)) || (!(decide (i=0))&&(decide (48≤(b.toNat:Int))&&decide ((b.toNat:Int)≤57)))
 | none=>E
def D0w(s:List UInt8):Bool:=decide (1≤(s.length:Int))&&decide ((s.length:Int)≤8)
def A44(s:List UInt8):Bool:=D0w s&&(X s.length).all (C9n s)
theorem E3k(c:Int)(K:Option Bool)(z':Bool)(z:Int)(i:Nat)(hz:z=(i:Int)) :
  (if decide (97≤c)=F then(if decide (c≤122)=F then K else if(z==0)=F then G E else if decide (c<48)=F then G E else if decide (57<c)=F then G E else K)
   else if E=F then K else if(z==0)=F then G E else if decide (c<48)=F then G E else if decide (57<c)=F then G E else K) =
  if((decide (97≤c)&&decide (c≤122)) || (!(decide (i=0))&&(decide (48≤c)&&decide (c≤57))))=F then K else G E:=by
 subst hz
 have e0:(((i:Nat):Int)==0)=decide (i=0):=by rw[zF]; simp
 have e1:decide (c<48)= !decide (48≤c):=by rw[zF]; simp
 have e2:decide (57<c)= !decide (c≤57):=by rw[zF]; simp
 rw[e0,e1,e2]
 cases decide (i=0)<;>cases decide (97≤c)<;>cases decide (c≤122)<;>cases decide (48≤c)<;>cases decide (c≤57)<;>rfl
theorem B2d{s:List UInt8}(h:s.length≤maxLen):A3h s=G (A44 s):=by
 unfold A3h
 rw[T6]
 rw[B1m (L:=O2 s) s.length (C9n s) (G F) h (fun n i hi=> ?_) (fun n=>by simp[O2])]
 ·unfold A44 D0w
  simp only[O]
  cases(X s.length).all (C9n s)<;>cases(decide (1≤(s.length:Int))&&decide ((s.length:Int)≤8))<;>simp
 ·simp only[O2,A3x,A3z,Z1,C9n,Q hi,O,E1,hi,decide_true,if_true]
  exact E3k _ _ F (i:Int) i rfl
theorem B1x{R:Type}(p:Nat→Bool)(f:Nat→R)(z:R):∀(k i:Nat),(zG i k).foldr (fun i r=>if p i=F then G (f i) else r) (G z)=G ((zG i k).foldr (fun i r=>if p i=F then f i else r) z)
 | 0,i=>by simp
 | k+1,i=>by
  rw[yB,zV,B1x p f z k (i+1),zV]
  cases p i<;>simp
def D64(xs:List XPoint)(s:List UInt8)(i:Nat):Bool:=match xs[i]? with
 | some x=>decide (x.Name=s)
 | none=>E
def B95(xs:List XPoint)(s:List UInt8):Int:=(zG 0 xs.length).foldr (fun i r=>if D64 xs s i=F then(i:Int) else r) (-1)
theorem B4f{c:XChart}{s:List UInt8}(h:c.Points.length≤maxLen):A15 c s=G (B95 c.Points s):=by
 unfold A15
 exact(A7v (Q7 s c) c.Points.length h (fun i r=>if D64 c.Points s i=F then G (i:Int) else r) (G (-1)) (fun n i hi=>by simp[Q7,Z1,hi,D64]) (fun n=>by simp[Q7]) c.Points.length 0 bigN (by omega) (E9 h)).trans (B1x _ _ _ _ _)
def jn(y:XSegment)(a b:Int):Bool:=(decide (y.A=a)&&decide (y.B=b)) || (decide (y.A=b)&&decide (y.B=a))
theorem C2j(y:XSegment)(a b:Int):A0j y a b=G (jn y a b):=by
 unfold A0j jn
 by_cases h1:y.A=a<;>by_cases h2:y.B=b<;>by_cases h3:y.A=b<;>by_cases h4:y.B=a<;>simp_all
theorem A59(i n:Int):D7 i n=G (decide (0≤i)&&decide (i<n)):=by
 unfold D7
 by_cases h:0≤i<;>simp[h]
def idx(i:Int)(n:Nat):Bool:=decide (0≤i)&&decide (i<(n:Int))
def A8j(c:XChart)(i:Nat):Bool:=match c.Segments[i]? with
 | some x=>idx x.A c.Points.length&&(idx x.B c.Points.length&&(!(decide (x.A=x.B))&&((decide (0≤x.Depth)&&decide (x.Depth≤3000))&&((decide (1≤x.Minutes)&&decide (x.Minutes≤240))&& !((X i).any fun j=>match c.Segments[j]? with | some y=>jn y x.A x.B | none=>E)))))
 | none=>E
def C5a(c:XChart)(i:Nat):Bool:=match c.Points[i]? with
 | some x=>A44 x.Name&&decide (B95 c.Points x.Name=(i:Int))
 | none=>E
def J3(c:XChart):Bool:=decide (c.Points.length≤8)&&(decide (c.Segments.length≤10)&&((X c.Points.length).all (C5a c)&&(X c.Segments.length).all (A8j c)))
theorem A5x{n i:Nat}(h:i≤n):bnd (n:Int) (i:Int) (0:Int) n=G (0,i):=by
 unfold bnd
 rw[if_pos ⟨by omega,by omega,by omega,by omega⟩]
 simp
theorem E2y{α:Type}{l:List α}{i j:Nat}(hj:j<i):(l.take i)[j]?=l[j]?:=by simp[List.getElem?_take,hj]
theorem O3{c:XChart}(hn:∀x∈c.Points,x.Name.length≤maxLen):M8 c=G (J3 c):=by
 unfold M8 J3
 by_cases h1:c.Points.length≤8
 ·have h1':¬(8:Int)<c.Points.length:=by omega
  by_cases h2:c.Segments.length≤10
  ·have h2':¬(10:Int)<c.Segments.length:=by omega
   have hp:c.Points.length≤maxLen:=by rw[F8]; omega
   have hs:c.Segments.length≤maxLen:=by rw[F8]; omega
   have inner:L6 c bigN 0=G ((X c.Segments.length).all (A8j c)):=by
    rw[B1m (L:=L6 c) c.Segments.length (A8j c) (G F) hs (fun n i hi=> ?_) (fun n=>by simp[L6])]
    ·cases(X c.Segments.length).all (A8j c)<;>rfl
    ·simp only[L6,Z1,Q hi,O,E1,hi,decide_true,if_true,T6,A59,show ∀(a:Int) (n:Nat),(decide (0≤a)&&decide (a<(n:Int)))=idx a n from fun _ _=>rfl,A5x (Nat.le_of_lt hi),A8j,List.drop_zero,Nat.sub_zero]
     have hl:(c.Segments.take i).length=i:=by simp; omega
     rw[hl]
     rw[D4e (L:=X9 c i c.Segments[i] (c.Segments.take i) (i:Int) (L6 c n)) i (fun j=>match c.Segments[j]? with | some y=>jn y c.Segments[i].A c.Segments[i].B | none=>E)
      (L6 c n (yH .i64 ((i:Int)+1))) (by omega) (fun m j hj=>by
       have hj2:j<c.Segments.length:=by omega
       simp only[X9,Z1,E2y hj,Q hj2,O,E1,hj,decide_true,if_true,C2j]) (fun m=>by simp[X9])]
     have e:(c.Segments[i].A==c.Segments[i].B)=decide (c.Segments[i].A=c.Segments[i].B):=rfl
     rw[e]
     cases idx c.Segments[i].A c.Points.length<;>cases idx c.Segments[i].B c.Points.length<;>cases decide (c.Segments[i].A=c.Segments[i].B)<;>cases(decide (0≤c.Segments[i].Depth)&&decide (c.Segments[i].Depth≤3000)) <;>
      cases(decide (1≤c.Segments[i].Minutes)&&decide (c.Segments[i].Minutes≤240))<;>cases((X i).any fun j=>match c.Segments[j]? with | some y=>jn y c.Segments[i].A c.Segments[i].B | none=>E)<;>rfl
   rw[B1m (L:=X4 c) c.Points.length (C5a c) _ hp (fun n i hi=> ?_) (fun n=>by simp only[X4,Int.lt_irrefl,decide_false,W,if_false]; exact inner)]
   ·simp only[h1,h2,h1',h2',decide_true,decide_false,zN,W,if_false]
    cases(X c.Points.length).all (C5a c)<;>rfl
   ·simp only[X4,Z1,Q hi,O,E1,hi,decide_true,if_true,B2d (hn _ (Y hi)),B4f hp,C5a]
    by_cases e:B95 c.Points c.Points[i].Name=(i:Int)<;>cases A44 c.Points[i].Name<;>simp[e]
  ·have h2':(10:Int)<c.Segments.length:=by omega
   simp[h1,h1',h2,h2']
 ·have h1':(8:Int)<c.Points.length:=by omega
  simp[h1,h1']
theorem C6p{s:List UInt8}(h:A44 s=F):1≤s.length∧s.length≤8:=by
 simp only[A44,D0w,P,decide_eq_true_eq] at h
 omega
def Z8(s:XShip):Bool:=A44 s.Name&&((decide (10≤s.Length)&&decide (s.Length≤400))&&((decide (100≤s.Draught)&&decide (s.Draught≤2000))&&((decide (0≤s.Line)&&decide (s.Line≤3))&&(decide (0≤s.Tugs)&&decide (s.Tugs≤4)))))
theorem E52(a b:Bool):(if a=F then G b else G E)=G (a&&b):=by cases a<;>rfl
theorem A2k{s:XShip}(h:s.Name.length≤maxLen):U3 s=G (Z8 s):=by
 have e:(decide (0≤s.Line)&&decide (s.Line<4))=(decide (0≤s.Line)&&decide (s.Line≤3)):=by
  congr 1
  rw[zF]; simp; omega
 simp only[U3,B2d h,T6,A59,O,E52,Z8,e]
theorem D0z{s:XShip}(h:Z8 s=F):A44 s.Name=F∧i64 s.Length∧i64 s.Draught∧i64 s.Line∧i64 s.Tugs:=by
 simp only[Z8,P,decide_eq_true_eq] at h
 unfold i64
 exact⟨h.1,by omega,by omega,by omega,by omega⟩
def B2s(xs:List XShip)(s:List UInt8)(i:Nat):Bool:=match xs[i]? with
 | some x=>decide (x.Name=s)
 | none=>E
def A5b(xs:List XShip)(s:List UInt8):Int:=(zG 0 xs.length).foldr (fun i r=>if B2s xs s i=F then(i:Int) else r) (-1)
theorem B53{xs:List XShip}{s:List UInt8}(h:xs.length≤maxLen):A2t xs s=G (A5b xs s):=by
 unfold A2t
 exact(A7v (T3 s xs) xs.length h (fun i r=>if B2s xs s i=F then G (i:Int) else r) (G (-1)) (fun n i hi=>by simp[T3,Z1,hi,B2s]) (fun n=>by simp[T3]) xs.length 0 bigN (by omega) (E9 h)).trans (B1x _ _ _ _ _)
def C4w(xs:List XShip)(i:Nat):Bool:=match xs[i]? with
 | some x=>Z8 x&&decide (A5b xs x.Name=(i:Int))
 | none=>E
def A6e(xs:List XShip):Bool:=decide (xs.length≤6)&&(X xs.length).all (C4w xs)
theorem C7x(a b:Int):(a !=b)= !decide (a=b):=rfl
theorem B1e{xs:List XShip}(hn:∀x∈xs,x.Name.length≤maxLen):A2m xs=G (A6e xs):=by
 unfold A2m A6e
 by_cases h:xs.length≤6
 ·have h':¬(6:Int)<xs.length:=by omega
  have hm:xs.length≤maxLen:=by rw[F8]; omega
  simp only[h,h',decide_true,decide_false,W,if_false,zN]
  refine D35 (L:=Y0 xs) xs.length (C4w xs) hm (fun n i hi=> ?_) (fun n=>by simp[Y0])
  simp only[Y0,E1,hi,decide_true,if_true,F2 hi,O,A2k (hn _ (Y hi)),B53 hm,C4w,Q hi,C7x]
  cases Z8 xs[i]<;>by_cases e:A5b xs xs[i].Name=(i:Int)<;>simp[e]
 ·have h':(6:Int)<xs.length:=by omega
  simp[h,h']
theorem A8i{xs:List XShip}(h:A6e xs=F):xs.length≤6∧∀x∈xs,Z8 x=F:=by
 simp only[A6e,P,decide_eq_true_eq,zE,zS] at h
 refine⟨h.1,fun x hx=> ?_⟩
 obtain⟨i,hi,rfl⟩:=List.getElem_of_mem hx
 have:=h.2 i hi
 simp only[C4w,Q hi,P] at this
 exact this.1
def V2(x:XSegment)(s:XShip):Int:=if s.Slow=F then yH .i64 (2*x.Minutes) else x.Minutes
def spl(c:UInt8):List UInt8→List UInt8→List (List UInt8)
 | cur,[]=> [cur]
 | cur,b::r=>if b=c then cur::spl c [] r else spl c (cur++ [b]) r
def split(c:UInt8)(s:List UInt8):List (List UInt8):=spl c [] s
theorem A3r(x:XSegment)(s:XShip):L8 s x=G (V2 x s):=by unfold L8 V2; split<;>rfl
def W2(c:XChart)(i:Int):XSegment:=c.Segments[i.toNat]?.getD ⟨0,0,0,0,E⟩
def Y9(l:List XShip)(i:Int):XShip:=l[i.toNat]?.getD ⟨[],0,0,0,0,E⟩
theorem C44{α:Type}{l:List α}{i:Int}(d:α)(h:idx i l.length=F):ix l i=G (l[i.toNat]?.getD d)∧l[i.toNat]?.getD d∈l:=by
 simp only[idx,P,decide_eq_true_eq] at h
 obtain⟨k,rfl⟩:∃k:Nat,i=(k:Int):=⟨i.toNat,by omega⟩
 have hk:k<l.length:=by omega
 have e:l[((k:Nat):Int).toNat]?.getD d=l[k]:=by simp[hk]
 rw[F2 hk,e]
 exact⟨rfl,Y hk⟩
theorem A3v{c:XChart}{i:Int}(h:idx i c.Segments.length=F):ix c.Segments i=G (W2 c i)∧W2 c i∈c.Segments:=C44 _ h
theorem A9x{l:List XShip}{i:Int}(h:idx i l.length=F):ix l i=G (Y9 l i)∧Y9 l i∈l:=C44 _ h
theorem A28(i:Int)(n:Nat):D7 i (n:Int)=G (idx i n):=A59 i n
def B1a(p:Int):Bool:=(decide (4≤p)&&decide (p≤2880))&&(yH .i64 (yG p 4)==0)
def A6s(x:XPart):Bool:=(decide (0≤x.Amp)&&decide (x.Amp≤1000))&&(B1a x.Period&&(decide (0≤x.Phase)&&decide (x.Phase≤yH .i64 (x.Period - 1))))
def A8y(t:XTide):Bool:=(decide (-1000≤t.Mean)&&decide (t.Mean≤1000))&&(decide (t.Parts.length≤4)&&t.Parts.all A6s)
theorem B6i(p:Int):A1q p=G (B1a p):=by
 simp only[A1q,T6,O,B1a]
 cases(decide (4≤p)&&decide (p≤2880))<;>rfl
theorem B96(x:XPart):A49 x=G (A6s x):=by
 simp only[A49,T6,B6i,O,A6s]
 cases(decide (0≤x.Amp)&&decide (x.Amp≤1000))<;>cases B1a x.Period<;>rfl
theorem C0g(t:XTide):A4y t=G (A8y t):=by
 simp only[A4y,T6,O,A8y]
 cases(decide (-1000≤t.Mean)&&decide (t.Mean≤1000)) with
 | false=>rfl
 | true=>
  by_cases h1:t.Parts.length≤4
  ·have h1':¬(4:Int)<t.Parts.length:=by omega
   rw[A97 (L:=A0d t) t.Parts A6s (by rw[F8]; omega) (fun n i hi=>by simp only[A0d,Z1,Q hi,O,E1,hi,decide_true,if_true,B96]) (fun n=>by simp[A0d])]
   simp[h1,h1']
  ·have h1':(4:Int)<t.Parts.length:=by omega
   simp[h1,h1']
def B49(x p:Int):Int:=if x<yH .i64 (V p 2) then
  yH .i64 (V (yH .i64 (yH .i64 (40000*x)*yH .i64 (yH .i64 (V p 2) - x))) (yH .i64 (yH .i64 (V p 2)*yH .i64 (V p 2))))
 else yH .i64 (0 - yH .i64 (V (yH .i64 (yH .i64 (40000*yH .i64 (x - yH .i64 (V p 2)))*yH .i64 (yH .i64 (V p 2) - yH .i64 (x - yH .i64 (V p 2))))) (yH .i64 (yH .i64 (V p 2)*yH .i64 (V p 2)))))
theorem C1n{p:Int}(h:B1a p=F):4≤p∧p≤2880∧yH .i64 (yG p 4)=0:=by
 simp only[B1a,P,decide_eq_true_eq,beq_iff_eq] at h
 exact⟨h.1.1,h.1.2,h.2⟩
theorem D12{p:Int}(h1:4≤p)(h2:p≤2880):(yH .i64 (yH .i64 (V p 2)*yH .i64 (V p 2))==0)=E:=by
 have e:V p 2=p / 2:=U (by omega)
 rw[e,B1 (n:=p / 2) (by omega) (by omega)]
 generalize hq:p / 2=q
 have q1:2≤q:=by omega
 have q2:q≤1440:=by omega
 have m1:2*2≤q*q:=yF q1 q1 (by omega) (by omega)
 have m2:q*q≤1440*1440:=yF q2 q2 (by omega) (by omega)
 rw[B1 (by omega) (by omega)]
 simp only[beq_eq_false_iff_ne,ne_eq]
 omega
theorem C56{n p:Int}(hp:B1a p=F)(hn:0≤n)(hn2:n≤100000):A6v n p=G (B49 (yG n p) p):=by
 obtain⟨p1,p2,p3⟩:=C1n hp
 have hm:yG n p=n % p:=Z hn
 have r1:=yE n (show p≠0 by omega)
 have r2:=zY n (show 0<p by omega)
 have k3:(p==0)=E:=by simp; omega
 have hmm:yG (n % p+p) p=n % p:=by
  rw[Z (by omega),Int.add_emod_right,Int.emod_emod]
 unfold A6v
 rw[B6i,hp,O,hm,B1 (n:=n % p) (by omega) (by omega),B1 (n:=n % p+p) (by omega) (by omega),hmm,B1 (n:=n % p) (by omega) (by omega),D12 p1 p2]
 simp only[k3,W,if_false,if_true,decide_eq_true_eq]
 unfold B49
 by_cases hx:n % p<yH .i64 (V p 2)
 ·rw[if_pos hx,if_neg (by omega)]
 ·rw[if_neg hx,if_pos (by omega)]
def A6h(x:XSurge):Bool:=(decide (0≤x.From)&&decide (x.From≤2880))&&((decide (-500≤x.Low)&&decide (x.Low≤500))&&(decide (x.Low≤x.High)&&decide (x.High≤500)))
theorem B9n(x:XSurge):A39 x=G (A6h x):=by
 simp only[A39,Z4,O,A6h]
 cases(decide (0≤x.From)&&decide (x.From≤2880))
 ·rfl
 ·by_cases a1: -500≤x.Low<;>by_cases a2:x.Low≤x.High<;>by_cases a3:x.High≤500<;>by_cases a4:x.Low≤500<;>simp[a1,a2,a3,a4]
  omega
def B46(l:List XSurge)(i:Nat):Bool:=match l[i]? with
 | some x=>A6h x&&(match i with | 0=>F | j+1=>match l[j]? with | some y=> !(decide (x.From≤y.From)) | none=>E)
 | none=>E
def B6v(l:List XSurge):Bool:=match l[0]? with
 | some x=>decide (x.From=0)
 | none=>E
def A7a(f:XForecast):Bool:=A8y f.Tide&&((decide (1≤(f.Surges.length:Int))&&decide ((f.Surges.length:Int)≤6))&&(B6v f.Surges&&(X f.Surges.length).all (B46 f.Surges)))
theorem D33(j:Nat)(h:j≤1000):yH .i64 (((j+1:Nat):Int) - 1)=(j:Int):=by
 rw[B1 (by omega) (by omega)]
 omega
theorem A1n(f:XForecast):M3 f=G (A7a f):=by
 simp only[M3,C0g,T6,O,A7a]
 cases A8y f.Tide with
 | false=>rfl
 | true=>
  cases hb:(decide (1≤(f.Surges.length:Int))&&decide ((f.Surges.length:Int)≤6)) with
  | false=>rfl
  | true=>
   simp only[P,decide_eq_true_eq] at hb
   have h0:0<f.Surges.length:=by omega
   have hl:f.Surges.length≤maxLen:=by rw[F8]; omega
   rw[B1m (L:=N3 f) f.Surges.length (B46 f.Surges) (G F) hl (fun n i hi=> ?_) (fun n=>by simp[N3])]
   ·have e0:ix f.Surges 0=G f.Surges[0]:=F2 h0
    simp only[e0,O,B6v,Q h0,zN,if_true]
    by_cases e:f.Surges[0].From=0<;>cases(X f.Surges.length).all (B46 f.Surges)<;>simp[e]
   ·simp only[N3,Z1,Q hi,O,E1,hi,decide_true,if_true,B9n,B46]
    cases i with
    | zero=>cases A6h f.Surges[0]<;>simp
    | succ j=>
     have hj:j<f.Surges.length:=by omega
     rw[D33 j (by omega)]
     simp only[Z1,Q hj,O]
     have hp:(0:Int)<((j+1:Nat):Int):=by omega
     cases A6h f.Surges[j+1]<;>cases decide (f.Surges[j+1].From≤f.Surges[j].From)<;>simp
theorem C5j{f:XForecast}(h:A7a f=F):A8y f.Tide=F∧0<f.Surges.length∧f.Surges.length≤6:=by
 simp only[A7a,P,decide_eq_true_eq] at h
 refine⟨h.1,?_,?_⟩<;>omega
def B85(n:Nat)(m:Int):Int:=if yH .i64 ((n:Int) - 1)<yH .i64 (V m 60) then yH .i64 ((n:Int) - 1) else yH .i64 (V m 60)
theorem C76{xs:List Int}{m:Int}(h1:1≤xs.length)(h2:xs.length≤48)(m0:0≤m)(m1:m≤2880):∃x,ix xs (B85 xs.length m)=G x:=by
 have e:V m 60=m / 60:=U m0
 unfold B85
 rw[e,B1 (n:=m / 60) (by omega) (by omega),B1 (n:=(xs.length:Int) - 1) (by omega) (by omega)]
 have k:∃j:Nat,(if(xs.length:Int) - 1<m / 60 then(xs.length:Int) - 1 else m / 60)=(j:Int)∧j<xs.length:=by
  split
  ·exact⟨xs.length - 1,by omega,by omega⟩
  ·exact⟨(m / 60).toNat,by omega,by omega⟩
 obtain⟨j,e1,h⟩:=k
 rw[e1]
 exact⟨_,F2 h⟩
theorem B6k{xs:List Int}(h:A0o xs=F):1≤xs.length∧xs.length≤48:=by
 simp only[A0o,P,decide_eq_true_eq] at h
 omega
def A5m(m:Int):Bool:=decide (0≤m)&&decide (m≤2880)
theorem D1s{a b:Int}(hb:1≤b){B:Int}(h1: -B≤a)(h2:a≤B): -B≤V a b∧V a b≤B:=by
 have hB:0≤B:=by omega
 by_cases ha:0≤a
 ·rw[U ha]
  have:=zP ha (show 0≤b by omega)
  have:=Int.ediv_le_self b ha
  omega
 ·obtain⟨c,rfl⟩:∃c,a= -c:=⟨-a,by omega⟩
  rw[Int.neg_tdiv,U (by omega)]
  have:=zP (show 0≤c by omega) (show 0≤b by omega)
  have:=Int.ediv_le_self b (show 0≤c by omega)
  omega
theorem A8o{a b A B:Int}(a1: -A≤a)(a2:a≤A)(b1: -B≤b)(b2:b≤B): -(A*B)≤a*b∧a*b≤A*B:=by
 have hA:0≤A:=by omega
 have hB:0≤B:=by omega
 have h:(a*b).natAbs≤(A*B).natAbs:=by
  rw[Int.natAbs_mul,Int.natAbs_mul]
  exact zX (by omega) (by omega)
 have hp:0≤A*B:=Int.mul_nonneg hA hB
 omega
theorem C9a{x p:Int}(h0:0≤x)(hx:x<p)(p1:4≤p)(p2:p≤2880): -200000000000≤B49 x p∧B49 x p≤200000000000:=by
 have e:V p 2=p / 2:=U (by omega)
 unfold B49
 rw[e,B1 (n:=p / 2) (by omega) (by omega)]
 generalize hq:p / 2=q
 have q1:2≤q:=by omega
 have q2:q≤1440:=by omega
 have qq:=A8o (a:=q) (b:=q) (A:=1440) (B:=1440) (by omega) (by omega) (by omega) (by omega)
 have q4:2*2≤q*q:=yF q1 q1 (by omega) (by omega)
 rw[B1 (n:=q*q) (by omega) (by omega)]
 have key:∀y:Int,-3000≤y→y≤3000→ -200000000000≤V (yH .i64 (yH .i64 (40000*y)*yH .i64 (q - y))) (q*q)∧V (yH .i64 (yH .i64 (40000*y)*yH .i64 (q - y))) (q*q)≤200000000000*5:=by
  intro y y1 y2
  rw[B1 (n:=40000*y) (by omega) (by omega),B1 (n:=q - y) (by omega) (by omega)]
  have m:=A8o (a:=40000*y) (b:=q - y) (A:=120000000) (B:=5000) (by omega) (by omega) (by omega) (by omega)
  rw[B1 (by omega) (by omega)]
  have t:=D1s (b:=q*q) (show 1≤q*q by omega) (B:=600000000000) (a:=40000*y*(q - y)) (by omega) (by omega)
  have t4:∀a:Int,-600000000000≤a→a≤600000000000→ -150000000000≤V a (q*q)∧V a (q*q)≤150000000000:=by
   intro a a1 a2
   have hd:∀c:Int,0≤c→c≤600000000000→0≤c / (q*q)∧c / (q*q)≤150000000000:=by
    intro c c1 c2
    refine⟨zP c1 (by omega),?_⟩
    have h3:=Int.mul_ediv_self_le (x:=c) (k:=q*q) (by omega)
    have h4:0≤c / (q*q):=zP c1 (by omega)
    have h5:4*(c / (q*q))≤q*q*(c / (q*q)):=zW (by omega) h4
    omega
   by_cases ha:0≤a
   ·rw[U ha]
    have:=hd a ha a2
    omega
   ·obtain⟨c,rfl⟩:∃c,a= -c:=⟨-a,by omega⟩
    rw[Int.neg_tdiv,U (by omega)]
    have:=hd c (by omega) (by omega)
    omega
  have:=t4 (40000*y*(q - y)) (by omega) (by omega)
  omega
 have key2:∀y:Int,-3000≤y→y≤3000→ -150000000000≤V (yH .i64 (yH .i64 (40000*y)*yH .i64 (q - y))) (q*q)∧V (yH .i64 (yH .i64 (40000*y)*yH .i64 (q - y))) (q*q)≤150000000000:=by
  intro y y1 y2
  rw[B1 (n:=40000*y) (by omega) (by omega),B1 (n:=q - y) (by omega) (by omega)]
  have m:=A8o (a:=40000*y) (b:=q - y) (A:=120000000) (B:=5000) (by omega) (by omega) (by omega) (by omega)
  rw[B1 (by omega) (by omega)]
  have hd:∀c:Int,0≤c→c≤600000000000→0≤c / (q*q)∧c / (q*q)≤150000000000:=by
   intro c c1 c2
   have h4:0≤c / (q*q):=zP c1 (by omega)
   refine⟨h4,?_⟩
   have h3:=Int.mul_ediv_self_le (x:=c) (k:=q*q) (by omega)
   have h5:4*(c / (q*q))≤q*q*(c / (q*q)):=zW (by omega) h4
   omega
  generalize hz:40000*y*(q - y)=z at m
  by_cases ha:0≤z
  ·rw[U ha]
   have:=hd z ha (by omega)
   omega
  ·obtain⟨c,rfl⟩:∃c,z= -c:=⟨-z,by omega⟩
   rw[Int.neg_tdiv,U (by omega)]
   have:=hd c (by omega) (by omega)
   omega
 split
 ·have:=key2 x (by omega) (by omega)
  rw[B1 (by omega) (by omega)]
  omega
 ·rw[B1 (n:=x - q) (by omega) (by omega)]
  have:=key2 (x - q) (by omega) (by omega)
  rw[B1 (n:=V _ _) (by omega) (by omega),B1 (by omega) (by omega)]
  omega
theorem B6f{f:XForecast}(hf:A7a f=F)(a:Nat)(ha:a<f.Surges.length): -500≤f.Surges[a].Low∧f.Surges[a].Low≤500∧f.Surges[a].Low≤f.Surges[a].High∧f.Surges[a].High≤500:=by
 simp only[A7a,P,zE,zS] at hf
 have:=hf.2.2.2 a ha
 simp only[B46,Q ha,P,A6h,decide_eq_true_eq] at this
 omega
theorem B9b{xs:List Int}(hx:A0o xs=F){i x:Int}(h:ix xs i=G x):0≤x∧x≤1000:=by
 simp only[A0o,P,zE,A8p,decide_eq_true_eq] at hx
 unfold ix at h
 split at h
 ·exact hx.2 x (List.mem_of_getElem? h)
 ·cases h
def B4j(w:XCrew):Bool:=(decide (0≤w.Tugs)&&decide (w.Tugs≤12))&&((decide (0≤w.Pilots)&&decide (w.Pilots≤12))&&(A5m w.Rest&&(decide (w.Moves.length=64)&&w.Moves.all fun x=>decide (0≤x)&&decide (x≤240))))
theorem C75(a b:Bool):(if a=F then G b else G E)=G (a&&b):=by cases a<;>rfl
theorem B8q{l:List Int}(h:l.length≤maxLen):U0 l bigN 0=G (l.all fun x=>decide (0≤x)&&decide (x≤240)):=
 A97 (L:=U0 l) l _ h (fun n i hi=>by simp[U0,Z1,hi,T6]) (fun n=>by simp[U0])
theorem C0d{w:XCrew}(h:w.Moves.length≤maxLen):A46 w=G (B4j w):=by
 simp only[A46,Y3,T6,Z4,O,B8q h,B4j,A5m]
 by_cases e:w.Moves.length=64
 ·have e':((w.Moves.length:Int) !=64)=E:=by simp; omega
  simp only[e,e',W,if_false,decide_true,zN,O]
  cases(decide (0≤w.Tugs)&&decide (w.Tugs≤12))<;>cases(decide (0≤w.Pilots)&&decide (w.Pilots≤12))<;>cases(decide (0≤w.Rest)&&decide (w.Rest≤2880))<;>rfl
 ·have e':((w.Moves.length:Int) !=64)=F:=by simp; omega
  simp only[e,e',if_true,decide_false,Bool.false_and,Bool.and_false,O]
  cases(decide (0≤w.Tugs)&&decide (w.Tugs≤12))<;>cases(decide (0≤w.Pilots)&&decide (w.Pilots≤12))<;>cases(decide (0≤w.Rest)&&decide (w.Rest≤2880))<;>rfl
def D1w(r:XRegime):Bool:=decide (0≤r.Gap)&&decide (r.Gap≤60)
def U9(h:XHarbour):Bool:=A7a h.Forecast&&(J3 h.Chart&&(A6e h.Fleet&&(D1w h.Regime&&B4j h.Crew)))
structure HSmall (h:XHarbour):Prop where
 pn:∀x∈h.Chart.Points,x.Name.length≤maxLen
 fn:∀x∈h.Fleet,x.Name.length≤maxLen
 mv:h.Crew.Moves.length≤maxLen
theorem A6j{h:XHarbour}(s:HSmall h):X7 h=G (U9 h):=by
 simp only[X7,A5o,A1n,O3 s.pn,B1e s.fn,C0d s.mv,T6,O,C75,U9,D1w]
theorem B4n{c:XChart}(h:J3 c=F):c.Points.length≤8∧c.Segments.length≤10∧∀x∈c.Segments,0≤x.Depth∧x.Depth≤3000∧1≤x.Minutes∧x.Minutes≤240:=by
 simp only[J3,P,decide_eq_true_eq,zE,zS] at h
 obtain⟨h1,h2,h3,h4⟩:=h
 refine⟨h1,h2,fun x hx=> ?_⟩
 obtain⟨i,hi,rfl⟩:=List.getElem_of_mem hx
 have:=h4 i hi
 simp only[A8j,Q hi,P,decide_eq_true_eq] at this
 omega
def A6p(c:XChart)(fl:List XShip)(p:XPassage):Bool:=idx p.Ship fl.length&&(idx p.Segment c.Segments.length&&(A5m p.Start&&(decide (p.End≤2880)&&decide (p.End=yH .i64 (p.Start+V2 (W2 c p.Segment) (Y9 fl p.Ship))))))
theorem A9h{c:XChart}{fl:List XShip}{p:XPassage}:A1d c fl p=G (A6p c fl p):=by
 unfold A1d
 simp only[A28,O,Z4,A6p,A5m]
 cases h3:idx p.Ship fl.length with
 | false=>simp
 | true=>
  cases h4:idx p.Segment c.Segments.length with
  | false=>simp
  | true=>
   cases h5:decide (0≤p.Start)&&decide (p.Start≤2880) with
   | false=>simp
   | true=>
    simp only[if_true,zN,(A9x h3).1,(A3v h4).1,O,A3r]
    have e0:decide (2880<p.End)= !decide (p.End≤2880):=by rw[zF]; simp
    rw[e0]
    cases decide (p.End≤2880)<;>simp
    rfl
theorem A5w{c:XChart}{fl:List XShip}{p:XPassage}(hc:J3 c=F)(h:A6p c fl p=F):idx p.Ship fl.length=F∧idx p.Segment c.Segments.length=F∧0≤p.Start∧p.Start≤p.End∧p.End≤2880:=by
 simp only[A6p,A5m,P,decide_eq_true_eq] at h
 obtain⟨h3,h4,h5,h6,h7⟩:=h
 refine⟨h3,h4,h5.1,?_,h6⟩
 obtain⟨_,_,a,b⟩:=(B4n hc).2.2 _ (A3v h4).2
 rw[h7]
 unfold V2
 split
 ·rw[B1 (n:=2*_) (by omega) (by omega),B1 (by omega) (by omega)]; omega
 ·rw[B1 (by omega) (by omega)]; omega
def B2u(s:XShip):Int:=if s.Slow=F then yH .i64 (V s.Draught 50) else yH .i64 (V s.Draught 20)
def A62(c:XChart)(i:Int)(s:XShip):Int:=yH .i64 (yH .i64 (yH .i64 (s.Draught+B2u s)+50) - (W2 c i).Depth)
theorem B0s{c:XChart}{s:XShip}{i:Int}(hn:∀x∈c.Points,x.Name.length≤maxLen)(hs:s.Name.length≤maxLen)(h1:J3 c=F)(h2:Z8 s=F)(h3:idx i c.Segments.length=F):Z5 c i s=G (A62 c i s):=by
 unfold Z5 A1c A4n A31
 simp only[O3 hn,A2k hs,h1,h2,O,if_true,A28,h3,(A3v h3).1,A62,B2u]
 cases s.Slow<;>rfl
theorem C9j{c:XChart}{s:XShip}{i:Int}(h1:J3 c=F)(h2:Z8 s=F)(h3:idx i c.Segments.length=F): -10000≤A62 c i s∧A62 c i s≤10000:=by
 obtain⟨d1,d2,_,_⟩:=(B4n h1).2.2 _ (A3v h3).2
 simp only[Z8,P,decide_eq_true_eq] at h2
 obtain⟨_,_,⟨g1,g2⟩,_⟩:=h2
 have hq:0≤B2u s∧B2u s≤2000:=by
  unfold B2u
  split
  ·rw[U (by omega),B1 (by omega) (by omega)]; omega
  ·rw[U (by omega),B1 (by omega) (by omega)]; omega
 unfold A62
 rw[B1 (n:=s.Draught+B2u s) (by omega) (by omega),B1 (n:=s.Draught+B2u s+50) (by omega) (by omega),B1 (by omega) (by omega)]
 omega
structure CurOk (c:Xl01Cur):Prop where
 i0:0≤c.i
 i1:c.i≤(c.b.length:Int)
 len:c.b.length≤maxLen
theorem B8c(x:Int):0≤K0 .and .i64 x 255∧K0 .and .i64 x 255≤255:=by
 have h:(BitVec.ofInt IntKind.i64.bits x &&& BitVec.ofInt IntKind.i64.bits 255).toNat≤255:=by
  rw[BitVec.toNat_and]
  exact Nat.le_trans Nat.and_le_right (by decide)
 have e:K0 .and .i64 x 255=((BitVec.ofInt IntKind.i64.bits x &&& BitVec.ofInt IntKind.i64.bits 255).toNat:Int):=by
  unfold K0
  exact B1 (by omega) (by omega)
 rw[e]
 omega
theorem A9z{c:Xl01Cur}(h:CurOk c):∃v c',N7 c=G (v,c')∧CurOk c'∧0≤v∧v≤255:=by
 unfold N7
 have hl:=h.len
 rw[F8] at hl
 by_cases hlt:c.i<(c.b.length:Int)
 ·obtain⟨i,hi⟩:∃i:Nat,c.i=(i:Int):=⟨c.i.toNat,by have:=h.i0; omega⟩
  have h2:i<c.b.length:=by omega
  simp only[hlt,decide_true,if_true]
  rw[hi,F2 h2]
  simp only[O]
  refine⟨_,_,rfl,⟨?_,?_,h.len⟩,(B8c _).1,(B8c _).2⟩
  ·show 0≤yH .i64 ((i:Int)+1)
   rw[B1 (by omega) (by omega)]; omega
  ·show yH .i64 ((i:Int)+1)≤(c.b.length:Int)
   rw[B1 (by omega) (by omega)]; omega
 ·simp only[hlt,decide_false,W,if_false]
  exact⟨_,_,rfl,⟨h.i0,h.i1,h.len⟩,(B8c _).1,(B8c _).2⟩
theorem F4{c:Xl01Cur}{n:Int}(h:CurOk c)(hn:n≤1000000):∃v c',A8 c n=G (v,c')∧CurOk c'∧0≤v∧(0<n→v<n)∧(n≤0→v=0):=by
 unfold A8
 by_cases h0:n≤0
 ·simp only[h0,decide_true,if_true]
  exact⟨0,c,rfl,h,by omega,fun h=>by omega,fun _=>rfl⟩
 simp only[h0,decide_false,W,if_false]
 have hne:(n==0)=E:=by simpa using fun e:n=0=>h0 (by omega)
 by_cases h1:n≤256
 ·obtain⟨v,c',e,k1,k2,k3⟩:=A9z h
  simp only[h1,decide_true,if_true,e,O,hne,W,if_false]
  have hm:=yE v (b:=n) (by omega)
  have hm2:=zY v (b:=n) (by omega)
  refine⟨_,_,rfl,k1,?_,?_,fun h=>by first | exact h.elim | exact absurd h h0⟩
  ·rw[Z k2,B1 (by omega) (by omega)]; exact hm
  ·intro _; rw[Z k2,B1 (by omega) (by omega)]; exact hm2
 ·obtain⟨v1,c1,e1,a1,a2,a3⟩:=A9z h
  obtain⟨v2,c2,e2,b1,b2,b3⟩:=A9z a1
  obtain⟨v3,c3,e3,d1,d2,d3⟩:=A9z b1
  obtain⟨v4,c4,e4,g1,g2,g3⟩:=A9z d1
  simp only[h1,decide_false,W,if_false,e1,e2,e3,e4,O,hne]
  rw[B1 (n:=v1*16777216) (by omega) (by omega),B1 (n:=v2*65536) (by omega) (by omega),B1 (n:=v3*256) (by omega) (by omega),B1 (n:=v1*16777216+v2*65536) (by omega) (by omega),
   B1 (n:=v1*16777216+v2*65536+v3*256) (by omega) (by omega),B1 (n:=v1*16777216+v2*65536+v3*256+v4) (by omega) (by omega)]
  have k2:0≤v1*16777216+v2*65536+v3*256+v4:=by omega
  have hm:=yE (v1*16777216+v2*65536+v3*256+v4) (b:=n) (by omega)
  have hm2:=zY (v1*16777216+v2*65536+v3*256+v4) (b:=n) (by omega)
  refine⟨_,_,rfl,g1,?_,?_,fun h=>by first | exact h.elim | exact absurd h h0⟩
  ·rw[Z k2,B1 (by omega) (by omega)]; exact hm
  ·intro _; rw[Z k2,B1 (by omega) (by omega)]; exact hm2
theorem D2j{a:List Int}(ha:a.length≤maxLen):∃c,A3e a=G c∧CurOk c:=by
 unfold A3e
 have key:∀(k i n:Nat) (v:Int),i+k=a.length→k<n→∃c,A0e a n v (i:Int)=G c∧CurOk c:=by
  intro k
  induction k with
  | zero=>
   intro i n v hi hn
   obtain⟨m,rfl⟩:=sn (n:=n) (by omega)
   have:i=a.length:=by omega
   subst this
   exact⟨_,by simp[A0e,A1t]; rfl,⟨by simp,by simp,ha⟩⟩
  | succ k ih=>
   intro i n v hi hn
   obtain⟨m,rfl⟩:=sn (n:=n) (by omega)
   have hlt:i<a.length:=by omega
   simp only[A0e,E1,hlt,decide_true,if_true,F2 hlt,O,H8 hlt ha]
   by_cases h4:(i:Int)<4000
   ·simp only[h4,decide_true,if_true]
    exact ih (i+1) m _ (by omega) (by omega)
   ·simp only[h4,decide_false,W,if_false,A1t]
    exact⟨_,rfl,⟨by simp,by simp,ha⟩⟩
 exact key a.length 0 bigN _ (by omega) (E9 ha)
theorem C1j{n:Nat}(h:n≤1000):n≤maxLen:=by rw[F8]; omega
theorem D2q{k:Nat}(hk:k≤1000):∀(j i n:Nat) (c:Xl01Cur),i+j=k→j<n→CurOk c→∃c',A0l (k:Int) n (i:Int) c.b c.i c.h=G c'∧CurOk c':=by
 intro j
 induction j with
 | zero=>
  intro i n c hi hn hc
  obtain⟨m,rfl⟩:=sn (n:=n) (by omega)
  have:i=k:=by omega
  subst this
  refine⟨c,?_,hc⟩
  rw[A0l]
  simp only[Int.lt_irrefl,decide_false,W,if_false]
 | succ j ih=>
  intro i n c hi hn hc
  obtain⟨m,rfl⟩:=sn (n:=n) (by omega)
  have hlt:i<k:=by omega
  obtain⟨v,c',e,h1,_,_⟩:=A9z hc
  have e':N7 ⟨c.b,c.i,c.h⟩=G (v,c'):=e
  rw[A0l]
  simp only[E1,hlt,decide_true,if_true,e',O]
  rw[H8 hlt (C1j hk)]
  exact ih (i+1) m c' (by omega) (by omega) h1
theorem E2q{a:List Int}{k:Nat}(hk:k≤1000)(ha:a.length≤maxLen):∃c,A3d a (k:Int)=G c∧CurOk c:=by
 unfold A3d
 obtain⟨c,e,hc⟩:=D2j ha
 have H:=D2q hk k 0 bigN c (by omega) (E9 (C1j hk)) hc
 rw[show((0:Nat):Int)=0 from rfl] at H
 rw[e]
 simpa only[O] using H
theorem A6f{c:Xl01Cur}{n:Int}(h:CurOk c)(hn:n≤1000000):∃b c',I7 c n=G (b,c')∧CurOk c':=by
 obtain⟨v,c',e,h1,_⟩:=F4 h hn
 refine⟨_,c',by simp only[I7,e,O]; rfl,h1⟩
def C59(s:XSegment):Bool:=(decide (0≤s.Depth)&&decide (s.Depth≤3000))&&(decide (1≤s.Minutes)&&decide (s.Minutes≤240))
def B8i(s:XSegment):XSegment:=⟨s.A,s.B,0,1,s.Meet⟩
def C0l(c:XChart):XChart:=⟨c.Points,c.Segments.map B8i⟩
theorem D43{c:XChart}{i:Nat}(hi:i<c.Segments.length)(h:A8j (C0l c) i=F)(hs:C59 c.Segments[i]=F):A8j c i=F:=by
 have e:∀(A B:Int),((X i).any fun j=>match (c.Segments.map B8i)[j]? with | some y=>jn y A B | none=>E)=((X i).any fun j=>match c.Segments[j]? with | some y=>jn y A B | none=>E):=by
  intro A B
  congr 1
  funext j
  rw[yA]
  cases c.Segments[j]?<;>rfl
 have hb:(C0l c).Segments[i]?=G (B8i c.Segments[i]):=by
  show(c.Segments.map B8i)[i]?=_
  rw[yA,Q hi]
  rfl
 unfold A8j at h ⊢
 rw[hb] at h
 rw[Q hi]
 simp only[P] at h ⊢
 obtain⟨h1,h2,h3,_,_,h6⟩:=h
 simp only[C59,P] at hs
 refine⟨h1,h2,h3,hs.1,hs.2,?_⟩
 have h6':(!((X i).any fun j=>match (c.Segments.map B8i)[j]? with | some y=>jn y c.Segments[i].A c.Segments[i].B | none=>E))=F:=h6
 rw[e] at h6'
 exact h6'
theorem A9q{c:XChart}(h1:J3 (C0l c)=F)(h2:∀s∈c.Segments,C59 s=F):J3 c=F:=by
 unfold J3 at h1 ⊢
 simp only[P] at h1 ⊢
 obtain⟨a1,a2,a3,a4⟩:=h1
 refine⟨a1,?_,a3,?_⟩
 ·have:(C0l c).Segments.length=c.Segments.length:=by simp[C0l]
  rw[this] at a2
  exact a2
 ·rw[zE] at a4 ⊢
  intro i hi
  have hlt:i<c.Segments.length:=zS.1 hi
  exact D43 hlt (a4 i (by rw[zS]; simpa[C0l] using hlt)) (h2 _ (Y hlt))
theorem C3q{A B d m:Int}{b:Bool}(h1:0≤d∧d≤3000)(h2:1≤m∧m≤240):C59 ⟨A,B,d,m,b⟩=F:=by
 simp only[C59,P,decide_eq_true_eq]
 exact⟨h1,h2⟩
theorem D9y{m n b:Nat}(h:m+n≤2000000)(hb:b≤1000):D4 m n b=F:=by
 unfold D4
 rw[decide_eq_true_eq]
 have:(m+n)*b≤2000000*1000:=zX h hb
 omega
theorem ifa{α:Type}{m n b:Nat}(h:m+n≤2000000)(hb:b≤1000)(x y:α):(if D4 m n b=F then x else y)=x:=by rw[if_pos (D9y h hb)]
theorem D6k{n:Int}(h0:0≤n)(h1:n<18446744073709551616):IntKind.u64.wrap n=n:=by
 simp only[IntKind.wrap,IntKind.bits,IntKind.signed]
 have:n % 18446744073709551616=n:=Int.emod_eq_of_lt h0 h1
 simp[this]
theorem A4c{n:Nat}(h:n<2 ^ 63):yH .i64 (n:Int)=n:=B1 (by omega) (by omega)
theorem A93{n:Nat}(h:n<2 ^ 64):IntKind.u64.wrap (n:Int)=n:=D6k (by omega) (by omega)
theorem A7w{s n:Nat}(h:∀i,s.testBit i=F→i<n):s<2 ^ n:=Nat.lt_pow_two_of_testBit s fun i hi=>by
 cases hb:s.testBit i with
 | false=>rfl
 | true=>have:=h i hb; omega
theorem C8g{a b n:Nat}(h:a<2 ^ n):L7 a b<2 ^ n:=A7w fun i hi=>by
 rw[A5a,P] at hi
 exact B1c h hi.1
theorem A4j{w n:Nat}(h:n<2 ^ w):(BitVec.ofInt w (n:Int)).toNat=n:=by
 rw[BitVec.ofInt_natCast,BitVec.toNat_ofNat,Nat.mod_eq_of_lt h]
theorem C72{w a b:Nat}(ha:a<2 ^ w)(hb:b<2 ^ w):(BitVec.ofInt w (a:Int) &&& ~~~ BitVec.ofInt w (b:Int)).toNat=L7 a b:=by
 rw[BitVec.toNat_and,BitVec.toNat_not,A4j ha,A4j hb]
 apply zL
 intro i
 rw[show 2 ^ w - 1 - b=2 ^ w - (b+1) by omega,zO,Nat.testBit_two_pow_sub_succ hb,A5a]
 cases hi:a.testBit i with
 | false=>rfl
 | true=>simp[B1c ha hi]
theorem E0q{a b:Nat}(ha:a<2 ^ 63)(hb:b<2 ^ 63):K0 .and .i64 (a:Int) (b:Int)=((a &&& b:Nat):Int):=by
 show yH .i64 ((BitVec.ofInt 64 (a:Int) &&& BitVec.ofInt 64 (b:Int)).toNat:Int)=_
 rw[BitVec.toNat_and,A4j (zB ha (by decide)),A4j (zB hb (by decide)),A4c (Nat.and_lt_two_pow a hb)]
theorem E5q{a b:Nat}(ha:a<2 ^ 63)(hb:b<2 ^ 63):K0 .or .i64 (a:Int) (b:Int)=((a ||| b:Nat):Int):=by
 show yH .i64 ((BitVec.ofInt 64 (a:Int) ||| BitVec.ofInt 64 (b:Int)).toNat:Int)=_
 rw[BitVec.toNat_or,A4j (zB ha (by decide)),A4j (zB hb (by decide)),A4c (zT ha hb)]
theorem C6k{a b:Nat}(ha:a<2 ^ 63)(hb:b<2 ^ 63):K0 .andNot .i64 (a:Int) (b:Int)=((L7 a b:Nat):Int):=by
 show yH .i64 ((BitVec.ofInt 64 (a:Int) &&& ~~~ BitVec.ofInt 64 (b:Int)).toNat:Int)=_
 rw[C72 (zB ha (by decide)) (zB hb (by decide)),A4c (C8g ha)]
theorem C5k{a b:Nat}(ha:a<2 ^ 64)(hb:b<2 ^ 64):K0 .or .u64 (a:Int) (b:Int)=((a ||| b:Nat):Int):=by
 show IntKind.u64.wrap ((BitVec.ofInt 64 (a:Int) ||| BitVec.ofInt 64 (b:Int)).toNat:Int)=_
 rw[BitVec.toNat_or,A4j ha,A4j hb,A93 (zT ha hb)]
theorem B0e{a b:Nat}(ha:a<2 ^ 64)(hb:b<2 ^ 64):K0 .andNot .u64 (a:Int) (b:Int)=((L7 a b:Nat):Int):=by
 show IntKind.u64.wrap ((BitVec.ofInt 64 (a:Int) &&& ~~~ BitVec.ofInt 64 (b:Int)).toNat:Int)=_
 rw[C72 ha hb,A93 (C8g ha)]
theorem B45{n:Nat}(h:n≤20):A0v .i64 (1:Int) (n:Int)=((2 ^ n:Nat):Int):=by
 have hp:2 ^ n<2 ^ 63:=zM (by omega) (by omega)
 unfold A0v
 rw[C,show min n IntKind.i64.bits=n by simp[IntKind.bits]; omega,Int.one_mul]
 have:((2:Int) ^ n)=((2 ^ n:Nat):Int):=by simp
 rw[this,A4c hp]
theorem B90{n:Nat}(h:n≤20):A0v .u64 (1:Int) (n:Int)=((2 ^ n:Nat):Int):=by
 have hp:2 ^ n<2 ^ 64:=zM (by omega) (by omega)
 unfold A0v
 rw[C,show min n IntKind.u64.bits=n by simp[IntKind.bits]; omega,Int.one_mul]
 have:((2:Int) ^ n)=((2 ^ n:Nat):Int):=by simp
 rw[this,A93 hp]
theorem D7r(n:Nat):((n:Int)==(0:Int))=decide (n=0):=by
 rw[zF]
 simp
def D3c:List UInt8:= [0,1,2,2,3,3,3,3,4,4,4,4,4,4,4,4,5,5,5,5,5,5,5,5,5,5,5,5,5,5,5,5,6,6,6,6,6,6,6,6,6,6,6,6,6,6,6,6,6,6,6,6,6,6,6,6,6,6,6,6,6,6,6,6,7,7,7,7,7,7,7,7,7,7,7,7,7,7,7,7,7,7,7,7,7,7,7,7,7,7,7,7,7,7,7,7,7,7,7,7,7,7,7,7,7,7,7,7,7,7,7,7,7,7,7,7,7,7,7,7,7,7,7,7,7,7,7,7,8,8,8,8,8,8,8,8,8,8,8,8,8,8,8,8,8,8,8,8,8,8,8,8,8,8,8,8,8,8,8,8,8,8,8,8,8,8,8,8,8,8,8,8,8,8,8,8,8,8,8,8,8,8,8,8,8,8,8,8,8,8,8,8,8,8,8,8,8,8,8,8,8,8,8,8,8,8,8,8,8,8,8,8,8,8,8,8,8,8,8,8,8,8,8,8,8,8,8,8,8,8,8,8,8,8,8,8,8,8,8,8,8,8,8,8,8,8,8,8,8,8,8,8,8,8,8,8]
theorem E0p(v8 v9:Int):W6 v8 v9=(ix D3c (IntKind.u8.wrap v8)).bind fun b10=>G (yH .i64 (v9+(yH .i64 (b10.toNat:Int)))):=rfl
def C8b(x:Nat):Bool:=match D3c[x]? with
 | some b=>decide (b.toNat≤8)&&(decide (x<2 ^ b.toNat)&&(x==0 || (decide (1≤b.toNat)&&decide (2 ^ (b.toNat - 1)≤x))))
 | none=>E
theorem C7m:(X 256).all C8b=F:=by kernel_rfl
theorem E5a{x:Nat}(hx:x<256)(n:Int):∃l:Nat,W6 (x:Int) n=G (yH .i64 (n+(l:Int)))∧l≤8∧x<2 ^ l∧(0<x→1≤l∧2 ^ (l - 1)≤x):=by
 have h:=zE.1 C7m x (by simpa using hx)
 unfold C8b at h
 split at h
 ·rename_i b hb
  simp only[P,decide_eq_true_eq,yD,beq_iff_eq] at h
  have hw:IntKind.u8.wrap (x:Int)=(x:Int):=by
   simp only[IntKind.wrap,IntKind.bits,IntKind.signed]
   have:(x:Int) % 256=x:=Int.emod_eq_of_lt (by omega) (by omega)
   simp[this]
  refine⟨b.toNat,?_,h.1,h.2.1,fun h0=> ?_⟩
  ·rw[E0p,hw,Z1,hb,O,A4c (n:=b.toNat) (by omega)]
  ·rcases h.2.2 with h3|h3
   ·omega
   ·exact h3
 ·cases h
theorem E5e{s:Nat}(h1:1≤s)(h2:s<4096):∃t:Nat,A1v (s:Int)=G ((t+1:Nat):Int)∧2 ^ t≤s∧s<2 ^ (t+1)∧t<12:=by
 have key:∃l:Nat,A1v (s:Int)=G ((l:Nat):Int)∧1≤l∧2 ^ (l - 1)≤s∧s<2 ^ l:=by
  unfold A1v A32
  rw[if_neg (by simp; omega)]
  unfold A0z
  rw[if_neg (by simp; omega)]
  unfold A0y
  by_cases hs:s<256
  ·rw[if_neg (by simp; omega)]
   obtain⟨l,e,l8,a1,a2⟩:=E5a hs 0
   obtain⟨a3,a4⟩:=a2 h1
   refine⟨l,?_,a3,a4,a1⟩
   rw[e,O,Int.zero_add,A4c (by omega)]
  ·rw[if_pos (by simp; omega)]
   have e8:A0i .u64 (s:Int) 8=((s / 256:Nat):Int):=by
    unfold A0i
    rw[show min 8 IntKind.u64.bits=8 by rfl,Int.fdiv_eq_ediv_of_nonneg _ (by decide)]
    have:((s:Int) / 2 ^ 8)=((s / 256:Nat):Int):=by simp
    rw[this,A93 (by omega)]
   have e9:yH .i64 ((0:Int)+8)=((8:Nat):Int):=by rw[B1 (by omega) (by omega)]; rfl
   rw[e8,e9]
   obtain⟨l,e,l8,a1,a2⟩:=E5a (x:=s / 256) (by omega) ((8:Nat):Int)
   obtain⟨a3,a4⟩:=a2 (by omega)
   refine⟨8+l,?_,by omega,?_,?_⟩
   ·have:((8:Nat):Int)+(l:Int)=((8+l:Nat):Int):=by omega
    rw[e,O,this,A4c (by omega)]
   ·rw[show 8+l - 1=(l - 1)+8 by omega,Nat.pow_add]
    omega
   ·rw[Nat.add_comm,Nat.pow_add]
    omega
 obtain⟨l,e,a1,a2,a3⟩:=key
 obtain⟨t,rfl⟩:=sn (n:=l) (by omega)
 refine⟨t,e,by simpa using a2,a3,?_⟩
 rcases zH t 12 with h|h
 ·exact h
 ·have:=zK (show 0<2 by omega) h
  simp at a2
  omega
theorem B60{s t:Nat}(h1:2 ^ t≤s)(h2:s<2 ^ (t+1)):s.testBit t=F∧L7 s (2 ^ t)<2 ^ t∧(∀i,(L7 s (2 ^ t)).testBit i=F→s.testBit i=F)∧(∀i,s.testBit i=F→i=t∨(L7 s (2 ^ t)).testBit i=F):=by
 have hb:∀i,(L7 s (2 ^ t)).testBit i=(s.testBit i&& !decide (t=i)):=fun i=>by rw[A5a,B0q]
 refine⟨Nat.testBit_of_two_pow_le_and_two_pow_add_one_gt h1 h2,A7w fun i hi=> ?_,fun i hi=> ?_,fun i hi=> ?_⟩
 ·rw[hb,P] at hi
  have:=B1c h2 hi.1
  have h3:t≠i:=by simpa using hi.2
  omega
 ·rw[hb,P] at hi
  exact hi.1
 ·by_cases h:i=t
  ·exact .inl h
  ·right
   rw[hb,hi]
   simpa using fun e:t=i=>h e.symm
def A36(d:XDuty):Bool:=decide (0≤d.From)&&(decide (d.From<d.To)&&(decide (d.To≤2880)&&((decide (0≤d.A)&&decide (d.A<8))&&(decide (0≤d.B)&&decide (d.B<8)))))
theorem E3t{R:Type}(a b c d e:Bool)(x y:R):(if(!a)=F then y else if(!b)=F then y else if(!c)=F then y else if d=F then(if e=F then x else y) else y)=if(a&&(b&&(c&&(d&&e))))=F then x else y:=by
 cases a<;>cases b<;>cases c<;>cases d<;>cases e<;>rfl
theorem A24{l:List XDuty}:A0g l=G (decide (l.length≤12)&&l.all A36):=by
 unfold A0g
 by_cases h:l.length≤12
 ·rw[if_neg (by simp; omega),A97 (L:=V5 l) l A36 (by rw[F8]; omega) (fun n i hi=> ?_) (fun n=>by simp[V5])]
  ·simp[h]
  ·simp only[V5,E1,hi,decide_true,if_true,F2 hi,O,A59,A36]
   generalize l[i]=d
   have g1:decide (d.From<0)= !decide (0≤d.From):=by by_cases h:0≤d.From<;>simp[h]<;>omega
   have g2:decide (d.To≤d.From)= !decide (d.From<d.To):=by by_cases h:d.From<d.To<;>simp[h]<;>omega
   have g3:decide (2880<d.To)= !decide (d.To≤2880):=by by_cases h:d.To≤2880<;>simp[h]<;>omega
   simp only[g1,g2,g3]
   exact E3t _ _ _ _ _ _ _
 ·rw[if_pos (by simp; omega)]
  simp[h]
def B82(m:List Int):Bool:=decide (m.length=64)&&m.all fun x=>decide (0≤x)&&decide (x≤240)
def B2p(p:Int)(m:List Int):Bool:=A5m p&&B82 m
theorem A9b{m:List Int}(h:m.length≤maxLen):Y3 m=G (B82 m):=by
 unfold Y3 B82
 rw[B8q h]
 by_cases h1:m.length=64
 ·simp[h1]
 ·have:((m.length:Int) !=64)=F:=by simpa using(by omega:¬((m.length:Int)=64))
  simp[h1,this]
theorem B4a(p:Int):G9 p=G (A5m p):=by rw[Z4]; rfl
def fol(p:Int)(m:List Int)(d e:XDuty):Bool:=decide (yH .i64 (d.To+yH .i64 (p+m[(8*d.B+e.A).toNat]?.getD 0))≤e.From)
theorem B7r{d:XDuty}(h:A36 d=F):0≤d.From∧d.From<d.To∧d.To≤2880∧0≤d.A∧d.A<8∧0≤d.B∧d.B<8:=by
 simp only[A36,P,decide_eq_true_eq] at h
 omega
theorem D7e{m:List Int}(hm:B82 m=F){b a:Int}(h0:0≤b)(h1:b<8)(h2:0≤a)(h3:a<8):ix m (8*b+a)=G (m[(8*b+a).toNat]?.getD 0):=by
 simp only[B82,P,decide_eq_true_eq] at hm
 obtain⟨k,hk⟩:∃k:Nat,8*b+a=(k:Int):=⟨(8*b+a).toNat,by omega⟩
 rw[hk,Z1,C,Q (by omega)]
 rfl
theorem B16{p:Int}{m:List Int}{d e:XDuty}(hl:m.length≤maxLen)(ht:B2p p m=F)(hd:A36 d=F)(he:A36 e=F):A07 p m d e=G (fol p m d e):=by
 obtain⟨_,_,_,_,_,b0,b1⟩:=B7r hd
 obtain⟨_,_,_,a0,a1,_,_⟩:=B7r he
 have ht':=ht
 simp only[B2p,P] at ht'
 unfold A07 A9k
 have c1:(decide (0≤d.B)&&decide (d.B<8))=F:=by simp; omega
 have c2:(decide (0≤e.A)&&decide (e.A<8))=F:=by simp; omega
 have o1:(decide ([d].length≤12)&& [d].all A36)=F:=by simp[hd]
 have o2:(decide ([e].length≤12)&& [e].all A36)=F:=by simp[he]
 rw[B4a,ht'.1,O,if_pos rfl,A9b hl,ht'.2,O,if_pos rfl,A59,c1,O,if_pos rfl,A59,c2,O]
 unfold A2x
 rw[if_neg (by simp),B1 (n:=8*d.B) (by omega) (by omega),B1 (n:=8*d.B+e.A) (by omega) (by omega),D7e ht'.2 b0 b1 a0 a1,O,O,if_pos rfl,A24,o1,O,if_pos rfl,A24,o2,O,if_pos rfl]
 rfl
def B3a(p:Int)(m:List Int)(l:List XDuty)(i k:Nat):Bool:=match l[i]?,l[k]? with
 | some d,G e=>fol p m d e || fol p m e d
 | _,_=>E
theorem D3s(p:Int)(m:List Int)(l:List XDuty)(i k:Nat):B3a p m l i k=B3a p m l k i:=by
 unfold B3a
 cases l[i]?<;>cases l[k]?<;>simp[Bool.or_comm]
theorem B80{n m b:Nat}(h:n+m≤1000000)(hb:b≤100):D4 n m b=F:=by
 unfold D4
 have:(n+m)*b≤1000000*100:=zX h hb
 simp
 omega
def nn(ms:List Nat):List Int:=ms.map fun x:Nat=>(x:Int)
theorem A6o(ms:List Nat):(nn ms).length=ms.length:=by simp[nn]
theorem A7q{ms:List Nat}{i:Nat}(h:i<ms.length):ix (nn ms) (i:Int)=G ((ms[i]:Nat):Int):=by
 rw[Z1,nn,yA,Q h]; rfl
theorem A95(ms:List Nat)(i a:Nat):(nn ms).set i (a:Int)=nn (ms.set i a):=by simp[nn,List.map_set]
theorem E4p(ms:List Nat)(a:Nat):nn ms++ [(a:Int)]=nn (ms++ [a]):=by simp[nn]
section
variable {p : Int} {m : List Int} {l : List XDuty}
theorem E02{i k:Nat}(hi:i<l.length)(hk:k<l.length):B3a p m l i k=(fol p m l[i] l[k] || fol p m l[k] l[i]):=by
 unfold B3a
 rw[Q hi,Q hk]
def adj(p:Int)(m:List Int)(l:List XDuty)(i j:Nat):Bool:=decide (j<l.length)&&(decide (i≠j)&&B3a p m l i j)
theorem D2a(hl:m.length≤maxLen)(ht:B2p p m=F)(hd:∀d∈l,A36 d=F)(hN:l.length≤12)(K:Int→List Int→Option (List Int)){i:Nat}(hi:i<l.length)(ms:List Nat)(hms:ms.length=l.length) :
  ∀(r k n a:Nat),k+r=l.length→r<n→(∀j,a.testBit j=(decide (j<k)&&(decide (i≠j)&&B3a p m l i j)))→
   ∃q,(∀j,q.testBit j=adj p m l i j)∧G8 p m l (i:Int) l[i] K n (k:Int) (nn (ms.set i a))=K (yH .i64 ((i:Int)+1)) (nn (ms.set i q)):=by
 have hm:l.length≤maxLen:=by rw[F8]; omega
 intro r
 induction r with
 | zero=>
  intro k n a hk hn ha
  obtain⟨n,rfl⟩:=sn (n:=n) (by omega)
  refine⟨a,fun j=> ?_,?_⟩
  ·rw[ha,show k=l.length by omega]; rfl
  ·rw[G8,if_neg (by simp; omega)]
 | succ r ih=>
  intro k n a hk hn ha
  obtain⟨n,rfl⟩:=sn (n:=n) (by omega)
  have hlt:k<l.length:=by omega
  have a12:a<2 ^ 12:=A7w fun j hj=>by
   rw[ha,P,decide_eq_true_eq] at hj; omega
  have step:∀v:Bool,v=(decide (i≠k)&&B3a p m l i k)→∃q,(∀j,q.testBit j=adj p m l i j)∧V9 p m l (i:Int) (k:Int) l[i] (nn (ms.set i a)) (G8 p m l (i:Int) l[i] K n) v=K (yH .i64 ((i:Int)+1)) (nn (ms.set i q)):=by
   intro v hv
   unfold V9
   cases v with
   | true=>
    rw[if_pos rfl,A7q (by simp; omega),O,if_neg (by simp),B90 (by omega),zU]
    have h12:2 ^ k<2 ^ 64:=zM (by omega) (by omega)
    rw[C5k (zB a12 (by decide)) h12,C,A95,List.set_set,H8 hlt hm]
    refine ih (k+1) n _ (by omega) (by omega) fun j=> ?_
    rw[zI,ha,B0q]
    by_cases hjk:k=j
    ·subst hjk
     have hx:¬i=k∧B3a p m l i k=F:=by simpa using hv.symm
     simp[hx.1,hx.2]
    ·have e:decide (j<k+1)=decide (j<k):=decide_eq_decide.2 (by omega)
     rw[e]
     simp[hjk]
   | false=>
    rw[if_neg (by simp),H8 hlt hm]
    refine ih (k+1) n a (by omega) (by omega) fun j=> ?_
    rw[ha]
    by_cases hjk:k=j
    ·subst hjk
     rw[← hv]
     simp
    ·have e:decide (j<k+1)=decide (j<k):=decide_eq_decide.2 (by omega)
     rw[e]
  rw[G8,E1,if_pos (by simpa using hlt),F2 hlt,O]
  by_cases hik:i=k
  ·subst hik
   rw[if_neg (by simp)]
   exact step E (by simp)
  ·have hne:((i:Int) !=(k:Int))=F:=by simp; omega
   rw[if_pos hne,B16 hl ht (hd _ (Y hi)) (hd _ (Y hlt)),O]
   have hb:=E02 (p:=p) (m:=m) hi hlt
   cases hf:fol p m l[i] l[k] with
   | true=>
    rw[if_pos rfl]
    exact step F (by rw[hb,hf]; simp[hik])
   | false=>
    rw[if_neg (by simp),B16 hl ht (hd _ (Y hlt)) (hd _ (Y hi)),O]
    exact step _ (by rw[hb,hf]; simp[hik])
theorem B7p(hl:m.length≤maxLen)(ht:B2p p m=F)(hd:∀d∈l,A36 d=F)(hN:l.length≤12):∃ms:List Nat,ms.length=l.length∧(∀i j:Nat,i<l.length→(ms[i]?.getD 0).testBit j=adj p m l i j)∧A3o p m l=G (nn ms):=by
 have hm:l.length≤maxLen:=by rw[F8]; omega
 have key:∀(r i n:Nat) (ms:List Nat),i+r=l.length→r<n→ms.length=l.length→(∀i' j:Nat,i'<i→(ms[i']?.getD 0).testBit j=adj p m l i' j)→(∀i':Nat,i≤i'→ms[i']?.getD 0=0)→
   ∃ms':List Nat,ms'.length=l.length∧(∀i j:Nat,i<l.length→(ms'[i]?.getD 0).testBit j=adj p m l i j)∧M2 p m l n (i:Int) (nn ms)=G (nn ms'):=by
  intro r
  induction r with
  | zero=>
   intro i n ms hi hn hms h1 h2
   obtain⟨n,rfl⟩:=sn (n:=n) (by omega)
   exact⟨ms,hms,fun i' j h=>h1 i' j (by omega),by rw[M2,if_neg (by simp; omega)]⟩
  | succ r ih=>
   intro i n ms hi hn hms h1 h2
   obtain⟨n,rfl⟩:=sn (n:=n) (by omega)
   have hlt:i<l.length:=by omega
   obtain⟨q,hq,e⟩:=D2a hl ht hd hN (M2 p m l n) hlt ms hms l.length 0 bigN 0 (by omega) (E9 hm) (fun j=>by simp)
   have e0:ms.set i 0=ms:=by
    have h3:=h2 i (Nat.le_refl _)
    rw[Q (by omega)] at h3
    have h3:ms[i]'(by omega)=0:=h3
    apply List.ext_getElem (by simp)
    intro j hj1 hj2
    by_cases hij:i=j
    ·subst hij; simp[h3]
    ·rw[List.getElem_set_ne hij]
   rw[e0] at e
   rw[M2,E1,if_pos (by simpa using hlt),F2 hlt,O]
   have e:G8 p m l (i:Int) l[i] (M2 p m l n) bigN 0 (nn ms)=_:=e
   rw[e,H8 hlt hm]
   refine ih (i+1) n (ms.set i q) (by omega) (by omega) (by simpa using hms) (fun i' j h=> ?_) (fun i' h=> ?_)
   ·by_cases hii:i=i'
    ·subst hii
     rw[zD (by omega)]
     exact hq j
    ·rw[zC hii]
     exact h1 i' j (by omega)
   ·rw[zC (by omega)]
    exact h2 i' (by omega)
 unfold A3o
 rw[C8d (by omega) (by omega),O]
 have hz:I l.length (0:Int)=nn (I l.length 0):=by simp[nn]
 rw[hz]
 exact key l.length 0 bigN _ (by omega) (E9 hm) (by simp) (fun i' j h=>by omega) (fun i' h=>by
  rw[List.getElem?_replicate]
  split<;>rfl)
end
section
variable {B : Nat → Nat → Bool} {N : Nat} {ms : List Nat}
def E74(B:Nat→Nat→Bool)(N:Nat)(ms:List Nat):Prop:=ms.length=N∧∀i j:Nat,i<N→(ms[i]?.getD 0).testBit j=(decide (j<N)&&(decide (i≠j)&&B i j))
theorem D7i:Clq B 0:=fun i j hi=>by simp at hi
theorem E0j(hB:∀i j,B i j=B j i){s t:Nat}(h1:2 ^ t≤s)(h2:s<2 ^ (t+1)):Clq B s↔Clq B (L7 s (2 ^ t))∧∀i,(L7 s (2 ^ t)).testBit i=F→B t i=F:=by
 obtain⟨a1,a2,a3,a4⟩:=B60 h1 h2
 constructor
 ·intro h
  exact⟨fun i j hi hj=>h i j (a3 i hi) (a3 j hj),fun i hi=>h t i a1 (a3 i hi) (by have:=B1c a2 hi; omega)⟩
 ·rintro⟨k1,k2⟩ i j hi hj hne
  rcases a4 i hi with rfl|hi
  ·rcases a4 j hj with rfl|hj
   ·exact absurd rfl hne
   ·exact k2 j hj
  ·rcases a4 j hj with rfl|hj
   ·rw[hB]; exact k2 i hi
   ·exact k1 i j hi hj hne
theorem B36{a b:Nat}:L7 a b=0↔∀i,a.testBit i=F→b.testBit i=F:=by
 constructor
 ·intro h i hi
  have:=A5a a b i
  rw[h,hi] at this
  cases hb:b.testBit i with
  | true=>rfl
  | false=>rw[hb] at this; simp at this
 ·intro h
  apply zL
  intro i
  rw[A5a,Nat.zero_testBit]
  cases hi:a.testBit i with
  | false=>rfl
  | true=>rw[h i hi]; rfl
theorem C70(a b:Nat):L7 a b≤a:=by
 rcases zH a (L7 a b) with h|h
 ·obtain⟨i,h1,h2⟩:=Nat.exists_testBit_ne_of_ne (Nat.ne_of_lt h) |>.elim fun i hi=>(⟨i,hi,⟨⟩⟩:∃i,a.testBit i≠(L7 a b).testBit i∧True)
  exfalso
  have:L7 a b &&& a=L7 a b:=C6j fun i hi=>by
   rw[A5a,P] at hi
   exact hi.1
  have h3:= @Nat.and_le_right (L7 a b) a
  omega
 ·exact h
def D56(B:Nat→Nat→Bool)(tg:List Bool)(s:Nat):Prop:=∀x,x<s→(tg[x]?.getD E=F↔Clq B x)
def E43(B:Nat→Nat→Bool)(ls:List Nat)(s:Nat):Prop:=∀x,x<s→B1k B x (ls[x]?.getD 0)
theorem C5l(hN:N≤12){x n:Nat}(hx:x<2 ^ N)(h:B1k B x n):n≤12:=Nat.le_trans (h.2 N (D34 hx)) hN
theorem C38{tg:List Bool}{x:Nat}(h:x<tg.length):ix tg (x:Int)=G (tg[x]?.getD E):=by
 rw[Z1,Q h]; rfl
theorem C3e{ls:List Nat}{x:Nat}(h:x<ls.length):ix (nn ls) (x:Int)=G (((ls[x]?.getD 0:Nat)):Int):=by
 rw[A7q h,Q h]; rfl
theorem D9p(hN:N≤12):2 ^ N≤4096:=by
 have:=zK (show 0<2 by omega) hN
 simpa using this
theorem C69(hN:N≤12)(y5:Int){s t:Nat}(hs:s<2 ^ N)(h1:2 ^ t≤s)(h2:s<2 ^ (t+1)){tg:List Bool}{ls:List Nat}(htl:tg.length=2 ^ N)(hll:ls.length=2 ^ N)(ht:D56 B tg (s+1))(hl:E43 B ls s)(K:Int→List Bool→List Int→Option Int) :
  ∀(n q c:Nat),q<n→q &&& L7 s (2 ^ t)=q→Cov B s c→c≤100→(∀q',q' &&& L7 s (2 ^ t)=q'→q<q'→Clq B (q' ||| 2 ^ t)→c≤1+ls[L7 (L7 s (2 ^ t)) q']?.getD 0)→
   ∃c',B1k B s c'∧I3 (nn ms) y5 (s:Int) (t:Int) ((L7 s (2 ^ t):Nat):Int) tg K n (q:Int) (nn (ls.set s c))=K (yH .i64 ((s:Int)+1)) tg (nn (ls.set s c')):=by
 obtain⟨a1,a2,a3,a4⟩:=B60 h1 h2
 have hp:=D9p hN
 have h2s:L7 s (2 ^ t)<s:=zQ a2 h1
 generalize hr:L7 s (2 ^ t)=r at a2 a3 a4 h2s
 intro n
 induction n with
 | zero=>intro q c hq; omega
 | succ n ih=>
  intro q c hq hsub hc hc1 hall
  have ht12:t<12:=by
   rcases zH t 12 with h|h
   ·exact h
   ·have:=zK (show 0<2 by omega) h
    simp at this
    omega
  have hqr:q≤r:=by have:= @Nat.and_le_right q r; omega
  have hor:q ||| 2 ^ t≤s:=by
   have hsb:(q ||| 2 ^ t) &&& s=q ||| 2 ^ t:=C6j fun i hi=>by
    rw[zI,B0q,yD,decide_eq_true_eq] at hi
    rcases hi with h|h
    ·exact a3 i (E4c hsub h)
    ·subst h; exact a1
   have:= @Nat.and_le_right (q ||| 2 ^ t) s
   omega
  have hsml:∀x:Nat,x≤s→x<2 ^ 63:=fun x hx=>zZ hx (zQ hs (Nat.le_trans hp (by decide)))
  have hand:L7 r q<s:=zZ (C70 r q) h2s
  have hset:s<(ls.set s c).length:=by simp; omega
  have hnext:∀c1:Nat,Cov B s c1→c1≤100→(∀q',q' &&& r=q'→q≤q'→Clq B (q' ||| 2 ^ t)→c1≤1+ls[L7 r q']?.getD 0)→
    ∃c',B1k B s c'∧S8 (nn ms) y5 (s:Int) (t:Int) (r:Int) (q:Int) tg K (I3 (nn ms) y5 (s:Int) (t:Int) (r:Int) tg K n) (nn (ls.set s c1))=K (yH .i64 ((s:Int)+1)) tg (nn (ls.set s c')):=by
   intro c1 g1 g2 g3
   unfold S8
   by_cases h0:q=0
   ·subst h0
    refine⟨c1,⟨g1,fun m hm=> ?_⟩,by rw[if_pos (by simp)]⟩
    obtain⟨q',n',e1,e2,e3,e4⟩:=D40 a1 a3 hm
    have:=(hl (L7 r q') (zZ (C70 r q') h2s)).2 n' e4
    have:=g3 q' e1 (Nat.zero_le _) e2
    omega
   ·rw[if_neg (by simpa using h0)]
    have ew:yH .i64 ((q:Int) - 1)=((q - 1:Nat):Int):=by
     rw[show(q:Int) - 1=((q - 1:Nat):Int) by omega]
     exact A4c (hsml _ (by omega))
    rw[ew,E0q (hsml _ (by omega)) (hsml _ (by omega))]
    have hlt:= @E33 q r (by omega)
    refine ih ((q - 1) &&& r) c1 (by omega) (E27 _ _) g1 g2 fun q' e1 e2 e3=> ?_
    refine g3 q' e1 ?_ e3
    rcases zH q' q with h|h
    ·have:=D8k r r q q' (Nat.le_refl _) hsub e1 h
     omega
    ·exact h
  rw[I3,if_neg (by simp),B45 (by omega),E5q (hsml _ (by omega)) (hsml _ (by omega)),C38 (by omega),O]
  have hk:=ht (q ||| 2 ^ t) (by omega)
  cases hb:tg[q ||| 2 ^ t]?.getD E with
  | false=>
   rw[if_neg (by simp)]
   refine hnext c hc hc1 fun q' e1 e2 e3=> ?_
   rcases zH q q' with h|h
   ·exact hall q' e1 h e3
   ·have:q'=q:=by omega
    subst this
    rw[hb] at hk
    exact absurd (hk.2 e3) (by simp)
  | true=>
   rw[if_pos rfl]
   have hcq:=hk.1 hb
   have e26:ix (nn (ls.set s c)) (s:Int)=G (c:Int):=by
    rw[A7q hset,zU]
   have e27:ix (nn (ls.set s c)) (K0 .andNot .i64 (r:Int) (q:Int))=G ((ls[L7 r q]?.getD 0:Nat):Int):=by
    rw[C6k (hsml _ (by omega)) (hsml _ (by omega)),C3e (by simp; omega),zC (by omega)]
   rw[e26,O,e27,O]
   have hle:=hl (L7 r q) hand
   have h12:=C5l hN (zB hand hs) hle
   generalize hv:ls[L7 r q]?.getD 0=v at hle h12
   have ew:yH .i64 ((1:Int)+(v:Int))=((1+v:Nat):Int):=by
    rw[show(1:Int)+(v:Int)=((1+v:Nat):Int) by omega]
    exact A4c (by omega)
   have emin:(if yH .i64 ((1:Int)+(v:Int))<(c:Int) then yH .i64 ((1:Int)+(v:Int)) else(c:Int))=((if 1+v<c then 1+v else c:Nat):Int):=by
    rw[ew]
    by_cases h:1+v<c
    ·rw[if_pos (by omega),if_pos h]
    ·rw[if_neg (by omega),if_neg h]
   rw[emin,C,A95,List.set_set]
   refine hnext _ ?_ (by split<;>omega) fun q' e1 e2 e3=> ?_
   ·split
    ·exact D69 a4 hcq hle.1
    ·exact hc
   ·rcases zH q q' with h|h
    ·have:=hall q' e1 h e3
     split<;>omega
    ·have:q'=q:=by omega
     subst this
     rw[hv]
     split<;>omega
theorem B9f(hB:∀i j,B i j=B j i)(hN:N≤12)(hm:E74 B N ms):∃n:Nat,B1k B (2 ^ N - 1) n∧n≤12∧A01 (nn ms)=G (n:Int):=by
 have hp:=D9p hN
 have hp0:0<2 ^ N:=Nat.pow_pos (by omega)
 obtain⟨hml,hmb⟩:=hm
 have key:∀(k s n:Nat) (tg:List Bool) (ls:List Nat),s+k=2 ^ N→k<n→1≤s→tg.length=2 ^ N→ls.length=2 ^ N→D56 B tg s→E43 B ls s→
   ∃v:Nat,B1k B (2 ^ N - 1) v∧v≤12∧G1 (nn ms) ((2 ^ N:Nat):Int) n (s:Int) tg (nn ls)=G (v:Int):=by
  intro k
  induction k with
  | zero=>
   intro s n tg ls hs hn hs1 htl hll ht hl
   obtain⟨n,rfl⟩:=sn (n:=n) (by omega)
   have:=hl (2 ^ N - 1) (by omega)
   refine⟨_,this,C5l hN (by omega) this,?_⟩
   have ew:yH .i64 (((2 ^ N:Nat):Int) - 1)=((2 ^ N - 1:Nat):Int):=by
    rw[show((2 ^ N:Nat):Int) - 1=((2 ^ N - 1:Nat):Int) by omega]
    exact A4c (by omega)
   rw[G1,if_neg (by simp only[E1,decide_eq_true_eq]; omega),ew,C3e (by omega),O]
  | succ k ih=>
   intro s n tg ls hs hn hs1 htl hll ht hl
   obtain⟨n,rfl⟩:=sn (n:=n) (by omega)
   obtain⟨t,e1,h1,h2,ht12⟩:=E5e hs1 (show s<4096 by omega)
   obtain⟨a1,a2,a3,a4⟩:=B60 h1 h2
   have htN:t<N:=B1c (show s<2 ^ N by omega) a1
   have h2s:L7 s (2 ^ t)<s:=zQ a2 h1
   have hsml:∀x:Nat,x≤s→x<2 ^ 63:=fun x hx=>by
    have:(4096:Nat)<2 ^ 63:=by decide
    omega
   have ew:yH .i64 (((t+1:Nat):Int) - 1)=(t:Int):=by
    rw[show((t+1:Nat):Int) - 1=(t:Int) by omega]
    exact A4c (by omega)
   have er:K0 .andNot .i64 (s:Int) (A0v .i64 (1:Int) (t:Int))=((L7 s (2 ^ t):Nat):Int):=by
    rw[B45 (by omega),C6k (hsml _ (Nat.le_refl _)) (hsml _ h1)]
   have hu:IntKind.u64.wrap (s:Int)=(s:Int):=A93 (by omega)
   have hct:=E0j hB h1 h2
   have rest:∀b:Bool,(b=F↔Clq B s)→∃v:Nat,B1k B (2 ^ N - 1) v∧v≤12∧
     S9 (nn ms) ((2 ^ N:Nat):Int) (s:Int) (nn ls) (G1 (nn ms) ((2 ^ N:Nat):Int) n) (t:Int) ((L7 s (2 ^ t):Nat):Int) (tg.set s b)=G (v:Int):=by
    intro b hb
    have ht':D56 B (tg.set s b) (s+1):=fun x hx=>by
     by_cases h:s=x
     ·subst h
      rw[zD (by omega)]
      exact hb
     ·rw[zC h]
      exact ht x (by omega)
    unfold S9
    rw[C3e (by omega),O,A6o,hml,C,A95]
    obtain⟨c',k1,k2⟩:=C69 (ms:=ms) hN ((2 ^ N:Nat):Int) (show s<2 ^ N by omega) h1 h2 (tg:=tg.set s b) (ls:=ls) (by simpa using htl) hll ht' hl (G1 (nn ms) ((2 ^ N:Nat):Int) n) bigN (L7 s (2 ^ t)) N (by rw[T8]; omega) (Nat.and_self _) (D34 (by omega)) (by omega) (fun q' g1 g2=>by
     have:= @Nat.and_le_right q' (L7 s (2 ^ t))
     omega)
    rw[k2,H8 (show s<4096 by omega) (by rw[F8]; omega)]
    refine ih (s+1) n (tg.set s b) (ls.set s c') (by omega) (by omega) (by omega) (by simpa using htl) (by simpa using hll) ht' fun x hx=> ?_
    by_cases h:s=x
    ·subst h
     rw[zD (by omega)]
     exact k1
    ·rw[zC h]
     exact hl x (by omega)
   rw[G1,E1,if_pos (by simp; omega),hu,e1,O,ew,if_neg (by simp),er,C38 (by omega),O,C]
   have hk:=ht (L7 s (2 ^ t)) h2s
   cases hb:tg[L7 s (2 ^ t)]?.getD E with
   | true=>
    rw[if_pos rfl,C3e (by omega),O,C38 (by omega),O]
    have hmt:ms[t]?.getD 0<2 ^ 12:=A7w fun j hj=>by
     rw[hmb t j htN,P,decide_eq_true_eq] at hj
     omega
    rw[A93 (n:=L7 s (2 ^ t)) (by omega),B0e (by omega) (zB hmt (by decide)),D7r]
    refine rest _ ?_
    rw[decide_eq_true_eq,B36,hct]
    constructor
    ·intro h
     refine⟨hk.1 hb,fun i hi=> ?_⟩
     have:=h i hi
     rw[hmb t i htN] at this
     simp at this
     exact this.2.2
    ·rintro⟨_,h⟩ i hi
     have hit:=B1c a2 hi
     rw[hmb t i htN,h i hi]
     simp
     omega
   | false=>
    rw[if_neg (by simp),C38 (by omega),O]
    refine rest E ?_
    rw[hct]
    constructor
    ·intro h; cases h
    ·rintro⟨h,_⟩
     have:=hk.2 h
     rw[hb] at this
     cases this
 unfold A01
 have hm1:∀b:Nat,b≤1000→mkS (A0v .i64 (1:Int) ((N:Nat):Int)) (A0v .i64 (1:Int) ((N:Nat):Int)) b=G (2 ^ N):=fun b hb=>by
  rw[B45 (by omega)]; exact C8d (by omega) hb
 rw[A6o,hml,if_neg (by simp),hm1 1 (by omega),O,hm1 8 (by omega),O,B45 (by omega)]
 have e0:ix (I (2 ^ N) E) (0:Int)=G E:=by
  have:=F2 (l:=I (2 ^ N) E) (i:=0) (by simpa using hp0)
  simpa using this
 have hz:I (2 ^ N) (0:Int)=nn (I (2 ^ N) 0):=by simp[nn]
 rw[e0,O,hz]
 obtain⟨v,k1,k2,k3⟩:=key (2 ^ N - 1) 1 bigN ((I (2 ^ N) E).set 0 F) (I (2 ^ N) 0) (by omega) (by rw[T8]; omega) (by omega) (by simp) (by simp)
  (fun x hx=>by
   have:x=0:=by omega
   subst this
   rw[zD (by simpa using hp0)]
   exact⟨fun _=>D7i,fun _=>rfl⟩)
  (fun x hx=>by
   have:x=0:=by omega
   subst this
   rw[List.getElem?_replicate,if_pos hp0]
   exact C9c)
 exact⟨v,k1,k2,k3⟩
end
theorem E14{g i:Nat}(h:g<2 ^ i):L7 (g ||| 2 ^ i) (2 ^ i)=g:=by
 apply zL
 intro j
 rw[A5a,zI,B0q]
 by_cases hj:i=j
 ·subst hj
  rw[Nat.testBit_lt_two_pow h]
  simp
 ·simp[hj]
theorem D5i{α:Type}{l:List α}{i:Nat}{x:α}(h:l[i]?=G x):l.set i x=l:=by
 apply List.ext_getElem?
 intro j
 by_cases hij:i=j
 ·subst hij
  rw[zD (List.getElem?_eq_some_iff.1 h).1,h]
 ·rw[zC hij]
theorem C64:∀(d fuel:Nat) (sm gs:List Nat) (most:Int) (who:List Int),who.length+d=sm.length→d<fuel→(∀x∈sm,x<2 ^ 12)→sm.length≤12→(∀g∈gs,0<g∧g<2 ^ who.length)→gs.length≤who.length→
  ∃b r,G4 fuel ⟨nn sm,most,nn gs,who⟩=G (b,r)∧r.most=most∧(b=E→r=⟨nn sm,most,nn gs,who⟩):=by
 intro d
 induction d with
 | zero=>
  intro fuel sm gs most who hd hf h1 h2 h3 h4
  obtain⟨fuel,rfl⟩:=sn (n:=fuel) (by omega)
  refine⟨F,⟨nn sm,most,nn gs,who⟩,?_,rfl,fun h=>by cases h⟩
  rw[G4,X0,if_pos (by simp[A6o]; omega)]
 | succ d ih=>
  intro fuel sm gs most who hd hf h1 h2 h3 h4
  obtain⟨fuel,rfl⟩:=sn (n:=fuel) (by omega)
  rw[G4,X0,if_neg (by simp[A6o]; omega)]
  have hi12:who.length≤11:=by omega
  have hpw:2 ^ who.length<2 ^ 64:=zM (by omega) (by omega)
  have hp0:0<2 ^ who.length:=Nat.pow_pos (by omega)
  have hpd:2 ^ (who.length+1)=2 ^ who.length+2 ^ who.length:=by rw[Nat.pow_succ]; omega
  have hsi:who.length<sm.length:=by omega
  have hsm:sm[who.length]<2 ^ 64:=zB (h1 _ (Y hsi)) (by decide)
  have key:∀(k p n:Nat),p+k=gs.length+1→k<n→∃b r,G2 (G4 fuel) ⟨nn sm,most,nn gs,who⟩ n (p:Int) (nn sm) most (nn gs) who=G (b,r)∧r.most=most∧(b=E→r=⟨nn sm,most,nn gs,who⟩):=by
   intro k
   induction k with
   | zero=>
    intro p n hp hn
    obtain⟨n,rfl⟩:=sn (n:=n) (by omega)
    refine⟨E,_,?_,rfl,fun _=>rfl⟩
    rw[G2,if_neg (by simp[A6o]; omega)]
   | succ k ihk=>
    intro p n hp hn
    obtain⟨n,rfl⟩:=sn (n:=n) (by omega)
    have hpl:p≤gs.length:=by omega
    rw[G2,if_pos (by simp[A6o]; omega)]
    cases hmost:decide ((p:Int)<most) with
    | false=>exact⟨E,_,by rw[if_neg (by simp)],rfl,fun _=>rfl⟩
    | true=>
     rw[if_pos rfl]
     by_cases hpe:p=gs.length
     ·
      rw[if_pos (by simp[A6o]; omega),if_pos (B80 (by simp[A6o]; omega) (by omega))]
      have e0:nn gs++ [(0:Int)]=nn (gs++ [0]):=E4p gs 0
      rw[e0]
      unfold Q2
      dsimp only
      have hpg:p<(gs++ [0]).length:=by simp; omega
      have hg0:(gs++ [0])[p]=0:=by simp[hpe]
      rw[A7q hpg,O,hg0,A7q hsi,O,B0e (by decide) hsm]
      have ez:L7 0 sm[who.length]=0:=B36.2 fun i hi=>by simp at hi
      rw[ez,if_pos (by simp),if_neg (by simp),if_pos (B80 (by simp; omega) (by omega)),B90 (by omega),C5k (by decide) hpw,Nat.zero_or,C,A95]
      have es:(gs++ [0]).set p (2 ^ who.length)=gs++ [2 ^ who.length]:=by
       rw[List.set_append_right _ _ (by omega)]
       simp[hpe]
      rw[es]
      obtain⟨b,r,k1,k2,k3⟩:=ih fuel sm (gs++ [2 ^ who.length]) most (who++ [(p:Int)]) (by simp; omega) (by omega) h1 h2 (fun g hg=>by
       rw[zR,zJ,hpd]
       rcases List.mem_append.1 hg with hg|hg
       ·have:=h3 g hg; omega
       ·rw[List.mem_singleton] at hg; omega) (by simp; omega)
      rw[k1,O]
      cases b with
      | true=>exact⟨F,r,by rw[if_pos rfl],k2,fun h=>by cases h⟩
      | false=>
       have:=k3 rfl
       subst this
       rw[if_neg (by simp)]
       have hw:((who++ [(p:Int)]).length:Int)=((who.length+1:Nat):Int):=by simp
       simp only[zR,zJ]
       rw[show bnd ((who.length+1:Nat):Int) (who.length:Int) 0 (who.length+1)=G (0,who.length) from A5x (by omega),O]
       have hpg2:p<(gs++ [2 ^ who.length]).length:=by simp; omega
       have hg2:(gs++ [2 ^ who.length])[p]=2 ^ who.length:=by simp[hpe]
       rw[A7q hpg2,O,hg2,if_neg (by simp),B0e hpw hpw,A95]
       have ez2:L7 (2 ^ who.length) (2 ^ who.length)=0:=B36.2 fun i hi=>hi
       have es2:(gs++ [2 ^ who.length]).set p 0=gs++ [0]:=by
        rw[List.set_append_right _ _ (by omega)]
        simp[hpe]
       have et:(who++ [(p:Int)]).take who.length=who:=by simp
       rw[ez2,es2,et]
       unfold N2
       rw[A7q hpg,O,hg0,if_pos (by simp),A6o]
       have hl1:(gs++ [0]).length=gs.length+1:=by simp
       rw[hl1,show bnd ((gs.length+1:Nat):Int) (p:Int) 0 (gs.length+1)=G (0,p) from A5x (by omega),O]
       have et2:(nn (gs++ [0])).take p=nn gs:=by rw[hpe]; simp[nn]
       show ∃b r,G (E,(⟨nn sm,most,(nn (gs++ [0])).take p,who⟩:Xcoverer))=G (b,r)∧_
       rw[et2]
       exact⟨E,_,rfl,rfl,fun _=>rfl⟩
     ·
      rw[if_neg (by simp[A6o]; omega)]
      have hpg:p<gs.length:=by omega
      have hgm:=h3 _ (Y hpg)
      have hnext:∃b r,N2 (G4 fuel) ⟨nn sm,most,nn gs,who⟩ (p:Int) (G2 (G4 fuel) ⟨nn sm,most,nn gs,who⟩ n) (nn sm) most (nn gs) who=G (b,r)∧r.most=most∧(b=E→r=⟨nn sm,most,nn gs,who⟩):=by
       unfold N2
       rw[A7q hpg,O,if_neg (by simp; omega),H8 hpg (by rw[F8]; omega)]
       exact ihk (p+1) n (by omega) (by omega)
      unfold Q2
      dsimp only
      rw[A7q hpg,O,A7q hsi,O,B0e (by omega) hsm]
      cases hfit:(((L7 gs[p] sm[who.length]:Nat):Int)==0) with
      | false=>rw[if_neg (by simp)]; exact hnext
      | true=>
       rw[if_pos rfl,if_neg (by simp),if_pos (B80 (by simp; omega) (by omega)),B90 (by omega),C5k (by omega) hpw,C,A95]
       have hor:gs[p] ||| 2 ^ who.length<2 ^ (who.length+1):=zT (by omega) (by omega)
       have hop:0<gs[p] ||| 2 ^ who.length:=by
        have:= @Nat.left_le_or gs[p] (2 ^ who.length)
        omega
       have hor64:gs[p] ||| 2 ^ who.length<2 ^ 64:=zT (by omega) hpw
       obtain⟨b,r,k1,k2,k3⟩:=ih fuel sm (gs.set p (gs[p] ||| 2 ^ who.length)) most (who++ [(p:Int)]) (by simp; omega) (by omega) h1 h2 (fun g hg=>by
        rw[zR,zJ]
        rcases List.mem_or_eq_of_mem_set hg with hg|hg
        ·have:=h3 g hg; omega
        ·subst hg; exact⟨hop,hor⟩) (by simp; omega)
       rw[k1,O]
       cases b with
       | true=>exact⟨F,r,by rw[if_pos rfl],k2,fun h=>by cases h⟩
       | false=>
        have:=k3 rfl
        subst this
        rw[if_neg (by simp)]
        simp only[zR,zJ]
        have hps:p<(gs.set p (gs[p] ||| 2 ^ who.length)).length:=by simp; omega
        rw[show bnd ((who.length+1:Nat):Int) (who.length:Int) 0 (who.length+1)=G (0,who.length) from A5x (by omega),O,A7q hps,O,zU,if_neg (by simp),B0e hor64 hpw,A95,E14 hgm.2,List.set_set,D5i (Q hpg)]
        have et:(who++ [(p:Int)]).take who.length=who:=by simp
        rw[et]
        exact hnext
  exact key (gs.length+1) 0 bigN (by omega) (by rw[T8]; omega)
section
variable {p : Int} {m : List Int} {l : List XDuty}
end
section
variable {c : XChart} {fl : List XShip}
def B8z(c:XChart)(p:XPassage):Int × Int:=if p.Toward=F then((W2 c p.Segment).A,(W2 c p.Segment).B) else((W2 c p.Segment).B,(W2 c p.Segment).A)
theorem B30{p:XPassage}(h:idx p.Segment c.Segments.length=F):W8 p c=G (B8z c p):=by
 unfold W8 B8z
 rw[(A3v h).1,O]
 split<;>rfl
theorem B5y{p:XPassage}(hn:∀x∈c.Points,x.Name.length≤maxLen)(hf:∀x∈fl,x.Name.length≤maxLen)(h1:J3 c=F)(h2:A6e fl=F):A2s c fl p=G (A6p c fl p):=by
 unfold A2s
 rw[O3 hn,h1,O,if_pos rfl,B1e hf,h2,O,if_pos rfl,A9h,O]
def B4s(c:XChart)(p q:XPassage):XDuty:=⟨p.Start,q.End,(B8z c p).1,(B8z c q).2⟩
theorem B3x{p q:XPassage}(h1:idx p.Segment c.Segments.length=F)(h2:idx q.Segment c.Segments.length=F):A5d c p q=G (B4s c p q):=by
 unfold A5d
 rw[B30 h1,O,B30 h2,O]
 rfl
theorem D4a{p:XPassage}{s:XShip}(h1:idx p.Segment c.Segments.length=F)(all:List XPassage)(v1:Int)(K:Int→List XDuty→Option (List XDuty × Bool)){T:Nat}(hT:s.Tugs=(T:Int))(hT4:T≤4) :
  ∀(r k n:Nat) (acc:List XDuty),k+r=T→r<n→acc.length≤12+k→O8 fl all v1 s c p K n (k:Int) acc =
   if(decide ((12:Int)<((acc++I r (B4s c p p)).length:Int))) then G (([]:List XDuty),E) else K (yH .i64 (v1+(1:Int))) (acc++I r (B4s c p p)):=by
 intro r
 induction r with
 | zero=>
  intro k n acc hk hn ha
  obtain⟨n,rfl⟩:=sn (n:=n) (by omega)
  rw[O8,if_neg (by rw[hT]; simp; omega)]
  simp
 | succ r ih=>
  intro k n acc hk hn ha
  obtain⟨n,rfl⟩:=sn (n:=n) (by omega)
  rw[O8,if_pos (by rw[hT]; simp; omega),B3x h1 h1,O,if_pos (B80 (by simp; omega) (by omega)),H8 (i:=k) (n:=5) (by omega) (by rw[F8]; omega)]
  have:=ih (k+1) n (acc++ [B4s c p p]) (by omega) (by omega) (by simp; omega)
  refine this.trans ?_
  rw[List.append_assoc]
  rfl
def small(n:Int):Prop:= -1≤n∧n≤12
end
end Go.Vi
