/-
Plain law of covers. No condition.
-/
import Derived.Test.YtmgfndipofbbaaaGreatKVi33
import Derived.Test.YtmgfndipofbbaaaGreatKNf
import Derived.KernelRfl
namespace Go.Vi
open Option renaming bind_some → X, some → G
open List renaming getElem?_eq_getElem → Y, range → zB, getElem_mem → zC, replicate → zF, getElem?_set_ne → zI, getElem?_set_self → zJ, range' → zL, length_singleton → zO, all_eq_true → zR, length_append → zX, mem_range → zY, getElem_set_self → yA, foldr_cons → yB, getElem?_map → yG, range'_succ → yH
open Bool renaming and_eq_true → Z, false_eq_true → zA, eq_iff_iff → zK, true_and → zT, or_eq_true → yJ, true → F, false → E
open Int renaming tdiv → C, tdiv_eq_ediv_of_nonneg → I, tmod_eq_emod_of_nonneg → zD, toNat_natCast → zE, ediv_nonneg → zV, mul_le_mul_of_nonneg_right → yC, emod_lt_of_pos → yE, emod_nonneg → yK, mul_le_mul → yL, tmod → yM
open Nat renaming mod_two_eq_zero_or_one → zG, lt_trans → zH, lt_or_ge → zM, testBit_or → zN, pow_le_pow_right → zP, eq_of_testBit_eq → zQ, pow_lt_pow_right → zS, testBit_and → zU, lt_of_lt_of_le → zW, or_lt_two_pow → zZ, mul_le_mul → yD, lt_of_le_of_lt → yF, and_div_two → yI
open IntKind renaming wrap → yN
open _root_ renaming List → O, Option → P, Int → Q, Bool → U, Nat → V, UInt8 → W
theorem sn{n:V}(h:0<n):∃q,n=q+1:=⟨n - 1,by omega⟩
set_option linter.all false
def M2(a b:V):V:=a ^^^ (a &&& b)
theorem A6o(a b i:V):(M2 a b).testBit i=(a.testBit i&& !b.testBit i):=by
 simp only[M2,Nat.testBit_xor,zU]
 cases a.testBit i<;>cases b.testBit i<;>rfl
theorem B1y(n i:V):(2 ^ n).testBit i=decide (n=i):=Nat.testBit_two_pow
theorem B2s{s n i:V}(h:s<2 ^ n)(hi:s.testBit i=F):i<n:=by
 rcases zM i n with h1|h1
 ·exact h1
 ·have:s<2 ^ i:=zW h (zP (by omega) h1)
  rw[Nat.testBit_lt_two_pow this] at hi
  cases hi
theorem E6n{s i:V}(hi:s.testBit i=F):i<s:=B2s Nat.lt_two_pow_self hi
theorem D0w(p:V→U):∀k:V,∃q:V,∀i,q.testBit i=(decide (i<k)&&p i)
 | 0=>⟨0,fun i=>by simp⟩
 | k+1=>by
  obtain⟨q,hq⟩:=D0w p k
  refine⟨q ||| (if p k then 2 ^ k else 0),fun i=> ?_⟩
  rw[zN,hq]
  by_cases hp:p k=F
  ·rw[if_pos hp,B1y]
   by_cases h:k=i
   ·subst h; simp[hp]
   ·have:decide (i<k+1)=decide (i<k):=by simp; omega
    simp[h,this]
  ·rw[if_neg hp,Nat.zero_testBit]
   by_cases h:k=i
   ·subst h; simp[hp]
   ·have:decide (i<k+1)=decide (i<k):=by simp; omega
    simp[this]
theorem F0k{q r:V}(h:q &&& r=q){i:V}(hi:q.testBit i=F):r.testBit i=F:=by
 have:=congrArg (fun x=>x.testBit i) h
 simp only[zU,hi,zT] at this
 exact this
theorem C7l{q r:V}(h:∀i,q.testBit i=F→r.testBit i=F):q &&& r=q:=by
 apply zQ
 intro i
 rw[zU]
 cases hq:q.testBit i with
 | false=>rfl
 | true=>rw[h i hq]; rfl
theorem D9k:∀(n r p q:V),r≤n→p &&& r=p→q &&& r=q→q<p→q≤(p - 1) &&& r:=by
 intro n
 induction n with
 | zero=>
  intro r p q hr hp hq hlt
  have:r=0:=by omega
  subst this
  rw[Nat.and_zero] at hp hq
  omega
 | succ n ih=>
  intro r p q hr hp hq hlt
  by_cases h0:r=0
  ·subst h0
   rw[Nat.and_zero] at hp hq
   omega
  have hp2:(p / 2) &&& (r / 2)=p / 2:=by rw[← yI,hp]
  have hq2:(q / 2) &&& (r / 2)=q / 2:=by rw[← yI,hq]
  have e2:∀a b:V,(a &&& b) % 2=(a % 2)*(b % 2):=fun a b=>by
   have h:=zU a b 0
   simp only[Nat.testBit_zero] at h
   rcases zG a with ha|ha<;>rcases zG b with hb|hb<;>rcases zG (a &&& b) with hc|hc<;>simp_all
  have hpm:=e2 p r
  have hqm:=e2 q r
  rw[hp] at hpm
  rw[hq] at hqm
  have hd:((p - 1) &&& r) / 2=((p - 1) / 2) &&& (r / 2):=yI
  have hm:=e2 (p - 1) r
  rcases zG p with h1|h1
  ·
   have i1:=ih (r / 2) (p / 2) (q / 2) (by omega) hp2 hq2 (by omega)
   have e3:(p - 1) / 2=p / 2 - 1:=by omega
   rw[e3] at hd
   have e4:(p - 1) % 2=1:=by omega
   rw[e4,Nat.one_mul] at hm
   have hqr:q % 2≤r % 2:=by
    rcases zG q with h2|h2
    ·omega
    ·rw[h2,Nat.one_mul] at hqm; omega
   omega
  ·have e3:(p - 1) / 2=p / 2:=by omega
   rw[e3,hp2] at hd
   omega
theorem E7u{p r:V}(h:0<p):(p - 1) &&& r<p:=by
 have:= @Nat.and_le_left (p - 1) r
 omega
theorem E51(p r:V):(p &&& r) &&& r=p &&& r:=by rw[Nat.and_assoc,Nat.and_self]
def Cov(B:V→V→U)(S m:V):Prop:=∃f:V→V,(∀i,S.testBit i=F→f i<m)∧∀i j,S.testBit i=F→S.testBit j=F→i≠j→f i=f j→B i j=F
def Clq(B:V→V→U)(S:V):Prop:=∀i j,S.testBit i=F→S.testBit j=F→i≠j→B i j=F
def B2w(B:V→V→U)(S n:V):Prop:=Cov B S n∧∀m,Cov B S m→n≤m
theorem D64{B:V→V→U}{S n:V}(h:S<2 ^ n):Cov B S n:=⟨id,fun i hi=>B2s h hi,fun i j _ _ hne e=>absurd e hne⟩
theorem D3i{B:V→V→U}:B2w B 0 0:=⟨⟨id,fun i hi=>by simp at hi,fun i j hi=>by simp at hi⟩,fun m _=>Nat.zero_le m⟩
theorem D9t{B:V→V→U}{S t rest q n:V}(hS:∀i,S.testBit i=F→i=t∨rest.testBit i=F)(hq:Clq B (q ||| 2 ^ t))(h:Cov B (M2 rest q) n):Cov B S (1+n):=by
 obtain⟨f,f1,f2⟩:=h
 have key:∀i,S.testBit i=F→(i=t∨q.testBit i=F)∨(M2 rest q).testBit i=F:=fun i hi=>by
  rcases hS i hi with h|h
  ·exact .inl (.inl h)
  ·cases hb:q.testBit i with
   | true=>exact .inl (.inr rfl)
   | false=>right; rw[A6o,h,hb]; rfl
 have hin:∀i,(i=t∨q.testBit i=F)→(q ||| 2 ^ t).testBit i=F:=fun i hi=>by
  rw[zN,B1y]
  rcases hi with h|h
  ·simp[h]
  ·simp[h]
 refine⟨fun i=>if i=t∨q.testBit i=F then n else f i,fun i hi=> ?_,fun i j hi hj hne e=> ?_⟩
 ·by_cases hx:i=t∨q.testBit i=F
  ·simp only[hx,if_true]; omega
  ·simp only[hx,if_false]
   rcases key i hi with h|h
   ·exact absurd h hx
   ·have:=f1 i h; omega
 ·by_cases hx:i=t∨q.testBit i=F
  ·by_cases hy:j=t∨q.testBit j=F
   ·exact hq i j (hin i hx) (hin j hy) hne
   ·simp only[hx,hy,if_true,if_false] at e
    have:=f1 j ((key j hj).resolve_left hy)
    omega
  ·by_cases hy:j=t∨q.testBit j=F
   ·simp only[hx,hy,if_true,if_false] at e
    have:=f1 i ((key i hi).resolve_left hx)
    omega
   ·simp only[hx,hy,if_false] at e
    exact f2 i j ((key i hi).resolve_left hx) ((key j hj).resolve_left hy) hne e
theorem D6u{B:V→V→U}{S t rest m:V}(hS:S.testBit t=F)(hr:∀i,rest.testBit i=F→S.testBit i=F)(h:Cov B S m):∃q n,q &&& rest=q∧Clq B (q ||| 2 ^ t)∧n+1=m∧Cov B (M2 rest q) n:=by
 obtain⟨f,f1,f2⟩:=h
 obtain⟨q,hq⟩:=D0w (fun i=>rest.testBit i&&decide (f i=f t)) rest
 have hq2:∀i,q.testBit i=F↔rest.testBit i=F∧f i=f t:=fun i=>by
  rw[hq i]
  constructor
  ·intro h
   simp only[Z,decide_eq_true_eq] at h
   exact h.2
  ·intro⟨h1,h2⟩
   simp only[Z,decide_eq_true_eq]
   exact⟨E6n h1,h1,h2⟩
 have hm:=f1 t hS
 refine⟨q,m - 1,C7l fun i hi=>((hq2 i).1 hi).1,fun i j hi hj hne=> ?_,by omega,fun i=>if f i=m - 1 then f t else f i,fun i hi=> ?_,fun i j hi hj hne e=> ?_⟩
 ·have side:∀i,(q ||| 2 ^ t).testBit i=F→S.testBit i=F∧f i=f t:=fun i hi=>by
   rw[zN,B1y,yJ,decide_eq_true_eq] at hi
   rcases hi with h|h
   ·exact⟨hr i ((hq2 i).1 h).1,((hq2 i).1 h).2⟩
   ·subst h; exact⟨hS,rfl⟩
  obtain⟨i1,i2⟩:=side i hi
  obtain⟨j1,j2⟩:=side j hj
  exact f2 i j i1 j1 hne (i2.trans j2.symm)
 ·rw[A6o,Z] at hi
  have hne:f i≠f t:=fun e=>by
   have:=(hq2 i).2 ⟨hi.1,e⟩
   rw[this] at hi
   simp at hi
  have:=f1 i (hr i hi.1)
  show(if f i=m - 1 then f t else f i)<m - 1
  split<;>omega
 ·rw[A6o,Z] at hi hj
  have hni:f i≠f t:=fun e=>by
   have:=(hq2 i).2 ⟨hi.1,e⟩
   rw[this] at hi
   simp at hi
  have hnj:f j≠f t:=fun e=>by
   have:=(hq2 j).2 ⟨hj.1,e⟩
   rw[this] at hj
   simp at hj
  have e2:f i=f j:=by
   have e:(if f i=m - 1 then f t else f i)=(if f j=m - 1 then f t else f j):=e
   split at e<;>split at e<;>omega
  exact f2 i j (hr i hi.1) (hr j hj.1) hne e2
def i64(n:Q):Prop:= -9223372036854775808≤n∧n≤9223372036854775807
theorem Y5(n lo hi:Q):E4 n lo hi=G (decide (lo≤n)&&decide (n≤hi)):=by
 unfold E4
 by_cases h:lo≤n<;>simp[h]
theorem D0y{n bytes:V}(h:n≤1048576)(hb:bytes≤1000):mkS (n:Q) (n:Q) bytes=G n:=by
 unfold mkS
 have:(n:Q)*(bytes:Q)≤140737488355328:=by
  have:n*bytes≤1048576*1000:=yD h hb
  have e:((n*bytes:V):Q)=(n:Q)*(bytes:Q):=by simp
  omega
 rw[if_pos ⟨by omega,by omega,this,by omega⟩]
 simp
theorem A3a(n:Q):I6 n=G (decide (0≤n)&&decide (n≤2880)):=by simp[I6,Y5]
theorem C3e{len:V}(p:V→U)(K:P U):∀(k i:V),(zL i k).foldr (fun i r=>if p i=F then r else G E) K=if(zL i k).all p=F then K else G E
 | 0,i=>by simp
 | k+1,i=>by
  rw[yH,yB,C3e (len:=len) p K k (i+1),List.all_cons]
  cases p i<;>rfl
theorem C34{len:V}(p:V→U)(K:P U):∀(k i:V),(zL i k).foldr (fun i r=>if p i=F then G E else r) K=if(zL i k).any p=F then G E else K
 | 0,i=>by simp
 | k+1,i=>by
  rw[yH,yB,C34 (len:=len) p K k (i+1),List.any_cons]
  cases p i<;>rfl
theorem B2l{L:V→Q→P U}(len:V)(p:V→U)(K:P U)(hl:len≤maxLen)
  (hs:∀(n i:V),i<len→L (n+1) (i:Q)=if p i=F then L n (yN .i64 ((i:Q)+1)) else G E) (he:∀n,L (n+1) (len:Q)=K):L bigN 0=if(zB len).all p=F then K else G E:=by
 have:=A8t L len hl (fun i r=>if p i=F then r else G E) K hs he len 0 bigN (by omega) (D4 hl)
 rw[C3e (len:=len),← List.range_eq_range'] at this
 exact this
theorem D5p{L:V→Q→P U}(len:V)(p:V→U)(K:P U)(hl:len≤maxLen)
  (hs:∀(n i:V),i<len→L (n+1) (i:Q)=if p i=F then G E else L n (yN .i64 ((i:Q)+1))) (he:∀n,L (n+1) (len:Q)=K):L bigN 0=if(zB len).any p=F then G E else K:=by
 have:=A8t L len hl (fun i r=>if p i=F then G E else r) K hs he len 0 bigN (by omega) (D4 hl)
 rw[C34 (len:=len),← List.range_eq_range'] at this
 exact this
def D4n(s:O W)(i:V):U:=match s[i]? with
 | some b=>(decide (97≤(b.toNat:Q))&&decide ((b.toNat:Q)≤122)) || (!(decide (i=0))&&(decide (48≤(b.toNat:Q))&&decide ((b.toNat:Q)≤57)))
 | none=>E
def D5e(s:O W):U:=decide (1≤(s.length:Q))&&decide ((s.length:Q)≤8)
def A6a(s:O W):U:=D5e s&&(zB s.length).all (D4n s)
theorem E6k(c:Q)(K:P U)(z':U)(z:Q)(i:V)(hz:z=(i:Q)) :
  (if decide (97≤c)=F then(if decide (c≤122)=F then K else if(z==0)=F then G E else if decide (c<48)=F then G E else if decide (57<c)=F then G E else K)
   else if E=F then K else if(z==0)=F then G E else if decide (c<48)=F then G E else if decide (57<c)=F then G E else K) =
  if((decide (97≤c)&&decide (c≤122)) || (!(decide (i=0))&&(decide (48≤c)&&decide (c≤57))))=F then K else G E:=by
 subst hz
 have e0:(((i:V):Q)==0)=decide (i=0):=by rw[zK]; simp
 have e1:decide (c<48)= !decide (48≤c):=by rw[zK]; simp
 have e2:decide (57<c)= !decide (c≤57):=by rw[zK]; simp
 rw[e0,e1,e2]
 cases decide (i=0)<;>cases decide (97≤c)<;>cases decide (c≤122)<;>cases decide (48≤c)<;>cases decide (c≤57)<;>rfl
theorem B3k{s:O W}(h:s.length≤maxLen):A4g s=G (A6a s):=by
 unfold A4g
 rw[Y5]
 rw[B2l (L:=P3 s) s.length (D4n s) (G F) h (fun n i hi=> ?_) (fun n=>by simp[P3])]
 ·unfold A6a D5e
  simp only[X]
  cases(zB s.length).all (D4n s)<;>cases(decide (1≤(s.length:Q))&&decide ((s.length:Q)≤8))<;>simp
 ·simp only[P3,A46,A4y,A0q,D4n,Y hi,X,C6,hi,decide_true,if_true]
  exact E6k _ _ F (i:Q) i rfl
theorem B29{R:Type}(p:V→U)(f:V→R)(z:R):∀(k i:V),(zL i k).foldr (fun i r=>if p i=F then G (f i) else r) (G z)=G ((zL i k).foldr (fun i r=>if p i=F then f i else r) z)
 | 0,i=>by simp
 | k+1,i=>by
  rw[yH,yB,B29 p f z k (i+1),yB]
  cases p i<;>simp
def D9m(xs:O Xc)(s:O W)(i:V):U:=match xs[i]? with
 | some x=>decide (x.Name=s)
 | none=>E
def C2j(xs:O Xc)(s:O W):Q:=(zL 0 xs.length).foldr (fun i r=>if D9m xs s i=F then(i:Q) else r) (-1)
theorem B6w{c:X5}{s:O W}(h:c.Points.length≤maxLen):A23 c s=G (C2j c.Points s):=by
 unfold A23
 exact(A8t (T1 s c) c.Points.length h (fun i r=>if D9m c.Points s i=F then G (i:Q) else r) (G (-1)) (fun n i hi=>by simp[T1,A0q,hi,D9m]) (fun n=>by simp[T1]) c.Points.length 0 bigN (by omega) (D4 h)).trans (B29 _ _ _ _ _)
def jn(y:X3)(a b:Q):U:=(decide (y.A=a)&&decide (y.B=b)) || (decide (y.A=b)&&decide (y.B=a))
theorem C4j(y:X3)(a b:Q):A07 y a b=G (jn y a b):=by
 unfold A07 jn
 by_cases h1:y.A=a<;>by_cases h2:y.B=b<;>by_cases h3:y.A=b<;>by_cases h4:y.B=a<;>simp_all
theorem A66(i n:Q):D2 i n=G (decide (0≤i)&&decide (i<n)):=by
 unfold D2
 by_cases h:0≤i<;>simp[h]
def idx(i:Q)(n:V):U:=decide (0≤i)&&decide (i<(n:Q))
def A9o(c:X5)(i:V):U:=match c.Segments[i]? with
 | some x=>idx x.A c.Points.length&&(idx x.B c.Points.length&&(!(decide (x.A=x.B))&&((decide (0≤x.Depth)&&decide (x.Depth≤3000))&&((decide (1≤x.Minutes)&&decide (x.Minutes≤240))&& !((zB i).any fun j=>match c.Segments[j]? with | some y=>jn y x.A x.B | none=>E)))))
 | none=>E
def C7k(c:X5)(i:V):U:=match c.Points[i]? with
 | some x=>A6a x.Name&&decide (C2j c.Points x.Name=(i:Q))
 | none=>E
def I4(c:X5):U:=decide (c.Points.length≤8)&&(decide (c.Segments.length≤10)&&((zB c.Points.length).all (C7k c)&&(zB c.Segments.length).all (A9o c)))
theorem A49{n i:V}(h:i≤n):bnd (n:Q) (i:Q) (0:Q) n=G (0,i):=by
 unfold bnd
 rw[if_pos ⟨by omega,by omega,by omega,by omega⟩]
 simp
theorem E4y{α:Type}{l:O α}{i j:V}(hj:j<i):(l.take i)[j]?=l[j]?:=by simp[List.getElem?_take,hj]
theorem M0{c:X5}(hn:∀x∈c.Points,x.Name.length≤maxLen):L8 c=G (I4 c):=by
 unfold L8 I4
 by_cases h1:c.Points.length≤8
 ·have h1':¬(8:Q)<c.Points.length:=by omega
  by_cases h2:c.Segments.length≤10
  ·have h2':¬(10:Q)<c.Segments.length:=by omega
   have hp:c.Points.length≤maxLen:=by rw[F4]; omega
   have hs:c.Segments.length≤maxLen:=by rw[F4]; omega
   have inner:M3 c bigN 0=G ((zB c.Segments.length).all (A9o c)):=by
    rw[B2l (L:=M3 c) c.Segments.length (A9o c) (G F) hs (fun n i hi=> ?_) (fun n=>by simp[M3])]
    ·cases(zB c.Segments.length).all (A9o c)<;>rfl
    ·simp only[M3,A0q,Y hi,X,C6,hi,decide_true,if_true,Y5,A66,show ∀(a:Q) (n:V),(decide (0≤a)&&decide (a<(n:Q)))=idx a n from fun _ _=>rfl,A49 (Nat.le_of_lt hi),A9o,List.drop_zero,Nat.sub_zero]
     have hl:(c.Segments.take i).length=i:=by simp; omega
     rw[hl]
     rw[D5p (L:=Z8 c i c.Segments[i] (c.Segments.take i) (i:Q) (M3 c n)) i (fun j=>match c.Segments[j]? with | some y=>jn y c.Segments[i].A c.Segments[i].B | none=>E)
      (M3 c n (yN .i64 ((i:Q)+1))) (by omega) (fun m j hj=>by
       have hj2:j<c.Segments.length:=by omega
       simp only[Z8,A0q,E4y hj,Y hj2,X,C6,hj,decide_true,if_true,C4j]) (fun m=>by simp[Z8])]
     have e:(c.Segments[i].A==c.Segments[i].B)=decide (c.Segments[i].A=c.Segments[i].B):=rfl
     rw[e]
     cases idx c.Segments[i].A c.Points.length<;>cases idx c.Segments[i].B c.Points.length<;>cases decide (c.Segments[i].A=c.Segments[i].B)<;>cases(decide (0≤c.Segments[i].Depth)&&decide (c.Segments[i].Depth≤3000)) <;>
      cases(decide (1≤c.Segments[i].Minutes)&&decide (c.Segments[i].Minutes≤240))<;>cases((zB i).any fun j=>match c.Segments[j]? with | some y=>jn y c.Segments[i].A c.Segments[i].B | none=>E)<;>rfl
   rw[B2l (L:=A0a c) c.Points.length (C7k c) _ hp (fun n i hi=> ?_) (fun n=>by simp only[A0a,Int.lt_irrefl,decide_false,zA,if_false]; exact inner)]
   ·simp only[h1,h2,h1',h2',decide_true,decide_false,zT,zA,if_false]
    cases(zB c.Points.length).all (C7k c)<;>rfl
   ·simp only[A0a,A0q,Y hi,X,C6,hi,decide_true,if_true,B3k (hn _ (zC hi)),B6w hp,C7k]
    by_cases e:C2j c.Points c.Points[i].Name=(i:Q)<;>cases A6a c.Points[i].Name<;>simp[e]
  ·have h2':(10:Q)<c.Segments.length:=by omega
   simp[h1,h1',h2,h2']
 ·have h1':(8:Q)<c.Points.length:=by omega
  simp[h1,h1']
theorem C8p{s:O W}(h:A6a s=F):1≤s.length∧s.length≤8:=by
 simp only[A6a,D5e,Z,decide_eq_true_eq] at h
 omega
def A2i(s:Xb):U:=A6a s.Name&&((decide (10≤s.Length)&&decide (s.Length≤400))&&((decide (100≤s.Draught)&&decide (s.Draught≤2000))&&((decide (0≤s.Line)&&decide (s.Line≤3))&&(decide (0≤s.Tugs)&&decide (s.Tugs≤4)))))
theorem E9b(a b:U):(if a=F then G b else G E)=G (a&&b):=by cases a<;>rfl
theorem A3e{s:Xb}(h:s.Name.length≤maxLen):V7 s=G (A2i s):=by
 have e:(decide (0≤s.Line)&&decide (s.Line<4))=(decide (0≤s.Line)&&decide (s.Line≤3)):=by
  congr 1
  rw[zK]; simp; omega
 simp only[V7,B3k h,Y5,A66,X,E9b,A2i,e]
theorem D3l{s:Xb}(h:A2i s=F):A6a s.Name=F∧i64 s.Length∧i64 s.Draught∧i64 s.Line∧i64 s.Tugs:=by
 simp only[A2i,Z,decide_eq_true_eq] at h
 unfold i64
 exact⟨h.1,by omega,by omega,by omega,by omega⟩
def B4k(xs:O Xb)(s:O W)(i:V):U:=match xs[i]? with
 | some x=>decide (x.Name=s)
 | none=>E
def A6m(xs:O Xb)(s:O W):Q:=(zL 0 xs.length).foldr (fun i r=>if B4k xs s i=F then(i:Q) else r) (-1)
theorem B8e{xs:O Xb}{s:O W}(h:xs.length≤maxLen):A31 xs s=G (A6m xs s):=by
 unfold A31
 exact(A8t (U9 s xs) xs.length h (fun i r=>if B4k xs s i=F then G (i:Q) else r) (G (-1)) (fun n i hi=>by simp[U9,A0q,hi,B4k]) (fun n=>by simp[U9]) xs.length 0 bigN (by omega) (D4 h)).trans (B29 _ _ _ _ _)
def C66(xs:O Xb)(i:V):U:=match xs[i]? with
 | some x=>A2i x&&decide (A6m xs x.Name=(i:Q))
 | none=>E
def A7m(xs:O Xb):U:=decide (xs.length≤6)&&(zB xs.length).all (C66 xs)
theorem D01(a b:Q):(a !=b)= !decide (a=b):=rfl
theorem B2q{xs:O Xb}(hn:∀x∈xs,x.Name.length≤maxLen):A3i xs=G (A7m xs):=by
 unfold A3i A7m
 by_cases h:xs.length≤6
 ·have h':¬(6:Q)<xs.length:=by omega
  have hm:xs.length≤maxLen:=by rw[F4]; omega
  simp only[h,h',decide_true,decide_false,zA,if_false,zT]
  refine D6z (L:=A0c xs) xs.length (C66 xs) hm (fun n i hi=> ?_) (fun n=>by simp[A0c])
  simp only[A0c,C6,hi,decide_true,if_true,D9 hi,X,A3e (hn _ (zC hi)),B8e hm,C66,Y hi,D01]
  cases A2i xs[i]<;>by_cases e:A6m xs xs[i].Name=(i:Q)<;>simp[e]
 ·have h':(6:Q)<xs.length:=by omega
  simp[h,h']
theorem B3e{xs:O Xb}(h:A7m xs=F):xs.length≤6∧∀x∈xs,A2i x=F:=by
 simp only[A7m,Z,decide_eq_true_eq,zR,zY] at h
 refine⟨h.1,fun x hx=> ?_⟩
 obtain⟨i,hi,rfl⟩:=List.getElem_of_mem hx
 have:=h.2 i hi
 simp only[C66,Y hi,Z] at this
 exact this.1
def Q7(x:X3)(s:Xb):Q:=if s.Slow=F then yN .i64 (2*x.Minutes) else x.Minutes
def spl(c:W):O W→O W→O (O W)
 | cur,[]=> [cur]
 | cur,b::r=>if b=c then cur::spl c [] r else spl c (cur++ [b]) r
def split(c:W)(s:O W):O (O W):=spl c [] s
theorem A4k(x:X3)(s:Xb):M6 s x=G (Q7 x s):=by unfold M6 Q7; split<;>rfl
def U0(c:X5)(i:Q):X3:=c.Segments[i.toNat]?.getD ⟨0,0,0,0,E⟩
def A34(l:O Xb)(i:Q):Xb:=l[i.toNat]?.getD ⟨[],0,0,0,0,E⟩
theorem C8r{α:Type}{l:O α}{i:Q}(d:α)(h:idx i l.length=F):ix l i=G (l[i.toNat]?.getD d)∧l[i.toNat]?.getD d∈l:=by
 simp only[idx,Z,decide_eq_true_eq] at h
 obtain⟨k,rfl⟩:∃k:V,i=(k:Q):=⟨i.toNat,by omega⟩
 have hk:k<l.length:=by omega
 have e:l[((k:V):Q).toNat]?.getD d=l[k]:=by simp[hk]
 rw[D9 hk,e]
 exact⟨rfl,zC hk⟩
theorem A35{c:X5}{i:Q}(h:idx i c.Segments.length=F):ix c.Segments i=G (U0 c i)∧U0 c i∈c.Segments:=C8r _ h
theorem B30{l:O Xb}{i:Q}(h:idx i l.length=F):ix l i=G (A34 l i)∧A34 l i∈l:=C8r _ h
theorem A17(i:Q)(n:V):D2 i (n:Q)=G (idx i n):=A66 i n
def B21(p:Q):U:=(decide (4≤p)&&decide (p≤2880))&&(yN .i64 (yM p 4)==0)
def A7w(x:Xi):U:=(decide (0≤x.Amp)&&decide (x.Amp≤1000))&&(B21 x.Period&&(decide (0≤x.Phase)&&decide (x.Phase≤yN .i64 (x.Period - 1))))
def A9v(t:Xn):U:=(decide (-1000≤t.Mean)&&decide (t.Mean≤1000))&&(decide (t.Parts.length≤4)&&t.Parts.all A7w)
theorem B8t(p:Q):A2o p=G (B21 p):=by
 simp only[A2o,Y5,X,B21]
 cases(decide (4≤p)&&decide (p≤2880))<;>rfl
theorem C2q(x:Xi):A6d x=G (A7w x):=by
 simp only[A6d,Y5,B8t,X,A7w]
 cases(decide (0≤x.Amp)&&decide (x.Amp≤1000))<;>cases B21 x.Period<;>rfl
theorem C24(t:Xn):A6i t=G (A9v t):=by
 simp only[A6i,Y5,X,A9v]
 cases(decide (-1000≤t.Mean)&&decide (t.Mean≤1000)) with
 | false=>rfl
 | true=>
  by_cases h1:t.Parts.length≤4
  ·have h1':¬(4:Q)<t.Parts.length:=by omega
   rw[B4l (L:=A01 t) t.Parts A7w (by rw[F4]; omega) (fun n i hi=>by simp only[A01,A0q,Y hi,X,C6,hi,decide_true,if_true,C2q]) (fun n=>by simp[A01])]
   simp[h1,h1']
  ·have h1':(4:Q)<t.Parts.length:=by omega
   simp[h1,h1']
def B7v(x p:Q):Q:=if x<yN .i64 (C p 2) then
  yN .i64 (C (yN .i64 (yN .i64 (40000*x)*yN .i64 (yN .i64 (C p 2) - x))) (yN .i64 (yN .i64 (C p 2)*yN .i64 (C p 2))))
 else yN .i64 (0 - yN .i64 (C (yN .i64 (yN .i64 (40000*yN .i64 (x - yN .i64 (C p 2)))*yN .i64 (yN .i64 (C p 2) - yN .i64 (x - yN .i64 (C p 2))))) (yN .i64 (yN .i64 (C p 2)*yN .i64 (C p 2)))))
theorem C3m{p:Q}(h:B21 p=F):4≤p∧p≤2880∧yN .i64 (yM p 4)=0:=by
 simp only[B21,Z,decide_eq_true_eq,beq_iff_eq] at h
 exact⟨h.1.1,h.1.2,h.2⟩
theorem D3u{p:Q}(h1:4≤p)(h2:p≤2880):(yN .i64 (yN .i64 (C p 2)*yN .i64 (C p 2))==0)=E:=by
 have e:C p 2=p / 2:=I (by omega)
 rw[e,A9 (n:=p / 2) (by omega) (by omega)]
 generalize hq:p / 2=q
 have q1:2≤q:=by omega
 have q2:q≤1440:=by omega
 have m1:2*2≤q*q:=yL q1 q1 (by omega) (by omega)
 have m2:q*q≤1440*1440:=yL q2 q2 (by omega) (by omega)
 rw[A9 (by omega) (by omega)]
 simp only[beq_eq_false_iff_ne,ne_eq]
 omega
theorem C7w{n p:Q}(hp:B21 p=F)(hn:0≤n)(hn2:n≤100000):A7q n p=G (B7v (yM n p) p):=by
 obtain⟨p1,p2,p3⟩:=C3m hp
 have hm:yM n p=n % p:=zD hn
 have r1:=yK n (show p≠0 by omega)
 have r2:=yE n (show 0<p by omega)
 have k3:(p==0)=E:=by simp; omega
 have hmm:yM (n % p+p) p=n % p:=by
  rw[zD (by omega),Int.add_emod_right,Int.emod_emod]
 unfold A7q
 rw[B8t,hp,X,hm,A9 (n:=n % p) (by omega) (by omega),A9 (n:=n % p+p) (by omega) (by omega),hmm,A9 (n:=n % p) (by omega) (by omega),D3u p1 p2]
 simp only[k3,zA,if_false,if_true,decide_eq_true_eq]
 unfold B7v
 by_cases hx:n % p<yN .i64 (C p 2)
 ·rw[if_pos hx,if_neg (by omega)]
 ·rw[if_neg hx,if_pos (by omega)]
def A7j(x:Xg):U:=(decide (0≤x.From)&&decide (x.From≤2880))&&((decide (-500≤x.Low)&&decide (x.Low≤500))&&(decide (x.Low≤x.High)&&decide (x.High≤500)))
theorem C1c(x:Xg):A5r x=G (A7j x):=by
 simp only[A5r,A3a,X,A7j]
 cases(decide (0≤x.From)&&decide (x.From≤2880))
 ·rfl
 ·by_cases a1: -500≤x.Low<;>by_cases a2:x.Low≤x.High<;>by_cases a3:x.High≤500<;>by_cases a4:x.Low≤500<;>simp[a1,a2,a3,a4]
  omega
def B75(l:O Xg)(i:V):U:=match l[i]? with
 | some x=>A7j x&&(match i with | 0=>F | j+1=>match l[j]? with | some y=> !(decide (x.From≤y.From)) | none=>E)
 | none=>E
def B84(l:O Xg):U:=match l[0]? with
 | some x=>decide (x.From=0)
 | none=>E
def A9d(f:Xf):U:=A9v f.Tide&&((decide (1≤(f.Surges.length:Q))&&decide ((f.Surges.length:Q)≤6))&&(B84 f.Surges&&(zB f.Surges.length).all (B75 f.Surges)))
theorem D6k(j:V)(h:j≤1000):yN .i64 (((j+1:V):Q) - 1)=(j:Q):=by
 rw[A9 (by omega) (by omega)]
 omega
theorem A6z(f:Xf):S4 f=G (A9d f):=by
 simp only[S4,C24,Y5,X,A9d]
 cases A9v f.Tide with
 | false=>rfl
 | true=>
  cases hb:(decide (1≤(f.Surges.length:Q))&&decide ((f.Surges.length:Q)≤6)) with
  | false=>rfl
  | true=>
   simp only[Z,decide_eq_true_eq] at hb
   have h0:0<f.Surges.length:=by omega
   have hl:f.Surges.length≤maxLen:=by rw[F4]; omega
   rw[B2l (L:=O2 f) f.Surges.length (B75 f.Surges) (G F) hl (fun n i hi=> ?_) (fun n=>by simp[O2])]
   ·have e0:ix f.Surges 0=G f.Surges[0]:=D9 h0
    simp only[e0,X,B84,Y h0,zT,if_true]
    by_cases e:f.Surges[0].From=0<;>cases(zB f.Surges.length).all (B75 f.Surges)<;>simp[e]
   ·simp only[O2,A0q,Y hi,X,C6,hi,decide_true,if_true,C1c,B75]
    cases i with
    | zero=>cases A7j f.Surges[0]<;>simp
    | succ j=>
     have hj:j<f.Surges.length:=by omega
     rw[D6k j (by omega)]
     simp only[A0q,Y hj,X]
     have hp:(0:Q)<((j+1:V):Q):=by omega
     cases A7j f.Surges[j+1]<;>cases decide (f.Surges[j+1].From≤f.Surges[j].From)<;>simp
theorem D8k{f:Xf}(h:A9d f=F):A9v f.Tide=F∧0<f.Surges.length∧f.Surges.length≤6:=by
 simp only[A9d,Z,decide_eq_true_eq] at h
 refine⟨h.1,?_,?_⟩<;>omega
def A6y(m:Q):U:=decide (0≤m)&&decide (m≤2880)
theorem D2j{a b:Q}(hb:1≤b){B:Q}(h1: -B≤a)(h2:a≤B): -B≤C a b∧C a b≤B:=by
 have hB:0≤B:=by omega
 by_cases ha:0≤a
 ·rw[I ha]
  have:=zV ha (show 0≤b by omega)
  have:=Int.ediv_le_self b ha
  omega
 ·obtain⟨c,rfl⟩:∃c,a= -c:=⟨-a,by omega⟩
  rw[Int.neg_tdiv,I (by omega)]
  have:=zV (show 0≤c by omega) (show 0≤b by omega)
  have:=Int.ediv_le_self b (show 0≤c by omega)
  omega
theorem B2n{a b A B:Q}(a1: -A≤a)(a2:a≤A)(b1: -B≤b)(b2:b≤B): -(A*B)≤a*b∧a*b≤A*B:=by
 have hA:0≤A:=by omega
 have hB:0≤B:=by omega
 have h:(a*b).natAbs≤(A*B).natAbs:=by
  rw[Int.natAbs_mul,Int.natAbs_mul]
  exact yD (by omega) (by omega)
 have hp:0≤A*B:=Int.mul_nonneg hA hB
 omega
theorem D1t{x p:Q}(h0:0≤x)(hx:x<p)(p1:4≤p)(p2:p≤2880): -200000000000≤B7v x p∧B7v x p≤200000000000:=by
 have e:C p 2=p / 2:=I (by omega)
 unfold B7v
 rw[e,A9 (n:=p / 2) (by omega) (by omega)]
 generalize hq:p / 2=q
 have q1:2≤q:=by omega
 have q2:q≤1440:=by omega
 have qq:=B2n (a:=q) (b:=q) (A:=1440) (B:=1440) (by omega) (by omega) (by omega) (by omega)
 have q4:2*2≤q*q:=yL q1 q1 (by omega) (by omega)
 rw[A9 (n:=q*q) (by omega) (by omega)]
 have key:∀y:Q,-3000≤y→y≤3000→ -200000000000≤C (yN .i64 (yN .i64 (40000*y)*yN .i64 (q - y))) (q*q)∧C (yN .i64 (yN .i64 (40000*y)*yN .i64 (q - y))) (q*q)≤200000000000*5:=by
  intro y y1 y2
  rw[A9 (n:=40000*y) (by omega) (by omega),A9 (n:=q - y) (by omega) (by omega)]
  have m:=B2n (a:=40000*y) (b:=q - y) (A:=120000000) (B:=5000) (by omega) (by omega) (by omega) (by omega)
  rw[A9 (by omega) (by omega)]
  have t:=D2j (b:=q*q) (show 1≤q*q by omega) (B:=600000000000) (a:=40000*y*(q - y)) (by omega) (by omega)
  have t4:∀a:Q,-600000000000≤a→a≤600000000000→ -150000000000≤C a (q*q)∧C a (q*q)≤150000000000:=by
   intro a a1 a2
   have hd:∀c:Q,0≤c→c≤600000000000→0≤c / (q*q)∧c / (q*q)≤150000000000:=by
    intro c c1 c2
    refine⟨zV c1 (by omega),?_⟩
    have h3:=Int.mul_ediv_self_le (x:=c) (k:=q*q) (by omega)
    have h4:0≤c / (q*q):=zV c1 (by omega)
    have h5:4*(c / (q*q))≤q*q*(c / (q*q)):=yC (by omega) h4
    omega
   by_cases ha:0≤a
   ·rw[I ha]
    have:=hd a ha a2
    omega
   ·obtain⟨c,rfl⟩:∃c,a= -c:=⟨-a,by omega⟩
    rw[Int.neg_tdiv,I (by omega)]
    have:=hd c (by omega) (by omega)
    omega
  have:=t4 (40000*y*(q - y)) (by omega) (by omega)
  omega
 have key2:∀y:Q,-3000≤y→y≤3000→ -150000000000≤C (yN .i64 (yN .i64 (40000*y)*yN .i64 (q - y))) (q*q)∧C (yN .i64 (yN .i64 (40000*y)*yN .i64 (q - y))) (q*q)≤150000000000:=by
  intro y y1 y2
  rw[A9 (n:=40000*y) (by omega) (by omega),A9 (n:=q - y) (by omega) (by omega)]
  have m:=B2n (a:=40000*y) (b:=q - y) (A:=120000000) (B:=5000) (by omega) (by omega) (by omega) (by omega)
  rw[A9 (by omega) (by omega)]
  have hd:∀c:Q,0≤c→c≤600000000000→0≤c / (q*q)∧c / (q*q)≤150000000000:=by
   intro c c1 c2
   have h4:0≤c / (q*q):=zV c1 (by omega)
   refine⟨h4,?_⟩
   have h3:=Int.mul_ediv_self_le (x:=c) (k:=q*q) (by omega)
   have h5:4*(c / (q*q))≤q*q*(c / (q*q)):=yC (by omega) h4
   omega
  generalize hz:40000*y*(q - y)=z at m
  by_cases ha:0≤z
  ·rw[I ha]
   have:=hd z ha (by omega)
   omega
  ·obtain⟨c,rfl⟩:∃c,z= -c:=⟨-z,by omega⟩
   rw[Int.neg_tdiv,I (by omega)]
   have:=hd c (by omega) (by omega)
   omega
 split
 ·have:=key2 x (by omega) (by omega)
  rw[A9 (by omega) (by omega)]
  omega
 ·rw[A9 (n:=x - q) (by omega) (by omega)]
  have:=key2 (x - q) (by omega) (by omega)
  rw[A9 (n:=C _ _) (by omega) (by omega),A9 (by omega) (by omega)]
  omega
theorem C95{f:Xf}(hf:A9d f=F)(a:V)(ha:a<f.Surges.length): -500≤f.Surges[a].Low∧f.Surges[a].Low≤500∧f.Surges[a].Low≤f.Surges[a].High∧f.Surges[a].High≤500:=by
 simp only[A9d,Z,zR,zY] at hf
 have:=hf.2.2.2 a ha
 simp only[B75,Y ha,Z,A7j,decide_eq_true_eq] at this
 omega
def B6k(w:Xo):U:=(decide (0≤w.Tugs)&&decide (w.Tugs≤12))&&((decide (0≤w.Pilots)&&decide (w.Pilots≤12))&&(A6y w.Rest&&(decide (w.Moves.length=64)&&w.Moves.all fun x=>decide (0≤x)&&decide (x≤240))))
theorem D05(a b:U):(if a=F then G b else G E)=G (a&&b):=by cases a<;>rfl
theorem C1w{l:O Q}(h:l.length≤maxLen):U6 l bigN 0=G (l.all fun x=>decide (0≤x)&&decide (x≤240)):=
 B4l (L:=U6 l) l _ h (fun n i hi=>by simp[U6,A0q,hi,Y5]) (fun n=>by simp[U6])
theorem C20{w:Xo}(h:w.Moves.length≤maxLen):A6f w=G (B6k w):=by
 simp only[A6f,A0o,Y5,A3a,X,C1w h,B6k,A6y]
 by_cases e:w.Moves.length=64
 ·have e':((w.Moves.length:Q) !=64)=E:=by simp; omega
  simp only[e,e',zA,if_false,decide_true,zT,X]
  cases(decide (0≤w.Tugs)&&decide (w.Tugs≤12))<;>cases(decide (0≤w.Pilots)&&decide (w.Pilots≤12))<;>cases(decide (0≤w.Rest)&&decide (w.Rest≤2880))<;>rfl
 ·have e':((w.Moves.length:Q) !=64)=F:=by simp; omega
  simp only[e,e',if_true,decide_false,Bool.false_and,Bool.and_false,X]
  cases(decide (0≤w.Tugs)&&decide (w.Tugs≤12))<;>cases(decide (0≤w.Pilots)&&decide (w.Pilots≤12))<;>cases(decide (0≤w.Rest)&&decide (w.Rest≤2880))<;>rfl
def D4v(r:Xl):U:=decide (0≤r.Gap)&&decide (r.Gap≤60)
def O3(h:X6):U:=A9d h.Forecast&&(I4 h.Chart&&(A7m h.Fleet&&(D4v h.Regime&&B6k h.Crew)))
structure HSmall (h:X6):Prop where
 pn:∀x∈h.Chart.Points,x.Name.length≤maxLen
 fn:∀x∈h.Fleet,x.Name.length≤maxLen
 mv:h.Crew.Moves.length≤maxLen
theorem B0q{h:X6}(s:HSmall h):A18 h=G (O3 h):=by
 simp only[A18,A6v,A6z,M0 s.pn,B2q s.fn,C20 s.mv,Y5,X,D05,O3,D4v]
theorem B7a{c:X5}(h:I4 c=F):c.Points.length≤8∧c.Segments.length≤10∧∀x∈c.Segments,0≤x.Depth∧x.Depth≤3000∧1≤x.Minutes∧x.Minutes≤240:=by
 simp only[I4,Z,decide_eq_true_eq,zR,zY] at h
 obtain⟨h1,h2,h3,h4⟩:=h
 refine⟨h1,h2,fun x hx=> ?_⟩
 obtain⟨i,hi,rfl⟩:=List.getElem_of_mem hx
 have:=h4 i hi
 simp only[A9o,Y hi,Z,decide_eq_true_eq] at this
 omega
def A8j(c:X5)(fl:O Xb)(p:X4):U:=idx p.Ship fl.length&&(idx p.Segment c.Segments.length&&(A6y p.Start&&(decide (p.End≤2880)&&decide (p.End=yN .i64 (p.Start+Q7 (U0 c p.Segment) (A34 fl p.Ship))))))
theorem B8b{c:X5}{fl:O Xb}{p:X4}:A3y c fl p=G (A8j c fl p):=by
 unfold A3y
 simp only[A17,X,A3a,A8j,A6y]
 cases h3:idx p.Ship fl.length with
 | false=>simp
 | true=>
  cases h4:idx p.Segment c.Segments.length with
  | false=>simp
  | true=>
   cases h5:decide (0≤p.Start)&&decide (p.Start≤2880) with
   | false=>simp
   | true=>
    simp only[if_true,zT,(B30 h3).1,(A35 h4).1,X,A4k]
    have e0:decide (2880<p.End)= !decide (p.End≤2880):=by rw[zK]; simp
    rw[e0]
    cases decide (p.End≤2880)<;>simp
    rfl
theorem B1o{c:X5}{fl:O Xb}{p:X4}(hc:I4 c=F)(h:A8j c fl p=F):idx p.Ship fl.length=F∧idx p.Segment c.Segments.length=F∧0≤p.Start∧p.Start≤p.End∧p.End≤2880:=by
 simp only[A8j,A6y,Z,decide_eq_true_eq] at h
 obtain⟨h3,h4,h5,h6,h7⟩:=h
 refine⟨h3,h4,h5.1,?_,h6⟩
 obtain⟨_,_,a,b⟩:=(B7a hc).2.2 _ (A35 h4).2
 rw[h7]
 unfold Q7
 split
 ·rw[A9 (n:=2*_) (by omega) (by omega),A9 (by omega) (by omega)]; omega
 ·rw[A9 (by omega) (by omega)]; omega
def E2c(s:Xb):Q:=if s.Slow=F then yN .i64 (C s.Draught 50) else yN .i64 (C s.Draught 20)
def C42(c:X5)(i:Q)(s:Xb):Q:=yN .i64 (yN .i64 (yN .i64 (s.Draught+E2c s)+50) - (U0 c i).Depth)
theorem B9h{c:X5}{s:Xb}{i:Q}(hn:∀x∈c.Points,x.Name.length≤maxLen)(hs:s.Name.length≤maxLen)(h1:I4 c=F)(h2:A2i s=F)(h3:idx i c.Segments.length=F):A4p c i s=G (C42 c i s):=by
 unfold A4p A13 A58 A5b
 simp only[M0 hn,A3e hs,h1,h2,X,if_true,A17,h3,(A35 h3).1,C42,E2c]
 cases s.Slow<;>rfl
structure CurOk (c:X1):Prop where
 i0:0≤c.i
 i1:c.i≤(c.b.length:Q)
 len:c.b.length≤maxLen
theorem C03(x:Q):0≤K5 .and .i64 x 255∧K5 .and .i64 x 255≤255:=by
 have h:(BitVec.ofInt IntKind.i64.bits x &&& BitVec.ofInt IntKind.i64.bits 255).toNat≤255:=by
  rw[BitVec.toNat_and]
  exact Nat.le_trans Nat.and_le_right (by decide)
 have e:K5 .and .i64 x 255=((BitVec.ofInt IntKind.i64.bits x &&& BitVec.ofInt IntKind.i64.bits 255).toNat:Q):=by
  unfold K5
  exact A9 (by omega) (by omega)
 rw[e]
 omega
theorem B1d{c:X1}(h:CurOk c):∃v c',O4 c=G (v,c')∧CurOk c'∧0≤v∧v≤255:=by
 unfold O4
 have hl:=h.len
 rw[F4] at hl
 by_cases hlt:c.i<(c.b.length:Q)
 ·obtain⟨i,hi⟩:∃i:V,c.i=(i:Q):=⟨c.i.toNat,by have:=h.i0; omega⟩
  have h2:i<c.b.length:=by omega
  simp only[hlt,decide_true,if_true]
  rw[hi,D9 h2]
  simp only[X]
  refine⟨_,_,rfl,⟨?_,?_,h.len⟩,(C03 _).1,(C03 _).2⟩
  ·show 0≤yN .i64 ((i:Q)+1)
   rw[A9 (by omega) (by omega)]; omega
  ·show yN .i64 ((i:Q)+1)≤(c.b.length:Q)
   rw[A9 (by omega) (by omega)]; omega
 ·simp only[hlt,decide_false,zA,if_false]
  exact⟨_,_,rfl,⟨h.i0,h.i1,h.len⟩,(C03 _).1,(C03 _).2⟩
theorem E6{c:X1}{n:Q}(h:CurOk c)(hn:n≤1000000):∃v c',A4 c n=G (v,c')∧CurOk c'∧0≤v∧(0<n→v<n)∧(n≤0→v=0):=by
 unfold A4
 by_cases h0:n≤0
 ·simp only[h0,decide_true,if_true]
  exact⟨0,c,rfl,h,by omega,fun h=>by omega,fun _=>rfl⟩
 simp only[h0,decide_false,zA,if_false]
 have hne:(n==0)=E:=by simpa using fun e:n=0=>h0 (by omega)
 by_cases h1:n≤256
 ·obtain⟨v,c',e,k1,k2,k3⟩:=B1d h
  simp only[h1,decide_true,if_true,e,X,hne,zA,if_false]
  have hm:=yK v (b:=n) (by omega)
  have hm2:=yE v (b:=n) (by omega)
  refine⟨_,_,rfl,k1,?_,?_,fun h=>by first | exact h.elim | exact absurd h h0⟩
  ·rw[zD k2,A9 (by omega) (by omega)]; exact hm
  ·intro _; rw[zD k2,A9 (by omega) (by omega)]; exact hm2
 ·obtain⟨v1,c1,e1,a1,a2,a3⟩:=B1d h
  obtain⟨v2,c2,e2,b1,b2,b3⟩:=B1d a1
  obtain⟨v3,c3,e3,d1,d2,d3⟩:=B1d b1
  obtain⟨v4,c4,e4,g1,g2,g3⟩:=B1d d1
  simp only[h1,decide_false,zA,if_false,e1,e2,e3,e4,X,hne]
  rw[A9 (n:=v1*16777216) (by omega) (by omega),A9 (n:=v2*65536) (by omega) (by omega),A9 (n:=v3*256) (by omega) (by omega),A9 (n:=v1*16777216+v2*65536) (by omega) (by omega),
   A9 (n:=v1*16777216+v2*65536+v3*256) (by omega) (by omega),A9 (n:=v1*16777216+v2*65536+v3*256+v4) (by omega) (by omega)]
  have k2:0≤v1*16777216+v2*65536+v3*256+v4:=by omega
  have hm:=yK (v1*16777216+v2*65536+v3*256+v4) (b:=n) (by omega)
  have hm2:=yE (v1*16777216+v2*65536+v3*256+v4) (b:=n) (by omega)
  refine⟨_,_,rfl,g1,?_,?_,fun h=>by first | exact h.elim | exact absurd h h0⟩
  ·rw[zD k2,A9 (by omega) (by omega)]; exact hm
  ·intro _; rw[zD k2,A9 (by omega) (by omega)]; exact hm2
theorem D7n{a:O Q}(ha:a.length≤maxLen):∃c,A4f a=G c∧CurOk c:=by
 unfold A4f
 have key:∀(k i n:V) (v:Q),i+k=a.length→k<n→∃c,A05 a n v (i:Q)=G c∧CurOk c:=by
  intro k
  induction k with
  | zero=>
   intro i n v hi hn
   obtain⟨m,rfl⟩:=sn (n:=n) (by omega)
   have:i=a.length:=by omega
   subst this
   exact⟨_,by simp[A05,A2r]; rfl,⟨by simp,by simp,ha⟩⟩
  | succ k ih=>
   intro i n v hi hn
   obtain⟨m,rfl⟩:=sn (n:=n) (by omega)
   have hlt:i<a.length:=by omega
   simp only[A05,C6,hlt,decide_true,if_true,D9 hlt,X,E9 hlt ha]
   by_cases h4:(i:Q)<4000
   ·simp only[h4,decide_true,if_true]
    exact ih (i+1) m _ (by omega) (by omega)
   ·simp only[h4,decide_false,zA,if_false,A2r]
    exact⟨_,rfl,⟨by simp,by simp,ha⟩⟩
 exact key a.length 0 bigN _ (by omega) (D4 ha)
theorem C27{n:V}(h:n≤1000):n≤maxLen:=by rw[F4]; omega
theorem D7l{k:V}(hk:k≤1000):∀(j i n:V) (c:X1),i+j=k→j<n→CurOk c→∃c',A08 (k:Q) n (i:Q) c.b c.i c.h=G c'∧CurOk c':=by
 intro j
 induction j with
 | zero=>
  intro i n c hi hn hc
  obtain⟨m,rfl⟩:=sn (n:=n) (by omega)
  have:i=k:=by omega
  subst this
  refine⟨c,?_,hc⟩
  rw[A08]
  simp only[Int.lt_irrefl,decide_false,zA,if_false]
 | succ j ih=>
  intro i n c hi hn hc
  obtain⟨m,rfl⟩:=sn (n:=n) (by omega)
  have hlt:i<k:=by omega
  obtain⟨v,c',e,h1,_,_⟩:=B1d hc
  have e':O4 ⟨c.b,c.i,c.h⟩=G (v,c'):=e
  rw[A08]
  simp only[C6,hlt,decide_true,if_true,e',X]
  rw[E9 hlt (C27 hk)]
  exact ih (i+1) m c' (by omega) (by omega) h1
theorem E31{a:O Q}{k:V}(hk:k≤1000)(ha:a.length≤maxLen):∃c,Z6 a (k:Q)=G c∧CurOk c:=by
 unfold Z6
 obtain⟨c,e,hc⟩:=D7n ha
 have H:=D7l hk k 0 bigN c (by omega) (D4 (C27 hk)) hc
 rw[show((0:V):Q)=0 from rfl] at H
 rw[e]
 simpa only[X] using H
theorem A65{c:X1}{n:Q}(h:CurOk c)(hn:n≤1000000):∃b c',J1 c n=G (b,c')∧CurOk c':=by
 obtain⟨v,c',e,h1,_⟩:=E6 h hn
 refine⟨_,c',by simp only[J1,e,X]; rfl,h1⟩
def C8z(s:X3):U:=(decide (0≤s.Depth)&&decide (s.Depth≤3000))&&(decide (1≤s.Minutes)&&decide (s.Minutes≤240))
def C0k(s:X3):X3:=⟨s.A,s.B,0,1,s.Meet⟩
def C22(c:X5):X5:=⟨c.Points,c.Segments.map C0k⟩
theorem E0t{c:X5}{i:V}(hi:i<c.Segments.length)(h:A9o (C22 c) i=F)(hs:C8z c.Segments[i]=F):A9o c i=F:=by
 have e:∀(A B:Q),((zB i).any fun j=>match (c.Segments.map C0k)[j]? with | some y=>jn y A B | none=>E)=((zB i).any fun j=>match c.Segments[j]? with | some y=>jn y A B | none=>E):=by
  intro A B
  congr 1
  funext j
  rw[yG]
  cases c.Segments[j]?<;>rfl
 have hb:(C22 c).Segments[i]?=G (C0k c.Segments[i]):=by
  show(c.Segments.map C0k)[i]?=_
  rw[yG,Y hi]
  rfl
 unfold A9o at h ⊢
 rw[hb] at h
 rw[Y hi]
 simp only[Z] at h ⊢
 obtain⟨h1,h2,h3,_,_,h6⟩:=h
 simp only[C8z,Z] at hs
 refine⟨h1,h2,h3,hs.1,hs.2,?_⟩
 have h6':(!((zB i).any fun j=>match (c.Segments.map C0k)[j]? with | some y=>jn y c.Segments[i].A c.Segments[i].B | none=>E))=F:=h6
 rw[e] at h6'
 exact h6'
theorem B00{c:X5}(h1:I4 (C22 c)=F)(h2:∀s∈c.Segments,C8z s=F):I4 c=F:=by
 unfold I4 at h1 ⊢
 simp only[Z] at h1 ⊢
 obtain⟨a1,a2,a3,a4⟩:=h1
 refine⟨a1,?_,a3,?_⟩
 ·have:(C22 c).Segments.length=c.Segments.length:=by simp[C22]
  rw[this] at a2
  exact a2
 ·rw[zR] at a4 ⊢
  intro i hi
  have hlt:i<c.Segments.length:=zY.1 hi
  exact E0t hlt (a4 i (by rw[zY]; simpa[C22] using hlt)) (h2 _ (zC hlt))
theorem C6b{A B d m:Q}{b:U}(h1:0≤d∧d≤3000)(h2:1≤m∧m≤240):C8z ⟨A,B,d,m,b⟩=F:=by
 simp only[C8z,Z,decide_eq_true_eq]
 exact⟨h1,h2⟩
theorem E6h{m n b:V}(h:m+n≤2000000)(hb:b≤1000):D1 m n b=F:=by
 unfold D1
 rw[decide_eq_true_eq]
 have:(m+n)*b≤2000000*1000:=yD h hb
 omega
theorem ifa{α:Type}{m n b:V}(h:m+n≤2000000)(hb:b≤1000)(x y:α):(if D1 m n b=F then x else y)=x:=by rw[if_pos (E6h h hb)]
theorem E0a{n:Q}(h0:0≤n)(h1:n<18446744073709551616):IntKind.u64.wrap n=n:=by
 simp only[IntKind.wrap,IntKind.bits,IntKind.signed]
 have:n % 18446744073709551616=n:=Int.emod_eq_of_lt h0 h1
 simp[this]
theorem A5u{n:V}(h:n<2 ^ 63):yN .i64 (n:Q)=n:=A9 (by omega) (by omega)
theorem B1b{n:V}(h:n<2 ^ 64):IntKind.u64.wrap (n:Q)=n:=E0a (by omega) (by omega)
theorem A8o{s n:V}(h:∀i,s.testBit i=F→i<n):s<2 ^ n:=Nat.lt_pow_two_of_testBit s fun i hi=>by
 cases hb:s.testBit i with
 | false=>rfl
 | true=>have:=h i hb; omega
theorem D03{a b n:V}(h:a<2 ^ n):M2 a b<2 ^ n:=A8o fun i hi=>by
 rw[A6o,Z] at hi
 exact B2s h hi.1
theorem A5y{w n:V}(h:n<2 ^ w):(BitVec.ofInt w (n:Q)).toNat=n:=by
 rw[BitVec.ofInt_natCast,BitVec.toNat_ofNat,Nat.mod_eq_of_lt h]
theorem D0v{w a b:V}(ha:a<2 ^ w)(hb:b<2 ^ w):(BitVec.ofInt w (a:Q) &&& ~~~ BitVec.ofInt w (b:Q)).toNat=M2 a b:=by
 rw[BitVec.toNat_and,BitVec.toNat_not,A5y ha,A5y hb]
 apply zQ
 intro i
 rw[show 2 ^ w - 1 - b=2 ^ w - (b+1) by omega,zU,Nat.testBit_two_pow_sub_succ hb,A6o]
 cases hi:a.testBit i with
 | false=>rfl
 | true=>simp[B2s ha hi]
theorem E44{a b:V}(ha:a<2 ^ 63)(hb:b<2 ^ 63):K5 .and .i64 (a:Q) (b:Q)=((a &&& b:V):Q):=by
 show yN .i64 ((BitVec.ofInt 64 (a:Q) &&& BitVec.ofInt 64 (b:Q)).toNat:Q)=_
 rw[BitVec.toNat_and,A5y (zH ha (by decide)),A5y (zH hb (by decide)),A5u (Nat.and_lt_two_pow a hb)]
theorem E8f{a b:V}(ha:a<2 ^ 63)(hb:b<2 ^ 63):K5 .or .i64 (a:Q) (b:Q)=((a ||| b:V):Q):=by
 show yN .i64 ((BitVec.ofInt 64 (a:Q) ||| BitVec.ofInt 64 (b:Q)).toNat:Q)=_
 rw[BitVec.toNat_or,A5y (zH ha (by decide)),A5y (zH hb (by decide)),A5u (zZ ha hb)]
theorem C8a{a b:V}(ha:a<2 ^ 63)(hb:b<2 ^ 63):K5 .andNot .i64 (a:Q) (b:Q)=((M2 a b:V):Q):=by
 show yN .i64 ((BitVec.ofInt 64 (a:Q) &&& ~~~ BitVec.ofInt 64 (b:Q)).toNat:Q)=_
 rw[D0v (zH ha (by decide)) (zH hb (by decide)),A5u (D03 ha)]
theorem C75{a b:V}(ha:a<2 ^ 64)(hb:b<2 ^ 64):K5 .or .u64 (a:Q) (b:Q)=((a ||| b:V):Q):=by
 show IntKind.u64.wrap ((BitVec.ofInt 64 (a:Q) ||| BitVec.ofInt 64 (b:Q)).toNat:Q)=_
 rw[BitVec.toNat_or,A5y ha,A5y hb,B1b (zZ ha hb)]
theorem B1j{a b:V}(ha:a<2 ^ 64)(hb:b<2 ^ 64):K5 .andNot .u64 (a:Q) (b:Q)=((M2 a b:V):Q):=by
 show IntKind.u64.wrap ((BitVec.ofInt 64 (a:Q) &&& ~~~ BitVec.ofInt 64 (b:Q)).toNat:Q)=_
 rw[D0v ha hb,B1b (D03 ha)]
theorem B7j{n:V}(h:n≤20):A1j .i64 (1:Q) (n:Q)=((2 ^ n:V):Q):=by
 have hp:2 ^ n<2 ^ 63:=zS (by omega) (by omega)
 unfold A1j
 rw[zE,show min n IntKind.i64.bits=n by simp[IntKind.bits]; omega,Int.one_mul]
 have:((2:Q) ^ n)=((2 ^ n:V):Q):=by simp
 rw[this,A5u hp]
theorem C2e{n:V}(h:n≤20):A1j .u64 (1:Q) (n:Q)=((2 ^ n:V):Q):=by
 have hp:2 ^ n<2 ^ 64:=zS (by omega) (by omega)
 unfold A1j
 rw[zE,show min n IntKind.u64.bits=n by simp[IntKind.bits]; omega,Int.one_mul]
 have:((2:Q) ^ n)=((2 ^ n:V):Q):=by simp
 rw[this,B1b hp]
theorem D93(n:V):((n:Q)==(0:Q))=decide (n=0):=by
 rw[zK]
 simp
def D5v:O W:= [0,1,2,2,3,3,3,3,4,4,4,4,4,4,4,4,5,5,5,5,5,5,5,5,5,5,5,5,5,5,5,5,6,6,6,6,6,6,6,6,6,6,6,6,6,6,6,6,6,6,6,6,6,6,6,6,6,6,6,6,6,6,6,6,7,7,7,7,7,7,7,7,7,7,7,7,7,7,7,7,7,7,7,7,7,7,7,7,7,7,7,7,7,7,7,7,7,7,7,7,7,7,7,7,7,7,7,7,7,7,7,7,7,7,7,7,7,7,7,7,7,7,7,7,7,7,7,7,8,8,8,8,8,8,8,8,8,8,8,8,8,8,8,8,8,8,8,8,8,8,8,8,8,8,8,8,8,8,8,8,8,8,8,8,8,8,8,8,8,8,8,8,8,8,8,8,8,8,8,8,8,8,8,8,8,8,8,8,8,8,8,8,8,8,8,8,8,8,8,8,8,8,8,8,8,8,8,8,8,8,8,8,8,8,8,8,8,8,8,8,8,8,8,8,8,8,8,8,8,8,8,8,8,8,8,8,8,8,8,8,8,8,8,8,8,8,8,8,8,8,8,8,8,8,8,8]
theorem E65(v8 v9:Q):Z0 v8 v9=(ix D5v (IntKind.u8.wrap v8)).bind fun b10=>G (yN .i64 (v9+(yN .i64 (b10.toNat:Q)))):=rfl
def D0t(x:V):U:=match D5v[x]? with
 | some b=>decide (b.toNat≤8)&&(decide (x<2 ^ b.toNat)&&(x==0 || (decide (1≤b.toNat)&&decide (2 ^ (b.toNat - 1)≤x))))
 | none=>E
theorem C93:(zB 256).all D0t=F:=by kernel_rfl
theorem E94{x:V}(hx:x<256)(n:Q):∃l:V,Z0 (x:Q) n=G (yN .i64 (n+(l:Q)))∧l≤8∧x<2 ^ l∧(0<x→1≤l∧2 ^ (l - 1)≤x):=by
 have h:=zR.1 C93 x (by simpa using hx)
 unfold D0t at h
 split at h
 ·rename_i b hb
  simp only[Z,decide_eq_true_eq,yJ,beq_iff_eq] at h
  have hw:IntKind.u8.wrap (x:Q)=(x:Q):=by
   simp only[IntKind.wrap,IntKind.bits,IntKind.signed]
   have:(x:Q) % 256=x:=Int.emod_eq_of_lt (by omega) (by omega)
   simp[this]
  refine⟨b.toNat,?_,h.1,h.2.1,fun h0=> ?_⟩
  ·rw[E65,hw,A0q,hb,X,A5u (n:=b.toNat) (by omega)]
  ·rcases h.2.2 with h3|h3
   ·omega
   ·exact h3
 ·cases h
theorem F0h{s:V}(h1:1≤s)(h2:s<4096):∃t:V,A2p (s:Q)=G ((t+1:V):Q)∧2 ^ t≤s∧s<2 ^ (t+1)∧t<12:=by
 have key:∃l:V,A2p (s:Q)=G ((l:V):Q)∧1≤l∧2 ^ (l - 1)≤s∧s<2 ^ l:=by
  unfold A2p A5e
  rw[if_neg (by simp; omega)]
  unfold A1r
  rw[if_neg (by simp; omega)]
  unfold A1q
  by_cases hs:s<256
  ·rw[if_neg (by simp; omega)]
   obtain⟨l,e,l8,a1,a2⟩:=E94 hs 0
   obtain⟨a3,a4⟩:=a2 h1
   refine⟨l,?_,a3,a4,a1⟩
   rw[e,X,Int.zero_add,A5u (by omega)]
  ·rw[if_pos (by simp; omega)]
   have e8:A0y .u64 (s:Q) 8=((s / 256:V):Q):=by
    unfold A0y
    rw[show min 8 IntKind.u64.bits=8 by rfl,Int.fdiv_eq_ediv_of_nonneg _ (by decide)]
    have:((s:Q) / 2 ^ 8)=((s / 256:V):Q):=by simp
    rw[this,B1b (by omega)]
   have e9:yN .i64 ((0:Q)+8)=((8:V):Q):=by rw[A9 (by omega) (by omega)]; rfl
   rw[e8,e9]
   obtain⟨l,e,l8,a1,a2⟩:=E94 (x:=s / 256) (by omega) ((8:V):Q)
   obtain⟨a3,a4⟩:=a2 (by omega)
   refine⟨8+l,?_,by omega,?_,?_⟩
   ·have:((8:V):Q)+(l:Q)=((8+l:V):Q):=by omega
    rw[e,X,this,A5u (by omega)]
   ·rw[show 8+l - 1=(l - 1)+8 by omega,Nat.pow_add]
    omega
   ·rw[Nat.add_comm,Nat.pow_add]
    omega
 obtain⟨l,e,a1,a2,a3⟩:=key
 obtain⟨t,rfl⟩:=sn (n:=l) (by omega)
 refine⟨t,e,by simpa using a2,a3,?_⟩
 rcases zM t 12 with h|h
 ·exact h
 ·have:=zP (show 0<2 by omega) h
  simp at a2
  omega
theorem B91{s t:V}(h1:2 ^ t≤s)(h2:s<2 ^ (t+1)):s.testBit t=F∧M2 s (2 ^ t)<2 ^ t∧(∀i,(M2 s (2 ^ t)).testBit i=F→s.testBit i=F)∧(∀i,s.testBit i=F→i=t∨(M2 s (2 ^ t)).testBit i=F):=by
 have hb:∀i,(M2 s (2 ^ t)).testBit i=(s.testBit i&& !decide (t=i)):=fun i=>by rw[A6o,B1y]
 refine⟨Nat.testBit_of_two_pow_le_and_two_pow_add_one_gt h1 h2,A8o fun i hi=> ?_,fun i hi=> ?_,fun i hi=> ?_⟩
 ·rw[hb,Z] at hi
  have:=B2s h2 hi.1
  have h3:t≠i:=by simpa using hi.2
  omega
 ·rw[hb,Z] at hi
  exact hi.1
 ·by_cases h:i=t
  ·exact .inl h
  ·right
   rw[hb,hi]
   simpa using fun e:t=i=>h e.symm
def A5x(d:Xe):U:=decide (0≤d.From)&&(decide (d.From<d.To)&&(decide (d.To≤2880)&&((decide (0≤d.A)&&decide (d.A<8))&&(decide (0≤d.B)&&decide (d.B<8)))))
theorem E3k{R:Type}(a b c d e:U)(x y:R):(if(!a)=F then y else if(!b)=F then y else if(!c)=F then y else if d=F then(if e=F then x else y) else y)=if(a&&(b&&(c&&(d&&e))))=F then x else y:=by
 cases a<;>cases b<;>cases c<;>cases d<;>cases e<;>rfl
theorem A3t{l:O Xe}:A02 l=G (decide (l.length≤12)&&l.all A5x):=by
 unfold A02
 by_cases h:l.length≤12
 ·rw[if_neg (by simp; omega),B4l (L:=W7 l) l A5x (by rw[F4]; omega) (fun n i hi=> ?_) (fun n=>by simp[W7])]
  ·simp[h]
  ·simp only[W7,C6,hi,decide_true,if_true,D9 hi,X,A66,A5x]
   generalize l[i]=d
   have g1:decide (d.From<0)= !decide (0≤d.From):=by by_cases h:0≤d.From<;>simp[h]<;>omega
   have g2:decide (d.To≤d.From)= !decide (d.From<d.To):=by by_cases h:d.From<d.To<;>simp[h]<;>omega
   have g3:decide (2880<d.To)= !decide (d.To≤2880):=by by_cases h:d.To≤2880<;>simp[h]<;>omega
   simp only[g1,g2,g3]
   exact E3k _ _ _ _ _ _ _
 ·rw[if_pos (by simp; omega)]
  simp[h]
def C1o(m:O Q):U:=decide (m.length=64)&&m.all fun x=>decide (0≤x)&&decide (x≤240)
def B4v(p:Q)(m:O Q):U:=A6y p&&C1o m
theorem B0i{m:O Q}(h:m.length≤maxLen):A0o m=G (C1o m):=by
 unfold A0o C1o
 rw[C1w h]
 by_cases h1:m.length=64
 ·simp[h1]
 ·have:((m.length:Q) !=64)=F:=by simpa using(by omega:¬((m.length:Q)=64))
  simp[h1,this]
theorem B6t(p:Q):I6 p=G (A6y p):=by rw[A3a]; rfl
def fol(p:Q)(m:O Q)(d e:Xe):U:=decide (yN .i64 (d.To+yN .i64 (p+m[(8*d.B+e.A).toNat]?.getD 0))≤e.From)
theorem C14{d:Xe}(h:A5x d=F):0≤d.From∧d.From<d.To∧d.To≤2880∧0≤d.A∧d.A<8∧0≤d.B∧d.B<8:=by
 simp only[A5x,Z,decide_eq_true_eq] at h
 omega
theorem D95{m:O Q}(hm:C1o m=F){b a:Q}(h0:0≤b)(h1:b<8)(h2:0≤a)(h3:a<8):ix m (8*b+a)=G (m[(8*b+a).toNat]?.getD 0):=by
 simp only[C1o,Z,decide_eq_true_eq] at hm
 obtain⟨k,hk⟩:∃k:V,8*b+a=(k:Q):=⟨(8*b+a).toNat,by omega⟩
 rw[hk,A0q,zE,Y (by omega)]
 rfl
theorem B3v{p:Q}{m:O Q}{d e:Xe}(hl:m.length≤maxLen)(ht:B4v p m=F)(hd:A5x d=F)(he:A5x e=F):A16 p m d e=G (fol p m d e):=by
 obtain⟨_,_,_,_,_,b0,b1⟩:=C14 hd
 obtain⟨_,_,_,a0,a1,_,_⟩:=C14 he
 have ht':=ht
 simp only[B4v,Z] at ht'
 unfold A16 B0x
 have c1:(decide (0≤d.B)&&decide (d.B<8))=F:=by simp; omega
 have c2:(decide (0≤e.A)&&decide (e.A<8))=F:=by simp; omega
 have o1:(decide ([d].length≤12)&& [d].all A5x)=F:=by simp[hd]
 have o2:(decide ([e].length≤12)&& [e].all A5x)=F:=by simp[he]
 rw[B6t,ht'.1,X,if_pos rfl,B0i hl,ht'.2,X,if_pos rfl,A66,c1,X,if_pos rfl,A66,c2,X]
 unfold A3k
 rw[if_neg (by simp),A9 (n:=8*d.B) (by omega) (by omega),A9 (n:=8*d.B+e.A) (by omega) (by omega),D95 ht'.2 b0 b1 a0 a1,X,X,if_pos rfl,A3t,o1,X,if_pos rfl,A3t,o2,X,if_pos rfl]
 rfl
def B45(p:Q)(m:O Q)(l:O Xe)(i k:V):U:=match l[i]?,l[k]? with
 | some d,G e=>fol p m d e || fol p m e d
 | _,_=>E
theorem D6m(p:Q)(m:O Q)(l:O Xe)(i k:V):B45 p m l i k=B45 p m l k i:=by
 unfold B45
 cases l[i]?<;>cases l[k]?<;>simp[Bool.or_comm]
theorem C1v{n m b:V}(h:n+m≤1000000)(hb:b≤100):D1 n m b=F:=by
 unfold D1
 have:(n+m)*b≤1000000*100:=yD h hb
 simp
 omega
def nn(ms:O V):O Q:=ms.map fun x:V=>(x:Q)
theorem A7r(ms:O V):(nn ms).length=ms.length:=by simp[nn]
theorem A8i{ms:O V}{i:V}(h:i<ms.length):ix (nn ms) (i:Q)=G ((ms[i]:V):Q):=by
 rw[A0q,nn,yG,Y h]; rfl
theorem B18(ms:O V)(i a:V):(nn ms).set i (a:Q)=nn (ms.set i a):=by simp[nn,List.map_set]
theorem E78(ms:O V)(a:V):nn ms++ [(a:Q)]=nn (ms++ [a]):=by simp[nn]
section
variable {p : Q} {m : O Q} {l : O Xe}
theorem E7a{i k:V}(hi:i<l.length)(hk:k<l.length):B45 p m l i k=(fol p m l[i] l[k] || fol p m l[k] l[i]):=by
 unfold B45
 rw[Y hi,Y hk]
def adj(p:Q)(m:O Q)(l:O Xe)(i j:V):U:=decide (j<l.length)&&(decide (i≠j)&&B45 p m l i j)
theorem D1c(hl:m.length≤maxLen)(ht:B4v p m=F)(hd:∀d∈l,A5x d=F)(hN:l.length≤12)(K:Q→O Q→P (O Q)){i:V}(hi:i<l.length)(ms:O V)(hms:ms.length=l.length) :
  ∀(r k n a:V),k+r=l.length→r<n→(∀j,a.testBit j=(decide (j<k)&&(decide (i≠j)&&B45 p m l i j)))→
   ∃q,(∀j,q.testBit j=adj p m l i j)∧G6 p m l (i:Q) l[i] K n (k:Q) (nn (ms.set i a))=K (yN .i64 ((i:Q)+1)) (nn (ms.set i q)):=by
 have hm:l.length≤maxLen:=by rw[F4]; omega
 intro r
 induction r with
 | zero=>
  intro k n a hk hn ha
  obtain⟨n,rfl⟩:=sn (n:=n) (by omega)
  refine⟨a,fun j=> ?_,?_⟩
  ·rw[ha,show k=l.length by omega]; rfl
  ·rw[G6,if_neg (by simp; omega)]
 | succ r ih=>
  intro k n a hk hn ha
  obtain⟨n,rfl⟩:=sn (n:=n) (by omega)
  have hlt:k<l.length:=by omega
  have a12:a<2 ^ 12:=A8o fun j hj=>by
   rw[ha,Z,decide_eq_true_eq] at hj; omega
  have step:∀v:U,v=(decide (i≠k)&&B45 p m l i k)→∃q,(∀j,q.testBit j=adj p m l i j)∧Y1 p m l (i:Q) (k:Q) l[i] (nn (ms.set i a)) (G6 p m l (i:Q) l[i] K n) v=K (yN .i64 ((i:Q)+1)) (nn (ms.set i q)):=by
   intro v hv
   unfold Y1
   cases v with
   | true=>
    rw[if_pos rfl,A8i (by simp; omega),X,if_neg (by simp),C2e (by omega),yA]
    have h12:2 ^ k<2 ^ 64:=zS (by omega) (by omega)
    rw[C75 (zH a12 (by decide)) h12,zE,B18,List.set_set,E9 hlt hm]
    refine ih (k+1) n _ (by omega) (by omega) fun j=> ?_
    rw[zN,ha,B1y]
    by_cases hjk:k=j
    ·subst hjk
     have hx:¬i=k∧B45 p m l i k=F:=by simpa using hv.symm
     simp[hx.1,hx.2]
    ·have e:decide (j<k+1)=decide (j<k):=decide_eq_decide.2 (by omega)
     rw[e]
     simp[hjk]
   | false=>
    rw[if_neg (by simp),E9 hlt hm]
    refine ih (k+1) n a (by omega) (by omega) fun j=> ?_
    rw[ha]
    by_cases hjk:k=j
    ·subst hjk
     rw[← hv]
     simp
    ·have e:decide (j<k+1)=decide (j<k):=decide_eq_decide.2 (by omega)
     rw[e]
  rw[G6,C6,if_pos (by simpa using hlt),D9 hlt,X]
  by_cases hik:i=k
  ·subst hik
   rw[if_neg (by simp)]
   exact step E (by simp)
  ·have hne:((i:Q) !=(k:Q))=F:=by simp; omega
   rw[if_pos hne,B3v hl ht (hd _ (zC hi)) (hd _ (zC hlt)),X]
   have hb:=E7a (p:=p) (m:=m) hi hlt
   cases hf:fol p m l[i] l[k] with
   | true=>
    rw[if_pos rfl]
    exact step F (by rw[hb,hf]; simp[hik])
   | false=>
    rw[if_neg (by simp),B3v hl ht (hd _ (zC hlt)) (hd _ (zC hi)),X]
    exact step _ (by rw[hb,hf]; simp[hik])
theorem B9s(hl:m.length≤maxLen)(ht:B4v p m=F)(hd:∀d∈l,A5x d=F)(hN:l.length≤12):∃ms:O V,ms.length=l.length∧(∀i j:V,i<l.length→(ms[i]?.getD 0).testBit j=adj p m l i j)∧A4u p m l=G (nn ms):=by
 have hm:l.length≤maxLen:=by rw[F4]; omega
 have key:∀(r i n:V) (ms:O V),i+r=l.length→r<n→ms.length=l.length→(∀i' j:V,i'<i→(ms[i']?.getD 0).testBit j=adj p m l i' j)→(∀i':V,i≤i'→ms[i']?.getD 0=0)→
   ∃ms':O V,ms'.length=l.length∧(∀i j:V,i<l.length→(ms'[i]?.getD 0).testBit j=adj p m l i j)∧N0 p m l n (i:Q) (nn ms)=G (nn ms'):=by
  intro r
  induction r with
  | zero=>
   intro i n ms hi hn hms h1 h2
   obtain⟨n,rfl⟩:=sn (n:=n) (by omega)
   exact⟨ms,hms,fun i' j h=>h1 i' j (by omega),by rw[N0,if_neg (by simp; omega)]⟩
  | succ r ih=>
   intro i n ms hi hn hms h1 h2
   obtain⟨n,rfl⟩:=sn (n:=n) (by omega)
   have hlt:i<l.length:=by omega
   obtain⟨q,hq,e⟩:=D1c hl ht hd hN (N0 p m l n) hlt ms hms l.length 0 bigN 0 (by omega) (D4 hm) (fun j=>by simp)
   have e0:ms.set i 0=ms:=by
    have h3:=h2 i (Nat.le_refl _)
    rw[Y (by omega)] at h3
    have h3:ms[i]'(by omega)=0:=h3
    apply List.ext_getElem (by simp)
    intro j hj1 hj2
    by_cases hij:i=j
    ·subst hij; simp[h3]
    ·rw[List.getElem_set_ne hij]
   rw[e0] at e
   rw[N0,C6,if_pos (by simpa using hlt),D9 hlt,X]
   have e:G6 p m l (i:Q) l[i] (N0 p m l n) bigN 0 (nn ms)=_:=e
   rw[e,E9 hlt hm]
   refine ih (i+1) n (ms.set i q) (by omega) (by omega) (by simpa using hms) (fun i' j h=> ?_) (fun i' h=> ?_)
   ·by_cases hii:i=i'
    ·subst hii
     rw[zJ (by omega)]
     exact hq j
    ·rw[zI hii]
     exact h1 i' j (by omega)
   ·rw[zI (by omega)]
    exact h2 i' (by omega)
 unfold A4u
 rw[D0y (by omega) (by omega),X]
 have hz:zF l.length (0:Q)=nn (zF l.length 0):=by simp[nn]
 rw[hz]
 exact key l.length 0 bigN _ (by omega) (D4 hm) (by simp) (fun i' j h=>by omega) (fun i' h=>by
  rw[List.getElem?_replicate]
  split<;>rfl)
end
section
variable {B : V → V → U} {N : V} {ms : O V}
def F3x(B:V→V→U)(N:V)(ms:O V):Prop:=ms.length=N∧∀i j:V,i<N→(ms[i]?.getD 0).testBit j=(decide (j<N)&&(decide (i≠j)&&B i j))
theorem E1b:Clq B 0:=fun i j hi=>by simp at hi
theorem E5t(hB:∀i j,B i j=B j i){s t:V}(h1:2 ^ t≤s)(h2:s<2 ^ (t+1)):Clq B s↔Clq B (M2 s (2 ^ t))∧∀i,(M2 s (2 ^ t)).testBit i=F→B t i=F:=by
 obtain⟨a1,a2,a3,a4⟩:=B91 h1 h2
 constructor
 ·intro h
  exact⟨fun i j hi hj=>h i j (a3 i hi) (a3 j hj),fun i hi=>h t i a1 (a3 i hi) (by have:=B2s a2 hi; omega)⟩
 ·rintro⟨k1,k2⟩ i j hi hj hne
  rcases a4 i hi with rfl|hi
  ·rcases a4 j hj with rfl|hj
   ·exact absurd rfl hne
   ·exact k2 j hj
  ·rcases a4 j hj with rfl|hj
   ·rw[hB]; exact k2 i hi
   ·exact k1 i j hi hj hne
theorem B6p{a b:V}:M2 a b=0↔∀i,a.testBit i=F→b.testBit i=F:=by
 constructor
 ·intro h i hi
  have:=A6o a b i
  rw[h,hi] at this
  cases hb:b.testBit i with
  | true=>rfl
  | false=>rw[hb] at this; simp at this
 ·intro h
  apply zQ
  intro i
  rw[A6o,Nat.zero_testBit]
  cases hi:a.testBit i with
  | false=>rfl
  | true=>rw[h i hi]; rfl
theorem D0n(a b:V):M2 a b≤a:=by
 rcases zM a (M2 a b) with h|h
 ·obtain⟨i,h1,h2⟩:=Nat.exists_testBit_ne_of_ne (Nat.ne_of_lt h) |>.elim fun i hi=>(⟨i,hi,⟨⟩⟩:∃i,a.testBit i≠(M2 a b).testBit i∧True)
  exfalso
  have:M2 a b &&& a=M2 a b:=C7l fun i hi=>by
   rw[A6o,Z] at hi
   exact hi.1
  have h3:= @Nat.and_le_right (M2 a b) a
  omega
 ·exact h
def D9z(B:V→V→U)(tg:O U)(s:V):Prop:=∀x,x<s→(tg[x]?.getD E=F↔Clq B x)
def F00(B:V→V→U)(ls:O V)(s:V):Prop:=∀x,x<s→B2w B x (ls[x]?.getD 0)
theorem C7b(hN:N≤12){x n:V}(hx:x<2 ^ N)(h:B2w B x n):n≤12:=Nat.le_trans (h.2 N (D64 hx)) hN
theorem C6p{tg:O U}{x:V}(h:x<tg.length):ix tg (x:Q)=G (tg[x]?.getD E):=by
 rw[A0q,Y h]; rfl
theorem C6v{ls:O V}{x:V}(h:x<ls.length):ix (nn ls) (x:Q)=G (((ls[x]?.getD 0:V)):Q):=by
 rw[A8i h,Y h]; rfl
theorem E2f(hN:N≤12):2 ^ N≤4096:=by
 have:=zP (show 0<2 by omega) hN
 simpa using this
theorem C9t(hN:N≤12)(y5:Q){s t:V}(hs:s<2 ^ N)(h1:2 ^ t≤s)(h2:s<2 ^ (t+1)){tg:O U}{ls:O V}(htl:tg.length=2 ^ N)(hll:ls.length=2 ^ N)(ht:D9z B tg (s+1))(hl:F00 B ls s)(K:Q→O U→O Q→P Q) :
  ∀(n q c:V),q<n→q &&& M2 s (2 ^ t)=q→Cov B s c→c≤100→(∀q',q' &&& M2 s (2 ^ t)=q'→q<q'→Clq B (q' ||| 2 ^ t)→c≤1+ls[M2 (M2 s (2 ^ t)) q']?.getD 0)→
   ∃c',B2w B s c'∧I3 (nn ms) y5 (s:Q) (t:Q) ((M2 s (2 ^ t):V):Q) tg K n (q:Q) (nn (ls.set s c))=K (yN .i64 ((s:Q)+1)) tg (nn (ls.set s c')):=by
 obtain⟨a1,a2,a3,a4⟩:=B91 h1 h2
 have hp:=E2f hN
 have h2s:M2 s (2 ^ t)<s:=zW a2 h1
 generalize hr:M2 s (2 ^ t)=r at a2 a3 a4 h2s
 intro n
 induction n with
 | zero=>intro q c hq; omega
 | succ n ih=>
  intro q c hq hsub hc hc1 hall
  have ht12:t<12:=by
   rcases zM t 12 with h|h
   ·exact h
   ·have:=zP (show 0<2 by omega) h
    simp at this
    omega
  have hqr:q≤r:=by have:= @Nat.and_le_right q r; omega
  have hor:q ||| 2 ^ t≤s:=by
   have hsb:(q ||| 2 ^ t) &&& s=q ||| 2 ^ t:=C7l fun i hi=>by
    rw[zN,B1y,yJ,decide_eq_true_eq] at hi
    rcases hi with h|h
    ·exact a3 i (F0k hsub h)
    ·subst h; exact a1
   have:= @Nat.and_le_right (q ||| 2 ^ t) s
   omega
  have hsml:∀x:V,x≤s→x<2 ^ 63:=fun x hx=>yF hx (zW hs (Nat.le_trans hp (by decide)))
  have hand:M2 r q<s:=yF (D0n r q) h2s
  have hset:s<(ls.set s c).length:=by simp; omega
  have hnext:∀c1:V,Cov B s c1→c1≤100→(∀q',q' &&& r=q'→q≤q'→Clq B (q' ||| 2 ^ t)→c1≤1+ls[M2 r q']?.getD 0)→
    ∃c',B2w B s c'∧U1 (nn ms) y5 (s:Q) (t:Q) (r:Q) (q:Q) tg K (I3 (nn ms) y5 (s:Q) (t:Q) (r:Q) tg K n) (nn (ls.set s c1))=K (yN .i64 ((s:Q)+1)) tg (nn (ls.set s c')):=by
   intro c1 g1 g2 g3
   unfold U1
   by_cases h0:q=0
   ·subst h0
    refine⟨c1,⟨g1,fun m hm=> ?_⟩,by rw[if_pos (by simp)]⟩
    obtain⟨q',n',e1,e2,e3,e4⟩:=D6u a1 a3 hm
    have:=(hl (M2 r q') (yF (D0n r q') h2s)).2 n' e4
    have:=g3 q' e1 (Nat.zero_le _) e2
    omega
   ·rw[if_neg (by simpa using h0)]
    have ew:yN .i64 ((q:Q) - 1)=((q - 1:V):Q):=by
     rw[show(q:Q) - 1=((q - 1:V):Q) by omega]
     exact A5u (hsml _ (by omega))
    rw[ew,E44 (hsml _ (by omega)) (hsml _ (by omega))]
    have hlt:= @E7u q r (by omega)
    refine ih ((q - 1) &&& r) c1 (by omega) (E51 _ _) g1 g2 fun q' e1 e2 e3=> ?_
    refine g3 q' e1 ?_ e3
    rcases zM q' q with h|h
    ·have:=D9k r r q q' (Nat.le_refl _) hsub e1 h
     omega
    ·exact h
  rw[I3,if_neg (by simp),B7j (by omega),E8f (hsml _ (by omega)) (hsml _ (by omega)),C6p (by omega),X]
  have hk:=ht (q ||| 2 ^ t) (by omega)
  cases hb:tg[q ||| 2 ^ t]?.getD E with
  | false=>
   rw[if_neg (by simp)]
   refine hnext c hc hc1 fun q' e1 e2 e3=> ?_
   rcases zM q q' with h|h
   ·exact hall q' e1 h e3
   ·have:q'=q:=by omega
    subst this
    rw[hb] at hk
    exact absurd (hk.2 e3) (by simp)
  | true=>
   rw[if_pos rfl]
   have hcq:=hk.1 hb
   have e26:ix (nn (ls.set s c)) (s:Q)=G (c:Q):=by
    rw[A8i hset,yA]
   have e27:ix (nn (ls.set s c)) (K5 .andNot .i64 (r:Q) (q:Q))=G ((ls[M2 r q]?.getD 0:V):Q):=by
    rw[C8a (hsml _ (by omega)) (hsml _ (by omega)),C6v (by simp; omega),zI (by omega)]
   rw[e26,X,e27,X]
   have hle:=hl (M2 r q) hand
   have h12:=C7b hN (zH hand hs) hle
   generalize hv:ls[M2 r q]?.getD 0=v at hle h12
   have ew:yN .i64 ((1:Q)+(v:Q))=((1+v:V):Q):=by
    rw[show(1:Q)+(v:Q)=((1+v:V):Q) by omega]
    exact A5u (by omega)
   have emin:(if yN .i64 ((1:Q)+(v:Q))<(c:Q) then yN .i64 ((1:Q)+(v:Q)) else(c:Q))=((if 1+v<c then 1+v else c:V):Q):=by
    rw[ew]
    by_cases h:1+v<c
    ·rw[if_pos (by omega),if_pos h]
    ·rw[if_neg (by omega),if_neg h]
   rw[emin,zE,B18,List.set_set]
   refine hnext _ ?_ (by split<;>omega) fun q' e1 e2 e3=> ?_
   ·split
    ·exact D9t a4 hcq hle.1
    ·exact hc
   ·rcases zM q q' with h|h
    ·have:=hall q' e1 h e3
     split<;>omega
    ·have:q'=q:=by omega
     subst this
     rw[hv]
     split<;>omega
theorem C1m(hB:∀i j,B i j=B j i)(hN:N≤12)(hm:F3x B N ms):∃n:V,B2w B (2 ^ N - 1) n∧n≤12∧A1n (nn ms)=G (n:Q):=by
 have hp:=E2f hN
 have hp0:0<2 ^ N:=Nat.pow_pos (by omega)
 obtain⟨hml,hmb⟩:=hm
 have key:∀(k s n:V) (tg:O U) (ls:O V),s+k=2 ^ N→k<n→1≤s→tg.length=2 ^ N→ls.length=2 ^ N→D9z B tg s→F00 B ls s→
   ∃v:V,B2w B (2 ^ N - 1) v∧v≤12∧F8 (nn ms) ((2 ^ N:V):Q) n (s:Q) tg (nn ls)=G (v:Q):=by
  intro k
  induction k with
  | zero=>
   intro s n tg ls hs hn hs1 htl hll ht hl
   obtain⟨n,rfl⟩:=sn (n:=n) (by omega)
   have:=hl (2 ^ N - 1) (by omega)
   refine⟨_,this,C7b hN (by omega) this,?_⟩
   have ew:yN .i64 (((2 ^ N:V):Q) - 1)=((2 ^ N - 1:V):Q):=by
    rw[show((2 ^ N:V):Q) - 1=((2 ^ N - 1:V):Q) by omega]
    exact A5u (by omega)
   rw[F8,if_neg (by simp only[C6,decide_eq_true_eq]; omega),ew,C6v (by omega),X]
  | succ k ih=>
   intro s n tg ls hs hn hs1 htl hll ht hl
   obtain⟨n,rfl⟩:=sn (n:=n) (by omega)
   obtain⟨t,e1,h1,h2,ht12⟩:=F0h hs1 (show s<4096 by omega)
   obtain⟨a1,a2,a3,a4⟩:=B91 h1 h2
   have htN:t<N:=B2s (show s<2 ^ N by omega) a1
   have h2s:M2 s (2 ^ t)<s:=zW a2 h1
   have hsml:∀x:V,x≤s→x<2 ^ 63:=fun x hx=>by
    have:(4096:V)<2 ^ 63:=by decide
    omega
   have ew:yN .i64 (((t+1:V):Q) - 1)=(t:Q):=by
    rw[show((t+1:V):Q) - 1=(t:Q) by omega]
    exact A5u (by omega)
   have er:K5 .andNot .i64 (s:Q) (A1j .i64 (1:Q) (t:Q))=((M2 s (2 ^ t):V):Q):=by
    rw[B7j (by omega),C8a (hsml _ (Nat.le_refl _)) (hsml _ h1)]
   have hu:IntKind.u64.wrap (s:Q)=(s:Q):=B1b (by omega)
   have hct:=E5t hB h1 h2
   have rest:∀b:U,(b=F↔Clq B s)→∃v:V,B2w B (2 ^ N - 1) v∧v≤12∧
     U2 (nn ms) ((2 ^ N:V):Q) (s:Q) (nn ls) (F8 (nn ms) ((2 ^ N:V):Q) n) (t:Q) ((M2 s (2 ^ t):V):Q) (tg.set s b)=G (v:Q):=by
    intro b hb
    have ht':D9z B (tg.set s b) (s+1):=fun x hx=>by
     by_cases h:s=x
     ·subst h
      rw[zJ (by omega)]
      exact hb
     ·rw[zI h]
      exact ht x (by omega)
    unfold U2
    rw[C6v (by omega),X,A7r,hml,zE,B18]
    obtain⟨c',k1,k2⟩:=C9t (ms:=ms) hN ((2 ^ N:V):Q) (show s<2 ^ N by omega) h1 h2 (tg:=tg.set s b) (ls:=ls) (by simpa using htl) hll ht' hl (F8 (nn ms) ((2 ^ N:V):Q) n) bigN (M2 s (2 ^ t)) N (by rw[A0d]; omega) (Nat.and_self _) (D64 (by omega)) (by omega) (fun q' g1 g2=>by
     have:= @Nat.and_le_right q' (M2 s (2 ^ t))
     omega)
    rw[k2,E9 (show s<4096 by omega) (by rw[F4]; omega)]
    refine ih (s+1) n (tg.set s b) (ls.set s c') (by omega) (by omega) (by omega) (by simpa using htl) (by simpa using hll) ht' fun x hx=> ?_
    by_cases h:s=x
    ·subst h
     rw[zJ (by omega)]
     exact k1
    ·rw[zI h]
     exact hl x (by omega)
   rw[F8,C6,if_pos (by simp; omega),hu,e1,X,ew,if_neg (by simp),er,C6p (by omega),X,zE]
   have hk:=ht (M2 s (2 ^ t)) h2s
   cases hb:tg[M2 s (2 ^ t)]?.getD E with
   | true=>
    rw[if_pos rfl,C6v (by omega),X,C6p (by omega),X]
    have hmt:ms[t]?.getD 0<2 ^ 12:=A8o fun j hj=>by
     rw[hmb t j htN,Z,decide_eq_true_eq] at hj
     omega
    rw[B1b (n:=M2 s (2 ^ t)) (by omega),B1j (by omega) (zH hmt (by decide)),D93]
    refine rest _ ?_
    rw[decide_eq_true_eq,B6p,hct]
    constructor
    ·intro h
     refine⟨hk.1 hb,fun i hi=> ?_⟩
     have:=h i hi
     rw[hmb t i htN] at this
     simp at this
     exact this.2.2
    ·rintro⟨_,h⟩ i hi
     have hit:=B2s a2 hi
     rw[hmb t i htN,h i hi]
     simp
     omega
   | false=>
    rw[if_neg (by simp),C6p (by omega),X]
    refine rest E ?_
    rw[hct]
    constructor
    ·intro h; cases h
    ·rintro⟨h,_⟩
     have:=hk.2 h
     rw[hb] at this
     cases this
 unfold A1n
 have hm1:∀b:V,b≤1000→mkS (A1j .i64 (1:Q) ((N:V):Q)) (A1j .i64 (1:Q) ((N:V):Q)) b=G (2 ^ N):=fun b hb=>by
  rw[B7j (by omega)]; exact D0y (by omega) hb
 rw[A7r,hml,if_neg (by simp),hm1 1 (by omega),X,hm1 8 (by omega),X,B7j (by omega)]
 have e0:ix (zF (2 ^ N) E) (0:Q)=G E:=by
  have:=D9 (l:=zF (2 ^ N) E) (i:=0) (by simpa using hp0)
  simpa using this
 have hz:zF (2 ^ N) (0:Q)=nn (zF (2 ^ N) 0):=by simp[nn]
 rw[e0,X,hz]
 obtain⟨v,k1,k2,k3⟩:=key (2 ^ N - 1) 1 bigN ((zF (2 ^ N) E).set 0 F) (zF (2 ^ N) 0) (by omega) (by rw[A0d]; omega) (by omega) (by simp) (by simp)
  (fun x hx=>by
   have:x=0:=by omega
   subst this
   rw[zJ (by simpa using hp0)]
   exact⟨fun _=>E1b,fun _=>rfl⟩)
  (fun x hx=>by
   have:x=0:=by omega
   subst this
   rw[List.getElem?_replicate,if_pos hp0]
   exact D3i)
 exact⟨v,k1,k2,k3⟩
end
theorem E5o{g i:V}(h:g<2 ^ i):M2 (g ||| 2 ^ i) (2 ^ i)=g:=by
 apply zQ
 intro j
 rw[A6o,zN,B1y]
 by_cases hj:i=j
 ·subst hj
  rw[Nat.testBit_lt_two_pow h]
  simp
 ·simp[hj]
theorem E0e{α:Type}{l:O α}{i:V}{x:α}(h:l[i]?=G x):l.set i x=l:=by
 apply List.ext_getElem?
 intro j
 by_cases hij:i=j
 ·subst hij
  rw[zJ (List.getElem?_eq_some_iff.1 h).1,h]
 ·rw[zI hij]
theorem C9w:∀(d fuel:V) (sm gs:O V) (most:Q) (who:O Q),who.length+d=sm.length→d<fuel→(∀x∈sm,x<2 ^ 12)→sm.length≤12→(∀g∈gs,0<g∧g<2 ^ who.length)→gs.length≤who.length→
  ∃b r,G0 fuel ⟨nn sm,most,nn gs,who⟩=G (b,r)∧r.most=most∧(b=E→r=⟨nn sm,most,nn gs,who⟩):=by
 intro d
 induction d with
 | zero=>
  intro fuel sm gs most who hd hf h1 h2 h3 h4
  obtain⟨fuel,rfl⟩:=sn (n:=fuel) (by omega)
  refine⟨F,⟨nn sm,most,nn gs,who⟩,?_,rfl,fun h=>by cases h⟩
  rw[G0,Z2,if_pos (by simp[A7r]; omega)]
 | succ d ih=>
  intro fuel sm gs most who hd hf h1 h2 h3 h4
  obtain⟨fuel,rfl⟩:=sn (n:=fuel) (by omega)
  rw[G0,Z2,if_neg (by simp[A7r]; omega)]
  have hi12:who.length≤11:=by omega
  have hpw:2 ^ who.length<2 ^ 64:=zS (by omega) (by omega)
  have hp0:0<2 ^ who.length:=Nat.pow_pos (by omega)
  have hpd:2 ^ (who.length+1)=2 ^ who.length+2 ^ who.length:=by rw[Nat.pow_succ]; omega
  have hsi:who.length<sm.length:=by omega
  have hsm:sm[who.length]<2 ^ 64:=zH (h1 _ (zC hsi)) (by decide)
  have key:∀(k p n:V),p+k=gs.length+1→k<n→∃b r,G2 (G0 fuel) ⟨nn sm,most,nn gs,who⟩ n (p:Q) (nn sm) most (nn gs) who=G (b,r)∧r.most=most∧(b=E→r=⟨nn sm,most,nn gs,who⟩):=by
   intro k
   induction k with
   | zero=>
    intro p n hp hn
    obtain⟨n,rfl⟩:=sn (n:=n) (by omega)
    refine⟨E,_,?_,rfl,fun _=>rfl⟩
    rw[G2,if_neg (by simp[A7r]; omega)]
   | succ k ihk=>
    intro p n hp hn
    obtain⟨n,rfl⟩:=sn (n:=n) (by omega)
    have hpl:p≤gs.length:=by omega
    rw[G2,if_pos (by simp[A7r]; omega)]
    cases hmost:decide ((p:Q)<most) with
    | false=>exact⟨E,_,by rw[if_neg (by simp)],rfl,fun _=>rfl⟩
    | true=>
     rw[if_pos rfl]
     by_cases hpe:p=gs.length
     ·
      rw[if_pos (by simp[A7r]; omega),if_pos (C1v (by simp[A7r]; omega) (by omega))]
      have e0:nn gs++ [(0:Q)]=nn (gs++ [0]):=E78 gs 0
      rw[e0]
      unfold R6
      dsimp only
      have hpg:p<(gs++ [0]).length:=by simp; omega
      have hg0:(gs++ [0])[p]=0:=by simp[hpe]
      rw[A8i hpg,X,hg0,A8i hsi,X,B1j (by decide) hsm]
      have ez:M2 0 sm[who.length]=0:=B6p.2 fun i hi=>by simp at hi
      rw[ez,if_pos (by simp),if_neg (by simp),if_pos (C1v (by simp; omega) (by omega)),C2e (by omega),C75 (by decide) hpw,Nat.zero_or,zE,B18]
      have es:(gs++ [0]).set p (2 ^ who.length)=gs++ [2 ^ who.length]:=by
       rw[List.set_append_right _ _ (by omega)]
       simp[hpe]
      rw[es]
      obtain⟨b,r,k1,k2,k3⟩:=ih fuel sm (gs++ [2 ^ who.length]) most (who++ [(p:Q)]) (by simp; omega) (by omega) h1 h2 (fun g hg=>by
       rw[zX,zO,hpd]
       rcases List.mem_append.1 hg with hg|hg
       ·have:=h3 g hg; omega
       ·rw[List.mem_singleton] at hg; omega) (by simp; omega)
      rw[k1,X]
      cases b with
      | true=>exact⟨F,r,by rw[if_pos rfl],k2,fun h=>by cases h⟩
      | false=>
       have:=k3 rfl
       subst this
       rw[if_neg (by simp)]
       have hw:((who++ [(p:Q)]).length:Q)=((who.length+1:V):Q):=by simp
       simp only[zX,zO]
       rw[show bnd ((who.length+1:V):Q) (who.length:Q) 0 (who.length+1)=G (0,who.length) from A49 (by omega),X]
       have hpg2:p<(gs++ [2 ^ who.length]).length:=by simp; omega
       have hg2:(gs++ [2 ^ who.length])[p]=2 ^ who.length:=by simp[hpe]
       rw[A8i hpg2,X,hg2,if_neg (by simp),B1j hpw hpw,B18]
       have ez2:M2 (2 ^ who.length) (2 ^ who.length)=0:=B6p.2 fun i hi=>hi
       have es2:(gs++ [2 ^ who.length]).set p 0=gs++ [0]:=by
        rw[List.set_append_right _ _ (by omega)]
        simp[hpe]
       have et:(who++ [(p:Q)]).take who.length=who:=by simp
       rw[ez2,es2,et]
       unfold N8
       rw[A8i hpg,X,hg0,if_pos (by simp),A7r]
       have hl1:(gs++ [0]).length=gs.length+1:=by simp
       rw[hl1,show bnd ((gs.length+1:V):Q) (p:Q) 0 (gs.length+1)=G (0,p) from A49 (by omega),X]
       have et2:(nn (gs++ [0])).take p=nn gs:=by rw[hpe]; simp[nn]
       show ∃b r,G (E,(⟨nn sm,most,(nn (gs++ [0])).take p,who⟩:Xh))=G (b,r)∧_
       rw[et2]
       exact⟨E,_,rfl,rfl,fun _=>rfl⟩
     ·
      rw[if_neg (by simp[A7r]; omega)]
      have hpg:p<gs.length:=by omega
      have hgm:=h3 _ (zC hpg)
      have hnext:∃b r,N8 (G0 fuel) ⟨nn sm,most,nn gs,who⟩ (p:Q) (G2 (G0 fuel) ⟨nn sm,most,nn gs,who⟩ n) (nn sm) most (nn gs) who=G (b,r)∧r.most=most∧(b=E→r=⟨nn sm,most,nn gs,who⟩):=by
       unfold N8
       rw[A8i hpg,X,if_neg (by simp; omega),E9 hpg (by rw[F4]; omega)]
       exact ihk (p+1) n (by omega) (by omega)
      unfold R6
      dsimp only
      rw[A8i hpg,X,A8i hsi,X,B1j (by omega) hsm]
      cases hfit:(((M2 gs[p] sm[who.length]:V):Q)==0) with
      | false=>rw[if_neg (by simp)]; exact hnext
      | true=>
       rw[if_pos rfl,if_neg (by simp),if_pos (C1v (by simp; omega) (by omega)),C2e (by omega),C75 (by omega) hpw,zE,B18]
       have hor:gs[p] ||| 2 ^ who.length<2 ^ (who.length+1):=zZ (by omega) (by omega)
       have hop:0<gs[p] ||| 2 ^ who.length:=by
        have:= @Nat.left_le_or gs[p] (2 ^ who.length)
        omega
       have hor64:gs[p] ||| 2 ^ who.length<2 ^ 64:=zZ (by omega) hpw
       obtain⟨b,r,k1,k2,k3⟩:=ih fuel sm (gs.set p (gs[p] ||| 2 ^ who.length)) most (who++ [(p:Q)]) (by simp; omega) (by omega) h1 h2 (fun g hg=>by
        rw[zX,zO]
        rcases List.mem_or_eq_of_mem_set hg with hg|hg
        ·have:=h3 g hg; omega
        ·subst hg; exact⟨hop,hor⟩) (by simp; omega)
       rw[k1,X]
       cases b with
       | true=>exact⟨F,r,by rw[if_pos rfl],k2,fun h=>by cases h⟩
       | false=>
        have:=k3 rfl
        subst this
        rw[if_neg (by simp)]
        simp only[zX,zO]
        have hps:p<(gs.set p (gs[p] ||| 2 ^ who.length)).length:=by simp; omega
        rw[show bnd ((who.length+1:V):Q) (who.length:Q) 0 (who.length+1)=G (0,who.length) from A49 (by omega),X,A8i hps,X,yA,if_neg (by simp),B1j hor64 hpw,B18,E5o hgm.2,List.set_set,E0e (Y hpg)]
        have et:(who++ [(p:Q)]).take who.length=who:=by simp
        rw[et]
        exact hnext
  exact key (gs.length+1) 0 bigN (by omega) (by rw[A0d]; omega)
section
variable {p : Q} {m : O Q} {l : O Xe}
end
section
variable {c : X5} {fl : O Xb}
def C1k(c:X5)(p:X4):Q × Q:=if p.Toward=F then((U0 c p.Segment).A,(U0 c p.Segment).B) else((U0 c p.Segment).B,(U0 c p.Segment).A)
theorem B6c{p:X4}(h:idx p.Segment c.Segments.length=F):Y7 p c=G (C1k c p):=by
 unfold Y7 C1k
 rw[(A35 h).1,X]
 split<;>rfl
theorem B8j{p:X4}(hn:∀x∈c.Points,x.Name.length≤maxLen)(hf:∀x∈fl,x.Name.length≤maxLen)(h1:I4 c=F)(h2:A7m fl=F):A3r c fl p=G (A8j c fl p):=by
 unfold A3r
 rw[M0 hn,h1,X,if_pos rfl,B2q hf,h2,X,if_pos rfl,B8b,X]
def B6u(c:X5)(p q:X4):Xe:=⟨p.Start,q.End,(C1k c p).1,(C1k c q).2⟩
theorem B5w{p q:X4}(h1:idx p.Segment c.Segments.length=F)(h2:idx q.Segment c.Segments.length=F):A6n c p q=G (B6u c p q):=by
 unfold A6n
 rw[B6c h1,X,B6c h2,X]
 rfl
theorem D5w{p:X4}{s:Xb}(h1:idx p.Segment c.Segments.length=F)(all:O X4)(v1:Q)(K:Q→O Xe→P (O Xe × U)){T:V}(hT:s.Tugs=(T:Q))(hT4:T≤4) :
  ∀(r k n:V) (acc:O Xe),k+r=T→r<n→acc.length≤12+k→P5 fl all v1 s c p K n (k:Q) acc =
   if(decide ((12:Q)<((acc++zF r (B6u c p p)).length:Q))) then G (([]:O Xe),E) else K (yN .i64 (v1+(1:Q))) (acc++zF r (B6u c p p)):=by
 intro r
 induction r with
 | zero=>
  intro k n acc hk hn ha
  obtain⟨n,rfl⟩:=sn (n:=n) (by omega)
  rw[P5,if_neg (by rw[hT]; simp; omega)]
  simp
 | succ r ih=>
  intro k n acc hk hn ha
  obtain⟨n,rfl⟩:=sn (n:=n) (by omega)
  rw[P5,if_pos (by rw[hT]; simp; omega),B5w h1 h1,X,if_pos (C1v (by simp; omega) (by omega)),E9 (i:=k) (n:=5) (by omega) (by rw[F4]; omega)]
  have:=ih (k+1) n (acc++ [B6u c p p]) (by omega) (by omega) (by simp; omega)
  refine this.trans ?_
  rw[List.append_assoc]
  rfl
def small(n:Q):Prop:= -1≤n∧n≤12
end
end Go.Vi
