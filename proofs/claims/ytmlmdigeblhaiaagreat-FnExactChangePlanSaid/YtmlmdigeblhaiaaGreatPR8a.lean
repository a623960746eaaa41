/-
Plain laws. No condition.
-/
import Derived.Test.YtmlmdigeblhaiaaGreatPNf
import Derived.Test.YtmlmdigeblhaiaaGreatPVi49
import Derived.KernelRfl
namespace Go.Vi
set_option linter.all false
open Option renaming bind_some → zB, bind_eq_some_iff → yF, some → O
open List renaming getElem?_eq_getElem → zC, getElem_mem → zF, getElem?_append_left → zH, replicate → zI, range → zK, take_succ_eq_append_getElem → zL, getElem_append_left → zM, getElem_of_mem → zN, length_append → zO, mem_singleton → zS, getElem?_append_right → zT, length_pos_iff → zU, mem_append → zV, drop_eq_getElem_cons → zW, getLast?_eq_getElem? → zX, length_singleton → zY, all_eq_true → yB, getElem?_set_ne → yE, getElem?_set_self → yG, mem_cons_of_mem → yH, getElem_append_right → yI, take_length → yJ, mem_cons_self → yK, range' → yL, append_assoc → yM, drop_zero → yY, getElem?_cons_zero → yZ, getElem?_map → kB, head?_eq_getElem? → kD, map → kE, getElem_set_self → kF, foldr_cons → kG, nil_append → kH, take_append_of_le_length → kI, flatten_append → kJ, mem_range → kK, getElem?_eq_some_iff → kM, getLast?_eq_none_iff → kN, range'_succ → kO, any_eq_true → kQ, getElem_map → kR, mem_map → kS, length_cons → kT, map_append → kW
open Bool renaming false_eq_true → zD, and_eq_true → zE, true_and → zQ, eq_iff_iff → zR, or_eq_true → kV, not_true → kY, true → E, false → G
open Option.some renaming injEq → zG, inj → kX
open Nat renaming zero_le → zJ, mod_two_eq_zero_or_one → yA, lt_or_ge → yC, lt_trans → yD, testBit_or → yN, testBit_two_pow_sub_one → yO, pow_le_pow_right → yP, eq_of_testBit_eq → yQ, pow_lt_pow_right → yR, testBit_and → yT, lt_of_lt_of_le → yU, lt_of_le_of_lt → yW, mul_le_mul → yX, or_lt_two_pow → kA, le_refl → kC, pow_pos → kL, sub_zero → kP, and_div_two → kU
open Int renaming toNat_natCast → zP, tdiv → zZ, tmod_eq_emod_of_nonneg → yS, tmod → yV
open IntKind renaming wrap → kZ
open _root_ renaming List → Q, Option → X, Int → Y, Bool → Z, Nat → J, UInt8 → I, rfl → zA
def AI(a b:J):J:=a ^^^ (a &&& b)
def Fl(a b i:J):(AI a b).testBit i=(a.testBit i&& !b.testBit i):=by
 simp only[AI,Nat.testBit_xor,yT];cases a.testBit i<;>cases b.testBit i<;>rfl
def Ky(n i:J):(2 ^ n).testBit i=decide (n=i):=Nat.testBit_two_pow
def Ie{s n i:J}(h:s<2 ^ n)(hi:s.testBit i=E):i<n:=by
 rcases yC i n with h1|h1
 .exact h1
 .have:s<2 ^ i:=yU h (yP a9 h1);rw[Nat.testBit_lt_two_pow this] at hi
  cases hi
def A6c{s i:J}(hi:s.testBit i=E):i<s:=Ie Nat.lt_two_pow_self hi
def cM(p:J->Z):∀k:J,∃q:J,∀i,q.testBit i=(decide (i<k)&&p i)
 | 0=>⟨0,fun i=>by simp⟩
 | k+1=>by
  obtain⟨q,hq⟩:=cM p k;refine⟨q ||| (if p k then 2 ^ k else 0),fun i=> ?_⟩;rw[yN,hq];by_cases hp:p k=E
  .rw[if_pos hp,Ky];by_cases h:k=i
   .subst h; simp[hp]
   .have:decide (i<k+1)=decide (i<k):=by simp; omega
    simp[h,this]
  .rw[if_neg hp,Nat.zero_testBit];by_cases h:k=i
   .subst h; simp[hp]
   .have:decide (i<k+1)=decide (i<k):=by simp; omega
    simp[this]
def A5r{q r:J}(h:q &&& r=q){i:J}(hi:q.testBit i=E):r.testBit i=E:=by
 have:=congrArg (fun x=>x.testBit i) h;simp only[yT,hi,zQ] at this
 exact this
def Vn{q r:J}(h:∀i,q.testBit i=E->r.testBit i=E):q &&& r=q:=by
 apply yQ
 intro i;rw[yT];cases hq:q.testBit i with
 | false=>rfl
 | true=>rw[h i hq]; rfl
def A1j:∀(n r p q:J),r<=n->p &&& r=p->q &&& r=q->q<p->q<=(p - 1) &&& r:=by
 intro n
 induction n with
 | zero=>
  intro r p q hr hp hq hlt;have:r=0:=by omega
  subst this;rw[Nat.and_zero] at hp hq
  omega
 | succ n ih=>
  intro r p q hr hp hq hlt;by_cases h0:r=0
  .subst h0;rw[Nat.and_zero] at hp hq
   omega
  have hp2:(p / 2) &&& (r / 2)=p / 2:=by rw[<- kU,hp]
  have hq2:(q / 2) &&& (r / 2)=q / 2:=by rw[<- kU,hq]
  have e2:∀a b:J,(a &&& b) % 2=(a % 2)*(b % 2):=fun a b=>by
   have h:=yT a b 0;simp only[Nat.testBit_zero] at h;rcases yA a with ha|ha<;>rcases yA b with hb|hb<;>rcases yA (a &&& b) with hc|hc<;>simp_all
  have hpm:=e2 p r;have hqm:=e2 q r;rw[hp] at hpm
  rw[hq] at hqm
  have hd:((p - 1) &&& r) / 2=((p - 1) / 2) &&& (r / 2):=kU;have hm:=e2 (p - 1) r;rcases yA p with h1|h1
  .
   have i1:=ih (r / 2) (p / 2) (q / 2) a9 hp2 hq2 a9;have e3:(p - 1) / 2=p / 2 - 1:=by omega
   rw[e3] at hd
   have e4:(p - 1) % 2=1:=by omega
   rw[e4,Nat.one_mul] at hm
   have hqr:q % 2<=r % 2:=by
    rcases yA q with h2|h2
    .omega
    .rw[h2,Nat.one_mul] at hqm; omega
   omega
  .have e3:(p - 1) / 2=p / 2:=by omega
   rw[e3,hp2] at hd
   omega
def mr{p r:J}(h:0<p):(p - 1) &&& r<p:=by
 have:= @Nat.and_le_left (p - 1) r;omega
def mu(p r:J):(p &&& r) &&& r=p &&& r:=by rw[Nat.and_assoc,Nat.and_self]
def EC(B:J->J->Z)(S m:J):Prop:=∃f:J->J,(∀i,S.testBit i=E->f i<m)/\∀i j,S.testBit i=E->S.testBit j=E->i≠j->f i=f j->B i j=E
def Fw(B:J->J->Z)(S:J):Prop:=∀i j,S.testBit i=E->S.testBit j=E->i≠j->B i j=E
def Cm(B:J->J->Z)(S n:J):Prop:=EC B S n/\∀m,EC B S m->n<=m
def R9{B:J->J->Z}{S n:J}(h:S<2 ^ n):EC B S n:=⟨id,fun i hi=>Ie h hi,fun i j _ _ hne e=>absurd e hne⟩
def Vd{B:J->J->Z}:Cm B 0 0:=⟨⟨id,fun i hi=>by simp at hi,fun i j hi=>by simp at hi⟩,fun m _=>zJ m⟩
def pA{B:J->J->Z}{S t rest q n:J}(hS:∀i,S.testBit i=E->i=t\/rest.testBit i=E)(hq:Fw B (q ||| 2 ^ t))(h:EC B (AI rest q) n):EC B S (1+n):=by
 obtain⟨f,f1,f2⟩:=h
 have key:∀i,S.testBit i=E->(i=t\/q.testBit i=E)\/(AI rest q).testBit i=E:=fun i hi=>by
  rcases hS i hi with h|h
  .exact .inl (.inl h)
  .cases hb:q.testBit i with
   | true=>exact .inl (.inr rfl)
   | false=>right; rw[Fl,h,hb]; rfl
 have hin:∀i,(i=t\/q.testBit i=E)->(q ||| 2 ^ t).testBit i=E:=fun i hi=>by
  rw[yN,Ky];rcases hi with h|h
  .simp[h]
  .simp[h]
 refine⟨fun i=>if i=t\/q.testBit i=E then n else f i,fun i hi=> ?_,fun i j hi hj hne e=> ?_⟩
 .by_cases hx:i=t\/q.testBit i=E
  .simp only[hx,if_true]; omega
  .simp only[hx,if_false];rcases key i hi with h|h
   .exact absurd h hx
   .have:=f1 i h; omega
 .by_cases hx:i=t\/q.testBit i=E
  .by_cases hy:j=t\/q.testBit j=E
   .exact hq i j (hin i hx) (hin j hy) hne
   .simp only[hx,hy,if_true,if_false] at e
    have:=f1 j ((key j hj).resolve_left hy);omega
  .by_cases hy:j=t\/q.testBit j=E
   .simp only[hx,hy,if_true,if_false] at e
    have:=f1 i ((key i hi).resolve_left hx);omega
   .simp only[hx,hy,if_false] at e
    exact f2 i j ((key i hi).resolve_left hx) ((key j hj).resolve_left hy) hne e
def pC{B:J->J->Z}{S t rest m:J}(hS:S.testBit t=E)(hr:∀i,rest.testBit i=E->S.testBit i=E)(h:EC B S m):∃q n,q &&& rest=q/\Fw B (q ||| 2 ^ t)/\n+1=m/\EC B (AI rest q) n:=by
 obtain⟨f,f1,f2⟩:=h;obtain⟨q,hq⟩:=cM (fun i=>rest.testBit i&&decide (f i=f t)) rest
 have hq2:∀i,q.testBit i=E↔rest.testBit i=E/\f i=f t:=fun i=>by
  rw[hq i];constructor
  .intro h;simp only[zE,decide_eq_true_eq] at h;exact h.2
  .intro⟨h1,h2⟩;simp only[zE,decide_eq_true_eq];exact⟨A6c h1,h1,h2⟩
 have hm:=f1 t hS;refine⟨q,m - 1,Vn fun i hi=>((hq2 i).1 hi).1,fun i j hi hj hne=> ?_,a9,fun i=>if f i=m - 1 then f t else f i,fun i hi=> ?_,fun i j hi hj hne e=> ?_⟩
 .have side:∀i,(q ||| 2 ^ t).testBit i=E->S.testBit i=E/\f i=f t:=fun i hi=>by
   rw[yN,Ky,kV,decide_eq_true_eq] at hi
   rcases hi with h|h
   .exact⟨hr i ((hq2 i).1 h).1,((hq2 i).1 h).2⟩
   .subst h; exact⟨hS,rfl⟩
  obtain⟨i1,i2⟩:=side i hi;obtain⟨j1,j2⟩:=side j hj;exact f2 i j i1 j1 hne (i2.trans j2.symm)
 .rw[Fl,zE] at hi
  have hne:f i≠f t:=fun e=>by
   have:=(hq2 i).2 ⟨hi.1,e⟩;rw[this] at hi
   simp at hi
  have:=f1 i (hr i hi.1);show(if f i=m - 1 then f t else f i)<m - 1
  split<;>omega
 .rw[Fl,zE] at hi hj
  have hni:f i≠f t:=fun e=>by
   have:=(hq2 i).2 ⟨hi.1,e⟩;rw[this] at hi
   simp at hi
  have hnj:f j≠f t:=fun e=>by
   have:=(hq2 j).2 ⟨hj.1,e⟩;rw[this] at hj
   simp at hj
  have e2:f i=f j:=by
   have e:(if f i=m - 1 then f t else f i)=(if f j=m - 1 then f t else f j):=e;split at e<;>split at e<;>omega
  exact f2 i j (hr i hi.1) (hr j hj.1) hne e2
def D9(B:J->J->Z)(N m:J)(w:Q J):Prop:=∃f:J->J,(∀(j:J) (h:j<w.length),f j=w[j])/\(∀j,j<N->f j<m)/\∀i j,i<N->j<N->i≠j->f i=f j->B i j=E
def KG(B:J->J->Z)(w:Q J)(c:J):Prop:=∀(k:J) (h:k<w.length),w[k]=c->B w.length k=E
def tB{B:J->J->Z}{N m:J}{w:Q J}{c:J}(h:D9 B N m (w++ [c])):D9 B N m w:=by
 obtain⟨f,f1,f2⟩:=h;exact⟨f,fun j hj=>by rw[f1 j d3,zM hj],f2⟩
def tD{B:J->J->Z}{N m u:J}{w:Q J}(hw:w.length<N)(hu:∀x∈w,x<u)(h:D9 B N m w):∃c,c<=u/\c<m/\KG B w c/\D9 B N m (w++ [c]):=by
 obtain⟨f,f1,f2,f3⟩:=h
 have done:∀f:J->J,(∀(j:J) (h:j<w.length),f j=w[j])->(∀j,j<N->f j<m)->(∀i j,i<N->j<N->i≠j->f i=f j->B i j=E)->f w.length<=u->∃c,c<=u/\c<m/\KG B w c/\D9 B N m (w++ [c]):=by
  intro f f1 f2 f3 hle;refine⟨f w.length,hle,f2 _ hw,fun k hk e=>f3 _ _ hw a9 a9 ((e.symm.trans (f1 k hk).symm)),f,fun j hj=> ?_,f2,f3⟩;rcases yC j w.length with h|h
  .rw[zM h]; exact f1 j h
  .have:j=w.length:=by simp at hj; omega
   subst this;simp
 by_cases hc:f w.length<=u
 .exact done f f1 f2 f3 hc
 .have hm:=f2 _ hw;refine done (fun x=>if f x=f w.length then u else if f x=u then f w.length else f x) (fun j hj=> ?_) (fun j hj=> ?_) (fun i j hi hj hne e=>f3 i j hi hj hne ?_) d0
  .have e1:=f1 j hj;have e2:=hu _ (zF hj);show(if f j=f w.length then u else if f j=u then f w.length else f j)=w[j]
   rw[if_neg a9,if_neg a9,e1]
  .have:=f2 j hj;show(if f j=f w.length then u else if f j=u then f w.length else f j)<m
   split
   .omega
   .split<;>omega
  .have e:(if f i=f w.length then u else if f i=u then f w.length else f i)=(if f j=f w.length then u else if f j=u then f w.length else f j):=e;split at e<;>split at e<;>(try split at e)<;>(try split at e)<;>omega
def tC{B:J->J->Z}{N m:J}{w:Q J}(hl:w.length=N)(hm:∀x∈w,x<m)(hB:∀i j,B i j=B j i)(hv:∀(i k:J) (hi:i<w.length) (hk:k<i),w[i]=w[k]->B i k=E):D9 B N m w:=by
 subst hl;have e:∀(j:J) (h:j<w.length),w[j]?.getD 0=w[j]:=fun j h=>by rw[zC h]; rfl
 refine⟨fun j=>w[j]?.getD 0,fun j hj=>e j hj,fun j hj=> ?_,fun i j hi hj hne h=> ?_⟩
 .show w[j]?.getD 0<m
  rw[e j hj]; exact hm _ (zF hj)
 .have h:w[i]?.getD 0=w[j]?.getD 0:=h;rw[e i hi,e j hj] at h;rcases yC j i with hlt|hge
  .exact hv i j hi hlt h
  .rw[hB]; exact hv j i hj a9 h.symm
def YJ{B:J->J->Z}{N m:J}:EC B (2 ^ N - 1) m↔D9 B N m []:=by
 have ht:∀i,(2 ^ N - 1).testBit i=decide (i<N):=fun i=>yO N i
 constructor
 .rintro⟨f,f1,f2⟩
  exact⟨f,fun j h=>by simp at h,fun j hj=>f1 j (by rw[ht]; simpa using hj),fun i j hi hj hne e=>f2 i j (by rw[ht]; simpa using hi) (by rw[ht]; simpa using hj) hne e⟩
 .rintro⟨f,_,f1,f2⟩
  exact⟨f,fun j hj=>f1 j (by rw[ht] at hj; simpa using hj),fun i j hi hj hne e=>f2 i j (by rw[ht] at hi; simpa using hi) (by rw[ht] at hj; simpa using hj) hne e⟩
def Bw(n lo hi:Y):Ay n lo hi=O (decide (lo<=n)&&decide (n<=hi)):=by
 unfold Ay;by_cases h:lo<=n<;>simp[h]
def D8(n lo hi:Y):BK n lo hi=O (decide (lo<=n)&&decide (n<=hi)):=by
 unfold BK;by_cases h:lo<=n<;>simp[h]
def DQ{n bytes:J}(h:n<=1048576)(hb:bytes<=1000):BB (n:Y) (n:Y) bytes=O n:=by
 unfold BB
 have:(n:Y)*(bytes:Y)<=140737488355328:=by
  have:n*bytes<=1048576*1000:=yX h hb;have e:((n*bytes:J):Y)=(n:Y)*(bytes:Y):=by simp
  omega
 rw[if_pos ⟨a9,a9,this,a9⟩];simp
def Es{n:J}(h:n<=1048576):n<=maxLen:=by rw[Az]; omega
def A6j{xs:Q Y}(h:xs.length<=1048576):Ou xs=O xs:=by
 unfold Ou;rw[DQ h a9];have:=FG (L:=Jm xs) xs id (Es h) (fun n i acc hi ha=>by simp[Jm,Am,hi,ha]) (fun n acc=>by simp[Jm]) (zI xs.length 0) d0;simpa using this
def sQ{xs ys:Q Y}(h:xs.length<=maxLen):NY xs ys=O (decide (xs=ys)):=by
 unfold NY;by_cases hl:xs.length=ys.length
 .have:=Iv (L:=J6 xs ys) xs ys h hl (fun n i h1 h2=>by simp[J6,Am,h1,h2]) (fun n=>by simp[J6]);simp[hl,this]
 .have:¬(xs.length:Y)=ys.length:=by omega
  have:xs≠ys:=fun e=>hl (by rw[e])
  simp_all
def F8{α:Type}{row:α->Q D}{xs:Q α}(h:(D.sl (kE row xs)).Ok):xs.length<=maxLen:=by simpa using h.sl.1
def HQ(n:Y):CP n=O (decide (0<=n)&&decide (n<=2880)):=by simp[CP,D8]
def Zc{len:J}(p:J->Z)(K:X Z):∀(k i:J),(yL i k).foldr (fun i r=>if p i=E then r else O G) K=if(yL i k).all p=E then K else O G
 | 0,i=>by simp
 | k+1,i=>by
  rw[kO,kG,Zc (len:=len) p K k (i+1),List.all_cons];cases p i<;>rfl
def Zd{len:J}(p:J->Z)(K:X Z):∀(k i:J),(yL i k).foldr (fun i r=>if p i=E then O G else r) K=if(yL i k).any p=E then O G else K
 | 0,i=>by simp
 | k+1,i=>by
  rw[kO,kG,Zd (len:=len) p K k (i+1),List.any_cons];cases p i<;>rfl
def GT{L:J->Y->X Z}(len:J)(p:J->Z)(K:X Z)(hl:len<=maxLen)
  (hs:∀(n i:J),i<len->L (n+1) (i:Y)=if p i=E then L n (kZ .i64 ((i:Y)+1)) else O G) (he:∀n,L (n+1) (len:Y)=K):L bigN 0=if(zK len).all p=E then K else O G:=by
 have:=Ks L len hl (fun i r=>if p i=E then r else O G) K hs he len 0 bigN a9 (BG hl);rw[Zc (len:=len),<- List.range_eq_range'] at this
 exact this
def Y9{L:J->Y->X Z}(len:J)(p:J->Z)(K:X Z)(hl:len<=maxLen)
  (hs:∀(n i:J),i<len->L (n+1) (i:Y)=if p i=E then O G else L n (kZ .i64 ((i:Y)+1))) (he:∀n,L (n+1) (len:Y)=K):L bigN 0=if(zK len).any p=E then O G else K:=by
 have:=Ks L len hl (fun i r=>if p i=E then O G else r) K hs he len 0 bigN a9 (BG hl);rw[Zd (len:=len),<- List.range_eq_range'] at this
 exact this
def Kl(s:Q I)(i:J):Z:=match s[i]? with
 | some b=>(decide (97<=(b.toNat:Y))&&decide ((b.toNat:Y)<=122)) || (!(decide (i=0))&&(decide (48<=(b.toNat:Y))&&decide ((b.toNat:Y)<=57)))
 | none=>G
def Qc(s:Q I):Z:=decide (1<=(s.length:Y))&&decide ((s.length:Y)<=8)
def F4(s:Q I):Z:=Qc s&&(zK s.length).all (Kl s)
def cd(c:Y)(K:X Z)(z':Z)(z:Y)(i:J)(hz:z=(i:Y)) :
  (if decide (97<=c)=E then(if decide (c<=122)=E then K else if(z==0)=E then O G else if decide (c<48)=E then O G else if decide (57<c)=E then O G else K)
   else if G=E then K else if(z==0)=E then O G else if decide (c<48)=E then O G else if decide (57<c)=E then O G else K) =
  if((decide (97<=c)&&decide (c<=122)) || (!(decide (i=0))&&(decide (48<=c)&&decide (c<=57))))=E then K else O G:=by
 subst hz;have e0:(((i:J):Y)==0)=decide (i=0):=by rw[zR]; simp
 have e1:decide (c<48)= !decide (48<=c):=by rw[zR]; simp
 have e2:decide (57<c)= !decide (c<=57):=by rw[zR]; simp
 rw[e0,e1,e2];cases decide (i=0)<;>cases decide (97<=c)<;>cases decide (c<=122)<;>cases decide (48<=c)<;>cases decide (c<=57)<;>rfl
def dr{s:Q I}(h:s.length<=maxLen):LS s=O (F4 s):=by
 unfold LS;rw[GT (L:=Hq s) s.length (Kl s) (O (Qc s)) h (fun n i hi=> ?_) (fun n=>by simp[Hq,Bw,Qc])]
 .unfold F4;cases(zK s.length).all (Kl s)<;>simp
 .simp only[Hq,OR,OS,Am,Kl,zC hi,zB,Aj,hi,decide_true,if_true];exact cd _ _ E (i:Y) i zA
def bP{s:Q I}(h:s.length<=maxLen):La s=O (F4 s):=by
 unfold La;rw[D8];rw[GT (L:=H4 s) s.length (Kl s) (O E) h (fun n i hi=> ?_) (fun n=>by simp[H4])]
 .unfold F4 Qc;simp only[zB];cases(zK s.length).all (Kl s)<;>cases(decide (1<=(s.length:Y))&&decide ((s.length:Y)<=8))<;>simp
 .simp only[H4,Nh,Ni,Am,Kl,zC hi,zB,Aj,hi,decide_true,if_true];exact cd _ _ E (i:Y) i zA
def Pt{R:Type}(p:J->Z)(f:J->R)(z:R):∀(k i:J),(yL i k).foldr (fun i r=>if p i=E then O (f i) else r) (O z)=O ((yL i k).foldr (fun i r=>if p i=E then f i else r) z)
 | 0,i=>by simp
 | k+1,i=>by
  rw[kO,kG,Pt p f z k (i+1),kG];cases p i<;>simp
def Qk(xs:Q X7)(s:Q I)(i:J):Z:=match xs[i]? with
 | some x=>decide (x.Name=s)
 | none=>G
def Ql(xs:Q X7)(s:Q I):Y:=(yL 0 xs.length).foldr (fun i r=>if Qk xs s i=E then(i:Y) else r) (-1)
def A4o{c:X4}{s:Q I}(h:c.Points.length<=maxLen):P5 c s=O (Ql c.Points s):=by
 unfold P5;exact(Ks (JN s c) c.Points.length h (fun i r=>if Qk c.Points s i=E then O (i:Y) else r) (O (-1)) (fun n i hi=>by simp[JN,Am,hi,Qk]) (fun n=>by simp[JN]) c.Points.length 0 bigN a9 (BG h)).trans (Pt _ _ _ _ _)
def wr{c:X4}{s:Q I}(h:c.Points.length<=maxLen):Nt c s=O (Ql c.Points s):=by
 unfold Nt;exact(Ks (IP s c) c.Points.length h (fun i r=>if Qk c.Points s i=E then O (i:Y) else r) (O (-1)) (fun n i hi=>by simp[IP,Am,hi,Qk]) (fun n=>by simp[IP]) c.Points.length 0 bigN a9 (BG h)).trans (Pt _ _ _ _ _)
def jn(y:X2)(a b:Y):Z:=(decide (y.A=a)&&decide (y.B=b)) || (decide (y.A=b)&&decide (y.B=a))
def A4v(y:X2)(a b:Y):Pi y a b=O (jn y a b):=by
 unfold Pi jn;by_cases h1:y.A=a<;>by_cases h2:y.B=b<;>by_cases h3:y.A=b<;>by_cases h4:y.B=a<;>simp_all
def wz(y:X2)(a b:Y):Nw y a b=O (jn y a b):=by
 unfold Nw jn;by_cases h1:y.A=a<;>by_cases h2:y.B=b<;>by_cases h3:y.A=b<;>by_cases h4:y.B=a<;>simp_all
def A5x{xs:Q Y}{l:Y}(h0:0<=l)(h1:l<=1048576)(hx:xs.length<=maxLen):∃r,Of xs l=O r/\(0<=r->r<=l/\xs.length<=1048576):=by
 unfold Of;rw[Az] at hx
 rw[Ai a9 a9];by_cases h:l - (xs.length:Y)<0
 .exact⟨-1,by simp[h],a9⟩
 .exact⟨l - xs.length,by simp[h],a9⟩
def Mp(i n:Y):BD i n=O (decide (0<=i)&&decide (i<n)):=by
 unfold BD;by_cases h:0<=i<;>simp[h]
def idx(i:Y)(n:J):Z:=decide (0<=i)&&decide (i<(n:Y))
def bW(i:Y){n:J}(h:n<=1000):(decide (0<=i)&&decide (i<=kZ .i64 ((n:Y) - 1)))=idx i n:=by
 rw[Ai a9 a9];unfold idx;congr 1
 rw[zR];simp;omega
def E1(c:X4)(i:J):Z:=match c.Segments[i]? with
 | some x=>idx x.A c.Points.length&&(idx x.B c.Points.length&&(!(decide (x.A=x.B))&&((decide (0<=x.Depth)&&decide (x.Depth<=3000))&&((decide (1<=x.Minutes)&&decide (x.Minutes<=240))&& !((zK i).any fun j=>match c.Segments[j]? with | some y=>jn y x.A x.B | none=>G)))))
 | none=>G
def I2(c:X4)(i:J):Z:=match c.Points[i]? with
 | some x=>F4 x.Name&&decide (Ql c.Points x.Name=(i:Y))
 | none=>G
def AP(c:X4):Z:=decide (c.Points.length<=8)&&(decide (c.Segments.length<=10)&&((zK c.Points.length).all (I2 c)&&(zK c.Segments.length).all (E1 c)))
def FE{n i:J}(h:i<=n):bnd (n:Y) (i:Y) (0:Y) n=O (0,i):=by
 unfold bnd;rw[if_pos ⟨a9,a9,a9,a9⟩];simp
def en{α:Type}{l:Q α}{i j:J}(hj:j<i):(l.take i)[j]?=l[j]?:=by simp[List.getElem?_take,hj]
def E2{c:X4}(hn:∀x∈c.Points,x.Name.length<=maxLen):Dq c=O (AP c):=by
 unfold Dq AP;by_cases h1:c.Points.length<=8
 .have h1':¬(8:Y)<c.Points.length:=by omega
  by_cases h2:c.Segments.length<=10
  .have h2':¬(10:Y)<c.Segments.length:=by omega
   have hp:c.Points.length<=maxLen:=by rw[Az]; omega
   have hs:c.Segments.length<=maxLen:=by rw[Az]; omega
   have inner:EX c bigN 0=O ((zK c.Segments.length).all (E1 c)):=by
    rw[GT (L:=EX c) c.Segments.length (E1 c) (O E) hs (fun n i hi=> ?_) (fun n=>by simp[EX])]
    .cases(zK c.Segments.length).all (E1 c)<;>rfl
    .simp only[EX,Am,zC hi,zB,Aj,hi,decide_true,if_true,Bw,bW _ (show c.Points.length<=1000 by omega),FE (Nat.le_of_lt hi),E1,yY,kP];have hl:(c.Segments.take i).length=i:=by simp; omega
     rw[hl]
     rw[Y9 (L:=Jy c i c.Segments[i] (c.Segments.take i) (i:Y) (EX c n)) i (fun j=>match c.Segments[j]? with | some y=>jn y c.Segments[i].A c.Segments[i].B | none=>G)
      (EX c n (kZ .i64 ((i:Y)+1))) a9 (fun m j hj=>by
       have hj2:j<c.Segments.length:=by omega
       simp only[Jy,Am,en hj,zC hj2,zB,Aj,hj,decide_true,if_true,A4v]) (fun m=>by simp[Jy])]
     have e:(c.Segments[i].A==c.Segments[i].B)=decide (c.Segments[i].A=c.Segments[i].B):=rfl;rw[e]
     cases idx c.Segments[i].A c.Points.length<;>cases idx c.Segments[i].B c.Points.length<;>cases decide (c.Segments[i].A=c.Segments[i].B)<;>cases(decide (0<=c.Segments[i].Depth)&&decide (c.Segments[i].Depth<=3000)) <;>
      cases(decide (1<=c.Segments[i].Minutes)&&decide (c.Segments[i].Minutes<=240))<;>cases((zK i).any fun j=>match c.Segments[j]? with | some y=>jn y c.Segments[i].A c.Segments[i].B | none=>G)<;>rfl
   rw[GT (L:=Jx c) c.Points.length (I2 c) _ hp (fun n i hi=> ?_) (fun n=>by simp only[Jx,Int.lt_irrefl,decide_false,zD,if_false]; exact inner)]
   .simp only[h1,h2,h1',h2',decide_true,decide_false,zQ,zD,if_false];cases(zK c.Points.length).all (I2 c)<;>rfl
   .simp only[Jx,Am,zC hi,zB,Aj,hi,decide_true,if_true,dr (hn _ (zF hi)),A4o hp,I2];by_cases e:Ql c.Points c.Points[i].Name=(i:Y)<;>cases F4 c.Points[i].Name<;>simp[e]
  .have h2':(10:Y)<c.Segments.length:=by omega
   simp[h1,h1',h2,h2']
 .have h1':(8:Y)<c.Points.length:=by omega
  simp[h1,h1']
def Gr{c:X4}(hn:∀x∈c.Points,x.Name.length<=maxLen):DD c=O (AP c):=by
 unfold DD AP;by_cases h1:c.Points.length<=8
 .have h1':¬(8:Y)<c.Points.length:=by omega
  by_cases h2:c.Segments.length<=10
  .have h2':¬(10:Y)<c.Segments.length:=by omega
   have hp:c.Points.length<=maxLen:=by rw[Az]; omega
   have hs:c.Segments.length<=maxLen:=by rw[Az]; omega
   have inner:EK c bigN 0=O ((zK c.Segments.length).all (E1 c)):=by
    rw[GT (L:=EK c) c.Segments.length (E1 c) (O E) hs (fun n i hi=> ?_) (fun n=>by simp[EK])]
    .cases(zK c.Segments.length).all (E1 c)<;>rfl
    .simp only[EK,Am,zC hi,zB,Aj,hi,decide_true,if_true,D8,Mp,show ∀(a:Y) (n:J),(decide (0<=a)&&decide (a<(n:Y)))=idx a n from fun _ _=>rfl,FE (Nat.le_of_lt hi),E1,yY,kP];have hl:(c.Segments.take i).length=i:=by simp; omega
     rw[hl]
     rw[Y9 (L:=Iy c i c.Segments[i] (c.Segments.take i) (i:Y) (EK c n)) i (fun j=>match c.Segments[j]? with | some y=>jn y c.Segments[i].A c.Segments[i].B | none=>G)
      (EK c n (kZ .i64 ((i:Y)+1))) a9 (fun m j hj=>by
       have hj2:j<c.Segments.length:=by omega
       simp only[Iy,Am,en hj,zC hj2,zB,Aj,hj,decide_true,if_true,wz]) (fun m=>by simp[Iy])]
     have e:(c.Segments[i].A==c.Segments[i].B)=decide (c.Segments[i].A=c.Segments[i].B):=rfl;rw[e]
     cases idx c.Segments[i].A c.Points.length<;>cases idx c.Segments[i].B c.Points.length<;>cases decide (c.Segments[i].A=c.Segments[i].B)<;>cases(decide (0<=c.Segments[i].Depth)&&decide (c.Segments[i].Depth<=3000)) <;>
      cases(decide (1<=c.Segments[i].Minutes)&&decide (c.Segments[i].Minutes<=240))<;>cases((zK i).any fun j=>match c.Segments[j]? with | some y=>jn y c.Segments[i].A c.Segments[i].B | none=>G)<;>rfl
   rw[GT (L:=Ix c) c.Points.length (I2 c) _ hp (fun n i hi=> ?_) (fun n=>by simp only[Ix,Int.lt_irrefl,decide_false,zD,if_false]; exact inner)]
   .simp only[h1,h2,h1',h2',decide_true,decide_false,zQ,zD,if_false];cases(zK c.Points.length).all (I2 c)<;>rfl
   .simp only[Ix,Am,zC hi,zB,Aj,hi,decide_true,if_true,bP (hn _ (zF hi)),wr hp,I2];by_cases e:Ql c.Points c.Points[i].Name=(i:Y)<;>cases F4 c.Points[i].Name<;>simp[e]
  .have h2':(10:Y)<c.Segments.length:=by omega
   simp[h1,h1',h2,h2']
 .have h1':(8:Y)<c.Points.length:=by omega
  simp[h1,h1']
def A6n{xs:Q X7}(h:xs.length<=1048576):Oy xs=O xs:=by
 unfold Oy;rw[DQ h a9];have:=FG (L:=Jq xs) xs id (Es h) (fun n i acc hi ha=>by simp[Jq,Am,hi,ha,RD]) (fun n acc=>by simp[Jq]) (zI xs.length ⟨[],G⟩) d0;simpa using this
def A6o{xs:Q X2}(h:xs.length<=1048576):Oz xs=O xs:=by
 unfold Oz;rw[DQ h a9];have:=FG (L:=Jr xs) xs id (Es h) (fun n i acc hi ha=>by simp[Jr,Am,hi,ha,RF]) (fun n acc=>by simp[Jr]) (zI xs.length ⟨0,0,0,0,G⟩) d0;simpa using this
def A6f{c:X4}(h1:c.Points.length<=1048576)(h2:c.Segments.length<=1048576):Oq c=O c:=by
 simp[Oq,A6n h1,A6o h2]
def sY(x y:X7):O4 x y=O (decide (x=y)):=by
 unfold O4;cases x; cases y;simp only[X7.mk.injEq];repeat' split
 all_goals simp_all
def sX{xs ys:Q X7}(h:xs.length<=maxLen):O5 xs ys=O (decide (xs=ys)):=by
 unfold O5;by_cases hl:xs.length=ys.length
 .have:=Iv (L:=Ja xs ys) xs ys h hl (fun n i h1 h2=>by simp[Ja,Am,h1,h2,sY]) (fun n=>by simp[Ja]);simp[hl,this]
 .have:¬(xs.length:Y)=ys.length:=by omega
  have:xs≠ys:=fun e=>hl (by rw[e])
  simp_all
def sa(x y:X2):O6 x y=O (decide (x=y)):=by
 unfold O6;cases x; cases y;simp only[X2.mk.injEq];repeat' split
 all_goals simp_all
def sZ{xs ys:Q X2}(h:xs.length<=maxLen):O7 xs ys=O (decide (xs=ys)):=by
 unfold O7;by_cases hl:xs.length=ys.length
 .have:=Iv (L:=Jb xs ys) xs ys h hl (fun n i h1 h2=>by simp[Jb,Am,h1,h2,sa]) (fun n=>by simp[Jb]);simp[hl,this]
 .have:¬(xs.length:Y)=ys.length:=by omega
  have:xs≠ys:=fun e=>hl (by rw[e])
  simp_all
def sK{c:X4}(h1:c.Points.length<=maxLen)(h2:c.Segments.length<=maxLen):NV c c=O E:=by
 simp[NV,sX h1,sZ h2]
def A51{x:X7}{l:Y}(h0:0<=l)(h1:l<=1048576)(hx:x.Name.length<=maxLen):∃r,Oi x l=O r/\(0<=r->r<=l):=by
 unfold Oi;rw[Az] at hx
 rw[Ai a9 a9];by_cases h:l - (x.Name.length:Y)<0
 .exact⟨-1,by simp[h],a9⟩
 .exact⟨l - x.Name.length,by simp[h],a9⟩
def A50{xs:Q X7}{l:Y}(h0:0<=l)(h1:l<=1048576)(hx:xs.length<=maxLen)(hn:∀x∈xs,x.Name.length<=maxLen):∃r,Oj xs l=O r/\(0<=r->r<=l/\xs.length<=1048576):=by
 unfold Oj;have hx':=hx;rw[Az] at hx'
 rw[Ai a9 a9];by_cases h:l - (xs.length:Y)<0
 .exact⟨-1,by simp[h],a9⟩
 .have key:∀(k i n:J) (v:Y),i+k=xs.length->k<n->0<=v->v<=l->∃r,Hg xs n v (i:Y)=O r/\(0<=r->r<=l):=by
   intro k
   induction k with
   | zero=>
    intro i n v hi hn2 hv hv2;obtain⟨m,rfl⟩:∃m,n=m+1:=⟨n - 1,a9⟩;have:i=xs.length:=by omega
    subst this;exact⟨v,by simp[Hg],fun _=>hv2⟩
   | succ k ih=>
    intro i n v hi hn2 hv hv2;obtain⟨m,rfl⟩:∃m,n=m+1:=⟨n - 1,a9⟩;have hlt:i<xs.length:=by omega
    obtain⟨r,e,hr⟩:=A51 (x:=xs[i]) hv a9 (hn _ (zF hlt));by_cases hr0:r<0
    .exact⟨-1,by simp[Hg,Am,hlt,e,hr0],a9⟩
    .obtain⟨r2,e2,h2⟩:=ih (i+1) m r a9 a9 a9 (by have:=hr a9; omega);refine⟨r2,?_,h2⟩;rw[<- Au hlt hx] at e2
     simp only[Hg,Am,zC hlt,zB,Aj,hlt,decide_true,if_true,e,hr0,decide_false,zD,if_false];exact e2
  obtain⟨r,e,hr⟩:=key xs.length 0 bigN (l - xs.length) a9 (BG hx) a9 a9;refine⟨r,?_,fun h=>⟨hr h,a9⟩⟩;simp only[h,decide_false,zD,if_false];exact e
def A52{xs:Q X2}{l:Y}(h0:0<=l)(h1:l<=1048576)(hx:xs.length<=maxLen):∃r,Ol xs l=O r/\(0<=r->r<=l/\xs.length<=1048576):=by
 unfold Ol;rw[Az] at hx
 rw[Ai a9 a9];by_cases h:l - (xs.length:Y)<0
 .exact⟨-1,by simp[h],a9⟩
 .exact⟨l - xs.length,by simp[h],a9⟩
def A5u{c:X4}{l:Y}(h0:0<=l)(h1:l<=1048576)(hp:c.Points.length<=maxLen)(hs:c.Segments.length<=maxLen)(hn:∀x∈c.Points,x.Name.length<=maxLen) :
  ∃r,Od c l=O r/\(0<=r->r<=l/\c.Points.length<=1048576/\c.Segments.length<=1048576):=by
 unfold Od;obtain⟨r,e,h⟩:=A50 h0 h1 hp hn;by_cases hr:r<0
 .exact⟨-1,by simp[e,hr],a9⟩
 .obtain⟨k1,k2⟩:=h a9;obtain⟨r',e',h'⟩:=A52 (xs:=c.Segments) (l:=r) a9 a9 hs;by_cases hr':r'<0
  .exact⟨-1,by simp[e,hr,e',hr'],a9⟩
  .obtain⟨k3,k4⟩:=h' a9;exact⟨r',by simp[e,hr,e',hr'],fun _=>⟨a9,k2,k4⟩⟩
def CG(s:X5):Z:=F4 s.Name&&((decide (10<=s.Length)&&decide (s.Length<=400))&&((decide (100<=s.Draught)&&decide (s.Draught<=2000))&&((decide (0<=s.Line)&&decide (s.Line<=3))&&(decide (0<=s.Tugs)&&decide (s.Tugs<=4)))))
def bM(a b:Z):(if a=E then O b else O G)=O (a&&b):=by cases a<;>rfl
def Kw{s:X5}(h:s.Name.length<=maxLen):DG s=O (CG s):=by
 simp only[DG,dr h,Bw,zB,bM,CG]
def Gs{s:X5}(h:s.Name.length<=maxLen):EO s=O (CG s):=by
 have e:(decide (0<=s.Line)&&decide (s.Line<4))=(decide (0<=s.Line)&&decide (s.Line<=3)):=by
  congr 1
  rw[zR]; simp; omega
 simp only[EO,bP h,D8,Mp,zB,bM,CG,e]
def Qr(xs:Q X5)(s:Q I)(i:J):Z:=match xs[i]? with
 | some x=>decide (x.Name=s)
 | none=>G
def Qs(xs:Q X5)(s:Q I):Y:=(yL 0 xs.length).foldr (fun i r=>if Qr xs s i=E then(i:Y) else r) (-1)
def A4p{xs:Q X5}{s:Q I}(h:xs.length<=maxLen):P9 xs s=O (Qs xs s):=by
 unfold P9;exact(Ks (JS s xs) xs.length h (fun i r=>if Qr xs s i=E then O (i:Y) else r) (O (-1)) (fun n i hi=>by simp[JS,Am,hi,Qr]) (fun n=>by simp[JS]) xs.length 0 bigN a9 (BG h)).trans (Pt _ _ _ _ _)
def wu{xs:Q X5}{s:Q I}(h:xs.length<=maxLen):Nx xs s=O (Qs xs s):=by
 unfold Nx;exact(Ks (IR s xs) xs.length h (fun i r=>if Qr xs s i=E then O (i:Y) else r) (O (-1)) (fun n i hi=>by simp[IR,Am,hi,Qr]) (fun n=>by simp[IR]) xs.length 0 bigN a9 (BG h)).trans (Pt _ _ _ _ _)
def M9(xs:Q X5)(i:J):Z:=match xs[i]? with
 | some x=>CG x&&decide (Qs xs x.Name=(i:Y))
 | none=>G
def DK(xs:Q X5):Z:=decide (xs.length<=6)&&(zK xs.length).all (M9 xs)
def KT(a b:Y):(a !=b)= !decide (a=b):=rfl
def dp{xs:Q X5}(hn:∀x∈xs,x.Name.length<=maxLen):LP xs=O (DK xs):=by
 unfold LP DK;by_cases h:xs.length<=6
 .have h':¬(6:Y)<xs.length:=by omega
  have hm:xs.length<=maxLen:=by rw[Az]; omega
  simp only[h,h',decide_true,decide_false,zD,if_false,zQ];refine MW (L:=JD xs) xs.length (M9 xs) hm (fun n i hi=> ?_) (fun n=>by simp[JD]);simp only[JD,Aj,hi,decide_true,if_true,Af hi,zB,Kw (hn _ (zF hi)),A4p hm,M9,zC hi,KT];cases CG xs[i]<;>by_cases e:Qs xs xs[i].Name=(i:Y)<;>simp[e]
 .have h':(6:Y)<xs.length:=by omega
  simp[h,h']
def bN{xs:Q X5}(hn:∀x∈xs,x.Name.length<=maxLen):L8 xs=O (DK xs):=by
 unfold L8 DK;by_cases h:xs.length<=6
 .have h':¬(6:Y)<xs.length:=by omega
  have hm:xs.length<=maxLen:=by rw[Az]; omega
  simp only[h,h',decide_true,decide_false,zD,if_false,zQ];refine MW (L:=IF xs) xs.length (M9 xs) hm (fun n i hi=> ?_) (fun n=>by simp[IF]);simp only[IF,Aj,hi,decide_true,if_true,Af hi,zB,Gs (hn _ (zF hi)),wu hm,M9,zC hi,KT];cases CG xs[i]<;>by_cases e:Qs xs xs[i].Name=(i:Y)<;>simp[e]
 .have h':(6:Y)<xs.length:=by omega
  simp[h,h']
def Ma{xs:Q X5}(h:DK xs=E):xs.length<=6/\∀x∈xs,CG x=E:=by
 simp only[DK,zE,decide_eq_true_eq,yB,kK] at h;refine⟨h.1,fun x hx=> ?_⟩;obtain⟨i,hi,rfl⟩:=zN hx;have:=h.2 i hi;simp only[M9,zC hi,zE] at this
 exact this.1
def AH(x:X2)(s:X5):Y:=if s.Slow=E then kZ .i64 (2*x.Minutes) else x.Minutes
def Qv(x:X2)(s:X5):Gf x s=O (AH x s):=by unfold Gf AH; split<;>rfl
def PL(x:X2)(s:X5):FN s x=O (AH x s):=by unfold FN AH; split<;>rfl
def Aw(c:X4)(i:Y):X2:=c.Segments[i.toNat]?.getD ⟨0,0,0,0,G⟩
def AO(l:Q X5)(i:Y):X5:=l[i.toNat]?.getD ⟨[],0,0,0,0,G⟩
def Ss{α:Type}{l:Q α}{i:Y}(d:α)(h:idx i l.length=E):ix l i=O (l[i.toNat]?.getD d)/\l[i.toNat]?.getD d∈l:=by
 simp only[idx,zE,decide_eq_true_eq] at h;obtain⟨k,rfl⟩:∃k:J,i=(k:Y):=⟨i.toNat,a9⟩;have hk:k<l.length:=by omega
 have e:l[((k:J):Y).toNat]?.getD d=l[k]:=by simp[hk]
 rw[Af hk,e];exact⟨zA,zF hk⟩
def BO{c:X4}{i:Y}(h:idx i c.Segments.length=E):ix c.Segments i=O (Aw c i)/\Aw c i∈c.Segments:=Ss _ h
def HR{l:Q X5}{i:Y}(h:idx i l.length=E):ix l i=O (AO l i)/\AO l i∈l:=Ss _ h
def CR(i:Y){n:J}(h:n<=1000):Ay i 0 (kZ .i64 ((n:Y) - 1))=O (idx i n):=by rw[Bw,bW i h]
def Ep(i:Y)(n:J):BD i (n:Y)=O (idx i n):=Mp i n
def A6p{xs:Q X5}(h:xs.length<=1048576):OA xs=O xs:=by
 unfold OA;rw[DQ h a9];have:=FG (L:=Js xs) xs id (Es h) (fun n i acc hi ha=>by simp[Js,Am,hi,ha,RG]) (fun n acc=>by simp[Js]) (zI xs.length ⟨[],0,0,0,0,G⟩) d0;simpa using this
def sd(x y:X5):O8 x y=O (decide (x=y)):=by
 unfold O8;cases x; cases y;simp only[X5.mk.injEq];repeat' split
 all_goals simp_all
def sb{xs ys:Q X5}(h:xs.length<=maxLen):O9 xs ys=O (decide (xs=ys)):=by
 unfold O9;by_cases hl:xs.length=ys.length
 .have:=Iv (L:=Jc xs ys) xs ys h hl (fun n i h1 h2=>by simp[Jc,Am,h1,h2,sd]) (fun n=>by simp[Jc]);simp[hl,this]
 .have:¬(xs.length:Y)=ys.length:=by omega
  have:xs≠ys:=fun e=>hl (by rw[e])
  simp_all
def A54{x:X5}{l:Y}(h0:0<=l)(h1:l<=1048576)(hx:x.Name.length<=maxLen):∃r,Om x l=O r/\(0<=r->r<=l):=by
 unfold Om;rw[Az] at hx
 rw[Ai a9 a9];by_cases h:l - (x.Name.length:Y)<0
 .exact⟨-1,by simp[h],a9⟩
 .exact⟨l - x.Name.length,by simp[h],a9⟩
def A53{xs:Q X5}{l:Y}(h0:0<=l)(h1:l<=1048576)(hx:xs.length<=maxLen)(hn:∀x∈xs,x.Name.length<=maxLen):∃r,On xs l=O r/\(0<=r->r<=l/\xs.length<=1048576):=by
 unfold On;have hx':=hx;rw[Az] at hx'
 rw[Ai a9 a9];by_cases h:l - (xs.length:Y)<0
 .exact⟨-1,by simp[h],a9⟩
 .have key:∀(k i n:J) (v:Y),i+k=xs.length->k<n->0<=v->v<=l->∃r,Hh xs n v (i:Y)=O r/\(0<=r->r<=l):=by
   intro k
   induction k with
   | zero=>
    intro i n v hi hn2 hv hv2;obtain⟨m,rfl⟩:∃m,n=m+1:=⟨n - 1,a9⟩;have:i=xs.length:=by omega
    subst this;exact⟨v,by simp[Hh],fun _=>hv2⟩
   | succ k ih=>
    intro i n v hi hn2 hv hv2;obtain⟨m,rfl⟩:∃m,n=m+1:=⟨n - 1,a9⟩;have hlt:i<xs.length:=by omega
    obtain⟨r,e,hr⟩:=A54 (x:=xs[i]) hv a9 (hn _ (zF hlt));by_cases hr0:r<0
    .exact⟨-1,by simp[Hh,Am,hlt,e,hr0],a9⟩
    .obtain⟨r2,e2,h2⟩:=ih (i+1) m r a9 a9 a9 (by have:=hr a9; omega);refine⟨r2,?_,h2⟩;rw[<- Au hlt hx] at e2
     simp only[Hh,Am,zC hlt,zB,Aj,hlt,decide_true,if_true,e,hr0,decide_false,zD,if_false];exact e2
  obtain⟨r,e,hr⟩:=key xs.length 0 bigN (l - xs.length) a9 (BG hx) a9 a9;refine⟨r,?_,fun h=>⟨hr h,a9⟩⟩;simp only[h,decide_false,zD,if_false];exact e
def A4c{xs:Q X5}(ok:(D.sl (kE X5.row xs)).Ok):xs.length<=maxLen/\∀x∈xs,x.Name.length<=maxLen:=
 ⟨F8 ok,fun x hx=>(ok.sl.2 (X5.row x) (List.mem_map_of_mem hx) (.str x.Name) (by simp[X5.row_eq])).str⟩
def GH(p:Y):Z:=(decide (4<=p)&&decide (p<=2880))&&(kZ .i64 (yV p 4)==0)
def I1(x:Xc):Z:=(decide (0<=x.Amp)&&decide (x.Amp<=1000))&&(GH x.Period&&(decide (0<=x.Phase)&&decide (x.Phase<=kZ .i64 (x.Period - 1))))
def Fm(t:Xm):Z:=(decide (-1000<=t.Mean)&&decide (t.Mean<=1000))&&(decide (t.Parts.length<=4)&&t.Parts.all I1)
def A4n(x:Xc):P0 x=O (I1 x):=by
 simp only[P0,Bw,zB,I1,GH];cases(decide (0<=x.Amp)&&decide (x.Amp<=1000))<;>cases(decide (4<=x.Period)&&decide (x.Period<=2880))<;>cases(kZ .i64 (yV x.Period 4)==0)<;>rfl
def bp(p:Y):Lo p=O (GH p):=by
 simp only[Lo,D8,zB,GH];cases(decide (4<=p)&&decide (p<=2880))<;>rfl
def wn(x:Xc):Nq x=O (I1 x):=by
 simp only[Nq,D8,bp,zB,I1];cases(decide (0<=x.Amp)&&decide (x.Amp<=1000))<;>cases GH x.Period<;>rfl
def A4r(t:Xm):Pc t=O (Fm t):=by
 simp only[Pc,Bw,zB,Fm];cases(decide (-1000<=t.Mean)&&decide (t.Mean<=1000)) with
 | false=>rfl
 | true=>
  by_cases h1:t.Parts.length<=4
  .have h1':¬(4:Y)<t.Parts.length:=by omega
   rw[Fz (L:=JT t) t.Parts I1 (by rw[Az]; omega) (fun n i hi=>by simp only[JT,Am,zC hi,zB,Aj,hi,decide_true,if_true,A4n]) (fun n=>by simp[JT])];simp[h1,h1']
  .have h1':(4:Y)<t.Parts.length:=by omega
   simp[h1,h1']
def wx(t:Xm):NA t=O (Fm t):=by
 simp only[NA,D8,zB,Fm];cases(decide (-1000<=t.Mean)&&decide (t.Mean<=1000)) with
 | false=>rfl
 | true=>
  by_cases h1:t.Parts.length<=4
  .have h1':¬(4:Y)<t.Parts.length:=by omega
   rw[Fz (L:=IS t) t.Parts I1 (by rw[Az]; omega) (fun n i hi=>by simp only[IS,Am,zC hi,zB,Aj,hi,decide_true,if_true,wn]) (fun n=>by simp[IS])];simp[h1,h1']
  .have h1':(4:Y)<t.Parts.length:=by omega
   simp[h1,h1']
def GL(x:X9):Z:=(decide (0<=x.From)&&decide (x.From<=2880))&&((decide (-500<=x.Low)&&decide (x.Low<=500))&&(decide (x.Low<=x.High)&&decide (x.High<=500)))
def A4q(x:X9):Pb x=O (GL x):=by
 simp only[Pb,Bw,zB,GL];cases(decide (0<=x.From)&&decide (x.From<=2880))<;>cases(decide (-500<=x.Low)&&decide (x.Low<=500))<;>rfl
def ww(x:X9):Nz x=O (GL x):=by
 simp only[Nz,HQ,zB,GL];cases(decide (0<=x.From)&&decide (x.From<=2880))
 .rfl
 .by_cases a1: -500<=x.Low<;>by_cases a2:x.Low<=x.High<;>by_cases a3:x.High<=500<;>by_cases a4:x.Low<=500<;>simp[a1,a2,a3,a4]
  omega
def Kx(l:Q X9)(i:J):Z:=match l[i]? with
 | some x=>GL x&&(match i with | 0=>E | j+1=>match l[j]? with | some y=> !(decide (x.From<=y.From)) | none=>G)
 | none=>G
def VS(l:Q X9):Z:=match l[0]? with
 | some x=>decide (x.From=0)
 | none=>G
def Dt(f:Xd):Z:=Fm f.Tide&&((decide (1<=(f.Surges.length:Y))&&decide ((f.Surges.length:Y)<=6))&&(VS f.Surges&&(zK f.Surges.length).all (Kx f.Surges)))
def gC(j:J)(h:j<=1000):kZ .i64 (((j+1:J):Y) - 1)=(j:Y):=by
 rw[Ai a9 a9];omega
def VM(f:Xd):JE f=O (Dt f):=by
 simp only[JE,A4r,Bw,zB,Dt];cases Fm f.Tide with
 | false=>rfl
 | true=>
  cases hb:(decide (1<=(f.Surges.length:Y))&&decide ((f.Surges.length:Y)<=6)) with
  | false=>rfl
  | true=>
   simp only[zE,decide_eq_true_eq] at hb
   have h0:0<f.Surges.length:=by omega
   have hl:f.Surges.length<=maxLen:=by rw[Az]; omega
   rw[GT (L:=Hm f) f.Surges.length (Kx f.Surges) (O E) hl (fun n i hi=> ?_) (fun n=>by simp[Hm])]
   .have e0:ix f.Surges 0=O f.Surges[0]:=Af h0;simp only[e0,zB,VS,zC h0,zQ,if_true];by_cases e:f.Surges[0].From=0<;>cases(zK f.Surges.length).all (Kx f.Surges)<;>simp[e]
   .simp only[Hm,Am,zC hi,zB,Aj,hi,decide_true,if_true,A4q,Kx];cases i with
    | zero=>cases GL f.Surges[0]<;>simp
    | succ j=>
     have hj:j<f.Surges.length:=by omega
     rw[gC j a9];simp only[Am,zC hj,zB];have hp:(0:Y)<((j+1:J):Y):=by omega
     cases GL f.Surges[j+1]<;>cases decide (f.Surges[j+1].From<=f.Surges[j].From)<;>simp
def Mi(f:Xd):H2 f=O (Dt f):=by
 simp only[H2,wx,D8,zB,Dt];cases Fm f.Tide with
 | false=>rfl
 | true=>
  cases hb:(decide (1<=(f.Surges.length:Y))&&decide ((f.Surges.length:Y)<=6)) with
  | false=>rfl
  | true=>
   simp only[zE,decide_eq_true_eq] at hb
   have h0:0<f.Surges.length:=by omega
   have hl:f.Surges.length<=maxLen:=by rw[Az]; omega
   rw[GT (L:=H3 f) f.Surges.length (Kx f.Surges) (O E) hl (fun n i hi=> ?_) (fun n=>by simp[H3])]
   .have e0:ix f.Surges 0=O f.Surges[0]:=Af h0;simp only[e0,zB,VS,zC h0,zQ,if_true];by_cases e:f.Surges[0].From=0<;>cases(zK f.Surges.length).all (Kx f.Surges)<;>simp[e]
   .simp only[H3,Am,zC hi,zB,Aj,hi,decide_true,if_true,ww,Kx];cases i with
    | zero=>cases GL f.Surges[0]<;>simp
    | succ j=>
     have hj:j<f.Surges.length:=by omega
     rw[gC j a9];simp only[Am,zC hj,zB];have hp:(0:Y)<((j+1:J):Y):=by omega
     cases GL f.Surges[j+1]<;>cases decide (f.Surges[j+1].From<=f.Surges[j].From)<;>simp
def C7(m:Y):Z:=decide (0<=m)&&decide (m<=2880)
def A6l{xs:Q Xc}(h:xs.length<=1048576):Ow xs=O xs:=by
 unfold Ow;rw[DQ h a9];have:=FG (L:=Jo xs) xs id (Es h) (fun n i acc hi ha=>by simp[Jo,Am,hi,ha,RA]) (fun n acc=>by simp[Jo]) (zI xs.length ⟨0,0,0⟩) d0;simpa using this
def A6q{xs:Q X9}(h:xs.length<=1048576):OB xs=O xs:=by
 unfold OB;rw[DQ h a9];have:=FG (L:=Jt xs) xs id (Es h) (fun n i acc hi ha=>by simp[Jt,Am,hi,ha,RH]) (fun n acc=>by simp[Jt]) (zI xs.length ⟨0,0,0⟩) d0;simpa using this
def A6i{f:Xd}(h1:f.Tide.Parts.length<=1048576)(h2:f.Surges.length<=1048576):Ot f=O f:=by
 simp[Ot,RI,A6l h1,A6q h2]
def sU(x y:Xc):O0 x y=O (decide (x=y)):=by
 unfold O0;cases x; cases y;simp only[Xc.mk.injEq];repeat' split
 all_goals simp_all
def sS{xs ys:Q Xc}(h:xs.length<=maxLen):O1 xs ys=O (decide (xs=ys)):=by
 unfold O1;by_cases hl:xs.length=ys.length
 .have:=Iv (L:=J8 xs ys) xs ys h hl (fun n i h1 h2=>by simp[J8,Am,h1,h2,sU]) (fun n=>by simp[J8]);simp[hl,this]
 .have:¬(xs.length:Y)=ys.length:=by omega
  have:xs≠ys:=fun e=>hl (by rw[e])
  simp_all
def si(x y:X9):Oa x y=O (decide (x=y)):=by
 unfold Oa;cases x; cases y;simp only[X9.mk.injEq];repeat' split
 all_goals simp_all
def se{xs ys:Q X9}(h:xs.length<=maxLen):Ob xs ys=O (decide (xs=ys)):=by
 unfold Ob;by_cases hl:xs.length=ys.length
 .have:=Iv (L:=Jd xs ys) xs ys h hl (fun n i h1 h2=>by simp[Jd,Am,h1,h2,si]) (fun n=>by simp[Jd]);simp[hl,this]
 .have:¬(xs.length:Y)=ys.length:=by omega
  have:xs≠ys:=fun e=>hl (by rw[e])
  simp_all
def sL{f:Xd}(h1:f.Tide.Parts.length<=maxLen)(h2:f.Surges.length<=maxLen):NW f f=O E:=by
 simp[NW,Ru,sS h1,se h2]
def A5z{xs:Q Xc}{l:Y}(h0:0<=l)(h1:l<=1048576)(hx:xs.length<=maxLen):∃r,Oh xs l=O r/\(0<=r->r<=l/\xs.length<=1048576):=by
 unfold Oh;rw[Az] at hx
 rw[Ai a9 a9];by_cases h:l - (xs.length:Y)<0
 .exact⟨-1,by simp[h],a9⟩
 .exact⟨l - xs.length,by simp[h],a9⟩
def A55{xs:Q X9}{l:Y}(h0:0<=l)(h1:l<=1048576)(hx:xs.length<=maxLen):∃r,Oo xs l=O r/\(0<=r->r<=l/\xs.length<=1048576):=by
 unfold Oo;rw[Az] at hx
 rw[Ai a9 a9];by_cases h:l - (xs.length:Y)<0
 .exact⟨-1,by simp[h],a9⟩
 .exact⟨l - xs.length,by simp[h],a9⟩
def A5v{f:Xd}{l:Y}(h0:0<=l)(h1:l<=1048576)(hp:f.Tide.Parts.length<=maxLen)(hs:f.Surges.length<=maxLen) :
  ∃r,Oe f l=O r/\(0<=r->r<=l/\f.Tide.Parts.length<=1048576/\f.Surges.length<=1048576):=by
 unfold Oe Rx;obtain⟨r,e,h⟩:=A5z h0 h1 hp;by_cases hr:r<0
 .exact⟨-1,by simp[e,hr],a9⟩
 .obtain⟨k1,k2⟩:=h a9;obtain⟨r',e',h'⟩:=A55 (xs:=f.Surges) (l:=r) a9 a9 hs;by_cases hr':r'<0
  .exact⟨-1,by simp[e,hr,e',hr'],a9⟩
  .obtain⟨k3,k4⟩:=h' a9;exact⟨r',by simp[e,hr,e',hr'],fun _=>⟨a9,k2,k4⟩⟩
def FH(w:Xn):Z:=(decide (0<=w.Tugs)&&decide (w.Tugs<=12))&&((decide (0<=w.Pilots)&&decide (w.Pilots<=12))&&(C7 w.Rest&&(decide (w.Moves.length=64)&&w.Moves.all fun x=>decide (0<=x)&&decide (x<=240))))
def Sp(a b:Z):(if a=E then O b else O G)=O (a&&b):=by cases a<;>rfl
def cW{l:Q Y}(h:l.length<=maxLen):HF l bigN 0=O (l.all fun x=>decide (0<=x)&&decide (x<=240)):=
 Fz (L:=HF l) l _ h (fun n i hi=>by simp[HF,Am,hi,Bw]) (fun n=>by simp[HF])
def cV{l:Q Y}(h:l.length<=maxLen):Hc l bigN 0=O (l.all fun x=>decide (0<=x)&&decide (x<=240)):=
 Fz (L:=Hc l) l _ h (fun n i hi=>by simp[Hc,Am,hi,D8]) (fun n=>by simp[Hc])
def VL{w:Xn}(h:w.Moves.length<=maxLen):JA w=O (FH w):=by
 simp only[JA,HE,Bw,zB,cW h,FH,C7];by_cases e:w.Moves.length=64
 .have e':((w.Moves.length:Y) !=64)=G:=by simp; omega
  simp only[e,e',zD,if_false,decide_true,zQ];cases(decide (0<=w.Tugs)&&decide (w.Tugs<=12))<;>cases(decide (0<=w.Pilots)&&decide (w.Pilots<=12))<;>cases(decide (0<=w.Rest)&&decide (w.Rest<=2880))<;>rfl
 .have e':((w.Moves.length:Y) !=64)=E:=by simp; omega
  simp only[e,e',if_true,decide_false,Bool.false_and,Bool.and_false];cases(decide (0<=w.Tugs)&&decide (w.Tugs<=12))<;>cases(decide (0<=w.Pilots)&&decide (w.Pilots<=12))<;>cases(decide (0<=w.Rest)&&decide (w.Rest<=2880))<;>rfl
def wi{w:Xn}(h:w.Moves.length<=maxLen):Nc w=O (FH w):=by
 simp only[Nc,Hb,D8,HQ,zB,cV h,FH,C7];by_cases e:w.Moves.length=64
 .have e':((w.Moves.length:Y) !=64)=G:=by simp; omega
  simp only[e,e',zD,if_false,decide_true,zQ,zB];cases(decide (0<=w.Tugs)&&decide (w.Tugs<=12))<;>cases(decide (0<=w.Pilots)&&decide (w.Pilots<=12))<;>cases(decide (0<=w.Rest)&&decide (w.Rest<=2880))<;>rfl
 .have e':((w.Moves.length:Y) !=64)=E:=by simp; omega
  simp only[e,e',if_true,decide_false,Bool.false_and,Bool.and_false,zB];cases(decide (0<=w.Tugs)&&decide (w.Tugs<=12))<;>cases(decide (0<=w.Pilots)&&decide (w.Pilots<=12))<;>cases(decide (0<=w.Rest)&&decide (w.Rest<=2880))<;>rfl
def Kt(r:Xi):Z:=decide (0<=r.Gap)&&decide (r.Gap<=60)
def B4(h:X3):Z:=Dt h.Forecast&&(AP h.Chart&&(DK h.Fleet&&(Kt h.Regime&&FH h.Crew)))
structure HSmall (h:X3):Prop where
 pn:∀x∈h.Chart.Points,x.Name.length<=maxLen
 fn:∀x∈h.Fleet,x.Name.length<=maxLen
 mv:h.Crew.Moves.length<=maxLen
def dq{h:X3}(s:HSmall h):LR h=O (B4 h):=by
 simp only[LR,JO,VM,E2 s.pn,dp s.fn,VL s.mv,Bw,zB,Sp,B4,Kt]
def bO{h:X3}(s:HSmall h):L9 h=O (B4 h):=by
 simp only[L9,Rj,Mi,Gr s.pn,bN s.fn,wi s.mv,D8,zB,Sp,B4,Kt]
def Fi{c:X4}(h:AP c=E):c.Points.length<=8/\c.Segments.length<=10/\∀x∈c.Segments,0<=x.Depth/\x.Depth<=3000/\1<=x.Minutes/\x.Minutes<=240:=by
 simp only[AP,zE,decide_eq_true_eq,yB,kK] at h;obtain⟨h1,h2,h3,h4⟩:=h;refine⟨h1,h2,fun x hx=> ?_⟩;obtain⟨i,hi,rfl⟩:=zN hx;have:=h4 i hi;simp only[E1,zC hi,zE,decide_eq_true_eq] at this
 omega
def Cf(c:X4)(fl:Q X5)(p:X1):Z:=idx p.Ship fl.length&&(idx p.Segment c.Segments.length&&(C7 p.Start&&(decide (p.End<=2880)&&decide (p.End=kZ .i64 (p.Start+AH (Aw c p.Segment) (AO fl p.Ship))))))
def dt{c:X4}{s:X5}{i:Y}(hn:∀x∈c.Points,x.Name.length<=maxLen)(hs:s.Name.length<=maxLen)(h1:AP c=E)(h2:CG s=E)(h3:idx i c.Segments.length=E):LV c i s=O (AH (Aw c i) s):=by
 have:=(Fi h1).2.1;unfold LV;simp only[E2 hn,Kw hs,h1,h2,zB,if_true,CR i (show c.Segments.length<=1000 by omega),h3,(BO h3).1,Qv]
def du{c:X4}{fl:Q X5}{p:X1}(hn:∀x∈c.Points,x.Name.length<=maxLen)(hf:∀x∈fl,x.Name.length<=maxLen)(h1:AP c=E)(h2:DK fl=E):LY c fl p=O (Cf c fl p):=by
 unfold LY;simp only[E2 hn,dp hf,zB,h1,h2];have s1:=(Fi h1).2.1;have s2:=(Ma h2).1;simp only[if_true,CR p.Ship (show fl.length<=1000 by omega),CR p.Segment (show c.Segments.length<=1000 by omega),zB,Bw,Cf,C7];cases h3:idx p.Ship fl.length with
 | false=>simp
 | true=>
  cases h4:idx p.Segment c.Segments.length with
  | false=>simp
  | true=>
   cases h5:decide (0<=p.Start)&&decide (p.Start<=2880) with
   | false=>simp
   | true=>
    have hsh:=(Ma h2).2 _ (HR h3).2;simp only[if_true,zQ,(HR h3).1,zB,dt hn (hf _ (HR h3).2) h1 hsh h4];by_cases e:p.End=kZ .i64 (p.Start+AH (Aw c p.Segment) (AO fl p.Ship))<;>simp[e]
def xB{c:X4}{fl:Q X5}{p:X1}:NO c fl p=O (Cf c fl p):=by
 unfold NO;simp only[Ep,zB,HQ,Cf,C7];cases h3:idx p.Ship fl.length with
 | false=>simp
 | true=>
  cases h4:idx p.Segment c.Segments.length with
  | false=>simp
  | true=>
   cases h5:decide (0<=p.Start)&&decide (p.Start<=2880) with
   | false=>simp
   | true=>
    simp only[if_true,zQ,(HR h3).1,(BO h4).1,zB,PL];have e0:decide (2880<p.End)= !decide (p.End<=2880):=by rw[zR]; simp
    rw[e0];cases decide (p.End<=2880)<;>simp;rfl
def DW{c:X4}{fl:Q X5}{p:X1}(hc:AP c=E)(h:Cf c fl p=E):idx p.Ship fl.length=E/\idx p.Segment c.Segments.length=E/\0<=p.Start/\p.Start<=p.End/\p.End<=2880:=by
 simp only[Cf,C7,zE,decide_eq_true_eq] at h;obtain⟨h3,h4,h5,h6,h7⟩:=h;refine⟨h3,h4,h5.1,?_,h6⟩;obtain⟨_,_,a,b⟩:=(Fi hc).2.2 _ (BO h4).2;rw[h7];unfold AH;split
 .rw[Ai (n:=2*_) a9 a9,Ai a9 a9]; omega
 .rw[Ai a9 a9]; omega
def A5w{a:X3}{l:Y}(h0:0<=l)(h1:l<=1048576)(q1:a.Forecast.Tide.Parts.length<=maxLen)(q2:a.Forecast.Surges.length<=maxLen)(q3:a.Chart.Points.length<=maxLen)(q4:a.Chart.Segments.length<=maxLen)(q5:a.Fleet.length<=maxLen)(s:HSmall a) :
  ∃r,Jj a l=O r/\(0<=r->r<=l/\a.Forecast.Tide.Parts.length<=1048576/\a.Forecast.Surges.length<=1048576/\a.Chart.Points.length<=1048576/\a.Chart.Segments.length<=1048576/\a.Fleet.length<=1048576/\a.Crew.Moves.length<=1048576):=by
 unfold Jj Rv;obtain⟨r1,e1,k1⟩:=A5v (f:=a.Forecast) h0 h1 q1 q2;by_cases c1:r1<0
 .exact⟨-1,by simp[e1,c1],a9⟩
 obtain⟨b1,b2,b3⟩:=k1 a9;obtain⟨r2,e2,k2⟩:=A5u (c:=a.Chart) (l:=r1) a9 a9 q3 q4 s.pn;by_cases c2:r2<0
 .exact⟨-1,by simp[e1,c1,e2,c2],a9⟩
 obtain⟨b4,b5,b6⟩:=k2 a9;obtain⟨r3,e3,k3⟩:=A53 (xs:=a.Fleet) (l:=r2) a9 a9 q5 s.fn;by_cases c3:r3<0
 .exact⟨-1,by simp[e1,c1,e2,c2,e3,c3],a9⟩
 obtain⟨b7,b8⟩:=k3 a9;obtain⟨r4,e4,k4⟩:=A5x (xs:=a.Crew.Moves) (l:=r3) a9 a9 s.mv;by_cases c4:r4<0
 .exact⟨-1,by simp[e1,c1,e2,c2,e3,c3,e4,c4],a9⟩
 obtain⟨b9,b10⟩:=k4 a9;exact⟨r4,by simp[e1,c1,e2,c2,e3,c3,e4,c4],fun _=>⟨a9,b2,b3,b5,b6,b8,b10⟩⟩
def fA{a:X3}(q1:a.Forecast.Tide.Parts.length<=1048576)(q2:a.Forecast.Surges.length<=1048576)(q3:a.Chart.Points.length<=1048576)(q4:a.Chart.Segments.length<=1048576)(q5:a.Fleet.length<=1048576)(q6:a.Crew.Moves.length<=1048576):EW a=O a:=by
 simp[EW,RE,Rz,A6i q1 q2,A6f q3 q4,A6p q5,A6j q6]
def sP{a:X3}(q1:a.Forecast.Tide.Parts.length<=maxLen)(q2:a.Forecast.Surges.length<=maxLen)(q3:a.Chart.Points.length<=maxLen)(q4:a.Chart.Segments.length<=maxLen)(q5:a.Fleet.length<=maxLen)(q6:a.Crew.Moves.length<=maxLen):NX a a=O E:=by
 simp[NX,Rt,Rr,sL q1 q2,sK q3 q4,sb q5,sQ q6]
def vp{a:X3}(ok:∀d∈X3.row a,d.Ok):a.Forecast.Tide.Parts.length<=maxLen/\a.Forecast.Surges.length<=maxLen/\a.Chart.Points.length<=maxLen/\a.Chart.Segments.length<=maxLen/\a.Fleet.length<=maxLen/\HSmall a:=by
 have h1:=ok (D.sl (kE Xc.row a.Forecast.Tide.Parts)) (by simp[X3.row_eq]);have h2:=ok (D.sl (kE X9.row a.Forecast.Surges)) (by simp[X3.row_eq]);have h3:=ok (D.sl (kE X7.row a.Chart.Points)) (by simp[X3.row_eq]);have h4:=ok (D.sl (kE X2.row a.Chart.Segments)) (by simp[X3.row_eq]);have h5:=ok (D.sl (kE X5.row a.Fleet)) (by simp[X3.row_eq]);have h6:=ok (D.sl (kE rI a.Crew.Moves)) (by simp[X3.row_eq]);refine⟨F8 h1,F8 h2,F8 h3,F8 h4,F8 h5,⟨fun x hx=> ?_,(A4c h5).2,F8 h6⟩⟩;exact(h3.sl.2 (X7.row x) (List.mem_map_of_mem hx) (.str x.Name) (by simp[X7.row_eq])).str
def nC{m n b:J}(h:m+n<=2000000)(hb:b<=1000):Ab m n b=E:=by
 unfold Ab;rw[decide_eq_true_eq];have:(m+n)*b<=2000000*1000:=yX h hb;omega
def PK{α:Type}{m n b:J}(h:m+n<=2000000)(hb:b<=1000)(x y:α):(if Ab m n b=E then x else y)=x:=by rw[if_pos (nC h hb)]
def Fp{n:Y}(h0:0<=n)(h1:n<18446744073709551616):IntKind.u64.wrap n=n:=by
 simp only[IntKind.wrap,IntKind.bits,IntKind.signed];have:n % 18446744073709551616=n:=Int.emod_eq_of_lt h0 h1;simp[this]
def Ew{n:J}(h:n<2 ^ 63):kZ .i64 (n:Y)=n:=Ai a9 a9
def Mz{n:J}(h:n<2 ^ 64):IntKind.u64.wrap (n:Y)=n:=Fp a9 a9
def Q8{s n:J}(h:∀i,s.testBit i=E->i<n):s<2 ^ n:=Nat.lt_pow_two_of_testBit s fun i hi=>by
 cases hb:s.testBit i with
 | false=>rfl
 | true=>have:=h i hb; omega
def Y8{a b n:J}(h:a<2 ^ n):AI a b<2 ^ n:=Q8 fun i hi=>by
 rw[Fl,zE] at hi
 exact Ie h hi.1
def HZ{w n:J}(h:n<2 ^ w):(BitVec.ofInt w (n:Y)).toNat=n:=by
 rw[BitVec.ofInt_natCast,BitVec.toNat_ofNat,Nat.mod_eq_of_lt h]
def Yq{w a b:J}(ha:a<2 ^ w)(hb:b<2 ^ w):(BitVec.ofInt w (a:Y) &&& ~~~ BitVec.ofInt w (b:Y)).toNat=AI a b:=by
 rw[BitVec.toNat_and,BitVec.toNat_not,HZ ha,HZ hb];apply yQ
 intro i;rw[show 2 ^ w - 1 - b=2 ^ w - (b+1) by omega,yT,Nat.testBit_two_pow_sub_succ hb,Fl];cases hi:a.testBit i with
 | false=>rfl
 | true=>simp[Ie ha hi]
def mq{a b:J}(ha:a<2 ^ 63)(hb:b<2 ^ 63):Bl .and .i64 (a:Y) (b:Y)=((a &&& b:J):Y):=by
 show kZ .i64 ((BitVec.ofInt 64 (a:Y) &&& BitVec.ofInt 64 (b:Y)).toNat:Y)=_
 rw[BitVec.toNat_and,HZ (yD ha d4),HZ (yD hb d4),Ew (Nat.and_lt_two_pow a hb)]
def A2b{a b:J}(ha:a<2 ^ 63)(hb:b<2 ^ 63):Bl .or .i64 (a:Y) (b:Y)=((a ||| b:J):Y):=by
 show kZ .i64 ((BitVec.ofInt 64 (a:Y) ||| BitVec.ofInt 64 (b:Y)).toNat:Y)=_
 rw[BitVec.toNat_or,HZ (yD ha d4),HZ (yD hb d4),Ew (kA ha hb)]
def Y6{a b:J}(ha:a<2 ^ 63)(hb:b<2 ^ 63):Bl .andNot .i64 (a:Y) (b:Y)=((AI a b:J):Y):=by
 show kZ .i64 ((BitVec.ofInt 64 (a:Y) &&& ~~~ BitVec.ofInt 64 (b:Y)).toNat:Y)=_
 rw[Yq (yD ha d4) (yD hb d4),Ew (Y8 ha)]
def Vq{a b:J}(ha:a<2 ^ 64)(hb:b<2 ^ 64):Bl .or .u64 (a:Y) (b:Y)=((a ||| b:J):Y):=by
 show IntKind.u64.wrap ((BitVec.ofInt 64 (a:Y) ||| BitVec.ofInt 64 (b:Y)).toNat:Y)=_
 rw[BitVec.toNat_or,HZ ha,HZ hb,Mz (kA ha hb)]
def MX{a b:J}(ha:a<2 ^ 64)(hb:b<2 ^ 64):Bl .andNot .u64 (a:Y) (b:Y)=((AI a b:J):Y):=by
 show IntKind.u64.wrap ((BitVec.ofInt 64 (a:Y) &&& ~~~ BitVec.ofInt 64 (b:Y)).toNat:Y)=_
 rw[Yq ha hb,Mz (Y8 ha)]
def T4{n:J}(h:n<=20):Bt .i64 (1:Y) (n:Y)=((2 ^ n:J):Y):=by
 have hp:2 ^ n<2 ^ 63:=yR a9 a9;unfold Bt;rw[zP,show min n IntKind.i64.bits=n by simp[IntKind.bits]; omega,Int.one_mul];have:((2:Y) ^ n)=((2 ^ n:J):Y):=by simp
 rw[this,Ew hp]
def VK{n:J}(h:n<=20):Bt .u64 (1:Y) (n:Y)=((2 ^ n:J):Y):=by
 have hp:2 ^ n<2 ^ 64:=yR a9 a9;unfold Bt;rw[zP,show min n IntKind.u64.bits=n by simp[IntKind.bits]; omega,Int.one_mul];have:((2:Y) ^ n)=((2 ^ n:J):Y):=by simp
 rw[this,Mz hp]
def nk(n:J):((n:Y)==(0:Y))=decide (n=0):=by
 rw[zR];simp
def cD:Q I:= [0,1,2,2,3,3,3,3,4,4,4,4,4,4,4,4,5,5,5,5,5,5,5,5,5,5,5,5,5,5,5,5,6,6,6,6,6,6,6,6,6,6,6,6,6,6,6,6,6,6,6,6,6,6,6,6,6,6,6,6,6,6,6,6,7,7,7,7,7,7,7,7,7,7,7,7,7,7,7,7,7,7,7,7,7,7,7,7,7,7,7,7,7,7,7,7,7,7,7,7,7,7,7,7,7,7,7,7,7,7,7,7,7,7,7,7,7,7,7,7,7,7,7,7,7,7,7,7,8,8,8,8,8,8,8,8,8,8,8,8,8,8,8,8,8,8,8,8,8,8,8,8,8,8,8,8,8,8,8,8,8,8,8,8,8,8,8,8,8,8,8,8,8,8,8,8,8,8,8,8,8,8,8,8,8,8,8,8,8,8,8,8,8,8,8,8,8,8,8,8,8,8,8,8,8,8,8,8,8,8,8,8,8,8,8,8,8,8,8,8,8,8,8,8,8,8,8,8,8,8,8,8,8,8,8,8,8,8,8,8,8,8,8,8,8,8,8,8,8,8,8,8,8,8,8,8]
def zn(v8 v9:Y):LJ v8 v9=(ix cD (IntKind.u8.wrap v8)).bind fun b10=>O (kZ .i64 (v9+(kZ .i64 (b10.toNat:Y)))):=rfl
def cC(x:J):Z:=match cD[x]? with
 | some b=>decide (b.toNat<=8)&&(decide (x<2 ^ b.toNat)&&(x==0 || (decide (1<=b.toNat)&&decide (2 ^ (b.toNat - 1)<=x))))
 | none=>G
def zo:(zK 256).all cC=E:=by kernel_rfl
def cB{x:J}(hx:x<256)(n:Y):∃l:J,LJ (x:Y) n=O (kZ .i64 (n+(l:Y)))/\l<=8/\x<2 ^ l/\(0<x->1<=l/\2 ^ (l - 1)<=x):=by
 have h:=yB.1 zo x (by simpa using hx);unfold cC at h;split at h
 .rename_i b hb
  simp only[zE,decide_eq_true_eq,kV,beq_iff_eq] at h
  have hw:IntKind.u8.wrap (x:Y)=(x:Y):=by
   simp only[IntKind.wrap,IntKind.bits,IntKind.signed];have:(x:Y) % 256=x:=Int.emod_eq_of_lt a9 a9;simp[this]
  refine⟨b.toNat,?_,h.1,h.2.1,fun h0=> ?_⟩
  .rw[zn,hw,Am,hb,zB,Ew (n:=b.toNat) a9]
  .rcases h.2.2 with h3|h3
   .omega
   .exact h3
 .cases h
def zv{s:J}(h1:1<=s)(h2:s<4096):∃t:J,LI (s:Y)=O ((t+1:J):Y)/\2 ^ t<=s/\s<2 ^ (t+1)/\t<12:=by
 have key:∃l:J,LI (s:Y)=O ((l:J):Y)/\1<=l/\2 ^ (l - 1)<=s/\s<2 ^ l:=by
  unfold LI RJ;rw[if_neg d3];unfold OC;rw[if_neg d3];unfold OD;by_cases hs:s<256
  .rw[if_neg d3];obtain⟨l,e,l8,a1,a2⟩:=cB hs 0;obtain⟨a3,a4⟩:=a2 h1;refine⟨l,?_,a3,a4,a1⟩;rw[e,zB,Int.zero_add,Ew a9]
  .rw[if_pos d3]
   have e8:CH .u64 (s:Y) 8=((s / 256:J):Y):=by
    unfold CH;rw[show min 8 IntKind.u64.bits=8 by rfl,Int.fdiv_eq_ediv_of_nonneg _ d4];have:((s:Y) / 2 ^ 8)=((s / 256:J):Y):=by simp
    rw[this,Mz a9]
   have e9:kZ .i64 ((0:Y)+8)=((8:J):Y):=by rw[Ai a9 a9]; rfl
   rw[e8,e9];obtain⟨l,e,l8,a1,a2⟩:=cB (x:=s / 256) a9 ((8:J):Y);obtain⟨a3,a4⟩:=a2 a9;refine⟨8+l,?_,a9,?_,?_⟩
   .have:((8:J):Y)+(l:Y)=((8+l:J):Y):=by omega
    rw[e,zB,this,Ew a9]
   .rw[show 8+l - 1=(l - 1)+8 by omega,Nat.pow_add];omega
   .rw[Nat.add_comm,Nat.pow_add];omega
 obtain⟨l,e,a1,a2,a3⟩:=key;obtain⟨t,rfl⟩:∃t,l=t+1:=⟨l - 1,a9⟩;refine⟨t,e,by simpa using a2,a3,?_⟩;rcases yC t 12 with h|h
 .exact h
 .have:=yP (show 0<2 by omega) h;simp at a2
  omega
def W6{s t:J}(h1:2 ^ t<=s)(h2:s<2 ^ (t+1)):s.testBit t=E/\AI s (2 ^ t)<2 ^ t/\(∀i,(AI s (2 ^ t)).testBit i=E->s.testBit i=E)/\(∀i,s.testBit i=E->i=t\/(AI s (2 ^ t)).testBit i=E):=by
 have hb:∀i,(AI s (2 ^ t)).testBit i=(s.testBit i&& !decide (t=i)):=fun i=>by rw[Fl,Ky]
 refine⟨Nat.testBit_of_two_pow_le_and_two_pow_add_one_gt h1 h2,Q8 fun i hi=> ?_,fun i hi=> ?_,fun i hi=> ?_⟩
 .rw[hb,zE] at hi
  have:=Ie h2 hi.1;have h3:t≠i:=by simpa using hi.2
  omega
 .rw[hb,zE] at hi
  exact hi.1
 .by_cases h:i=t
  .exact .inl h
  .right
   rw[hb,hi];simpa using fun e:t=i=>h e.symm
def GI{α β R:Type}{L:J->Y->Q β->X R}(xs:Q α)(g:α->β)(K:Q β->X R)(hl:xs.length<=maxLen)
  (hs:∀(n i:J) (acc:Q β) (h:i<xs.length),acc.length=i->L (n+1) (i:Y) acc=L n (kZ .i64 ((i:Y)+1)) (acc++ [g xs[i]])) (he:∀n acc,acc.length=xs.length->L (n+1) (xs.length:Y) acc=K acc):L bigN 0 []=K (xs.map g):=by
 have key:∀(k i n:J) (acc:Q β),i+k=xs.length->k<n->acc=(xs.take i).map g->L n (i:Y) acc=K (xs.map g):=by
  intro k
  induction k with
  | zero=>
   intro i n acc hi hn ha;obtain⟨m,rfl⟩:∃m,n=m+1:=⟨n - 1,a9⟩;have:i=xs.length:=by omega
   subst this;rw[yJ] at ha
   rw[he m acc (by rw[ha]; simp),ha]
  | succ k ih=>
   intro i n acc hi hn ha;obtain⟨m,rfl⟩:∃m,n=m+1:=⟨n - 1,a9⟩;have hlt:i<xs.length:=by omega
   rw[hs m i acc hlt (by rw[ha]; simp; omega),Au hlt hl];refine ih (i+1) m _ a9 a9 ?_;rw[zL hlt,kW,ha];rfl
 exact key xs.length 0 bigN [] a9 (BG hl) d0
def Bq(d:Xb):Z:=decide (0<=d.From)&&(decide (d.From<d.To)&&(decide (d.To<=2880)&&((decide (0<=d.A)&&decide (d.A<8))&&(decide (0<=d.B)&&decide (d.B<8)))))
def VN(d:Xb):K3 d=O (Bq d):=by
 unfold K3 Bq;have e7:∀x:Y,decide (x<=7)=decide (x<8):=fun x=>decide_eq_decide.2 a9
 simp only[Bw,zB,e7];by_cases h2:d.From<d.To
 .by_cases h3:d.To<=2880
  .have h8:d.From<=2880:=by omega
   simp only[h2,h3,h8,decide_true,if_true,Bool.and_true,zQ];cases decide (0<=d.From)<;>cases(decide (0<=d.A)&&decide (d.A<8))<;>rfl
  .simp[h2,h3]
 .simp[h2]
def A4k{l:Q Xb}:OO l=O (decide (l.length<=12)&&l.all Bq):=by
 unfold OO;by_cases h:l.length<=12
 .rw[if_neg d3,Fz (L:=JC l) l Bq (by rw[Az]; omega) (fun n i hi=>by simp[JC,Am,hi,VN]) (fun n=>by simp[JC])];simp[h]
 .rw[if_pos d3];simp[h]
def wh{R:Type}(a b c d e:Z)(x y:R):(if(!a)=E then y else if(!b)=E then y else if(!c)=E then y else if d=E then(if e=E then x else y) else y)=if(a&&(b&&(c&&(d&&e))))=E then x else y:=by
 cases a<;>cases b<;>cases c<;>cases d<;>cases e<;>rfl
def UW{l:Q Xb}:ID l=O (decide (l.length<=12)&&l.all Bq):=by
 unfold ID;by_cases h:l.length<=12
 .rw[if_neg d3,Fz (L:=IE l) l Bq (by rw[Az]; omega) (fun n i hi=> ?_) (fun n=>by simp[IE])]
  .simp[h]
  .simp only[IE,Aj,hi,decide_true,if_true,Af hi,zB,Mp,Bq];generalize l[i]=d
   have g1:decide (d.From<0)= !decide (0<=d.From):=by by_cases h:0<=d.From<;>simp[h]<;>omega
   have g2:decide (d.To<=d.From)= !decide (d.From<d.To):=by by_cases h:d.From<d.To<;>simp[h]<;>omega
   have g3:decide (2880<d.To)= !decide (d.To<=2880):=by by_cases h:d.To<=2880<;>simp[h]<;>omega
   simp only[g1,g2,g3];exact wh _ _ _ _ _ _ _
 .rw[if_pos d3];simp[h]
def Fb(m:Q Y):Z:=decide (m.length=64)&&m.all fun x=>decide (0<=x)&&decide (x<=240)
def E5(p:Y)(m:Q Y):Z:=C7 p&&Fb m
def dv{p:Y}{m:Q Y}(h:m.length<=maxLen):HE p m=O (E5 p m):=by
 unfold HE E5 Fb C7;rw[Bw,zB,cW h];by_cases h1:m.length=64
 .cases(decide (0<=p)&&decide (p<=2880))<;>simp[h1]
 .have:((m.length:Y) !=64)=E:=by simpa using(by omega:¬((m.length:Y)=64))
  cases(decide (0<=p)&&decide (p<=2880))<;>simp[h1,this]
def bU{m:Q Y}(h:m.length<=maxLen):Hb m=O (Fb m):=by
 unfold Hb Fb;rw[cV h];by_cases h1:m.length=64
 .simp[h1]
 .have:((m.length:Y) !=64)=E:=by simpa using(by omega:¬((m.length:Y)=64))
  simp[h1,this]
def cP(p:Y):CP p=O (C7 p):=by rw[HQ]; rfl
def CQ(p:Y)(m:Q Y)(d e:Xb):Z:=decide (kZ .i64 (d.To+kZ .i64 (p+m[(8*d.B+e.A).toNat]?.getD 0))<=e.From)
def Re{d:Xb}(h:Bq d=E):0<=d.From/\d.From<d.To/\d.To<=2880/\0<=d.A/\d.A<8/\0<=d.B/\d.B<8:=by
 simp only[Bq,zE,decide_eq_true_eq] at h;omega
def cU{m:Q Y}(hm:Fb m=E){b a:Y}(h0:0<=b)(h1:b<8)(h2:0<=a)(h3:a<8):ix m (8*b+a)=O (m[(8*b+a).toNat]?.getD 0):=by
 simp only[Fb,zE,decide_eq_true_eq] at hm
 obtain⟨k,hk⟩:∃k:J,8*b+a=(k:Y):=⟨(8*b+a).toNat,a9⟩;rw[hk,Am,zP,zC a9];rfl
def dx{p:Y}{m:Q Y}{d e:Xb}(hl:m.length<=maxLen)(ht:E5 p m=E)(hd:Bq d=E)(he:Bq e=E):LN p m d e=O (CQ p m d e):=by
 obtain⟨_,_,_,_,_,b0,b1⟩:=Re hd;obtain⟨_,_,_,a0,a1,_,_⟩:=Re he;have ht':=ht;simp only[E5,zE] at ht'
 unfold LN RN;have c1:(decide (0<=d.B)&&decide (d.B<=7))=E:=by simp; omega
 have c2:(decide (0<=e.A)&&decide (e.A<=7))=E:=by simp; omega
 rw[dv hl,ht,zB,if_pos rfl,Bw,c1,zB,if_pos rfl,Bw,c2,zB];unfold LQ;rw[if_neg d0,Int.mul_comm d.B 8,Ai (n:=8*d.B) a9 a9,Ai (n:=8*d.B+e.A) a9 a9,cU ht'.2 b0 b1 a0 a1,zB,zB,if_pos rfl,VN,hd,zB,if_pos rfl,VN,he,zB,if_pos rfl];rfl
def bT{p:Y}{m:Q Y}{d e:Xb}(hl:m.length<=maxLen)(ht:E5 p m=E)(hd:Bq d=E)(he:Bq e=E):L6 p m d e=O (CQ p m d e):=by
 obtain⟨_,_,_,_,_,b0,b1⟩:=Re hd;obtain⟨_,_,_,a0,a1,_,_⟩:=Re he;have ht':=ht;simp only[E5,zE] at ht'
 unfold L6 Rh;have c1:(decide (0<=d.B)&&decide (d.B<8))=E:=by simp; omega
 have c2:(decide (0<=e.A)&&decide (e.A<8))=E:=by simp; omega
 have o1:(decide ([d].length<=12)&& [d].all Bq)=E:=by simp[hd]
 have o2:(decide ([e].length<=12)&& [e].all Bq)=E:=by simp[he]
 rw[cP,ht'.1,zB,if_pos rfl,bU hl,ht'.2,zB,if_pos rfl,Mp,c1,zB,if_pos rfl,Mp,c2,zB];unfold IG;rw[if_neg d0,Ai (n:=8*d.B) a9 a9,Ai (n:=8*d.B+e.A) a9 a9,cU ht'.2 b0 b1 a0 a1,zB,zB,if_pos rfl,UW,o1,zB,if_pos rfl,UW,o2,zB,if_pos rfl];rfl
def Bb(p:Y)(m:Q Y)(l:Q Xb)(i k:J):Z:=match l[i]?,l[k]? with
 | some d,O e=>CQ p m d e || CQ p m e d
 | _,_=>G
def Yp(p:Y)(m:Q Y)(l:Q Xb)(i k:J):Bb p m l i k=Bb p m l k i:=by
 unfold Bb;cases l[i]?<;>cases l[k]?<;>simp[Bool.or_comm]
def FB{n m b:J}(h:n+m<=1000000)(hb:b<=100):Ab n m b=E:=by
 unfold Ab;have:(n+m)*b<=1000000*100:=yX h hb;simp;omega
def nn(ms:Q J):Q Y:=ms.map fun x:J=>(x:Y)
def Ce(ms:Q J):(nn ms).length=ms.length:=by simp[nn]
def DA{ms:Q J}{i:J}(h:i<ms.length):ix (nn ms) (i:Y)=O ((ms[i]:J):Y):=by
 rw[Am,nn,kB,zC h]; rfl
def Km(ms:Q J)(i a:J):(nn ms).set i (a:Y)=nn (ms.set i a):=by simp[nn,List.map_set]
def ce(ms:Q J)(a:J):nn ms++ [(a:Y)]=nn (ms++ [a]):=by simp[nn]
section
variable {p : Y} {m : Q Y} {l : Q Xb}
def Yo{i k:J}(hi:i<l.length)(hk:k<l.length):Bb p m l i k=(CQ p m l[i] l[k] || CQ p m l[k] l[i]):=by
 unfold Bb;rw[zC hi,zC hk]
def Ck(p:Y)(m:Q Y)(l:Q Xb):Q (Q Z):=l.map fun d=>l.map fun e=>CQ p m d e || CQ p m e d
def A3o{i k:J}(hi:i<l.length)(hk:k<l.length):∃x,ix (Ck p m l) (i:Y)=O x/\ix x (k:Y)=O (Bb p m l i k):=by
 refine⟨l.map fun e=>CQ p m l[i] e || CQ p m e l[i],?_,?_⟩
 .rw[Am,Ck,kB,zC hi]; rfl
 .rw[Am,kB,zC hk,Yo hi hk]; rfl
def A4j(hl:m.length<=maxLen)(ht:E5 p m=E)(hd:∀d∈l,Bq d=E)(hN:l.length<=12):Pm p m l=O (Ck p m l):=by
 have hm:l.length<=maxLen:=by rw[Az]; omega
 unfold Pm;refine GI (L:=Gh p m l) l (fun d=>l.map fun e=>CQ p m d e || CQ p m e d) O hm (fun n i acc h ha=> ?_) (fun n acc ha=>by simp[Gh]);rw[Gh,Aj,if_pos (by simpa using h),Af h,zB];rw[GI (L:=HC p m l (i:Y) l[i] acc (Gh p m l n)) l (fun e=>CQ p m l[i] e || CQ p m e l[i]) (fun row=>Gh p m l n (kZ .i64 ((i:Y)+1)) (acc++ [row])) hm (fun n2 k acc2 hk ha2=> ?_) (fun n2 acc2 ha2=> ?_)]
 .rw[HC,Aj,if_pos (by simpa using hk),Af hk,zB,dx hl ht (hd _ (zF h)) (hd _ (zF hk)),zB,dx hl ht (hd _ (zF hk)) (hd _ (zF h))];have a1:∀b:Z,Ab acc2.length [b].length 1=E:=fun b=>FB d3 a9
  cases CQ p m l[i] l[k] with
  | true=>rw[if_pos rfl,if_pos (a1 E)]; rfl
  | false=>rw[if_neg d0,zB,if_pos (a1 _)]; rfl
 .rw[HC,if_neg d0,if_pos (FB d3 a9)]
def Ij(p:Y)(m:Q Y)(l:Q Xb)(i j:J):Z:=decide (j<l.length)&&(decide (i≠j)&&Bb p m l i j)
def A2i(hl:m.length<=maxLen)(ht:E5 p m=E)(hd:∀d∈l,Bq d=E)(hN:l.length<=12)(K:Y->Q Y->X (Q Y)){i:J}(hi:i<l.length)(ms:Q J)(hms:ms.length=l.length) :
  ∀(r k n a:J),k+r=l.length->r<n->(∀j,a.testBit j=(decide (j<k)&&(decide (i≠j)&&Bb p m l i j)))->
   ∃q,(∀j,q.testBit j=Ij p m l i j)/\Eg p m l (i:Y) l[i] K n (k:Y) (nn (ms.set i a))=K (kZ .i64 ((i:Y)+1)) (nn (ms.set i q)):=by
 have hm:l.length<=maxLen:=by rw[Az]; omega
 intro r
 induction r with
 | zero=>
  intro k n a hk hn ha;obtain⟨n,rfl⟩:∃n',n=n'+1:=⟨n - 1,a9⟩;refine⟨a,fun j=> ?_,?_⟩
  .rw[ha,show k=l.length by omega]; rfl
  .rw[Eg,if_neg d3]
 | succ r ih=>
  intro k n a hk hn ha;obtain⟨n,rfl⟩:∃n',n=n'+1:=⟨n - 1,a9⟩;have hlt:k<l.length:=by omega
  have a12:a<2 ^ 12:=Q8 fun j hj=>by
   rw[ha,zE,decide_eq_true_eq] at hj; omega
  have step:∀v:Z,v=(decide (i≠k)&&Bb p m l i k)->∃q,(∀j,q.testBit j=Ij p m l i j)/\IZ p m l (i:Y) (k:Y) l[i] (nn (ms.set i a)) (Eg p m l (i:Y) l[i] K n) v=K (kZ .i64 ((i:Y)+1)) (nn (ms.set i q)):=by
   intro v hv;unfold IZ;cases v with
   | true=>
    rw[if_pos rfl,DA d3,zB,if_neg d0,VK a9,kF];have h12:2 ^ k<2 ^ 64:=yR a9 a9;rw[Vq (yD a12 d4) h12,zP,Km,List.set_set,Au hlt hm];refine ih (k+1) n _ a9 a9 fun j=> ?_
    rw[yN,ha,Ky];by_cases hjk:k=j
    .subst hjk;have hx:¬i=k/\Bb p m l i k=E:=by simpa using hv.symm
     simp[hx.1,hx.2]
    .have e:decide (j<k+1)=decide (j<k):=decide_eq_decide.2 a9;rw[e];simp[hjk]
   | false=>
    rw[if_neg d0,Au hlt hm];refine ih (k+1) n a a9 a9 fun j=> ?_
    rw[ha];by_cases hjk:k=j
    .subst hjk;rw[<- hv];simp
    .have e:decide (j<k+1)=decide (j<k):=decide_eq_decide.2 a9;rw[e]
  rw[Eg,Aj,if_pos (by simpa using hlt),Af hlt,zB];by_cases hik:i=k
  .subst hik;rw[if_neg d0];exact step G d0
  .have hne:((i:Y) !=(k:Y))=E:=by simp; omega
   rw[if_pos hne,bT hl ht (hd _ (zF hi)) (hd _ (zF hlt)),zB];have hb:=Yo (p:=p) (m:=m) hi hlt;cases hf:CQ p m l[i] l[k] with
   | true=>
    rw[if_pos rfl];exact step E (by rw[hb,hf]; simp[hik])
   | false=>
    rw[if_neg d0,bT hl ht (hd _ (zF hlt)) (hd _ (zF hi)),zB];exact step _ (by rw[hb,hf]; simp[hik])
def xA(hl:m.length<=maxLen)(ht:E5 p m=E)(hd:∀d∈l,Bq d=E)(hN:l.length<=12):∃ms:Q J,ms.length=l.length/\(∀i j:J,i<l.length->(ms[i]?.getD 0).testBit j=Ij p m l i j)/\NN p m l=O (nn ms):=by
 have hm:l.length<=maxLen:=by rw[Az]; omega
 have key:∀(r i n:J) (ms:Q J),i+r=l.length->r<n->ms.length=l.length->(∀i' j:J,i'<i->(ms[i']?.getD 0).testBit j=Ij p m l i' j)->(∀i':J,i<=i'->ms[i']?.getD 0=0)->
   ∃ms':Q J,ms'.length=l.length/\(∀i j:J,i<l.length->(ms'[i]?.getD 0).testBit j=Ij p m l i j)/\FU p m l n (i:Y) (nn ms)=O (nn ms'):=by
  intro r
  induction r with
  | zero=>
   intro i n ms hi hn hms h1 h2;obtain⟨n,rfl⟩:∃n',n=n'+1:=⟨n - 1,a9⟩;exact⟨ms,hms,fun i' j h=>h1 i' j a9,by rw[FU,if_neg d3]⟩
  | succ r ih=>
   intro i n ms hi hn hms h1 h2;obtain⟨n,rfl⟩:∃n',n=n'+1:=⟨n - 1,a9⟩;have hlt:i<l.length:=by omega
   obtain⟨q,hq,e⟩:=A2i hl ht hd hN (FU p m l n) hlt ms hms l.length 0 bigN 0 a9 (BG hm) (fun j=>by simp)
   have e0:ms.set i 0=ms:=by
    have h3:=h2 i (kC _);rw[zC a9] at h3
    have h3:ms[i]' a9=0:=h3;apply List.ext_getElem d0
    intro j hj1 hj2;by_cases hij:i=j
    .subst hij; simp[h3]
    .rw[List.getElem_set_ne hij]
   rw[e0] at e
   rw[FU,Aj,if_pos (by simpa using hlt),Af hlt,zB];have e:Eg p m l (i:Y) l[i] (FU p m l n) bigN 0 (nn ms)=_:=e;rw[e,Au hlt hm];refine ih (i+1) n (ms.set i q) a9 a9 (by simpa using hms) (fun i' j h=> ?_) (fun i' h=> ?_)
   .by_cases hii:i=i'
    .subst hii;rw[yG a9];exact hq j
    .rw[yE hii];exact h1 i' j a9
   .rw[yE a9];exact h2 i' a9
 unfold NN;rw[DQ a9 a9,zB];have hz:zI l.length (0:Y)=nn (zI l.length 0):=by simp[nn]
 rw[hz]
 exact key l.length 0 bigN _ a9 (BG hm) d0 (fun i' j h=>by omega) (fun i' h=>by
  rw[List.getElem?_replicate];split<;>rfl)
end
section
variable {B : J -> J -> Z} {N : J} {ms : Q J}
def ma(B:J->J->Z)(N:J)(ms:Q J):Prop:=ms.length=N/\∀i j:J,i<N->(ms[i]?.getD 0).testBit j=(decide (j<N)&&(decide (i≠j)&&B i j))
def om:Fw B 0:=fun i j hi=>by simp at hi
def ol(hB:∀i j,B i j=B j i){s t:J}(h1:2 ^ t<=s)(h2:s<2 ^ (t+1)):Fw B s↔Fw B (AI s (2 ^ t))/\∀i,(AI s (2 ^ t)).testBit i=E->B t i=E:=by
 obtain⟨a1,a2,a3,a4⟩:=W6 h1 h2;constructor
 .intro h;exact⟨fun i j hi hj=>h i j (a3 i hi) (a3 j hj),fun i hi=>h t i a1 (a3 i hi) (by have:=Ie a2 hi; omega)⟩
 .rintro⟨k1,k2⟩ i j hi hj hne
  rcases a4 i hi with rfl|hi
  .rcases a4 j hj with rfl|hj
   .exact absurd zA hne
   .exact k2 j hj
  .rcases a4 j hj with rfl|hj
   .rw[hB]; exact k2 i hi
   .exact k1 i j hi hj hne
def TE{a b:J}:AI a b=0↔∀i,a.testBit i=E->b.testBit i=E:=by
 constructor
 .intro h i hi;have:=Fl a b i;rw[h,hi] at this
  cases hb:b.testBit i with
  | true=>rfl
  | false=>rw[hb] at this; simp at this
 .intro h;apply yQ
  intro i;rw[Fl,Nat.zero_testBit];cases hi:a.testBit i with
  | false=>rfl
  | true=>rw[h i hi]; rfl
def Y7(a b:J):AI a b<=a:=by
 rcases yC a (AI a b) with h|h
 .obtain⟨i,h1,h2⟩:=Nat.exists_testBit_ne_of_ne (Nat.ne_of_lt h) |>.elim fun i hi=>(⟨i,hi,⟨⟩⟩:∃i,a.testBit i≠(AI a b).testBit i/\True)
  exfalso
  have:AI a b &&& a=AI a b:=Vn fun i hi=>by
   rw[Fl,zE] at hi
   exact hi.1
  have h3:= @Nat.and_le_right (AI a b) a;omega
 .exact h
def Tv(B:J->J->Z)(tg:Q Z)(s:J):Prop:=∀x,x<s->(tg[x]?.getD G=E↔Fw B x)
def XQ(B:J->J->Z)(ls:Q J)(s:J):Prop:=∀x,x<s->Cm B x (ls[x]?.getD 0)
def bv(hN:N<=12){x n:J}(hx:x<2 ^ N)(h:Cm B x n):n<=12:=Nat.le_trans (h.2 N (R9 hx)) hN
def Sx{tg:Q Z}{x:J}(h:x<tg.length):ix tg (x:Y)=O (tg[x]?.getD G):=by
 rw[Am,zC h]; rfl
def Su{ls:Q J}{x:J}(h:x<ls.length):ix (nn ls) (x:Y)=O (((ls[x]?.getD 0:J)):Y):=by
 rw[DA h,zC h]; rfl
def dH(hN:N<=12):2 ^ N<=4096:=by
 have:=yP (show 0<2 by omega) hN;simpa using this
def zm(hN:N<=12)(y5:Y){s t:J}(hs:s<2 ^ N)(h1:2 ^ t<=s)(h2:s<2 ^ (t+1)){tg:Q Z}{ls:Q J}(htl:tg.length=2 ^ N)(hll:ls.length=2 ^ N)(ht:Tv B tg (s+1))(hl:XQ B ls s)(K:Y->Q Z->Q Y->X Y) :
  ∀(n q c:J),q<n->q &&& AI s (2 ^ t)=q->EC B s c->c<=100->(∀q',q' &&& AI s (2 ^ t)=q'->q<q'->Fw B (q' ||| 2 ^ t)->c<=1+ls[AI (AI s (2 ^ t)) q']?.getD 0)->
   ∃c',Cm B s c'/\Ha (nn ms) y5 (s:Y) (t:Y) ((AI s (2 ^ t):J):Y) tg K n (q:Y) (nn (ls.set s c))=K (kZ .i64 ((s:Y)+1)) tg (nn (ls.set s c')):=by
 obtain⟨a1,a2,a3,a4⟩:=W6 h1 h2;have hp:=dH hN;have h2s:AI s (2 ^ t)<s:=yU a2 h1;generalize hr:AI s (2 ^ t)=r at a2 a3 a4 h2s
 intro n
 induction n with
 | zero=>intro q c hq; omega
 | succ n ih=>
  intro q c hq hsub hc hc1 hall
  have ht12:t<12:=by
   rcases yC t 12 with h|h
   .exact h
   .have:=yP (show 0<2 by omega) h;simp at this
    omega
  have hqr:q<=r:=by have:= @Nat.and_le_right q r; omega
  have hor:q ||| 2 ^ t<=s:=by
   have hsb:(q ||| 2 ^ t) &&& s=q ||| 2 ^ t:=Vn fun i hi=>by
    rw[yN,Ky,kV,decide_eq_true_eq] at hi
    rcases hi with h|h
    .exact a3 i (A5r hsub h)
    .subst h; exact a1
   have:= @Nat.and_le_right (q ||| 2 ^ t) s;omega
  have hsml:∀x:J,x<=s->x<2 ^ 63:=fun x hx=>yW hx (yU hs (Nat.le_trans hp d4))
  have hand:AI r q<s:=yW (Y7 r q) h2s;have hset:s<(ls.set s c).length:=by simp; omega
  have hnext:∀c1:J,EC B s c1->c1<=100->(∀q',q' &&& r=q'->q<=q'->Fw B (q' ||| 2 ^ t)->c1<=1+ls[AI r q']?.getD 0)->
    ∃c',Cm B s c'/\Lq (nn ms) y5 (s:Y) (t:Y) (r:Y) (q:Y) tg K (Ha (nn ms) y5 (s:Y) (t:Y) (r:Y) tg K n) (nn (ls.set s c1))=K (kZ .i64 ((s:Y)+1)) tg (nn (ls.set s c')):=by
   intro c1 g1 g2 g3;unfold Lq;by_cases h0:q=0
   .subst h0;refine⟨c1,⟨g1,fun m hm=> ?_⟩,by rw[if_pos d0]⟩;obtain⟨q',n',e1,e2,e3,e4⟩:=pC a1 a3 hm;have:=(hl (AI r q') (yW (Y7 r q') h2s)).2 n' e4;have:=g3 q' e1 (zJ _) e2;omega
   .rw[if_neg (by simpa using h0)]
    have ew:kZ .i64 ((q:Y) - 1)=((q - 1:J):Y):=by
     rw[show(q:Y) - 1=((q - 1:J):Y) by omega];exact Ew (hsml _ a9)
    rw[ew,mq (hsml _ a9) (hsml _ a9)];have hlt:= @mr q r a9;refine ih ((q - 1) &&& r) c1 a9 (mu _ _) g1 g2 fun q' e1 e2 e3=> ?_
    refine g3 q' e1 ?_ e3;rcases yC q' q with h|h
    .have:=A1j r r q q' (kC _) hsub e1 h;omega
    .exact h
  rw[Ha,if_neg d0,T4 a9,A2b (hsml _ a9) (hsml _ a9),Sx a9,zB];have hk:=ht (q ||| 2 ^ t) a9;cases hb:tg[q ||| 2 ^ t]?.getD G with
  | false=>
   rw[if_neg d0];refine hnext c hc hc1 fun q' e1 e2 e3=> ?_
   rcases yC q q' with h|h
   .exact hall q' e1 h e3
   .have:q'=q:=by omega
    subst this;rw[hb] at hk
    exact absurd (hk.2 e3) d0
  | true=>
   rw[if_pos rfl];have hcq:=hk.1 hb
   have e26:ix (nn (ls.set s c)) (s:Y)=O (c:Y):=by
    rw[DA hset,kF]
   have e27:ix (nn (ls.set s c)) (Bl .andNot .i64 (r:Y) (q:Y))=O ((ls[AI r q]?.getD 0:J):Y):=by
    rw[Y6 (hsml _ a9) (hsml _ a9),Su d3,yE a9]
   rw[e26,zB,e27,zB];have hle:=hl (AI r q) hand;have h12:=bv hN (yD hand hs) hle;generalize hv:ls[AI r q]?.getD 0=v at hle h12
   have ew:kZ .i64 ((1:Y)+(v:Y))=((1+v:J):Y):=by
    rw[show(1:Y)+(v:Y)=((1+v:J):Y) by omega];exact Ew a9
   have emin:(if kZ .i64 ((1:Y)+(v:Y))<(c:Y) then kZ .i64 ((1:Y)+(v:Y)) else(c:Y))=((if 1+v<c then 1+v else c:J):Y):=by
    rw[ew];by_cases h:1+v<c
    .rw[if_pos a9,if_pos h]
    .rw[if_neg a9,if_neg h]
   rw[emin,zP,Km,List.set_set];refine hnext _ ?_ (by split<;>omega) fun q' e1 e2 e3=> ?_
   .split
    .exact pA a4 hcq hle.1
    .exact hc
   .rcases yC q q' with h|h
    .have:=hall q' e1 h e3;split<;>omega
    .have:q'=q:=by omega
     subst this;rw[hv];split<;>omega
def zl(hB:∀i j,B i j=B j i)(hN:N<=12)(hm:ma B N ms):∃n:J,Cm B (2 ^ N - 1) n/\n<=12/\NL (nn ms)=O (n:Y):=by
 have hp:=dH hN;have hp0:0<2 ^ N:=kL a9;obtain⟨hml,hmb⟩:=hm
 have key:∀(k s n:J) (tg:Q Z) (ls:Q J),s+k=2 ^ N->k<n->1<=s->tg.length=2 ^ N->ls.length=2 ^ N->Tv B tg s->XQ B ls s->
   ∃v:J,Cm B (2 ^ N - 1) v/\v<=12/\EP (nn ms) ((2 ^ N:J):Y) n (s:Y) tg (nn ls)=O (v:Y):=by
  intro k
  induction k with
  | zero=>
   intro s n tg ls hs hn hs1 htl hll ht hl;obtain⟨n,rfl⟩:∃n',n=n'+1:=⟨n - 1,a9⟩;have:=hl (2 ^ N - 1) a9;refine⟨_,this,bv hN a9 this,?_⟩
   have ew:kZ .i64 (((2 ^ N:J):Y) - 1)=((2 ^ N - 1:J):Y):=by
    rw[show((2 ^ N:J):Y) - 1=((2 ^ N - 1:J):Y) by omega];exact Ew a9
   rw[EP,if_neg (by simp only[Aj,decide_eq_true_eq]; omega),ew,Su a9,zB]
  | succ k ih=>
   intro s n tg ls hs hn hs1 htl hll ht hl;obtain⟨n,rfl⟩:∃n',n=n'+1:=⟨n - 1,a9⟩;obtain⟨t,e1,h1,h2,ht12⟩:=zv hs1 (show s<4096 by omega);obtain⟨a1,a2,a3,a4⟩:=W6 h1 h2;have htN:t<N:=Ie (show s<2 ^ N by omega) a1;have h2s:AI s (2 ^ t)<s:=yU a2 h1
   have hsml:∀x:J,x<=s->x<2 ^ 63:=fun x hx=>by
    have:(4096:J)<2 ^ 63:=by decide
    omega
   have ew:kZ .i64 (((t+1:J):Y) - 1)=(t:Y):=by
    rw[show((t+1:J):Y) - 1=(t:Y) by omega];exact Ew a9
   have er:Bl .andNot .i64 (s:Y) (Bt .i64 (1:Y) (t:Y))=((AI s (2 ^ t):J):Y):=by
    rw[T4 a9,Y6 (hsml _ (kC _)) (hsml _ h1)]
   have hu:IntKind.u64.wrap (s:Y)=(s:Y):=Mz a9;have hct:=ol hB h1 h2
   have rest:∀b:Z,(b=E↔Fw B s)->∃v:J,Cm B (2 ^ N - 1) v/\v<=12/\
     Lp (nn ms) ((2 ^ N:J):Y) (s:Y) (nn ls) (EP (nn ms) ((2 ^ N:J):Y) n) (t:Y) ((AI s (2 ^ t):J):Y) (tg.set s b)=O (v:Y):=by
    intro b hb
    have ht':Tv B (tg.set s b) (s+1):=fun x hx=>by
     by_cases h:s=x
     .subst h;rw[yG a9];exact hb
     .rw[yE h];exact ht x a9
    unfold Lp;rw[Su a9,zB,Ce,hml,zP,Km]
    obtain⟨c',k1,k2⟩:=zm (ms:=ms) hN ((2 ^ N:J):Y) (show s<2 ^ N by omega) h1 h2 (tg:=tg.set s b) (ls:=ls) (by simpa using htl) hll ht' hl (EP (nn ms) ((2 ^ N:J):Y) n) bigN (AI s (2 ^ t)) N (by rw[Cc]; omega) (Nat.and_self _) (R9 a9) a9 (fun q' g1 g2=>by
     have:= @Nat.and_le_right q' (AI s (2 ^ t));omega)
    rw[k2,Au (show s<4096 by omega) (by rw[Az]; omega)];refine ih (s+1) n (tg.set s b) (ls.set s c') a9 a9 a9 (by simpa using htl) (by simpa using hll) ht' fun x hx=> ?_
    by_cases h:s=x
    .subst h;rw[yG a9];exact k1
    .rw[yE h];exact hl x a9
   rw[EP,Aj,if_pos d3,hu,e1,zB,ew,if_neg d0,er,Sx a9,zB,zP];have hk:=ht (AI s (2 ^ t)) h2s;cases hb:tg[AI s (2 ^ t)]?.getD G with
   | true=>
    rw[if_pos rfl,Su a9,zB,Sx a9,zB]
    have hmt:ms[t]?.getD 0<2 ^ 12:=Q8 fun j hj=>by
     rw[hmb t j htN,zE,decide_eq_true_eq] at hj
     omega
    rw[Mz (n:=AI s (2 ^ t)) a9,MX a9 (yD hmt d4),nk];refine rest _ ?_;rw[decide_eq_true_eq,TE,hct];constructor
    .intro h;refine⟨hk.1 hb,fun i hi=> ?_⟩;have:=h i hi;rw[hmb t i htN] at this
     simp at this
     exact this.2.2
    .rintro⟨_,h⟩ i hi
     have hit:=Ie a2 hi;rw[hmb t i htN,h i hi];simp;omega
   | false=>
    rw[if_neg d0,Sx a9,zB];refine rest G ?_;rw[hct];constructor
    .intro h; cases h
    .rintro⟨h,_⟩
     have:=hk.2 h;rw[hb] at this
     cases this
 unfold NL
 have hm1:∀b:J,b<=1000->BB (Bt .i64 (1:Y) ((N:J):Y)) (Bt .i64 (1:Y) ((N:J):Y)) b=O (2 ^ N):=fun b hb=>by
  rw[T4 a9]; exact DQ a9 hb
 rw[Ce,hml,if_neg d0,hm1 1 a9,zB,hm1 8 a9,zB,T4 a9]
 have e0:ix (zI (2 ^ N) G) (0:Y)=O G:=by
  have:=Af (l:=zI (2 ^ N) G) (i:=0) (by simpa using hp0);simpa using this
 have hz:zI (2 ^ N) (0:Y)=nn (zI (2 ^ N) 0):=by simp[nn]
 rw[e0,zB,hz]
 obtain⟨v,k1,k2,k3⟩:=key (2 ^ N - 1) 1 bigN ((zI (2 ^ N) G).set 0 E) (zI (2 ^ N) 0) a9 (by rw[Cc]; omega) a9 d0 d0
  (fun x hx=>by
   have:x=0:=by omega
   subst this;rw[yG (by simpa using hp0)];exact⟨fun _=>om,fun _=>rfl⟩)
  (fun x hx=>by
   have:x=0:=by omega
   subst this;rw[List.getElem?_replicate,if_pos hp0];exact Vd)
 exact⟨v,k1,k2,k3⟩
end
def my{g i:J}(h:g<2 ^ i):AI (g ||| 2 ^ i) (2 ^ i)=g:=by
 apply yQ
 intro j;rw[Fl,yN,Ky];by_cases hj:i=j
 .subst hj;rw[Nat.testBit_lt_two_pow h];simp
 .simp[hj]
def A4b{α:Type}{l:Q α}{i:J}{x:α}(h:l[i]?=O x):l.set i x=l:=by
 apply List.ext_getElem?
 intro j;by_cases hij:i=j
 .subst hij;rw[yG (kM.1 h).1,h]
 .rw[yE hij]
def pD:∀(d fuel:J) (sm gs:Q J) (most:Y) (who:Q Y),who.length+d=sm.length->d<fuel->(∀x∈sm,x<2 ^ 12)->sm.length<=12->(∀g∈gs,0<g/\g<2 ^ who.length)->gs.length<=who.length->
  ∃b r,Ef fuel ⟨nn sm,most,nn gs,who⟩=O (b,r)/\r.most=most/\(b=G->r=⟨nn sm,most,nn gs,who⟩):=by
 intro d
 induction d with
 | zero=>
  intro fuel sm gs most who hd hf h1 h2 h3 h4;obtain⟨fuel,rfl⟩:∃n',fuel=n'+1:=⟨fuel - 1,a9⟩;refine⟨E,⟨nn sm,most,nn gs,who⟩,?_,zA,fun h=>by cases h⟩;rw[Ef,NJ,if_pos (by simp[Ce]; omega)]
 | succ d ih=>
  intro fuel sm gs most who hd hf h1 h2 h3 h4;obtain⟨fuel,rfl⟩:∃n',fuel=n'+1:=⟨fuel - 1,a9⟩;rw[Ef,NJ,if_neg (by simp[Ce]; omega)];have hi12:who.length<=11:=by omega
  have hpw:2 ^ who.length<2 ^ 64:=yR a9 a9;have hp0:0<2 ^ who.length:=kL a9;have hpd:2 ^ (who.length+1)=2 ^ who.length+2 ^ who.length:=by rw[Nat.pow_succ]; omega
  have hsi:who.length<sm.length:=by omega
  have hsm:sm[who.length]<2 ^ 64:=yD (h1 _ (zF hsi)) d4
  have key:∀(k p n:J),p+k=gs.length+1->k<n->∃b r,FT (Ef fuel) ⟨nn sm,most,nn gs,who⟩ n (p:Y) (nn sm) most (nn gs) who=O (b,r)/\r.most=most/\(b=G->r=⟨nn sm,most,nn gs,who⟩):=by
   intro k
   induction k with
   | zero=>
    intro p n hp hn;obtain⟨n,rfl⟩:∃n',n=n'+1:=⟨n - 1,a9⟩;refine⟨G,_,?_,zA,fun _=>rfl⟩;rw[FT,if_neg (by simp[Ce]; omega)]
   | succ k ihk=>
    intro p n hp hn;obtain⟨n,rfl⟩:∃n',n=n'+1:=⟨n - 1,a9⟩;have hpl:p<=gs.length:=by omega
    rw[FT,if_pos (by simp[Ce]; omega)];cases hmost:decide ((p:Y)<most) with
    | false=>exact⟨G,_,by rw[if_neg d0],rfl,fun _=>rfl⟩
    | true=>
     rw[if_pos rfl];by_cases hpe:p=gs.length
     .
      rw[if_pos (by simp[Ce]; omega),if_pos (FB (by simp[Ce]; omega) a9)];have e0:nn gs++ [(0:Y)]=nn (gs++ [0]):=ce gs 0;rw[e0];unfold Ll;dsimp only
      have hpg:p<(gs++ [0]).length:=by simp; omega
      have hg0:(gs++ [0])[p]=0:=by simp[hpe]
      rw[DA hpg,zB,hg0,DA hsi,zB,MX d4 hsm];have ez:AI 0 sm[who.length]=0:=TE.2 fun i hi=>by simp at hi
      rw[ez,if_pos d0,if_neg d0,if_pos (FB d3 a9),VK a9,Vq d4 hpw,Nat.zero_or,zP,Km]
      have es:(gs++ [0]).set p (2 ^ who.length)=gs++ [2 ^ who.length]:=by
       rw[List.set_append_right _ _ a9];simp[hpe]
      rw[es]
      obtain⟨b,r,k1,k2,k3⟩:=ih fuel sm (gs++ [2 ^ who.length]) most (who++ [(p:Y)]) d3 a9 h1 h2 (fun g hg=>by
       rw[zO,zY,hpd];rcases zV.1 hg with hg|hg
       .have:=h3 g hg; omega
       .rw[zS] at hg; omega) d3
      rw[k1,zB];cases b with
      | true=>exact⟨E,r,by rw[if_pos rfl],k2,fun h=>by cases h⟩
      | false=>
       have:=k3 rfl;subst this;rw[if_neg d0];have hw:((who++ [(p:Y)]).length:Y)=((who.length+1:J):Y):=by simp
       simp only[zO,zY];rw[show bnd ((who.length+1:J):Y) (who.length:Y) 0 (who.length+1)=O (0,who.length) from FE a9,zB];have hpg2:p<(gs++ [2 ^ who.length]).length:=by simp; omega
       have hg2:(gs++ [2 ^ who.length])[p]=2 ^ who.length:=by simp[hpe]
       rw[DA hpg2,zB,hg2,if_neg d0,MX hpw hpw,Km];have ez2:AI (2 ^ who.length) (2 ^ who.length)=0:=TE.2 fun i hi=>hi
       have es2:(gs++ [2 ^ who.length]).set p 0=gs++ [0]:=by
        rw[List.set_append_right _ _ a9];simp[hpe]
       have et:(who++ [(p:Y)]).take who.length=who:=by simp
       rw[ez2,es2,et];unfold IW;rw[DA hpg,zB,hg0,if_pos d0,Ce];have hl1:(gs++ [0]).length=gs.length+1:=by simp
       rw[hl1,show bnd ((gs.length+1:J):Y) (p:Y) 0 (gs.length+1)=O (0,p) from FE a9,zB];have et2:(nn (gs++ [0])).take p=nn gs:=by rw[hpe]; simp[nn]
       show ∃b r,O (G,(⟨nn sm,most,(nn (gs++ [0])).take p,who⟩:Xg))=O (b,r)/\_
       rw[et2];exact⟨G,_,zA,zA,fun _=>rfl⟩
     .
      rw[if_neg (by simp[Ce]; omega)];have hpg:p<gs.length:=by omega
      have hgm:=h3 _ (zF hpg)
      have hnext:∃b r,IW (Ef fuel) ⟨nn sm,most,nn gs,who⟩ (p:Y) (FT (Ef fuel) ⟨nn sm,most,nn gs,who⟩ n) (nn sm) most (nn gs) who=O (b,r)/\r.most=most/\(b=G->r=⟨nn sm,most,nn gs,who⟩):=by
       unfold IW;rw[DA hpg,zB,if_neg d3,Au hpg (by rw[Az]; omega)];exact ihk (p+1) n a9 a9
      unfold Ll;dsimp only
      rw[DA hpg,zB,DA hsi,zB,MX a9 hsm];cases hfit:(((AI gs[p] sm[who.length]:J):Y)==0) with
      | false=>rw[if_neg d0]; exact hnext
      | true=>
       rw[if_pos rfl,if_neg d0,if_pos (FB d3 a9),VK a9,Vq a9 hpw,zP,Km];have hor:gs[p] ||| 2 ^ who.length<2 ^ (who.length+1):=kA a9 a9
       have hop:0<gs[p] ||| 2 ^ who.length:=by
        have:= @Nat.left_le_or gs[p] (2 ^ who.length);omega
       have hor64:gs[p] ||| 2 ^ who.length<2 ^ 64:=kA a9 hpw
       obtain⟨b,r,k1,k2,k3⟩:=ih fuel sm (gs.set p (gs[p] ||| 2 ^ who.length)) most (who++ [(p:Y)]) d3 a9 h1 h2 (fun g hg=>by
        rw[zO,zY];rcases List.mem_or_eq_of_mem_set hg with hg|hg
        .have:=h3 g hg; omega
        .subst hg; exact⟨hop,hor⟩) d3
       rw[k1,zB];cases b with
       | true=>exact⟨E,r,by rw[if_pos rfl],k2,fun h=>by cases h⟩
       | false=>
        have:=k3 rfl;subst this;rw[if_neg d0];simp only[zO,zY];have hps:p<(gs.set p (gs[p] ||| 2 ^ who.length)).length:=by simp; omega
        rw[show bnd ((who.length+1:J):Y) (who.length:Y) 0 (who.length+1)=O (0,who.length) from FE a9,zB,DA hps,zB,kF,if_neg d0,MX hor64 hpw,Km,my hgm.2,List.set_set,A4b (zC hpg)];have et:(who++ [(p:Y)]).take who.length=who:=by simp
        rw[et];exact hnext
  exact key (gs.length+1) 0 bigN a9 (by rw[Cc]; omega)
section
variable {p : Y} {m : Q Y} {l : Q Xb}
def mc(B:J->J->Z)(w:Q J):Prop:=∀(i k:J) (hi:i<w.length) (hk:k<i),w[i]=w[k]->B i k=E
def A33(rec_:(Q (Q Z))->(Q Y)->Y->X ((Q Y) × Z))(a2 v2:Y)(K:Y->X ((Q Y) × Z))(c:J){w:Q J}(hw:w.length<l.length)(hN:l.length<=12) :
  ∀(r k n:J) (v:Z),k+r=w.length->r<n->∃b:Z,(b=E↔v=E/\∀(k':J) (h:k'<w.length),k<=k'->w[k']=c->Bb p m l w.length k'=E)/\
   DH rec_ (Ck p m l) (nn w) a2 v2 (c:Y) K n v (k:Y)=DH rec_ (Ck p m l) (nn w) a2 v2 (c:Y) K 1 b (w.length:Y):=by
 intro r
 induction r with
 | zero=>
  intro k n v hk hn;obtain⟨n,rfl⟩:∃n',n=n'+1:=⟨n - 1,a9⟩;have:k=w.length:=by omega
  subst this;refine⟨v,⟨fun h=>⟨h,fun k' h1 h2=>by omega⟩,fun h=>h.1⟩,?_⟩;simp only[DH,Ce,Aj,Nat.lt_irrefl,decide_false,zD,if_false]
 | succ r ih=>
  intro k n v hk hn;obtain⟨n,rfl⟩:∃n',n=n'+1:=⟨n - 1,a9⟩;have hlt:k<w.length:=by omega
  rw[DH,if_pos (by simp[Ce]; omega),DA hlt,zB];have hwr:=Au hlt (show w.length<=maxLen by rw[Az]; omega);by_cases hc:w[k]=c
  .obtain⟨x,x1,x2⟩:=A3o (p:=p) (m:=m) hw (show k<l.length by omega);rw[if_pos d3,Ce,x1,zB,x2,zB];cases hb:Bb p m l w.length k with
   | true=>
    rw[if_pos rfl,hwr];obtain⟨b,b1,b2⟩:=ih (k+1) n v a9 a9;refine⟨b,b1.trans ⟨fun⟨g1,g2⟩=>⟨g1,fun k' h1 h2 h3=> ?_⟩,fun⟨g1,g2⟩=>⟨g1,fun k' h1 h2=>g2 k' h1 a9⟩⟩,b2⟩;by_cases hkk:k=k'
    .subst hkk; exact hb
    .exact g2 k' h1 a9 h3
   | false=>
    rw[if_neg d0,hwr];obtain⟨b,b1,b2⟩:=ih (k+1) n G a9 a9;refine⟨b,b1.trans ⟨fun⟨g1,g2⟩=>(by cases g1),fun⟨g1,g2⟩=> ?_⟩,b2⟩;have:=g2 k hlt (kC _) hc;rw[hb] at this
    cases this
  .rw[if_neg d3,hwr];obtain⟨b,b1,b2⟩:=ih (k+1) n v a9 a9;refine⟨b,b1.trans ⟨fun⟨g1,g2⟩=>⟨g1,fun k' h1 h2 h3=> ?_⟩,fun⟨g1,g2⟩=>⟨g1,fun k' h1 h2=>g2 k' h1 a9⟩⟩,b2⟩;by_cases hkk:k=k'
   .subst hkk; exact absurd h3 hc
   .exact g2 k' h1 a9 h3
def A34(rec_:(Q (Q Z))->(Q Y)->Y->X ((Q Y) × Z))(a0:Q (Q Z))(a2:Y){w:Q J}(hw:w.length<=12)(hx:∀x∈w,x<12) :
  ∀(r k n v:J),k+r=w.length->r<n->v<=12->∃u:J,u<=12/\v<=u/\(∀x∈w.drop k,x<u)/\HD rec_ a0 (nn w) a2 n (v:Y) (k:Y)=Em rec_ a0 (nn w) a2 (u:Y) bigN 0:=by
 intro r
 induction r with
 | zero=>
  intro k n v hk hn hv;obtain⟨n,rfl⟩:∃n',n=n'+1:=⟨n - 1,a9⟩;refine⟨v,hv,kC _,fun x h=> ?_,?_⟩
  .rw[List.drop_eq_nil_of_le a9] at h; cases h
  .rw[HD,if_neg (by simp[Ce]; omega)]
 | succ r ih=>
  intro k n v hk hn hv;obtain⟨n,rfl⟩:∃n',n=n'+1:=⟨n - 1,a9⟩;have hlt:k<w.length:=by omega
  have hk12:=hx _ (zF hlt);rw[HD,if_pos (by simp[Ce]; omega),DA hlt,zB,Au hlt (by rw[Az]; omega)];have ew:kZ .i64 (((w[k]:J):Y)+1)=((w[k]+1:J):Y):=Au (n:=12) hk12 (by rw[Az]; omega)
  have em:(if(v:Y)<kZ .i64 (((w[k]:J):Y)+1) then kZ .i64 (((w[k]:J):Y)+1) else(v:Y))=((if v<w[k]+1 then w[k]+1 else v:J):Y):=by
   rw[ew];by_cases h:v<w[k]+1
   .rw[if_pos a9,if_pos h]
   .rw[if_neg a9,if_neg h]
  rw[em];obtain⟨u,u1,u2,u3,u4⟩:=ih (k+1) n (if v<w[k]+1 then w[k]+1 else v) a9 a9 (by split<;>omega);refine⟨u,u1,by split at u2<;>omega,fun x hx2=> ?_,u4⟩;rw[zW hlt] at hx2
  rcases List.mem_cons.1 hx2 with rfl|hx2
  .split at u2<;>omega
  .exact u3 x hx2
def dk(mm:J)(hmm:mm<=12)(hN:l.length<=12):∀(d fuel:J) (w:Q J),w.length+d=l.length->d<fuel->(∀x∈w,x<mm)->mc (Bb p m l) w->
  ∃out ok,Cz fuel (Ck p m l) (nn w) (mm:Y)=O (out,ok)/\(ok=E↔D9 (Bb p m l) l.length mm w):=by
 have hrl:(Ck p m l).length=l.length:=by simp[Ck]
 intro d
 induction d with
 | zero=>
  intro fuel w hd hf hx hv;obtain⟨fuel,rfl⟩:∃n',fuel=n'+1:=⟨fuel - 1,a9⟩;refine⟨nn w,E,?_,⟨fun _=>tC a9 hx (Yp p m l) hv,fun _=>rfl⟩⟩;rw[Cz,Pn,if_pos (by simp[Ce,hrl]; omega)]
 | succ d ih=>
  intro fuel w hd hf hx hv;obtain⟨fuel,rfl⟩:∃n',fuel=n'+1:=⟨fuel - 1,a9⟩;have hw:w.length<l.length:=by omega
  rw[Cz,Pn,if_neg (by simp[Ce,hrl]; omega)];obtain⟨u,u1,_,u3,u4⟩:=A34 (Cz fuel) (Ck p m l) (mm:Y) (w:=w) a9 (fun x h=>by have:=hx x h; omega) w.length 0 bigN 0 a9 (by rw[Cc]; omega) a9;have u4:HD (Cz fuel) (Ck p m l) (nn w) (mm:Y) bigN 0 0=_:=u4;rw[u4]
  have key:∀(k c n:J),c+k=u+1->k<n->(∀c',c'<c->c'<mm->KG (Bb p m l) w c'->¬D9 (Bb p m l) l.length mm (w++ [c']))->
    ∃out ok,Em (Cz fuel) (Ck p m l) (nn w) (mm:Y) (u:Y) n (c:Y)=O (out,ok)/\(ok=E↔D9 (Bb p m l) l.length mm w):=by
   have fin:∀c:J,(u<c\/mm<=c)->(∀c',c'<c->c'<mm->KG (Bb p m l) w c'->¬D9 (Bb p m l) l.length mm (w++ [c']))->¬D9 (Bb p m l) l.length mm w:=fun c hc hno h=>by
    obtain⟨c',g1,g2,g3,g4⟩:=tD hw (fun x h=>u3 x (by simpa using h)) h;exact hno c' a9 g2 g3 g4
   intro k
   induction k with
   | zero=>
    intro c n hc hn hno;obtain⟨n,rfl⟩:∃n',n=n'+1:=⟨n - 1,a9⟩;refine⟨[],G,?_,⟨fun h=>(by cases h),fun h=>absurd h (fin c a9 hno)⟩⟩;rw[Em,if_neg d3]
   | succ k ihk=>
    intro c n hc hn hno;obtain⟨n,rfl⟩:∃n',n=n'+1:=⟨n - 1,a9⟩;rw[Em,if_pos d3];by_cases hcm:c<mm
    .rw[if_pos (by simpa using hcm)];obtain⟨b,b1,b2⟩:=A33 (p:=p) (m:=m) (Cz fuel) (mm:Y) (u:Y) (Em (Cz fuel) (Ck p m l) (nn w) (mm:Y) (u:Y) n) c hw hN w.length 0 bigN E a9 (by rw[Cc]; omega);have b2:DH (Cz fuel) (Ck p m l) (nn w) (mm:Y) (u:Y) (c:Y) (Em (Cz fuel) (Ck p m l) (nn w) (mm:Y) (u:Y) n) bigN E 0=_:=b2;have hfit:b=E↔KG (Bb p m l) w c:=b1.trans ⟨fun h k' h1 h2=>h.2 k' h1 (zJ _) h2,fun h=>⟨rfl,fun k' h1 _ h2=>h k' h1 h2⟩⟩;have hwr:=Au (i:=c) (n:=12) a9 (by rw[Az]; omega)
     have hon:(KG (Bb p m l) w c->¬D9 (Bb p m l) l.length mm (w++ [c]))->∃out ok,M4 (Cz fuel) (Ck p m l) (nn w) (mm:Y) (u:Y) (c:Y) (Em (Cz fuel) (Ck p m l) (nn w) (mm:Y) (u:Y) n)=O (out,ok)/\(ok=E↔D9 (Bb p m l) l.length mm w):=fun h=>by
      unfold M4;rw[hwr];refine ihk (c+1) n a9 a9 fun c' h1 h2 h3=> ?_
      by_cases hcc:c'=c
      .subst hcc; exact h h3
      .exact hno c' a9 h2 h3
     rw[b2,DH,if_neg (by simp[Ce])];cases b with
     | false=>
      rw[if_neg d0];exact hon fun h=>absurd (hfit.2 h) d0
     | true=>
      have hf2:=hfit.1 rfl;rw[if_pos rfl,if_pos (FB (by simp[Ce]; omega) a9),if_pos (FB (by simp[Ce]; omega) a9),ce]
      obtain⟨out,ok,o1,o2⟩:=ih fuel (w++ [c]) d3 a9 (fun x h=>by
       rcases zV.1 h with h|h
       .exact hx x h
       .rw[zS] at h; omega) (fun i k' hi hk' e=>by
       rcases yC i w.length with h|h
       .rw[zM h,zM a9] at e
        exact hv i k' h hk' e
       .have:i=w.length:=by simp at hi; omega
        subst this;rw[zM hk'] at e
        simp at e
        exact hf2 k' hk' e.symm)
      rw[o1,zB];cases ok with
      | true=>exact⟨out,E,by rw[if_pos rfl],⟨fun _=>tB (o2.1 rfl),fun _=>rfl⟩⟩
      | false=>
       rw[if_neg d0];exact hon fun _ h=>absurd (o2.2 h) d0
    .refine⟨[],G,by rw[if_neg (by simpa using hcm)],⟨fun h=>(by cases h),fun h=>absurd h (fin c a9 hno)⟩⟩
  exact key (u+1) 0 bigN a9 (by rw[Cc]; omega) (fun c' h=>by omega)
def QW(p:Y)(m:Q Y)(l:Q Xb):Z:=(decide (l.length<=12)&&l.all Bq)&&E5 p m
def mZ(hl:m.length<=maxLen)(ho:QW p m l=E):∃(n:J) (w1 w2:Q Y),n<=12/\Cm (Bb p m l) (2 ^ l.length - 1) n/\JH p m l=O (w1,(n:Y),E)/\Nj p m l=O (w2,(n:Y),E):=by
 have ho':=ho;simp only[QW,zE,decide_eq_true_eq] at ho'
 obtain⟨⟨hN,hda⟩,ht⟩:=ho';have hd:∀d∈l,Bq d=E:=fun d h=>yB.1 hda d h
 have hdo:(decide (l.length<=12)&&l.all Bq)=E:=by simp[hN,hda]
 obtain⟨ms,m1,m2,m3⟩:=xA hl ht hd hN;obtain⟨n,n1,n2,n3⟩:=zl (Yp p m l) hN (ms:=ms) ⟨m1,m2⟩
 have hmx:∀x∈ms,x<2 ^ 12:=fun x hx=>by
  obtain⟨i,hi,rfl⟩:=zN hx;refine Q8 fun j hj=> ?_
  have:=m2 i j a9;rw[zC hi] at this
  have this:ms[i].testBit j=Ij p m l i j:=this;rw[this,Ij,zE,decide_eq_true_eq] at hj
  omega
 obtain⟨b,r,c1,c2,_⟩:=pD ms.length bigN ms [] (n:Y) [] d0 (by rw[Cc]; omega) hmx a9 (fun g h=>by cases h) d0
 have hsp:∀(k v fu:J),v+k=n->k<fu->∃w1,JI l (Ck p m l) fu (v:Y)=O (w1,(n:Y),E):=by
  have hnN:n<=l.length:=n1.2 _ (R9 (by have:=kL (n:=l.length) (show 0<2 by omega); omega));intro k
  induction k with
  | zero=>
   intro v fu hv hfu;obtain⟨fu,rfl⟩:∃n',fu=n'+1:=⟨fu - 1,a9⟩;have:v=n:=by omega
   subst this;obtain⟨out,ok,s1,s2⟩:=dk (p:=p) (m:=m) v n2 hN l.length bigN [] d0 (by rw[Cc]; omega) (fun x h=>by cases h) (fun i k hi=>by simp at hi);have s1:RX (Ck p m l) [] (v:Y)=O (out,ok):=s1;have hok:ok=E:=s2.2 (YJ.1 n1.1);subst hok;exact⟨out,by rw[JI,if_pos d3,s1,zB,if_pos zA]⟩
  | succ k ihk=>
   intro v fu hv hfu;obtain⟨fu,rfl⟩:∃n',fu=n'+1:=⟨fu - 1,a9⟩;obtain⟨out,ok,s1,s2⟩:=dk (p:=p) (m:=m) v a9 hN l.length bigN [] d0 (by rw[Cc]; omega) (fun x h=>by cases h) (fun i k hi=>by simp at hi);have s1:RX (Ck p m l) [] (v:Y)=O (out,ok):=s1
   have hok:ok=G:=by
    cases ok with
    | false=>rfl
    | true=>
     have:=n1.2 v (YJ.2 (s2.1 rfl));omega
   subst hok;obtain⟨w1,e⟩:=ihk (v+1) fu a9 a9;refine⟨w1,?_⟩;rw[JI,if_pos d3,s1,zB,if_neg d0,Au (i:=v) (n:=13) a9 (by rw[Az]; omega)];exact e
 obtain⟨w1,e1⟩:=hsp n 0 bigN a9 (by rw[Cc]; omega);refine⟨n,w1,r.who,n2,n1,?_,?_⟩
 .unfold JH;rw[A4k,hdo,zB,if_pos rfl,dv hl,ht,zB];unfold OU;rw[if_neg d0,A4j hl ht hd hN,zB];exact e1
 .unfold Nj Ro;have ht':=ht;simp only[E5,zE] at ht'
  rw[UW,hdo,zB,if_pos rfl,cP,ht'.1,zB,if_pos rfl,bU hl,ht'.2,zB,zB,if_pos rfl,m3,zB,n3,zB];have c1:Ua ⟨nn ms,(n:Y),[],[]⟩=O (b,r):=c1;rw[c1,zB,c2]
end
section
variable {c : X4} {fl : Q X5}
def Cy(c:X4)(p:X1):Y × Y:=if p.Toward=E then((Aw c p.Segment).A,(Aw c p.Segment).B) else((Aw c p.Segment).B,(Aw c p.Segment).A)
def Qu{p:X1}(h:idx p.Segment c.Segments.length=E):Gg c p=O (Cy c p):=by
 unfold Gg Cy;rw[(BO h).1,zB];split<;>rfl
def bS{p:X1}(h:idx p.Segment c.Segments.length=E):Ld p c=O (Cy c p):=by
 unfold Ld Cy;rw[(BO h).1,zB];split<;>rfl
def YQ{p:X1}(hc:AP c=E)(h:idx p.Segment c.Segments.length=E):0<=(Cy c p).1/\(Cy c p).1<8/\0<=(Cy c p).2/\(Cy c p).2<8:=by
 have hp:=(Fi hc).1;have hx:=(BO h).2;simp only[AP,zE,decide_eq_true_eq,yB,kK] at hc
 obtain⟨i,hi,e⟩:=zN hx;have:=hc.2.2.2 i hi;simp only[E1,zC hi,e,idx,zE,decide_eq_true_eq] at this
 unfold Cy;split<;>(simp only; omega)
def Qj{p:X1}(hc:AP c=E)(h:Cf c fl p=E):p.Start<p.End:=by
 simp only[Cf,C7,zE,decide_eq_true_eq] at h;obtain⟨h3,h4,h5,h6,h7⟩:=h;obtain⟨_,_,a,b⟩:=(Fi hc).2.2 _ (BO h4).2;rw[h7];unfold AH;split
 .rw[Ai (n:=2*_) a9 a9,Ai a9 a9]; omega
 .rw[Ai a9 a9]; omega
def wq{p:X1}(hn:∀x∈c.Points,x.Name.length<=maxLen)(hf:∀x∈fl,x.Name.length<=maxLen)(h1:AP c=E)(h2:DK fl=E):Nr c fl p=O (Cf c fl p):=by
 unfold Nr;rw[Gr hn,h1,zB,if_pos rfl,bN hf,h2,zB,if_pos rfl,xB,zB]
def Cw(c:X4)(p q:X1):Xb:=⟨p.Start,q.End,(Cy c p).1,(Cy c q).2⟩
def bR{p q:X1}(h1:idx p.Segment c.Segments.length=E)(h2:idx q.Segment c.Segments.length=E):Ln c p q=O (Cw c p q):=by
 unfold Ln;rw[bS h1,zB,bS h2,zB];rfl
def YN{p q:X1}(hc:AP c=E)(h1:idx p.Segment c.Segments.length=E)(h2:idx q.Segment c.Segments.length=E)(h3:0<=p.Start)(h4:p.Start<q.End)(h5:q.End<=2880):Bq (Cw c p q)=E:=by
 obtain⟨a1,a2,_,_⟩:=YQ hc h1;obtain⟨_,_,b1,b2⟩:=YQ hc h2;unfold Bq Cw;simp only[zE,decide_eq_true_eq];exact⟨h3,h4,h5,⟨a1,a2⟩,b1,b2⟩
def A6y{p:X1}{s:X5}(hs:ix fl p.Ship=O s)(h1:idx p.Segment c.Segments.length=E)(all:Q X1)(v1:Y)(K:Y->Q Xb->X (Q Xb × Z)){T:J}(hT:s.Tugs=(T:Y))(hT4:T<=4) :
  ∀(r k n:J) (acc:Q Xb),k+r=T->r<n->acc.length<=12+k->HG fl (Cy c p) all v1 c p K n (k:Y) acc =
   if(decide ((12:Y)<((acc++zI r (Cw c p p)).length:Y))) then O (([]:Q Xb),G) else K (kZ .i64 (v1+(1:Y))) (acc++zI r (Cw c p p)):=by
 intro r
 induction r with
 | zero=>
  intro k n acc hk hn ha;obtain⟨n,rfl⟩:∃n',n=n'+1:=⟨n - 1,a9⟩;rw[HG,hs,zB,if_neg (by rw[hT]; simp; omega)];simp
 | succ r ih=>
  intro k n acc hk hn ha;obtain⟨n,rfl⟩:∃n',n=n'+1:=⟨n - 1,a9⟩;rw[HG,hs,zB,if_pos (by rw[hT]; simp; omega),if_pos (FB d3 a9),Au (i:=k) (n:=5) a9 (by rw[Az]; omega)];have:=ih (k+1) n (acc++ [Cw c p p]) a9 a9 d3;refine this.trans ?_;rw[yM];rfl
def A6x{p:X1}{s:X5}(h1:idx p.Segment c.Segments.length=E)(all:Q X1)(v1:Y)(K:Y->Q Xb->X (Q Xb × Z)){T:J}(hT:s.Tugs=(T:Y))(hT4:T<=4) :
  ∀(r k n:J) (acc:Q Xb),k+r=T->r<n->acc.length<=12+k->Hd fl all v1 s c p K n (k:Y) acc =
   if(decide ((12:Y)<((acc++zI r (Cw c p p)).length:Y))) then O (([]:Q Xb),G) else K (kZ .i64 (v1+(1:Y))) (acc++zI r (Cw c p p)):=by
 intro r
 induction r with
 | zero=>
  intro k n acc hk hn ha;obtain⟨n,rfl⟩:∃n',n=n'+1:=⟨n - 1,a9⟩;rw[Hd,if_neg (by rw[hT]; simp; omega)];simp
 | succ r ih=>
  intro k n acc hk hn ha;obtain⟨n,rfl⟩:∃n',n=n'+1:=⟨n - 1,a9⟩;rw[Hd,if_pos (by rw[hT]; simp; omega),bR h1 h1,zB,if_pos (FB d3 a9),Au (i:=k) (n:=5) a9 (by rw[Az]; omega)];have:=ih (k+1) n (acc++ [Cw c p p]) a9 a9 d3;refine this.trans ?_;rw[yM];rfl
def U0{w:Xn}(h:FH w=E):C7 w.Rest=E/\Fb w.Moves=E:=by
 simp only[FH,zE] at h;exact⟨h.2.2.1,by simp only[Fb,zE]; exact h.2.2.2⟩
def mn{p:Y}{m:Q Y}{l:Q Xb}(h1:l.length<=12)(h2:∀d∈l,Bq d=E)(h3:C7 p=E)(h4:Fb m=E):QW p m l=E:=by
 simp only[QW,E5,h3,h4,Bool.and_self,Bool.and_true,zE,decide_eq_true_eq,yB];exact⟨h1,h2⟩
end
def KQ{n m b:J}(h:n+m<=3000000000000)(hb:b<=40):Ab n m b=E:=by
 unfold Ab;have:(n+m)*b<=3000000000000*40:=yX h hb;simp;omega
def B3(l:Q X0):Q (Q X1):=l.map fun o=>o.Passages
def A4t{l:Q X0}(hl:l.length<=1048576)(hp:∀o∈l,o.Passages.length<=1048576):LO l=O (B3 l):=by
 unfold LO;refine GI (L:=Jv l) l (fun o=>o.Passages) O (by rw[Az]; omega) (fun n i acc h ha=> ?_) (fun n acc ha=>by simp[Jv]);have:=hp _ (zF h);rw[Jv,Aj,if_pos (by simpa using h),Af h,zB,if_pos (KQ d3 a9),if_pos (KQ d3 a9)]
def tb{α R:Type}{L:J->Y->Q α->X R}(cs:Q (Q α))(K:X R)(hl:cs.length<=1048576)(hb:∀x∈cs,x.length<=1048576)
  (hs:∀(n i:J) (acc:Q α) (h:i<cs.length),acc.length<=i*1048576->L (n+1) (i:Y) acc=L n (kZ .i64 ((i:Y)+1)) (acc++cs[i])) (he:∀n,L (n+1) (cs.length:Y) cs.flatten=K):L bigN 0 []=K/\cs.flatten.length<=1099511627776:=by
 have key:∀(k i n:J),i+k=cs.length->k<n->L n (i:Y) (cs.take i).flatten=K:=by
  have hlen:∀i:J,i<=cs.length->(cs.take i).flatten.length<=i*1048576:=by
   intro i
   induction i with
   | zero=>intro _; simp
   | succ i ih=>
    intro hi;rw[zL a9,kJ,zO];have h1:=ih a9;have h2:=hb _ (zF (show i<cs.length by omega));have e3: [cs[i]].flatten.length=cs[i].length:=by simp
    rw[e3];omega
  intro k
  induction k with
  | zero=>
   intro i n hi hn;obtain⟨m,rfl⟩:∃m,n=m+1:=⟨n - 1,a9⟩;have:i=cs.length:=by omega
   subst this;rw[yJ,he]
  | succ k ih=>
   intro i n hi hn;obtain⟨m,rfl⟩:∃m,n=m+1:=⟨n - 1,a9⟩;have hlt:i<cs.length:=by omega
   rw[hs m i _ hlt (hlen i a9),Au hlt (by rw[Az]; omega)];have:=ih (i+1) m a9 a9;rw[zL hlt,kJ] at this
   simpa using this
 have hall:∀(k:J),k<=cs.length->(cs.take k).flatten.length<=k*1048576:=by
  intro i
  induction i with
  | zero=>intro _; simp
  | succ i ih=>
   intro hi;rw[zL a9,kJ,zO];have h1:=ih a9;have h2:=hb _ (zF (show i<cs.length by omega));have e3: [cs[i]].flatten.length=cs[i].length:=by simp
   rw[e3];omega
 refine⟨key cs.length 0 bigN a9 (by rw[Cc]; omega),?_⟩;have:=hall cs.length (kC _);rw[yJ] at this
 omega
def A1g{s:Q I}(h:F4 s=E):1<=s.length/\s.length<=8:=by
 simp only[F4,Qc,zE,decide_eq_true_eq] at h;omega
def QF(x p:Y):Y:=if x<kZ .i64 (zZ p 2) then
  kZ .i64 (zZ (kZ .i64 (kZ .i64 (40000*x)*kZ .i64 (kZ .i64 (zZ p 2) - x))) (kZ .i64 (kZ .i64 (zZ p 2)*kZ .i64 (zZ p 2))))
 else kZ .i64 (0 - kZ .i64 (zZ (kZ .i64 (kZ .i64 (40000*kZ .i64 (x - kZ .i64 (zZ p 2)))*kZ .i64 (kZ .i64 (zZ p 2) - kZ .i64 (x - kZ .i64 (zZ p 2))))) (kZ .i64 (kZ .i64 (zZ p 2)*kZ .i64 (zZ p 2)))))
def Vx{p:Y}(h:GH p=E):4<=p/\p<=2880/\kZ .i64 (yV p 4)=0:=by
 simp only[GH,zE,decide_eq_true_eq,beq_iff_eq] at h;exact⟨h.1.1,h.1.2,h.2⟩
def Zk{p:Y}(h1:4<=p)(h2:p<=2880):(kZ .i64 (kZ .i64 (zZ p 2)*kZ .i64 (zZ p 2))==0)=G:=by
 have e:zZ p 2=p / 2:=Int.tdiv_eq_ediv_of_nonneg a9;rw[e,Ai (n:=p / 2) a9 a9];generalize hq:p / 2=q
 have q1:2<=q:=by omega
 have q2:q<=1440:=by omega
 have m1:2*2<=q*q:=Int.mul_le_mul q1 q1 a9 a9;have m2:q*q<=1440*1440:=Int.mul_le_mul q2 q2 a9 a9;rw[Ai a9 a9];simp only[beq_eq_false_iff_ne,ne_eq];omega
def A4s{n p:Y}(hp:GH p=E)(hn:0<=n)(hn2:n<=100000):Pd n p=O (QF (yV n p) p):=by
 obtain⟨p1,p2,p3⟩:=Vx hp;have hm:yV n p=n % p:=yS hn;have r1:=Int.emod_nonneg n (show p≠0 by omega);have r2:=Int.emod_lt_of_pos n (show 0<p by omega);unfold Pd;rw[hm,Ai (n:=n % p) a9 a9,p3];have k1:¬p<4:=by omega
 have k2:¬2880<p:=by omega
 have k3:(p==0)=G:=by simp; omega
 have k4:¬n % p<0:=by omega
 simp only[k1,k2,k3,k4,decide_false,zD,if_false,bne_self_eq_false];unfold Pe QF;rw[Zk p1 p2];simp only[zD,if_false,decide_eq_true_eq];split<;>rfl
def wy{n p:Y}(hp:GH p=E)(hn:0<=n)(hn2:n<=100000):NB n p=O (QF (yV n p) p):=by
 obtain⟨p1,p2,p3⟩:=Vx hp;have hm:yV n p=n % p:=yS hn;have r1:=Int.emod_nonneg n (show p≠0 by omega);have r2:=Int.emod_lt_of_pos n (show 0<p by omega);have k3:(p==0)=G:=by simp; omega
 have hmm:yV (n % p+p) p=n % p:=by
  rw[yS a9,Int.add_emod_right,Int.emod_emod]
 unfold NB;rw[bp,hp,zB,hm,Ai (n:=n % p) a9 a9,Ai (n:=n % p+p) a9 a9,hmm,Ai (n:=n % p) a9 a9,Zk p1 p2];simp only[k3,zD,if_false,if_true,decide_eq_true_eq];unfold QF;by_cases hx:n % p<kZ .i64 (zZ p 2)
 .rw[if_pos hx,if_neg a9]
 .rw[if_neg hx,if_pos a9]
def A0g{t:Xm}{m:Y}(ht:Fm t=E)(h0:0<=m)(h1:m<=2880):∃r,M1 t m=O r/\Rn t m=O r:=by
 simp only[Fm,zE,decide_eq_true_eq,yB] at ht
 obtain⟨_,hl,hp⟩:=ht;have hlm:t.Parts.length<=maxLen:=by rw[Az]; omega
 have key:∀(k i n:J) (v:Y),i+k=t.Parts.length->k<n->∃r,JU m t n v (i:Y)=O r/\IT m t n v (i:Y)=O r:=by
  intro k
  induction k with
  | zero=>
   intro i n v hi hn;obtain⟨q,rfl⟩:∃q,n=q+1:=⟨n - 1,a9⟩;have:i=t.Parts.length:=by omega
   subst this;exact⟨v,by simp[JU],by simp[IT]⟩
  | succ k ih=>
   intro i n v hi hn;obtain⟨q,rfl⟩:∃q,n=q+1:=⟨n - 1,a9⟩;have hlt:i<t.Parts.length:=by omega
   have hx:=hp _ (zF hlt);simp only[I1,zE,decide_eq_true_eq] at hx
   obtain⟨_,hx1,hx2,hx3⟩:=hx;obtain⟨p1,p2,_⟩:=Vx hx1;rw[Ai a9 a9] at hx3
   have hw:=Ai (n:=m+t.Parts[i].Phase) a9 a9;obtain⟨r,e1,e2⟩:=ih (i+1) q (kZ .i64 (v+kZ .i64 (zZ (kZ .i64 (t.Parts[i].Amp*QF (yV (m+t.Parts[i].Phase) t.Parts[i].Period) t.Parts[i].Period)) 10000))) a9 a9;rw[<- Au hlt hlm] at e1 e2
   refine⟨r,?_,?_⟩
   .simp only[JU,Am,zC hlt,zB,Aj,hlt,decide_true,if_true,hw,A4s hx1 (show 0<=m+t.Parts[i].Phase by omega) a9];exact e1
   .simp only[IT,Am,zC hlt,zB,Aj,hlt,decide_true,if_true,hw,wy hx1 (show 0<=m+t.Parts[i].Phase by omega) a9];exact e2
 exact key t.Parts.length 0 bigN t.Mean a9 (BG hlm)
def tN{f:Xd}(h:Dt f=E):Fm f.Tide=E/\0<f.Surges.length/\f.Surges.length<=6:=by
 simp only[Dt,zE,decide_eq_true_eq] at h;refine⟨h.1,?_,?_⟩<;>omega
def A5s{f:Xd}{m:Y}(h0:0<f.Surges.length)(h6:f.Surges.length<=6):∃(a:J) (ha:a<f.Surges.length),Nf f m=O (a:Y)/\JV f m=O f.Surges[a]:=by
 have hl:f.Surges.length<=maxLen:=by rw[Az]; omega
 have key:∀(k i n a:J) (ha:a<f.Surges.length),i+k=f.Surges.length->k<n->∃(a':J) (ha':a'<f.Surges.length),FL m f n (a:Y) (i:Y)=O (a':Y)/\
   Ge m f n (i:Y) f.Surges[a].From f.Surges[a].Low f.Surges[a].High=O f.Surges[a']:=by
  intro k
  induction k with
  | zero=>
   intro i n a ha hi hn;obtain⟨q,rfl⟩:∃q,n=q+1:=⟨n - 1,a9⟩;have:i=f.Surges.length:=by omega
   subst this;exact⟨a,ha,by simp[FL],by simp[Ge]⟩
  | succ k ih=>
   intro i n a ha hi hn;obtain⟨q,rfl⟩:∃q,n=q+1:=⟨n - 1,a9⟩;have hlt:i<f.Surges.length:=by omega
   by_cases hm:f.Surges[i].From<=m
   .obtain⟨a',ha',e1,e2⟩:=ih (i+1) q i hlt a9 a9;rw[<- Au hlt hl] at e1 e2
    refine⟨a',ha',?_,?_⟩
    .simp only[FL,Am,zC hlt,zB,Aj,hlt,decide_true,if_true,hm];exact e1
    .simp only[Ge,Am,zC hlt,zB,Aj,hlt,decide_true,if_true,hm];exact e2
   .obtain⟨a',ha',e1,e2⟩:=ih (i+1) q a ha a9 a9;rw[<- Au hlt hl] at e1 e2
    refine⟨a',ha',?_,?_⟩
    .simp only[FL,Am,zC hlt,zB,Aj,hlt,decide_true,if_true,hm,decide_false,zD,if_false];exact e1
    .simp only[Ge,Am,zC hlt,zB,Aj,hlt,decide_true,if_true,hm,decide_false,zD,if_false];exact e2
 obtain⟨a,ha,e1,e2⟩:=key f.Surges.length 0 bigN 0 h0 a9 (BG hl);have z:((0:J):Y)=0:=rfl;rw[z] at e1 e2
 have e0:ix f.Surges 0=O f.Surges[0]:=Af h0;refine⟨a,ha,?_,?_⟩
 .unfold Nf;exact e1
 .unfold JV;rw[e0,zB];exact e2
def VO(s:X5):Y:=if s.Slow=E then kZ .i64 (zZ s.Draught 50) else kZ .i64 (zZ s.Draught 20)
def Kk(c:X4)(i:Y)(s:X5):Y:=kZ .i64 (kZ .i64 (kZ .i64 (s.Draught+VO s)+50) - (Aw c i).Depth)
def A4l{c:X4}{s:X5}{i:Y}(hn:∀x∈c.Points,x.Name.length<=maxLen)(hs:s.Name.length<=maxLen)(h1:AP c=E)(h2:CG s=E)(h3:idx i c.Segments.length=E):OV c i s=O (Kk c i s):=by
 have:=(Fi h1).2.1;unfold OV JZ RO RQ;simp only[E2 hn,Kw hs,h1,h2,zB,if_true,CR i (show c.Segments.length<=1000 by omega),h3,(BO h3).1,Kk,VO];cases s.Slow<;>rfl
def wj{c:X4}{s:X5}{i:Y}(hn:∀x∈c.Points,x.Name.length<=maxLen)(hs:s.Name.length<=maxLen)(h1:AP c=E)(h2:CG s=E)(h3:idx i c.Segments.length=E):Nk c i s=O (Kk c i s):=by
 unfold Nk IY Rk Rl;simp only[Gr hn,Gs hs,h1,h2,zB,if_true,Ep,h3,(BO h3).1,Kk,VO];cases s.Slow<;>rfl
def QG(l:Q X6)(i:J):Z:=match l[i]? with
 | some x=>decide (0<=x.From)&&(decide (x.From<=x.To)&&(decide (x.To<=2880)&&(match l[i - 1]? with | some y=>decide (i=0) || !(decide (x.From<=kZ .i64 (y.To+1))) | none=>E)))
 | none=>G
def QH(l:Q X6):Z:=(zK l.length).all (QG l)
def dI{α:Type}{l:Q α}{i:J}(h0:0<i)(hi:i<l.length)(hl:l.length<=maxLen):ix l (kZ .i64 ((i:Y) - 1))=O (l[i - 1]' a9):=by
 rw[Az] at hl
 rw[Ai a9 a9,show(i:Y) - 1=((i - 1:J):Y) by omega,Af a9]
def dw{l:Q X6}(hl:l.length<=maxLen):M0 l=O (QH l):=by
 unfold M0 QH;refine MW (L:=Gd l) l.length (QG l) hl (fun n i hi=> ?_) (fun n=>by simp[Gd]);have hp:i - 1<l.length:=by omega
 simp only[Gd,Aj,hi,decide_true,if_true,Af hi,zB,Bw,QG,zC hi,zC hp];generalize Gd l n (kZ .i64 ((i:Y)+1))=K
 by_cases h0:i=0
 .subst h0;have hz:¬(0:Y)<((0:J):Y):=by omega
  simp only[hz,decide_false,zD,if_false,decide_true,Bool.true_or];by_cases a1:0<=l[0].From<;>by_cases a2:l[0].From<=l[0].To<;>by_cases a3:l[0].To<=2880<;>by_cases a4:l[0].From<=2880<;>simp[a1,a2,a3,a4]<;>omega
 .have hz:(0:Y)<(i:Y):=by omega
  simp only[hz,decide_true,if_true,dI a9 hi hl,zB,h0,decide_false,Bool.false_or];by_cases a1:0<=l[i].From<;>by_cases a2:l[i].From<=l[i].To<;>by_cases a3:l[i].To<=2880<;>by_cases a4:l[i].From<=2880<;>by_cases a5:l[i].From<=kZ .i64 (l[i - 1].To+1)<;>simp[a1,a2,a3,a4,a5]<;>omega
def bQ{l:Q X6}(hl:l.length<=maxLen):Lg l=O (QH l):=by
 unfold Lg QH;refine MW (L:=FP l) l.length (QG l) hl (fun n i hi=> ?_) (fun n=>by simp[FP]);have hp:i - 1<l.length:=by omega
 simp only[FP,Aj,hi,decide_true,if_true,Af hi,zB,QG,zC hi,zC hp];generalize FP l n (kZ .i64 ((i:Y)+1))=K
 have b1:decide (l[i].From<0)= !decide (0<=l[i].From):=by rw[zR]; simp
 have b2:decide (l[i].To<l[i].From)= !decide (l[i].From<=l[i].To):=by rw[zR]; simp
 have b3:decide (2880<l[i].To)= !decide (l[i].To<=2880):=by rw[zR]; simp
 rw[b1,b2,b3];by_cases h0:i=0
 .subst h0;have hz:¬(0:Y)<((0:J):Y):=by omega
  simp only[hz,decide_false,zD,if_false,decide_true,Bool.true_or];cases decide (0<=l[0].From)<;>cases decide (l[0].From<=l[0].To)<;>cases decide (l[0].To<=2880)<;>rfl
 .have hz:(0:Y)<(i:Y):=by omega
  simp only[hz,decide_true,if_true,dI a9 hi hl,zB,h0,decide_false,Bool.false_or];cases decide (0<=l[i].From)<;>cases decide (l[i].From<=l[i].To)<;>cases decide (l[i].To<=2880)<;>cases decide (l[i].From<=kZ .i64 (l[i - 1].To+1))<;>rfl
def Dd(g:J->Z)(n:J):Z:=decide (0<n)&&g (n - 1)
def T2(v:Q X6)(n:Y):Q X6:=v.dropLast++ [⟨(v.getLast?.getD ⟨0,0⟩).From,n⟩]
def B2(g:J->Z):J->Q X6
 | 0=> []
 | n+1=>if g n=E then(if Dd g n=E then T2 (B2 g n) (n:Y) else B2 g n++ [⟨(n:Y),(n:Y)⟩]) else B2 g n
def cl(g:J->Z)(n:J):Dd g (n+1)=g n:=by simp[Dd]
def VJ(l:Q X6)(x:X6)(n:Y):T2 (l++ [x]) n=l++ [⟨x.From,n⟩]:=by simp[T2]
def Tf(g:J->Z):∀n,(B2 g n).length<=n/\(Dd g n=E->∃l x,B2 g n=l++ [x]/\x.To=(n:Y) - 1)/\(Dd g n=G->B2 g n= []\/∃l x,B2 g n=l++ [x]/\x.To<(n:Y) - 1)
 | 0=>⟨by simp[B2],by simp[Dd],fun _=> .inl rfl⟩
 | n+1=>by
  obtain⟨h1,h2,h3⟩:=Tf g n;rw[cl];by_cases hg:g n=E
  .by_cases ho:Dd g n=E
   .obtain⟨l,x,e,ht⟩:=h2 ho;have ew:B2 g (n+1)=l++ [⟨x.From,(n:Y)⟩]:=by simp only[B2,hg,if_true,ho,e,VJ]
    refine⟨by rw[ew]; rw[e] at h1; simp at h1 ⊢; omega,fun _=>⟨l,_,ew,by simp only; omega⟩,fun h=>by rw[hg] at h; cases h⟩
   .have ew:B2 g (n+1)=B2 g n++ [⟨(n:Y),(n:Y)⟩]:=by simp only[B2,hg,if_true,ho,if_false]; rfl
    refine⟨by rw[ew]; simp; omega,fun _=>⟨_,_,ew,by simp only; omega⟩,fun h=>by rw[hg] at h; cases h⟩
  .have ew:B2 g (n+1)=B2 g n:=by simp[B2,hg]
   rw[ew];refine⟨a9,fun h=>absurd h hg,fun _=> ?_⟩;cases ho:Dd g n with
   | true=>
    obtain⟨l,x,e,ht⟩:=h2 ho;exact .inr ⟨l,x,e,a9⟩
   | false=>
    rcases h3 ho with e|⟨l,x,e,ht⟩
    .exact .inl e
    .exact .inr ⟨l,x,e,a9⟩
def fy{g g':J->Z}:∀n,(∀j,j<n->g j=g' j)->B2 g n=B2 g' n
 | 0,_=>rfl
 | n+1,h=>by
  have e1:Dd g n=Dd g' n:=by
   unfold Dd;by_cases h0:0<n
   .rw[h (n - 1) a9]
   .simp[h0]
  simp only[B2,h n a9,e1,fy n fun j hj=>h j a9]
def SM{l:Q X6}{x:X6}(h:l.length<=100000):ix (l++ [x]) (kZ .i64 (((l++ [x]).length:Y) - 1))=O x/\Int.toNat (kZ .i64 (((l++ [x]).length:Y) - 1))=l.length:=by
 have e:kZ .i64 (((l++ [x]).length:Y) - 1)=((l.length:J):Y):=by
  rw[Ai (by simp<;>omega) (by simp<;>omega)];simp
 rw[e];exact⟨by rw[Af d0]; simp,d0⟩
def A4m{L:Q Z}(hl:L.length<=3000):Ph L=O (B2 (fun i=>L.getD i G) L.length):=by
 unfold Ph
 have key:∀(k i n:J),i+k=L.length->k<n->EZ L n (i:Y) (B2 (fun i=>L.getD i G) i)=O (B2 (fun i=>L.getD i G) L.length):=by
  intro k
  induction k with
  | zero=>
   intro i n hi hn;obtain⟨m,rfl⟩:∃m,n=m+1:=⟨n - 1,a9⟩;have:i=L.length:=by omega
   subst this;simp[EZ]
  | succ k ih=>
   intro i n hi hn;obtain⟨m,rfl⟩:∃m,n=m+1:=⟨n - 1,a9⟩;have hlt:i<L.length:=by omega
   have ih':=ih (i+1) m a9 a9;have hw:=Au hlt (show L.length<=maxLen by rw[Az]; omega);obtain⟨w1,w2,w3⟩:=Tf (fun i=>L.getD i G) i;have hgi:L.getD i G=L[i]:=by simp[hlt]
   rw[B2] at ih'
   simp only[hgi] at ih'
   simp only[EZ,Aj,hlt,decide_true,if_true,Af hlt,zB];have hwm:kZ .i64 ((i:Y) - 1)=(i:Y) - 1:=Ai a9 a9;generalize hwi:B2 (fun i=>L.getD i G) i=v at *
   cases hb:L[i] with
   | false=>
    rw[hb] at ih'
    simp only[zD,if_false] at ih' ⊢
    rw[hw];exact ih'
   | true=>
    rw[hb] at ih'
    simp only[if_true] at ih' ⊢
    cases ho:Dd (fun i=>L.getD i G) i with
    | true=>
     rw[ho] at ih'
     obtain⟨l,x,rfl,ht⟩:=w2 ho;obtain⟨q1,q2⟩:=SM (l:=l) (x:=x) (by simp at w1; omega);have hpos:0<(l++ [x]).length:=by simp
     have hpos':decide ((0:Y)<((l++ [x]).length:Y))=E:=decide_eq_true a9;rw[if_pos hpos',q1];simp only[zB,JW,hwm,ht,beq_self_eq_true,if_true,q1,q2];rw[hw];simp only[if_true,VJ] at ih'
     simpa using ih'
    | false=>
     rw[ho] at ih'
     simp only[zD,if_false] at ih'
     have fin:∀w:Q X6,w=v->JW (i:Y) L w (EZ L m) G=O (B2 (fun i=>L.getD i G) L.length):=by
      rintro w rfl
      simp only[JW,zD,if_false];rw[PK d3 a9,hw];exact ih'
     rcases w3 ho with rfl|⟨l,x,rfl,ht⟩
     .exact fin [] rfl
     .obtain⟨q1,q2⟩:=SM (l:=l) (x:=x) (by simp at w1; omega);have hpos':decide ((0:Y)<((l++ [x]).length:Y))=E:=decide_eq_true (by simp<;>omega);have hne:(x.To==(i:Y) - 1)=G:=by simp<;>omega
      rw[if_pos hpos',q1];simp only[zB,hwm,hne];exact fin _ zA
 exact key L.length 0 bigN a9 (BG (by rw[Az]; omega))
def wm{a0:Y->X Z}{g:J->Z}(h:∀i:J,i<=2880->a0 (i:Y)=O (g i)):NT a0=O (B2 g 2881):=by
 unfold NT
 have key:∀(k i n:J),i+k=2881->k<n->FX a0 n (Dd g i) (i:Y) (B2 g i)=O (B2 g 2881):=by
  intro k
  induction k with
  | zero=>
   intro i n hi hn;obtain⟨m,rfl⟩:∃m,n=m+1:=⟨n - 1,a9⟩;have:i=2881:=by omega
   subst this;simp[FX]
  | succ k ih=>
   intro i n hi hn;obtain⟨m,rfl⟩:∃m,n=m+1:=⟨n - 1,a9⟩;have hle:decide ((i:Y)<=2880)=E:=decide_eq_true a9;have ih':=ih (i+1) m a9 a9;have hw:kZ .i64 ((i:Y)+1)=((i+1:J):Y):=Au (n:=2881) a9 (by rw[Az]; omega);obtain⟨w1,w2,w3⟩:=Tf g i;rw[cl,B2] at ih'
   simp only[FX,hle,if_true,h i a9,zB];generalize hwi:B2 g i=v at *
   cases hb:g i with
   | false=>
    rw[hb] at ih'
    simp only[zD,if_false,J4] at ih' ⊢
    rw[hw];exact ih'
   | true=>
    rw[hb] at ih'
    simp only[if_true] at ih' ⊢
    cases ho:Dd g i with
    | true=>
     rw[ho] at ih'
     obtain⟨l,x,rfl,ht⟩:=w2 ho;obtain⟨q1,q2⟩:=SM (l:=l) (x:=x) (by simp at w1; omega);simp only[if_true,Ls,q1,zB,J4,q2];rw[hw];simp only[if_true,VJ] at ih'
     simpa using ih'
    | false=>
     rw[ho] at ih'
     simp only[zD,if_false] at ih' ⊢
     rw[PK d3 a9];obtain⟨q1,q2⟩:=SM (l:=v) (x:=⟨(i:Y),0⟩) a9;simp only[Ls,q1,zB,J4,q2];rw[hw];simpa using ih'
 have:=key 2881 0 bigN a9 (BG (by rw[Az]; omega));exact this
def Dy(f:Xd)(m:J):Y:=kZ .i64 ((M1 f.Tide (m:Y)).getD 0+((JV f (m:Y)).getD ⟨0,0,0⟩).Low)
def cG{f:Xd}(hf:Dt f=E){m:J}(hm:m<=2880):∃r x,M1 f.Tide (m:Y)=O r/\JV f (m:Y)=O x/\Dy f m=kZ .i64 (r+x.Low)/\Nd f (m:Y)=O (Dy f m):=by
 obtain⟨ht,h0,h6⟩:=tN hf;obtain⟨r,r1,r2⟩:=A0g ht (show(0:Y)<=(m:Y) by omega) a9;obtain⟨a,ha,a1,a2⟩:=A5s (m:=(m:Y)) h0 h6;refine⟨r,_,r1,a2,by simp[Dy,r1,a2],?_⟩;unfold Nd;simp[r2,a1,Af ha,Dy,r1,a2]
def A0h{f:Xd}(hf:Dt f=E)(lv:Y):Pf f lv G=O (B2 (fun i=>decide (lv<=Dy f i)) 2881):=by
 unfold Pf
 have key:∀(k i n:J),i+k=2881->k<n->Hv lv f n G (i:Y) ((zK i).map fun j=>decide (lv<=Dy f j))=O (B2 (fun i=>decide (lv<=Dy f i)) 2881):=by
  intro k
  induction k with
  | zero=>
   intro i n hi hn;obtain⟨m,rfl⟩:∃m,n=m+1:=⟨n - 1,a9⟩;have:i=2881:=by omega
   subst this;have hd:decide (((2881:J):Y)<=2880)=G:=by decide
   simp only[Hv,hd,zD,if_false];rw[A4m d0];simp only[zB,List.length_map,List.length_range];refine congrArg O (fy 2881 fun j hj=> ?_);show(((zK 2881).map fun j=>decide (lv<=Dy f j)).getD j G)=_
   rw[List.getD_eq_getElem?_getD,kB,List.getElem?_range hj];rfl
  | succ k ih=>
   intro i n hi hn;obtain⟨m,rfl⟩:∃m,n=m+1:=⟨n - 1,a9⟩;have hle:decide ((i:Y)<=2880)=E:=decide_eq_true a9;have hw:kZ .i64 ((i:Y)+1)=((i+1:J):Y):=Au (n:=2881) a9 (by rw[Az]; omega);obtain⟨r,x,e1,e2,e3,_⟩:=cG hf (show i<=2880 by omega);simp only[Hv,hle,if_true,e2,zB,zD,if_false,Pg,e1];rw[PK d3 a9,hw];have:=ih (i+1) m a9 a9;rw[List.range_succ,kW] at this
   simpa[e3] using this
 have:=key 2881 0 bigN a9 (BG (by rw[Az]; omega));exact this
def A0r{f:Xd}(hf:Dt f=E)(lv:Y):Nl f lv=O (B2 (fun i=>decide (lv<=Dy f i)) 2881):=by
 unfold Nl;rw[Mi,hf];simp only[zB,if_true];rw[wm (g:=fun i=>decide (lv<=Dy f i)) fun i hi=> ?_]
 .rfl
 .obtain⟨_,_,_,_,_,e⟩:=cG hf hi;simp[Ri,e]
def fz(g:J->Z):∀n,∀w∈B2 g n,0<=w.From/\w.From<=w.To/\w.To<(n:Y)
 | 0,w,h=>by cases h
 | n+1,w,h=>by
  have ih:=fz g n;simp only[B2] at h;split at h
  .split at h
   .unfold T2 at h;rcases zV.1 h with h|h
    .have:=ih w ((List.dropLast_sublist _).subset h); omega
    .simp only[zS] at h;subst h;cases e:(B2 g n).getLast? with
     | none=>simp only[Option.getD_none]; omega
     | some x=>have:=ih x (List.mem_of_getLast? e); simp only[Option.getD_some]; omega
   .rcases zV.1 h with h|h
    .have:=ih w h; omega
    .simp only[zS] at h;subst h;simp only;omega
  .have:=ih w h; omega
def A4d(a1:Y)(a0:Q X6)(hl:a0.length<=100000)(hb:0<=a1)(hb2:a1<=2880)(hW:∀w∈a0,0<=w.From/\w.From<=w.To/\w.To<(2881:Y)):∃r,Gc a1 a0 bigN 0 []=O r/\FO a1 a0 bigN 0 []=O r/\r.length<=a0.length/\∀w∈r,0<=w.From/\w.From<=w.To/\w.To+a1<=2880:=by
 have key:∀(k i n:J) (acc:Q X6),i+k=a0.length->k<n->acc.length<=i->(∀w∈acc,0<=w.From/\w.From<=w.To/\w.To+a1<=2880)->∃r,Gc a1 a0 n (i:Y) acc=O r/\FO a1 a0 n (i:Y) acc=O r/\r.length<=a0.length/\∀w∈r,0<=w.From/\w.From<=w.To/\w.To+a1<=2880:=by
  intro k
  induction k with
  | zero=>
   intro i n acc hi hn ha hq;obtain⟨m,rfl⟩:∃m,n=m+1:=⟨n - 1,a9⟩;have:i=a0.length:=by omega
   subst this;exact⟨acc,by simp[Gc],by simp[FO],ha,hq⟩
  | succ k ih=>
   intro i n acc hi hn ha hq;obtain⟨m,rfl⟩:∃m,n=m+1:=⟨n - 1,a9⟩;have hlt:i<a0.length:=by omega
   simp only[Gc,FO,Aj,hlt,decide_true,if_true,Af hlt,zB];rw[Au hlt (show a0.length<=maxLen by rw[Az]; omega)];by_cases hc:a1<=kZ .i64 (a0[i].To - a0[i].From)
   .simp only[hc,decide_true,if_true];rw[PK d3 a9,PK d3 a9];refine ih (i+1) m _ a9 a9 d3 fun w hw=> ?_
    have hx:=hW _ (zF hlt);rw[Ai (n:=a0[i].To - a0[i].From) a9 a9] at hc
    rcases zV.1 hw with hw|hw
    .exact hq w hw
    .simp only[zS] at hw
     subst hw;simp only;rw[Ai a9 a9];omega
   .simp only[hc,decide_false,zD,if_false];exact ih (i+1) m _ a9 a9 a9 hq
 exact key a0.length 0 bigN [] a9 (BG (by rw[Az]; omega)) d0 (fun w h=>by cases h)
def A48{f:Xd}{c:X4}{s:X5}{i:Y}(hf:Dt f=E)(hn:∀x∈c.Points,x.Name.length<=maxLen)(hs:s.Name.length<=maxLen)(h1:AP c=E)(h2:CG s=E)(h3:idx i c.Segments.length=E) :
  ∃r,Pa f c i s=O r/\Ny f c i s=O r/\r.length<=2881/\∀w∈r,0<=w.From/\w.From<=w.To/\w.To+AH (Aw c i) s<=2880:=by
 have hsg:=(Fi h1).2.1;have hW:=(Tf (fun j=>decide (Kk c i s<=Dy f j)) 2881).1;have hB:=fz (fun j=>decide (Kk c i s<=Dy f j)) 2881
 have hmb:1<=AH (Aw c i) s/\AH (Aw c i) s<=480:=by
  obtain⟨_,_,a,b⟩:=(Fi h1).2.2 _ (BO h3).2;unfold AH;split
  .rw[Ai (n:=2*_) a9 a9]; omega
  .omega
 have hmin:Nm c i s=O (AH (Aw c i) s):=by
  unfold Nm;simp only[Gr hn,Gs hs,h1,h2,zB,if_true,Ep,h3,(BO h3).1,PL]
 have hok1:JZ c i s=O E:=by
  unfold JZ;simp only[E2 hn,Kw hs,h1,h2,zB,if_true,CR i (show c.Segments.length<=1000 by omega),h3]
 have hok2:IY c i s=O E:=by
  unfold IY;simp only[Gr hn,Gs hs,h1,h2,zB,if_true,Ep,h3]
 unfold Pa RW Ny;simp only[VM,Mi,hf,zB,if_true,hok1,hok2,A4l hn hs h1 h2 h3,wj hn hs h1 h2 h3,A0h hf,A0r hf,dt hn hs h1 h2 h3,hmin];generalize B2 (fun j=>decide (Kk c i s<=Dy f j)) 2881=W at hW hB
 have hWm:W.length<=maxLen:=by rw[Az]; omega
 unfold RP Rm;simp only[dw hWm,bQ hWm,zB,Bw,HQ];obtain⟨r,r1,r2,r3,r4⟩:=A4d (AH (Aw c i) s) W a9 a9 a9 hB;by_cases hw:QH W=E
 .by_cases hm:(decide (0<=AH (Aw c i) s)&&decide (AH (Aw c i) s<=2880))=E
  .exact⟨r,by simp only[hw,hm,if_true,r1,zB],by simp only[hw,hm,if_true,r2,zB],a9,r4⟩
  .exact⟨[],by simp[hw,hm],by simp[hw,hm],d0,fun w h=>by cases h⟩
 .exact⟨[],by simp[hw],by simp[hw],d0,fun w h=>by cases h⟩
def sn{n:J}(h:0<n):∃q,n=q+1:=⟨n - 1,a9⟩
def Ak{n:J}(h:n<=1000000000000):n<=maxLen:=by rw[Az]; omega
def AT{n k b:J}(h:n<=100000000)(hk:k<=1000)(hb:b<=1000):Ab n k b=E:=by
 have:(n+k)*b<=100001000*1000:=yX a9 hb;simp only[Ab,decide_eq_true_eq];omega
def Bi(P:J->J->Prop){len:J}(hl:len<=maxLen)(h0:∀n,P (n+1) len)(hs:∀n i,i<len->P n (i+1)->P (n+1) i){i:J}(hi:i<=len):P bigN i:=by
 have key:∀k i n,i+k=len->k<n->P n i:=by
  intro k
  induction k with
  | zero=>
   intro i n h1 h2;obtain⟨q,rfl⟩:=sn (n:=n) a9;obtain rfl:i=len:=by omega
   exact h0 q
  | succ k ih=>
   intro i n h1 h2;obtain⟨q,rfl⟩:=sn (n:=n) a9;exact hs q i a9 (ih _ _ a9 a9)
 exact key (len - i) i bigN a9 (yW (Nat.sub_le _ _) (BG hl))
def FA{α R:Type}{L:J->Y->X R}(l:Q α)(p:α->Z)(x K:X R)(hl:l.length<=maxLen)
  (hs:∀(n i:J) (h:i<l.length),L (n+1) (i:Y)=if p l[i]=E then x else L n (kZ .i64 ((i:Y)+1))) (he:∀n,L (n+1) (l.length:Y)=K):L bigN 0=if l.any p=E then x else K:=by
 have:=Bi (fun n i=>L n (i:Y)=if(l.drop i).any p=E then x else K) hl (fun n=>by simpa using he n) (fun n i h ih=>by
  simp only[hs n i h,Au h hl,ih,zW h,List.any_cons];cases p l[i]<;>simp) (zJ _)
 simpa using this
def HT{α:Type}{l:Q α}{x:α}(hl:l.length<=maxLen)(h:l.getLast?=O x):ix l (kZ .i64 ((l.length:Y) - 1))=O x:=by
 have h0:0<l.length:=by cases l with | nil=>cases h | cons=>simp
 rw[show(l.length:Y) - 1=((l.length - 1:J):Y) by omega,Ai a9 (by rw[Az] at hl; omega),Am,<- zX,h]
def Mh{i:Y}{n:J}:idx i n=E↔0<=i/\i<(n:Y):=by simp[idx]
def Ch{c:X4}(h:AP c=E):c.Points.length<=8/\c.Segments.length<=10/\(∀x∈c.Points,x.Name.length<=maxLen)/\∀x∈c.Segments,idx x.A c.Points.length=E/\idx x.B c.Points.length=E:=by
 simp only[AP,zE,decide_eq_true_eq,yB,kK] at h;obtain⟨h1,h2,h3,h4⟩:=h;refine⟨h1,h2,fun x hx=> ?_,fun x hx=> ?_⟩
 .obtain⟨i,hi,rfl⟩:=zN hx;have:=h3 i hi;simp only[I2,zC hi,zE] at this
  exact Ak (by have:=(A1g this.1).2; omega)
 .obtain⟨i,hi,rfl⟩:=zN hx;have:=h4 i hi;simp only[E1,zC hi,zE,decide_eq_true_eq] at this
  exact⟨this.1,this.2.1⟩
def Gy{c:X4}{s:X5}{i:Y}(hc:AP c=E)(hi:idx i c.Segments.length=E):1<=AH (Aw c i) s/\AH (Aw c i) s<=480:=by
 obtain⟨_,_,a,b⟩:=(Fi hc).2.2 _ (BO hi).2;unfold AH;split
 .rw[Ai (n:=2*_) a9 a9]; omega
 .omega
def BV(h:X3)(a:X8):Z:=idx a.Ship h.Fleet.length&&(idx a.From h.Chart.Points.length&&(idx a.To h.Chart.Points.length&&(decide (a.From≠a.To)&&(C7 a.Ready&&(decide (a.Ready<=a.Due)&&decide (a.Due<=2880))))))
def UX(h:X3)(a:X8):Li h a=O (BV h a):=by
 unfold Li BV;simp only[Ep,zB,HQ,D8,KT,C7,Sp];cases idx a.Ship h.Fleet.length<;>cases idx a.From h.Chart.Points.length<;>cases idx a.To h.Chart.Points.length<;>simp[bne_iff_ne]
def UV{h:X3}(s:HSmall h)(a:X8):Iw h a=O (B4 h&&BV h a):=by
 unfold Iw;rw[bO s,zB,UX];cases B4 h<;>rfl
def F2{h:X3}(hh:B4 h=E):Dt h.Forecast=E/\AP h.Chart=E/\DK h.Fleet=E/\Kt h.Regime=E/\FH h.Crew=E:=by
 simpa only[B4,zE] using hh
def Qt{h:X3}(s:HSmall h)(a:X8):G7 h a=O (B4 h&&BV h a):=by
 unfold G7;rw[dq s,zB];cases hh:B4 h with
 | false=>simp
 | true=>
  obtain⟨_,hc,hf,_,_⟩:=F2 hh;have h1:=(Ma hf).1;have h2:=(Ch hc).1;simp only[if_true,CR _ (show h.Fleet.length<=1000 by omega),CR _ (show h.Chart.Points.length<=1000 by omega),zB,Bw,BV,zQ,KT,C7,Sp];cases idx a.Ship h.Fleet.length<;>cases idx a.From h.Chart.Points.length<;>cases idx a.To h.Chart.Points.length<;>simp[bne_iff_ne]
def oQ(a1:Q X8)(v4:Y)(a0:X3)(x6:X8)(y10:Q X8)(y11:Y)(K:Y->X Z):∀n v,LM a1 v4 a0 x6 y10 y11 K n v=FJ a1 v4 a0 x6 y10 y11 K n v:=by
 intro n
 induction n with
 | zero=>intro v; rfl
 | succ n ih=>intro v; simp only[LM,FJ,ih,BEq.comm (a:=x6.Ship)]
def oP{h:X3}(s:HSmall h)(hh:B4 h=E)(cs:Q X8):∀n v,LL cs h n v=Ec cs h n v:=by
 intro n
 induction n with
 | zero=>intro v; rfl
 | succ n ih=>intro v; simp only[LL,Ec,Qt s,UX,hh,zQ,oQ,funext ih]
def oR{h:X3}(s:HSmall h){cs:Q X8}:∃b,OG h cs=O b/\Na h cs=O b/\(b=E->B4 h=E/\cs.length<=6/\∀a∈cs,BV h a=E):=by
 unfold OG Na;rw[dq s,bO s,zB];cases hh:B4 h with
 | false=>exact⟨G,rfl,rfl,fun h=>by cases h⟩
 | true=>
  simp only[if_true,funext (oP s hh cs _),zB];by_cases h6:(6:Y)<(cs.length:Y)
  .simp only[h6,decide_true,if_true];exact⟨G,zA,zA,fun h=>by cases h⟩
  .simp only[h6,decide_false,zD,if_false];have hl:cs.length<=maxLen:=Ak a9
   have:=Bi (fun n i=>∃b,Ec cs h n (i:Y)=O b/\(b=E->∀j (hj:j<cs.length),i<=j->BV h cs[j]=E)) hl (fun n=>⟨E,by simp[Ec],fun _ j h1 h2=>by omega⟩) (fun n i hi ih=>by
    obtain⟨b,e1,e2⟩:=ih;rw[Ec];simp only[Aj,hi,decide_true,if_true,Af hi,zB,UX,FE (Nat.le_of_lt hi),yY,kP];cases hok:BV h cs[i] with
    | false=>exact⟨G,rfl,fun h=>by cases h⟩
    | true=>
     simp only[if_true]
     have e:=FA (L:=FJ cs (i:Y) h cs[i] (cs.take i) ((cs.take i).length:Y) (Ec cs h n)) (cs.take i) (fun x=>x.Ship==cs[i].Ship) (O G) (Ec cs h n (kZ .i64 ((i:Y)+1))) (Ak d3) (fun m j hj=>by
      rw[FJ];simp only[Aj,hj,decide_true,if_true,Af hj,zB]) fun m=>by rw[FJ,if_neg d0]
     rw[e,Au hi hl,e1];split
     .exact⟨G,zA,fun h=>by cases h⟩
     .refine⟨b,zA,fun hb j h1 h2=> ?_⟩;by_cases hji:j=i
      .subst hji; exact hok
      .exact e2 hb j h1 a9) (zJ _)
   obtain⟨b,e1,e2⟩:=this
   exact⟨b,e1,e1,fun hb=>⟨trivial,a9,fun a ha=>by
    obtain⟨j,hj,rfl⟩:=zN ha;exact e2 hb j hj (zJ _)⟩⟩
def BY(x:X2)(a:Y):Y:=if a=x.A then x.B else if a=x.B then x.A else -1
def U6(x:X2)(a:Y):Lf x a=O (BY x a):=by
 unfold Lf BY;by_cases h1:a=x.A
 .rw[if_pos (by simpa using h1),if_pos h1]
 .rw[if_neg (by simpa using h1),if_neg h1];by_cases h2:a=x.B
  .rw[if_pos (by simpa using h2),if_pos h2]
  .rw[if_neg (by simpa using h2),if_neg h2]
def Vr(x:X2)(a:Y):Pj x a=O (BY x a):=U6 x a
def YP{c:X4}(hc:AP c=E){x:X2}(hx:x∈c.Segments)(a:Y):BY x a= -1\/idx (BY x a) c.Points.length=E:=by
 obtain⟨h1,h2⟩:=(Ch hc).2.2.2 x hx;unfold BY;split
 .exact Or.inr h2
 .split
  .exact Or.inr h1
  .exact Or.inl zA
def Um{l:Q Y}(hl:l.length<=maxLen)(a:Y):M2 l a=O (l.any fun x=>x==a):=by
 have:=FA (L:=JX a l) l (fun x=>x==a) (O E) (O G) hl (fun n i h=>by
  rw[JX];simp only[Aj,h,decide_true,if_true,Af h,zB]) fun n=>by simp[JX]
 unfold M2;rw[this];cases l.any fun x=>x==a<;>rfl
def Eu(y:Xa):Q Z:= [y.i0,y.i1,y.i2,y.i3,y.i4,y.i5,y.i6,y.i7]
def dl(y:Xa){n:J}(hn:n<8):Eu (Xa.set y n E)=(Eu y).set n E:=by
 have:n=0\/n=1\/n=2\/n=3\/n=4\/n=5\/n=6\/n=7:=by omega
 rcases this with rfl|rfl|rfl|rfl|rfl|rfl|rfl|rfl<;>rfl
def Met(y:Xa)(l:Q Y):Prop:=∀x:Y,0<=x->x<8->ix (Eu y) x=O (l.any fun z=>z==x)
def Met.snoc{y:Xa}{l:Q Y}(H:Met y l){r:Y}(h0:0<=r)(h8:r<8):Met (Xa.set y r.toNat E) (l++ [r]):=fun x x0 x8=>by
 obtain⟨n,rfl⟩:∃n:J,r=(n:Y):=⟨r.toNat,a9⟩;obtain⟨m,rfl⟩:∃m:J,x=(m:Y):=⟨x.toNat,a9⟩;have hl:(Eu y).length=8:=rfl;have hm:=H m x0 x8;rw[Am] at hm
 rw[zP,dl y a9,Am,List.getElem?_set,hm];by_cases e:n=m
 .subst e;rw[if_pos rfl,if_pos a9];simp
 .rw[if_neg e];have:((n:Y)==(m:Y))=G:=beq_eq_false_iff_ne.2 a9;simp[this]
structure RtOk (c:X4) (rt l:Q Y):Prop where
 len:l.length=rt.length+1
 pt:∀x∈l,idx x c.Points.length=E
 seg:∀i (h:i<rt.length),idx rt[i] c.Segments.length=E
 stp:∀i (h:i<rt.length),∃x,l[i]?=O x/\l[i+1]?=O (BY (Aw c rt[i]) x)/\0<=BY (Aw c rt[i]) x
def dF{c:X4}(hc:AP c=E){rt:Q Y}{a:Y}(ha:idx a c.Points.length=E)(hl:rt.length<=10000000) :
  ∃l b,Hx c a rt=O (l,b)/\Iz c a rt=O (l,b)/\(b=G->l= [])/\(b=E->RtOk c rt l):=by
 obtain⟨hp8,hs10,_,_⟩:=Ch hc;have ha':=Mh.1 ha;have fail:∃l b,(O (([]:Q Y),G):X (Q Y × Z))=O (l,b)/\(O (([]:Q Y),G):X (Q Y × Z))=O (l,b)/\(b=G->l= [])/\(b=E->RtOk c rt l):=⟨[],G,rfl,rfl,fun _=>rfl,fun h=>by cases h⟩
 have main:=Bi (fun n i=>∀v5 v7 l,l.getLast?=O v5->l.length=i+1->Met v7 l->(∀x∈l,idx x c.Points.length=E)->
   (∀j (h:j<rt.length),j<i->idx rt[j] c.Segments.length=E/\∃x,l[j]?=O x/\l[j+1]?=O (BY (Aw c rt[j]) x)/\0<=BY (Aw c rt[j]) x)->
   ∃l' b,El rt c n (i:Y) l=O (l',b)/\GZ rt c n v5 (i:Y) v7 l=O (l',b)/\(b=G->l'= [])/\(b=E->RtOk c rt l')) (len:=rt.length) (Ak a9)
  (fun n v5 v7 l h1 h2 h3 h4 h5=>⟨l,E,by simp[El],by simp[GZ],(fun h=>by cases h),fun _=>⟨h2,h4,fun j h=>(h5 j h h).1,fun j h=>(h5 j h h).2⟩⟩)
  (fun n i hi ih v5 v7 l h1 h2 h3 h4 h5=>by
   rw[El,GZ];simp only[Aj,hi,decide_true,if_true,Af hi,zB,Ep,CR _ (show c.Segments.length<=1000 by omega)];cases hx:idx rt[i] c.Segments.length with
   | false=>exact fail
   | true=>
    simp only[if_true,(BO hx).1,zB,HT (Ak a9) h1,Vr,U6];have he:=YP hc (BO hx).2 v5;have hr:∃r,BY (Aw c rt[i]) v5=r:=⟨_,rfl⟩;obtain⟨r,hr⟩:=hr;rw[hr] at he ⊢
    by_cases h0:r<0
    .simp only[h0,decide_true,if_true,IA,Hy];exact fail
    .have hri:=he.resolve_left a9;have hr':=Mh.1 hri;have hd:(decide (0<=r)&&decide (r<8))=E:=by simp; omega
     have hm:=h3 r hr'.1 a9;unfold Eu at hm
     simp only[h0,decide_false,zD,if_false,hd,if_true,Um (Ak (n:=l.length) a9),zB,hm];cases hb:l.any fun z=>z==r with
     | true=>simp only[IA,Hy,if_true]; exact fail
     | false=>
      simp only[IA,Hy,zD,if_false,hd,if_true];rw[if_pos (AT a9 d0 a9),if_pos (AT a9 d0 a9),Au hi (Ak a9)];refine ih r _ _ d0 d3 (h3.snoc hr'.1 a9) (fun x hx=> ?_) fun j h1' h2'=> ?_
      .rcases zV.1 hx with hx|hx
       .exact h4 x hx
       .simp only[zS] at hx; exact hx▸hri
      .by_cases hji:j=i
       .subst hji;refine⟨hx,v5,?_,?_,by rw[hr]; exact hr'.1⟩
        .rw[zH a9,<- h1,zX,h2]; rfl
        .rw[zT a9,h2,hr]; simp
       .obtain⟨g1,x,g2,g3,g4⟩:=h5 j h1' a9;exact⟨g1,x,by rw[zH a9]; exact g2,by rw[zH a9]; exact g3,g4⟩) (zJ _)
 have hd:(decide (0<=a)&&decide (a<8))=E:=by simp; omega
 unfold Hx Iz;rw[Ep,ha,zB];simp only[if_true,hd]
 have m0:Met ⟨G,G,G,G,G,G,G,G⟩ []:=fun x x0 x8=>by
  obtain⟨n,rfl⟩:∃n:J,x=(n:Y):=⟨x.toNat,a9⟩;have:n=0\/n=1\/n=2\/n=3\/n=4\/n=5\/n=6\/n=7:=by omega
  rcases this with rfl|rfl|rfl|rfl|rfl|rfl|rfl|rfl<;>rfl
 exact main a _ [a] rfl zA (m0.snoc ha'.1 a9) (by simpa using ha) fun j _ h=>by omega
def VF{c:X4}(hc:AP c=E){rt:Q Y}{a:Y}(hl:rt.length<=10000000) :
  ∃l b,Ej c a rt=O b/\FM c a rt=O b/\Ek c a rt=O l/\Ed c a rt=O l/\(b=G->l= [])/\(b=E->RtOk c rt l):=by
 have hn:=(Ch hc).2.2.1;have h8:=(Ch hc).1;unfold Ek Ed Ej FM;simp only[E2 hn,Gr hn,hc,zB,if_true,CR _ (show c.Points.length<=1000 by omega)];cases ha:idx a c.Points.length with
 | false=>
  refine⟨[],G,zA,?_,zA,?_,fun _=>rfl,fun h=>by cases h⟩<;>(unfold Iz; rw[Ep,ha]; rfl)
 | true=>
  obtain⟨l,b,e1,e2,e3,e4⟩:=dF hc ha hl;refine⟨l,b,by simp only[if_true,e1,zB],by simp only[e2,zB],?_,by simp only[e2,zB],e3,e4⟩;simp only[if_true,e1,zB];cases b with
  | false=>rw[e3 rfl]; rfl
  | true=>rfl
def vq(l:Q X6)(a:Y)(hl:l.length<=100000):∃b,OP l a=O b/\Ng l a=O b/\(b=E->∃w∈l,w.From<=a/\a<=w.To):=by
 have e1:=FA (L:=JF a l) l (fun x=>decide (x.From<=a)&&decide (a<=x.To)) (O E) (O G) (Ak a9) (fun n i h=>by
  rw[JF];simp only[Aj,h,decide_true,if_true,Af h,zB,Bw]) fun n=>by simp[JF]
 have e2:=FA (L:=IH a l) l (fun x=>decide (x.From<=a)&&decide (a<=x.To)) (O E) (O G) (Ak a9) (fun n i h=>by
  rw[IH];simp only[Aj,h,decide_true,if_true,Af h,zB,D8]) fun n=>by simp[IH]
 unfold OP Ng;rw[e1,e2];split
 .rename_i h
  obtain⟨w,w1,w2⟩:=kQ.1 h;simp only[zE,decide_eq_true_eq] at w2
  exact⟨E,zA,zA,fun _=>⟨w,w1,w2⟩⟩
 .exact⟨G,zA,zA,fun h=>by cases h⟩
def A1i(l:Q X6)(a:Y)(hl:l.length<=100000)(hW:∀w∈l,w.From<=w.To):∃r,OW l a=O r/\Nn l a=O r/\(r<0\/(a<=r/\∃w∈l,w.From<=r/\r<=w.To)):=by
 have hm:l.length<=maxLen:=Ak a9;unfold OW Nn;rw[dw hm,bQ hm,zB,zB];split
 .exact Bi (fun n i=>∃r,JJ a l n (i:Y)=O r/\IK a l n (i:Y)=O r/\(r<0\/(a<=r/\∃w∈l,w.From<=r/\r<=w.To))) hm (fun n=>⟨-1,by simp[JJ],by simp[IK],Or.inl a9⟩) (fun n i h ih=>by
   rw[JJ,IK];simp only[Aj,h,decide_true,if_true,Af h,zB,Au h hm];split
   .rename_i hd
    simp only[decide_eq_true_eq] at hd
    have hw:=hW _ (zF h);exact⟨_,zA,zA,Or.inr ⟨by split<;>omega,l[i],zF h,by split<;>omega,by split<;>omega⟩⟩
   .exact ih) (zJ _)
 .exact⟨-1,zA,zA,Or.inl a9⟩
def wt(c:X4)(x:Y):Z:=(c.Points[x.toNat]?.getD ⟨[],G⟩).Wait
structure VoyOk (f:Xd) (c:X4) (s:X5) (rt pts:Q Y) (v:Xk):Prop where
 ne:rt≠ []
 r:RtOk c rt pts
 ml:v.minutes.length=rt.length
 ul:v.sure.length=rt.length
 m:∀i (h:i<rt.length),v.minutes[i]?=O (AH (Aw c rt[i]) s)
 w:∀i (h:i<rt.length),∃x,pts[i]?=O x/\v.waits[i]?=O (wt c x)
 u:∀i (h:i<rt.length),∃l,v.sure[i]?=O l/\l.length<=2881/\∀w∈l,0<=w.From/\w.From<=w.To/\w.To+AH (Aw c rt[i]) s<=2880
 st:Pk f c s rt=O v.sure
def fX{f:Xd}{c:X4}{s:X5}(hf:Dt f=E)(hc:AP c=E)(hs:CG s=E)(hsn:s.Name.length<=maxLen){rt pts:Q Y}{a:Y}(hl:rt.length<=10000000)(hr:RtOk c rt pts)(h0:rt≠ [])
  (e1:FM c a rt=O E) (e2:Ed c a rt=O pts):∃v,FW f c s a rt=O (v,E)/\VoyOk f c s rt pts v:=by
 have hn:=(Ch hc).2.2.1;have hz:((rt.length:Y)==(0:Y))=G:=by cases rt with | nil=>exact absurd rfl h0 | cons=>simp; omega
 have hp:=hr.len;have hlen:(pts.take rt.length).length=rt.length:=by simp; omega
 have hlm:rt.length<=maxLen:=Ak a9
 have hspec:=Bi (fun n i=>∀us,us.length=i->∃vs,HB rt f c s n (i:Y) us=O (us++vs)/\∀ws ms,ws.length=i->ms.length=i->
   ∃ws' ms',J2 rt f c s (pts.take rt.length) ((pts.take rt.length).length:Y) n (i:Y) ws ms us=O (⟨ws++ws',ms++ms',us++vs⟩,E)/\ms'.length=rt.length - i/\vs.length=rt.length - i/\
    (∀j (h:j<rt.length),i<=j->ms'[j - i]?=O (AH (Aw c rt[j]) s)/\(∃x,pts[j]?=O x/\ws'[j - i]?=O (wt c x))/\∃l,vs[j - i]?=O l/\l.length<=2881/\∀w∈l,0<=w.From/\w.From<=w.To/\w.To+AH (Aw c rt[j]) s<=2880)) hlm
  (fun n us hu=>⟨[],by simp[HB],fun ws ms hw hm=>⟨[],[],by simp[J2,hlen],d0,d0,fun j h h'=>by omega⟩⟩)
  (fun n i h ih us hu=>by
   obtain⟨l,l1,l2,l3,l4⟩:=A48 (s:=s) hf hn hsn hc hs (hr.seg i h);have hlt':i<(pts.take rt.length).length:=by omega
   have hpi:i<pts.length:=by omega
   have hpt:=hr.pt pts[i] (zF hpi);have hg:(pts.take rt.length)[i]=pts[i]:=by simp
   obtain⟨vs,v1,v2⟩:=ih (us++ [l]) d3;refine⟨l::vs,?_,fun ws ms hw hm=> ?_⟩
   .rw[HB];simp only[Aj,h,decide_true,if_true,Af h,zB,l1];rw[if_pos (AT a9 d0 a9),Au h hlm,v1];simp
   .obtain⟨ws',ms',g1,g2,g2',g3⟩:=v2 (ws++ [wt c pts[i]]) (ms++ [AH (Aw c rt[i]) s]) d3 d3;refine⟨wt c pts[i]::ws',AH (Aw c rt[i]) s::ms',?_,d3,d3,fun j hj hij=> ?_⟩
    .rw[J2];simp only[Aj,hlt',decide_true,if_true,Af hlt',Af h,hg,zB,(Ss (⟨[],G⟩:X7) hpt).1,(BO (hr.seg i h)).1,PL,l2];rw[if_pos (AT a9 d0 a9),if_pos (AT a9 d0 a9),if_pos (AT a9 d0 a9),Au h hlm];refine g1.trans ?_;simp
    .by_cases hji:j=i
     .subst hji;simp only[Nat.sub_self,yZ];exact⟨trivial,⟨_,zC hpi,zA⟩,l,zA,l3,l4⟩
     .obtain⟨q,hq⟩:∃q,j - i=q+1:=⟨j - i - 1,a9⟩;have:=g3 j hj a9;rw[show j - (i+1)=q by omega] at this
      rw[hq];simpa using this) (zJ _)
 obtain⟨vs,v1,v2⟩:=hspec [] rfl;obtain⟨ws',ms',g1,g2,g3,g4⟩:=v2 [] [] rfl rfl;refine⟨⟨ws',ms',vs⟩,?_,h0,hr,by simpa using g2,by simpa using g3,fun i h=>by simpa using(g4 i h (zJ _)).1,fun i h=>by simpa using(g4 i h (zJ _)).2.1,fun i h=>by simpa using(g4 i h (zJ _)).2.2,show HB rt f c s bigN 0 []=O vs by simpa using v1⟩;unfold FW;simp only[Mi,Gs hsn,hf,hs,e1,e2,zB,if_true,J1,hz,zD,if_false];rw[FE a9,zB];simp only[yY,kP];exact g1
structure Sailed (c:X4) (s:X5) (rt:Q Y) (st:Y) (l:Q Y):Prop where
 len:l.length=rt.length
 hd:l[0]?=O st
 sf:∀i (h:i<rt.length),∃y,l[i]?=O y/\0<=y/\y+AH (Aw c rt[i]) s<=2880
 up:∀i (h:i+1<rt.length),∃x y,l[i]?=O x/\l[i+1]?=O y/\kZ .i64 (x+AH (Aw c rt[i]) s)<=y
def A3z{f:Xd}{c:X4}{s:X5}(hc:AP c=E){rt pts:Q Y}{v:Xk}(hl:rt.length<=10000000)(H:VoyOk f c s rt pts v)(st:Y) :
  ∃l b,K0 c s pts rt v.sure st=O (l,b)/\NR v st=O (l,b)/\(b=E->Sailed c s rt st l):=by
 have h0:0<rt.length:=zU.2 H.ne;have hlm:rt.length<=maxLen:=Ak a9;obtain⟨l0,u1,u2,u3⟩:=H.u 0 h0;obtain⟨b,b1,b2,b3⟩:=vq l0 st a9;have hx:ix v.sure (0:Y)=O l0:=by have:=Am v.sure 0; rw[u1] at this; exact this
 unfold K0 NR;simp only[hx,zB,b1,b2];cases b with
 | false=>exact⟨[],G,rfl,rfl,fun h=>by cases h⟩
 | true=>
  simp only[if_true]
  refine Bi (fun n i=>∀l,1<=i->l.length=i->l[0]?=O st->(∀j (h:j<rt.length),j<i->∃y,l[j]?=O y/\0<=y/\y+AH (Aw c rt[j]) s<=2880)->(∀j (h:j+1<rt.length),j+1<i->∃x y,l[j]?=O x/\l[j+1]?=O y/\kZ .i64 (x+AH (Aw c rt[j]) s)<=y)->
   ∃l' b,F0 pts rt v.sure c s n (i:Y) l=O (l',b)/\ES v n (i:Y) l=O (l',b)/\(b=E->Sailed c s rt st l')) hlm
   (fun n l h1 h2 h3 h5 h4=>⟨l,E,by simp[F0],by simp[ES,H.ul],fun _=>⟨h2,h3,fun j h=>h5 j h h,fun j h=>h4 j h h⟩⟩)
   (fun n i h ih l h1 h2 h3 h5 h4=> ?_) (i:=1) a9 [st] a9 rfl rfl (fun j hj h=> ?_) (fun j _ h=>by omega)
  case refine_2=>
   obtain rfl:j=0:=by omega
   obtain⟨w,w1,w2,w3⟩:=b3 rfl;have:=u3 w w1;exact⟨st,zA,a9,a9⟩
  obtain⟨w,g1,g2,g3⟩:=H.u i h;have hu:i<v.sure.length:=by have:=H.ul; omega
  have ew:kZ .i64 ((i:Y) - 1)=((i - 1:J):Y):=by
   rw[show(i:Y) - 1=((i - 1:J):Y) by omega];exact Ai a9 a9
  have hi1:i - 1<rt.length:=by omega
  have hil:i - 1<l.length:=by omega
  obtain⟨x,x1,x2⟩:=H.w i h;have hpt:=H.r.pt x (List.mem_of_getElem? x1);obtain⟨r,r1,r2,r3⟩:=A1i w (kZ .i64 (l[i - 1]+AH (Aw c rt[i - 1]) s)) a9 (fun x hx=>(g3 x hx).2.1);rw[F0,ES];simp only[Aj,h,hu,decide_true,if_true,ew,Af hil,Af hi1,Am,H.m _ hi1,(BO (H.r.seg _ hi1)).1,zB,Qv,g1,r1,r2,x1,x2,(Ss (⟨[],G⟩:X7) hpt).1];have fail:∃l' b,(O (([]:Q Y),G):X (Q Y × Z))=O (l',b)/\(O (([]:Q Y),G):X (Q Y × Z))=O (l',b)/\(b=E->Sailed c s rt st l'):=⟨[],G,rfl,rfl,fun h=>by cases h⟩;by_cases hr0:r<0
  .simp only[hr0,decide_true,if_true,K1,J3];exact fail
  .obtain⟨hge,w',w1,w2,w3⟩:=r3.resolve_left hr0;have hwb:=g3 w' w1
   have hne:(r !=kZ .i64 (l[i - 1]+AH (Aw c rt[i - 1]) s))=decide (kZ .i64 (l[i - 1]+AH (Aw c rt[i - 1]) s)<r):=by
    rw[KT];by_cases e:r=kZ .i64 (l[i - 1]+AH (Aw c rt[i - 1]) s)
    .simp[<- e]
    .have:kZ .i64 (l[i - 1]+AH (Aw c rt[i - 1]) s)<r:=by omega
     simp[e,this]
   have go:∃l' b,F0 pts rt v.sure c s n (kZ .i64 ((i:Y)+1)) (l++ [r])=O (l',b)/\ES v n (kZ .i64 ((i:Y)+1)) (l++ [r])=O (l',b)/\(b=E->Sailed c s rt st l'):=by
    rw[Au h hlm];refine ih (l++ [r]) a9 d3 (by rw[zH a9]; exact h3) (fun j hj1 hj2=> ?_) fun j hj1 hj2=> ?_
    .by_cases hji:j=i
     .subst hji;exact⟨r,by rw[zT a9,h2]; simp,a9,a9⟩
     .obtain⟨y,q1,q2,q3⟩:=h5 j hj1 a9;exact⟨y,by rw[zH a9]; exact q1,q2,q3⟩
    by_cases hji:j+1=i
    .subst hji;exact⟨l[j],r,by rw[zH a9,zC],by rw[zT a9,h2]; simp,by simpa using hge⟩
    .obtain⟨x,y,q1,q2,q3⟩:=h4 j hj1 a9;exact⟨x,y,by rw[zH a9]; exact q1,by rw[zH a9]; exact q2,q3⟩
   have hap:Ab l.length [r].length 8=E:=AT a9 d0 a9;simp only[hr0,decide_false,zD,if_false,hne,K1,J3,hap,if_true];split
   .change ∃l' b,(if(!wt c x)=E then _ else _)=_/\_
    split
    .exact fail
    .exact go
   .exact go
def QT(c:X4)(s:X5)(sh:Y)(rt pts l:Q Y)(i:J)(ps:Q X1):Prop:=
 ps.length=i/\∀j (h:j<rt.length),j<i->∃x y,pts[j]?=O x/\l[j]?=O y/\0<=y/\y<=2880/\ps[j]?=O ⟨sh,rt[j],(Aw c rt[j]).A==x,y,kZ .i64 (y+AH (Aw c rt[j]) s)⟩
def A2j{c:X4}{s:X5}(hs:CG s=E)(hsn:s.Name.length<=maxLen){rt pts l:Q Y}{a sh:Y}(hl:rt.length<=10000000)(hr:RtOk c rt pts)(hlen:l.length=rt.length)(hS:∀i (h:i<rt.length),∃y,l[i]?=O y/\0<=y/\y<=2880)
  (e1:Ej c a rt=O E) (e2:FM c a rt=O E) (e3:Ek c a rt=O pts) (e4:Ed c a rt=O pts) :
  ∃ps,P1 c sh s a rt l=O ps/\Ns c sh s a rt l=O ps/\QT c s sh rt pts l rt.length ps:=by
 have hlm:rt.length<=maxLen:=Ak a9;have hz:((rt.length:Y) !=(l.length:Y))=G:=by rw[hlen]; simp
 unfold P1 Ns;simp only[e1,e2,e3,e4,Kw hsn,Gs hsn,hs,zB,if_true,hz,zD,if_false]
 refine Bi (fun n i=>∀ps,QT c s sh rt pts l i ps->∃ps',JL sh l rt c s pts n (i:Y) ps=O ps'/\IM sh l rt c s pts n (i:Y) ps=O ps'/\QT c s sh rt pts l rt.length ps') hlm
  (fun n ps hp=>⟨ps,by simp[JL],by simp[IM],hp⟩) (fun n i h ih ps hp=> ?_) (zJ _) [] ⟨rfl,fun j _ h=>by omega⟩
 have hi:i<l.length:=by omega
 have hpi:i<pts.length:=by have:=hr.len; omega
 rw[JL,IM];simp only[Aj,h,decide_true,if_true,Af h,Af hi,Af hpi,(BO (hr.seg i h)).1,zB,Bw,HQ,Qv,PL,BEq.comm (a:=pts[i])];split
 .rename_i hm
  simp only[zE,decide_eq_true_eq] at hm
  have hp1:=hp.1;rw[if_pos (AT a9 d0 a9),if_pos (AT a9 d0 a9),Au h hlm];refine ih _ ⟨d3,fun j hj1 hj2=> ?_⟩;by_cases hji:j=i
  .subst hji;exact⟨pts[j],l[j],zC _,zC _,hm.1,hm.2,by rw[zT a9,hp1]; simp⟩
  .obtain⟨x,y,q1,q2,q3,q4,q5⟩:=hp.2 j hj1 a9;exact⟨x,y,q1,q2,q3,q4,by rw[zH a9]; exact q5⟩
 .rename_i hm
  obtain⟨y,y1,y2,y3⟩:=hS i h;rw[zC hi,zG] at y1
  exact absurd (by simp[y1,y2,y3]) hm
def dX{c:X4}(hc:AP c=E){rt:Q Y}(hl:rt.length<=10000000)(hs:∀i (h:i<rt.length),idx rt[i] c.Segments.length=E):∃r,Hu c rt=O r/\H6 c rt=O r/\0<=r:=by
 have hlm:rt.length<=maxLen:=Ak a9;have hn:=(Ch hc).2.2.1;have h10:=(Ch hc).2.1;unfold Hu H6;simp only[E2 hn,Gr hn,hc,zB,if_true];refine Bi (fun n i=>∀v:Y,0<=v->v<=240*(i:Y)->∃r,JP rt c n v (i:Y)=O r/\IQ rt c n v (i:Y)=O r/\0<=r) hlm (fun n v h1 h2=>⟨v,by simp[JP],by simp[IQ],h1⟩) (fun n i h ih v h1 h2=> ?_) (zJ _) 0 a9 a9;obtain⟨_,_,a,b⟩:=(Fi hc).2.2 _ (BO (hs i h)).2;rw[JP,IQ];simp only[Aj,h,decide_true,if_true,Af h,(BO (hs i h)).1,zB,Ep,CR _ (show c.Segments.length<=1000 by omega),hs i h,Au h hlm];rw[Ai a9 a9];exact ih _ a9 a9
def nH{c:X4}{s:X5}(hc:AP c=E)(hs:CG s=E)(hsn:s.Name.length<=maxLen){rt l:Q Y}(hl:rt.length<=10000000)(hsg:∀i (h:i<rt.length),idx rt[i] c.Segments.length=E)(hlen:l.length=rt.length)(h0:rt≠ []) :
  ∃r,OE c s rt l=O r/\N8 c s rt l=O r/\∀y,l[rt.length - 1]?=O y->0<=y->y<=2880->∃x,rt[rt.length - 1]?=O x/\r=kZ .i64 (y+AH (Aw c x) s):=by
 obtain⟨m,m1,m2,m3⟩:=dX hc hl hsg;have hp:0<rt.length:=zU.2 h0;have hz:((rt.length:Y)==(0:Y))=G:=beq_eq_false_iff_ne.2 a9;have hq:((rt.length:Y) !=(l.length:Y))=G:=by rw[hlen]; simp
 have ew:kZ .i64 ((rt.length:Y) - 1)=((rt.length - 1:J):Y):=by
  rw[show(rt.length:Y) - 1=((rt.length - 1:J):Y) by omega];exact Ai a9 a9
 have h1:rt.length - 1<rt.length:=by omega
 have h2:rt.length - 1<l.length:=by omega
 unfold OE N8;simp only[m1,m2,zB,show decide (m<0)=G by simp; omega,zD,if_false,Kw hsn,Gs hsn,hs,if_true,hq,hz,hlen,ew,Af h1,Af h2,Bw,HQ,(BO (hsg _ h1)).1,Qv,PL,bne_self_eq_false];split
 .refine⟨_,zA,zA,fun y e _ _=>⟨_,zC h1,?_⟩⟩;rw[zC h2,zG] at e
  rw[e]
 .rename_i hm
  refine⟨-1,zA,zA,fun y e a b=>absurd ?_ hm⟩;rw[zC h2,zG] at e
  simp only[zE,decide_eq_true_eq,e];exact⟨a,b⟩
structure AtOk (h:X3) (a:X8) (rt:Q Y) (st:Y) (o:X0):Prop where
 ha:BV h a=E
 mo:∃pts l,RtOk h.Chart rt pts/\Sailed h.Chart (AO h.Fleet a.Ship) rt st l/\QT h.Chart (AO h.Fleet a.Ship) a.Ship rt pts l rt.length o.Passages
def B1(c:X4)(s:X5)(rt:Q Y):Y:=(rt.map fun k=>AH (Aw c k) s).sum
def oy{h:X3}{s:X5}{rt:Q Y}{v:Xk}{f:Xd}{pts:Q Y}(hc:AP h.Chart=E)(hl:rt.length<=10000000)(H:VoyOk f h.Chart s rt pts v)(st r:Y)(ps:Q X1){c0:Y}(h0:B1 h.Chart s rt<=c0)(h1:c0<=100000) :
  HH rt h s st r ps bigN 0 c0=O (⟨st,r,c0 - B1 h.Chart s rt,ps⟩,decide (r<=2880))/\ER v st r ps bigN 0 c0=O (⟨st,r,c0 - B1 h.Chart s rt,ps⟩,decide (r<=2880)):=by
 have hlm:rt.length<=maxLen:=Ak a9
 have pos:∀l:Q Y,(∀x∈l,idx x h.Chart.Segments.length=E)->0<=B1 h.Chart s l:=by
  intro l
  induction l with
  | nil=>intro _; simp[B1]
  | cons a l ih=>
   intro hx;have h1:=ih fun x hm=>hx x (yH _ hm)
   have h2:=(Gy (s:=s) hc (hx a (yK ..))).1;have e:B1 h.Chart s (a::l)=AH (Aw h.Chart a) s+B1 h.Chart s l:=by simp[B1]
   omega
 have hsg:∀x∈rt,idx x h.Chart.Segments.length=E:=fun x hx=>by
  obtain⟨i,hi,rfl⟩:=zN hx;exact H.r.seg i hi
 have:=Bi (fun n i=>∀c0,B1 h.Chart s (rt.drop i)<=c0->c0<=100000->HH rt h s st r ps n (i:Y) c0=O (⟨st,r,c0 - B1 h.Chart s (rt.drop i),ps⟩,decide (r<=2880))/\ER v st r ps n (i:Y) c0=O (⟨st,r,c0 - B1 h.Chart s (rt.drop i),ps⟩,decide (r<=2880))) hlm (fun n c0 _ _=>by
   have e:B1 h.Chart s (rt.drop rt.length)=0:=by simp[B1]
   rw[e,Int.sub_zero];exact⟨by simp[HH],by simp[ER,H.ml]⟩) (fun n i hi ih c0 g0 g1=>by
  have hm:i<v.minutes.length:=by have:=H.ml; omega
  have e:B1 h.Chart s (rt.drop i)=AH (Aw h.Chart rt[i]) s+B1 h.Chart s (rt.drop (i+1)):=by rw[zW hi]; rfl
  have hp:=pos (rt.drop (i+1)) fun x hx=>hsg x (List.mem_of_mem_drop hx)
  obtain⟨m1,m2⟩:=Gy (s:=s) hc (H.r.seg i hi);rw[HH,ER];simp only[Aj,hi,hm,decide_true,if_true,Af hi,Am,H.m i hi,(BO (H.r.seg i hi)).1,zB,Qv,Au hi hlm];rw[Ai (n:=c0 - _) a9 a9];have:=ih (c0 - AH (Aw h.Chart rt[i]) s) a9 a9;rw[show c0 - AH (Aw h.Chart rt[i]) s - B1 h.Chart s (rt.drop (i+1))=c0 - B1 h.Chart s (rt.drop i) by omega] at this
  exact this) (zJ _) c0 (by simpa using h0) h1
 simpa using this
def Sailed.sum{c:X4}{s:X5}{rt l:Q Y}{st:Y}(hc:AP c=E)(hsg:∀i (h:i<rt.length),idx rt[i] c.Segments.length=E)(H:Sailed c s rt st l):∀k (hk:k<rt.length),∃y,l[k]?=O y/\st+B1 c s (rt.take k)<=y:=by
 intro k
 induction k with
 | zero=>intro hk; exact⟨st,H.hd,by simp[B1]⟩
 | succ k ih=>
  intro hk;obtain⟨y,y1,y2⟩:=ih a9;obtain⟨u,v,u1,u2,u3⟩:=H.up k hk;obtain⟨z,z1,z2,z3⟩:=H.sf k a9;rw[y1,zG] at u1 z1
  subst u1 z1;have hm:=Gy (s:=s) hc (hsg k a9);rw[Ai a9 a9] at u3
  have e:B1 c s (rt.take (k+1))=B1 c s (rt.take k)+AH (Aw c rt[k]) s:=by
   rw[zL a9];unfold B1;rw[kW,List.sum_append];simp
  exact⟨v,u2,a9⟩
def cn{h:X3}{a:X8}(ha:BV h a=E)(hc:AP h.Chart=E)(hso:CG (AO h.Fleet a.Ship)=E)(hsn:(AO h.Fleet a.Ship).Name.length<=maxLen){rt pts:Q Y}{v:Xk}(hl:rt.length<=10000000)
  (V:VoyOk h.Forecast h.Chart (AO h.Fleet a.Ship) rt pts v) (e1:Ej h.Chart a.From rt=O E) (e2:FM h.Chart a.From rt=O E) (e3:Ek h.Chart a.From rt=O pts) (e4:Ed h.Chart a.From rt=O pts)
  {st:Y} (hr:a.Ready<=st) (hd:st<=2880):∃l b,K0 h.Chart (AO h.Fleet a.Ship) pts rt v.sure st=O (l,b)/\(b=G->∃o,EQ h a v rt st=O (o,G))/\
   (b=E->∃o,M5 h a rt l=O (o,E)/\EQ h a v rt st=O (o,E)/\AtOk h a rt st o/\o.Arrival<=2880/\0<=o.Cost/\o.Cost<=2880/\∀y,l[rt.length - 1]?=O y->∃x,rt[rt.length - 1]?=O x/\o.Arrival=kZ .i64 (y+AH (Aw h.Chart x) (AO h.Fleet a.Ship))):=by
 obtain⟨l,b,b1,b2,b3⟩:=A3z hc hl V st;refine⟨l,b,b1,fun hb=> ?_,fun hb=> ?_⟩
 .subst hb;exact⟨⟨0,0,0,[]⟩,by simp only[EQ,b2,zB,zD,if_false]⟩
 .subst hb;have S:=b3 rfl;have ha':=ha;simp only[BV,C7,zE,decide_eq_true_eq] at ha'
  obtain⟨q1,_,_,_,⟨q5,_⟩,_⟩:=ha';obtain⟨s1,s2⟩:=HR q1
  have hsS:∀i (h':i<rt.length),∃y,l[i]?=O y/\0<=y/\y<=2880:=fun i h'=>by
   obtain⟨y,y1,y2,y3⟩:=S.sf i h';have:=(Gy (s:=AO h.Fleet a.Ship) hc (V.r.seg i h')).1;exact⟨y,y1,y2,a9⟩
  obtain⟨ps,p1,p2,p3⟩:=A2j (sh:=a.Ship) hso hsn hl V.r S.len hsS e1 e2 e3 e4;obtain⟨r,r1,r2,r3⟩:=nH hc hso hsn hl V.r.seg S.len V.ne;have hp:=zU.2 V.ne;have hlt:rt.length - 1<rt.length:=by omega
  obtain⟨y,y1,y2,y3⟩:=S.sf _ hlt;have hm:=Gy (s:=AO h.Fleet a.Ship) hc (V.r.seg _ hlt);obtain⟨x,x1,x2⟩:=r3 y y1 y2 a9;rw[zC hlt,zG] at x1
  rw[<- x1,Ai a9 a9] at x2
  obtain⟨z,z1,z2⟩:=S.sum hc V.r.seg _ hlt;rw[y1,zG] at z1
  subst z1
  have es:B1 h.Chart (AO h.Fleet a.Ship) rt=B1 h.Chart (AO h.Fleet a.Ship) (rt.take (rt.length - 1))+AH (Aw h.Chart rt[rt.length - 1]) (AO h.Fleet a.Ship):=by
   have e:rt=rt.take (rt.length - 1)++ [rt[rt.length - 1]]:=by
    rw[<- zL hlt,show rt.length - 1+1=rt.length by omega,yJ]
   have:∀u w:Q Y,B1 h.Chart (AO h.Fleet a.Ship) (u++w)=B1 h.Chart (AO h.Fleet a.Ship) u+B1 h.Chart (AO h.Fleet a.Ship) w:=fun u w=>by simp[B1]
   rw[congrArg (B1 h.Chart (AO h.Fleet a.Ship)) e,this];simp[B1]
  obtain⟨c1,c2⟩:=oy hc hl V st r ps (c0:=r - a.Ready) a9 a9;have ew:kZ .i64 (r - a.Ready)=r - a.Ready:=Ai a9 a9;have hx0:ix l (0:Y)=O st:=by have:=Am l 0; rw[S.hd] at this; exact this
  have hpos:0<=B1 h.Chart (AO h.Fleet a.Ship) rt:=by
   have:∀w:Q Y,(∀x∈w,idx x h.Chart.Segments.length=E)->0<=B1 h.Chart (AO h.Fleet a.Ship) w:=by
    intro w
    induction w with
    | nil=>intro _; simp[B1]
    | cons u w ih=>
     intro hx;have h1:=ih fun x hm=>hx x (yH _ hm)
     have h2:=(Gy (s:=AO h.Fleet a.Ship) hc (hx u (yK ..))).1;have e:B1 h.Chart (AO h.Fleet a.Ship) (u::w)=AH (Aw h.Chart u) (AO h.Fleet a.Ship)+B1 h.Chart (AO h.Fleet a.Ship) w:=by simp[B1]
     omega
   exact this rt fun x hx=>by
    obtain⟨i,hi,rfl⟩:=zN hx;exact V.r.seg i hi
  have hd28:decide (r<=2880)=E:=by simp; omega
  refine⟨⟨st,r,r - a.Ready - B1 h.Chart (AO h.Fleet a.Ship) rt,ps⟩,?_,?_,⟨ha,pts,l,V.r,S,p3⟩,by simp only; omega,by simp only; omega,by simp only; omega,fun y' h'=> ?_⟩
  .simp only[M5,s1,zB,hx0,r1,p1,ew,c1,hd28]
  .simp only[EQ,b2,if_true,s1,zB,r2,p2,ew,c2,hd28]
  .rw[y1,zG] at h'
   subst h';exact r3 y y1 y2 a9
structure GoodP (c:X4) (fl:Q X5) (l:Q X1):Prop where
 ne:l≠ []
 inn:∀p∈l,Cf c fl p=E
 ship:∃sh,∀p∈l,p.Ship=sh
 link:∀j (h:j+1<l.length),(Cy c l[j+1]).1=(Cy c l[j]).2/\l[j].End<=l[j+1].Start
def sH{s:X2}{x:Y}(h:0<=BY s x):(if(s.A==x)=E then(s.A,s.B) else(s.B,s.A))=(x,BY s x):=by
 unfold BY at *
 by_cases h1:s.A=x
 .subst h1; simp
 .have h1':¬x=s.A:=fun e=>h1 e.symm
  by_cases h2:x=s.B
  .subst h2; simp[h1,h1']
  .simp[h1',h2] at h
def AtOk.good{h:X3}{a:X8}{st:Y}{o:X0}(hh:B4 h=E)(H:AtOk h a (o.Passages.map fun p=>p.Segment) st o):GoodP h.Chart h.Fleet o.Passages:=by
 obtain⟨ha,pts,l,hr,S,hp⟩:=H;obtain⟨_,hc,hfl,_,_⟩:=F2 hh;simp only[BV,zE] at ha
 have hne:o.Passages≠ []:=fun e=>by
  have h1:=S.hd;have h2:=S.len;rw[e] at h2
  cases l with
  | nil=>cases h1
  | cons=>simp at h2
 obtain⟨_,hp⟩:=hp;generalize hps:o.Passages=ps at *
 have hlen:(ps.map fun p=>p.Segment).length=ps.length:=by simp
 have hpos:0<ps.length:=zU.2 hne
 have at_:∀j (hj:j<ps.length),∃x y,pts[j]?=O x/\l[j]?=O y/\0<=y/\y<=2880/\idx ps[j].Segment h.Chart.Segments.length=E/\ps[j]=⟨a.Ship,ps[j].Segment,(Aw h.Chart ps[j].Segment).A==x,y,y+AH (Aw h.Chart ps[j].Segment) (AO h.Fleet a.Ship)⟩:=fun j hj=>by
  obtain⟨x,y,q1,q2,q3,q4,q5⟩:=hp j a9 a9;have hs:=hr.seg j a9;simp only[kR] at hs q5
  obtain⟨m1,m2⟩:=Gy (s:=AO h.Fleet a.Ship) hc hs;rw[Ai a9 a9,zC hj,zG] at q5
  exact⟨x,y,q1,q2,q3,q4,hs,q5⟩
 have up:∀j (hj:j+1<ps.length),ps[j].End<=ps[j+1].Start:=fun j hj=>by
  obtain⟨x,y,_,q2,q3,q4,q5,q6⟩:=at_ j a9;obtain⟨x',y',_,r2,_,_,_,r6⟩:=at_ (j+1) hj;obtain⟨u,v,s1,s2,s3⟩:=S.up j a9;rw[q2,zG] at s1
  rw[r2,zG] at s2
  subst s1 s2;simp only[kR] at s3
  obtain⟨m1,m2⟩:=Gy (s:=AO h.Fleet a.Ship) hc q5;rw[Ai a9 a9] at s3
  rw[q6,r6];exact s3
 refine⟨hne,fun p hpm=> ?_,⟨a.Ship,fun p hpm=> ?_⟩,fun j hj=>⟨?_,up j hj⟩⟩
 .obtain⟨j,hj,rfl⟩:=zN hpm;obtain⟨x,y,q1,q2,q3,q4,q5,q6⟩:=at_ j hj;obtain⟨m1,m2⟩:=Gy (s:=AO h.Fleet a.Ship) hc q5
  have hend:y+AH (Aw h.Chart ps[j].Segment) (AO h.Fleet a.Ship)<=2880:=by
   obtain⟨z,z1,_,z3⟩:=S.sf j a9;rw[q2,zG] at z1
   subst z1;simpa using z3
  rw[q6];simp only[Cf,C7,zE,decide_eq_true_eq];exact⟨ha.1,q5,⟨q3,q4⟩,hend,(Ai a9 a9).symm⟩
 .obtain⟨j,hj,rfl⟩:=zN hpm;obtain⟨x,y,q1,q2,q3,q4,q5,q6⟩:=at_ j hj;rw[q6]
 .have e:∀j (hj:j<ps.length),∃x,pts[j]?=O x/\0<=BY (Aw h.Chart ps[j].Segment) x/\pts[j+1]?=O (BY (Aw h.Chart ps[j].Segment) x)/\Cy h.Chart ps[j]=(x,BY (Aw h.Chart ps[j].Segment) x):=fun j hj=>by
   obtain⟨x,y,q1,q2,q3,q4,q5,q6⟩:=at_ j hj;obtain⟨x',t1,t2,t3⟩:=hr.stp j a9;simp only[kR] at t2 t3
   rw[q1,zG] at t1
   subst t1;refine⟨x,q1,t3,t2,?_⟩;rw[<- sH t3];have ht:ps[j].Toward=((Aw h.Chart ps[j].Segment).A==x):=by rw[q6]
   unfold Cy;rw[ht]
  obtain⟨x,_,_,g3,g4⟩:=e j a9;obtain⟨x',k1,_,_,k4⟩:=e (j+1) hj;rw[g3,zG] at k1
  rw[g4,k4,k1]
def Ex(a b g:Y):Z:=decide (a - b<g/\b - a<g)
def Ey(p q:X1):Z:=decide (p.Start<q.End/\q.Start<p.End)
def Eb(c:X4)(r:Xi)(p q:X1):Z:=
 decide (p.Segment=q.Segment)&&(if p.Ship=q.Ship then Ey p q else if p.Toward=q.Toward then(Ex p.Start q.Start r.Gap || (Ex p.End q.End r.Gap || decide ((p.Start<q.Start/\q.End<p.End)\/(q.Start<p.Start/\p.End<q.End)))) else Ey p q&&(r.NoMeet || !(Aw c p.Segment).Meet))
def YE(c:X4)(r:Xi)(p q:X1):Eb c r p q=Eb c r q p:=by
 have n:∀a b g,Ex a b g=Ex b a g:=fun a b g=>by unfold Ex; congr 1; exact propext And.comm
 have v:Ey p q=Ey q p:=by unfold Ey; congr 1; exact propext And.comm
 unfold Eb;by_cases e:p.Segment=q.Segment
 .simp only[e,n q.Start,n q.End,<- v,eq_comm (a:=q.Ship),eq_comm (a:=q.Toward),or_comm (a:=q.Start<p.Start/\p.End<q.End)]
 .have e':¬q.Segment=p.Segment:=fun h=>e h.symm
  simp[e,e']
def dy{a b g:Y}(a0:0<=a)(a1:a<=2880)(b0:0<=b)(b1:b<=2880):M3 a b g=O (Ex a b g):=by
 unfold M3 Pl Ex;by_cases h:b<a
 .have h':¬a<b:=by omega
  simp only[h,h',if_true,if_false,show ¬b<0 by omega,decide_false,zD,Ai (n:=a - b) a9 a9,zG,decide_eq_decide];omega
 .simp only[h,if_false,show ¬a<0 by omega,decide_false,zD,zG,decide_eq_decide];by_cases h':a<b
  .simp only[h',if_true,Ai (n:=b - a) a9 a9]; omega
  .simp only[h',if_false,Ai (n:=a - a) a9 a9]; omega
def bV{a b g:Y}(a0:0<=a)(a1:a<=2880)(b0:0<=b)(b1:b<=2880)(g0:0<=g)(g1:g<=60):Lr a b g=O (Ex a b g):=by
 unfold Lr Ex;rw[Fp g0 a9];by_cases h:b<a
 .have h':¬a<b:=by omega
  simp only[h,h',if_true,if_false,Fp (n:=a) a9 a9,Fp (n:=b) a9 a9,Fp (n:=a - b) a9 a9,zG,decide_eq_decide];omega
 .by_cases h':a<b
  .simp only[h,h',if_true,if_false,Fp (n:=a) a9 a9,Fp (n:=b) a9 a9,Fp (n:=b - a) a9 a9,zG,decide_eq_decide];omega
  .simp only[h,h',if_true,if_false,Fp (n:=a) a9 a9,Fp (n:=a - a) a9 a9,zG,decide_eq_decide];omega
def A2f{p q:X1}(hp:p.Start<p.End)(hq:q.Start<q.End):LX p q=O (Ey p q)/\Lc p q=O (Ey p q):=by
 have:decide ((if p.Start<q.Start then q.Start else p.Start)<(if q.End<p.End then q.End else p.End))=Ey p q:=by
  unfold Ey;rw[decide_eq_decide];split<;>split<;>omega
 unfold LX Lc;rw[this];exact⟨zA,zA⟩
def YF{c:X4}{fl:Q X5}{r:Xi}(hc:AP c=E)(hr:Kt r=E){p q:X1}(hp:Cf c fl p=E)(hq:Cf c fl q=E) :
  (∃n,OM c r p q=O n/\(n !=0)=Eb c r p q)/\∃n,NE c r p q=O n/\(n !=0)=Eb c r p q:=by
 obtain⟨_,p2,p3,p4,p5⟩:=DW hc hp;obtain⟨_,q2,q3,q4,q5⟩:=DW hc hq;have hn:=(Ch hc).2.2.1;have h10:=(Ch hc).2.1;have hr':=hr;simp only[Kt,zE,decide_eq_true_eq] at hr'
 obtain⟨o1,o2⟩:=A2f (Qj hc hp) (Qj hc hq);have n1:=dy (a:=p.Start) (b:=q.Start) (g:=r.Gap) a9 a9 a9 a9;have n2:=dy (a:=p.End) (b:=q.End) (g:=r.Gap) a9 a9 a9 a9;have m1:=bV (a:=p.Start) (b:=q.Start) (g:=r.Gap) a9 a9 a9 a9 hr'.1 hr'.2;have m2:=bV (a:=p.End) (b:=q.End) (g:=r.Gap) a9 a9 a9 a9 hr'.1 hr'.2;have hreg:JO r=O E:=by simp only[JO,Bw,zB]; exact congrArg O hr
 unfold OM NE NF NG IV NH Eb;simp only[E2 hn,hc,hreg,zB,if_true,CR _ (show c.Segments.length<=1000 by omega),p2,Ep,o1,o2,n1,n2,m1,m2,(BO p2).1,kY,zD,if_false];by_cases e1:p.Segment=q.Segment
 .by_cases e2:p.Ship=q.Ship
  .cases ho:Ey p q<;>simp[e1,e2]
  .by_cases e3:p.Toward=q.Toward
   .cases h1:Ex p.Start q.Start r.Gap<;>cases h2:Ex p.End q.End r.Gap<;>simp[e1,e2,e3];by_cases g1:p.Start<q.Start<;>by_cases g2:q.End<p.End<;>by_cases g3:q.Start<p.Start<;>by_cases g4:p.End<q.End<;>simp[g1,g2,g3,g4]<;>omega
   .cases ho:Ey p q<;>cases hm:r.NoMeet<;>cases hs:(Aw c p.Segment).Meet<;>simp[e1,e2,e3]<;>simp_all
 .simp[e1]
def Bp(c:X4)(r:Xi)(a b:Q X1):Z:=a.any fun p=>b.any fun q=>Eb c r p q
def oe(c:X4)(r:Xi)(a b:Q X1):Bp c r a b=Bp c r b a:=by
 rw[zR];simp only[Bp,kQ];constructor
 .rintro⟨p,hp,q,hq,h⟩
  exact⟨q,hq,p,hp,by rw[YE]; exact h⟩
 .rintro⟨p,hp,q,hq,h⟩
  exact⟨q,hq,p,hp,by rw[YE]; exact h⟩
def Yx{c:X4}{fl:Q X5}{r:Xi}(hc:AP c=E)(hr:Kt r=E){a b:Q X1}(ha:∀p∈a,Cf c fl p=E)(hb:∀p∈b,Cf c fl p=E)(la:a.length<=maxLen)(lb:b.length<=maxLen) :
  OL c r a b=O (Bp c r a b)/\NC c r a b=O (Bp c r a b):=by
 have fin:∀x:Z,(if x=E then O E else O G)=O x:=fun x=>by cases x<;>rfl
 constructor
 .have:=FA (L:=Ga b a c r) a (fun p=>b.any fun q=>Eb c r p q) (O E) (O G) la (fun n i h=>by
   rw[Ga];simp only[Aj,h,decide_true,if_true,Af h,zB]
   exact FA (L:=Jz b a (i:Y) c r a[i] (Ga b a c r n)) b (fun q=>Eb c r a[i] q) (O E) (Ga b a c r n (kZ .i64 ((i:Y)+1))) lb (fun m j hj=>by
    obtain⟨x,x1,x2⟩:=(YF hc hr (ha _ (zF h)) (hb _ (zF hj))).1;rw[Jz];simp only[Aj,hj,decide_true,if_true,Af hj,zB,x1,x2]) fun m=>by rw[Jz,if_neg d0]) fun n=>by rw[Ga,if_neg d0]
  unfold OL;rw[this,fin];rfl
 .have:=FA (L:=Fsz b a c r) a (fun p=>b.any fun q=>Eb c r p q) (O E) (O G) la (fun n i h=>by
   rw[Fsz];simp only[Aj,h,decide_true,if_true,Af h,zB]
   exact FA (L:=IU b a (i:Y) c r a[i] (Fsz b a c r n)) b (fun q=>Eb c r a[i] q) (O E) (Fsz b a c r n (kZ .i64 ((i:Y)+1))) lb (fun m j hj=>by
    obtain⟨x,x1,x2⟩:=(YF hc hr (ha _ (zF h)) (hb _ (zF hj))).2;rw[IU];simp only[Aj,hj,decide_true,if_true,Af hj,zB,x1,x2]) fun m=>by rw[IU,if_neg d0]) fun n=>by rw[Fsz,if_neg d0]
  unfold NC;rw[this,fin];rfl
def bw{B C:J->J->Z}{N μ n m:J}(h:N<=μ)(e:∀i j,i<N->j<N->B i j=C i j)(H:Cm B (2 ^ N - 1) n)(K:Cm C (2 ^ μ - 1) m):n<=m:=by
 obtain⟨f,f1,f2⟩:=K.1
 have b:∀i,(2 ^ N - 1).testBit i=E->i<N/\(2 ^ μ - 1).testBit i=E:=fun i hi=>by
  rw[yO,decide_eq_true_eq] at hi
  exact⟨hi,by rw[yO,decide_eq_true_eq]; omega⟩
 exact H.2 m ⟨f,fun i hi=>f1 i (b i hi).2,fun i j hi hj hne he=>by rw[e i j (b i hi).1 (b j hj).1]; exact f2 i j (b i hi).2 (b j hj).2 hne he⟩
def Yn{p:Y}{m:Q Y}{l k:Q Xb}{i j:J}(hi:i<l.length)(hj:j<l.length):Bb p m l i j=Bb p m (l++k) i j:=by
 unfold Bb;rw[zH hi,zH hj]
def KX{p:Y}{m:Q Y}{l:Q Xb}(hm:m.length<=maxLen)(h1:l.length<=12)(h2:∀d∈l,Bq d=E)(h3:C7 p=E)(h4:Fb m=E) :
  ∃n:J,Cm (Bb p m l) (2 ^ l.length - 1) n/\(∃w,JH p m l=O (w,(n:Y),E))/\∀k:Y,H7 p m l k=O (decide ((n:Y)<=k)):=by
 obtain⟨n,w1,w2,n12,n1,e1,e2⟩:=mZ hm (mn h1 h2 h3 h4);refine⟨n,n1,⟨w1,e1⟩,fun k=> ?_⟩;have hn:n<=l.length:=n1.2 _ (R9 (by have:=kL (n:=l.length) (show 0<2 by omega); omega));unfold H7;by_cases hk:(l.length:Y)<=k
 .have:(n:Y)<=k:=by omega
  simp[hk,this]
 .simp[hk,e2]
section
variable {c : X4} {fl : Q X5}
def BU(c:X4)(fl:Q X5)(all:Q X1):Q Xb:=all.flatMap fun p=>zI (AO fl p.Ship).Tugs.toNat (Cw c p p)
def If(l:Q Xb):Q Xb × Z:=if l.length<=12 then(l,E) else([],G)
def fQ(hn:∀x∈c.Points,x.Name.length<=maxLen)(hf:∀x∈fl,x.Name.length<=maxLen)(hc:AP c=E)(hfl:DK fl=E){all:Q X1}(hl:all.length<=maxLen)(hp:∀p∈all,Cf c fl p=E) :
  RY c fl all=O (If (BU c fl all))/\NQ c fl all=O (If (BU c fl all)):=by
 refine Bi (fun n i=>∀acc:Q Xb,acc.length<=12->Gj fl all c n (i:Y) acc=O (If (acc++BU c fl (all.drop i)))/\FV fl all c n (i:Y) acc=O (If (acc++BU c fl (all.drop i)))) hl
  (fun n acc ha=>by simp[Gj,FV,BU,If,ha]) (fun n i h ih acc ha=> ?_) (zJ _) [] d0
 have hpi:=hp _ (zF h);obtain⟨f1,f2,f3,f4,f5⟩:=DW hc hpi;obtain⟨s1,s2⟩:=HR f1;have hso:=(Ma hfl).2 _ s2
 have hT:0<=(AO fl all[i].Ship).Tugs/\(AO fl all[i].Ship).Tugs<=4:=by
  simp only[CG,zE,decide_eq_true_eq] at hso
  omega
 have hTe:(AO fl all[i].Ship).Tugs=((AO fl all[i].Ship).Tugs.toNat:Y):=by omega
 have hd:BU c fl (all.drop i)=zI (AO fl all[i].Ship).Tugs.toNat (Cw c all[i] all[i])++BU c fl (all.drop (i+1)):=by
  rw[zW h]; rfl
 rw[Gj,FV,hd];simp only[Aj,h,decide_true,if_true,Af h,zB,du hn hf hc hfl,wq hn hf hc hfl,hpi,Qu f2,s1];generalize (AO fl all[i].Ship).Tugs.toNat=T at *
 have g1:=A6y (c:=c) (p:=all[i]) s1 f2 all (i:Y) (Gj fl all c n) hTe a9 T 0 bigN acc a9 (by rw[Cc]; omega) a9;have g2:=A6x (c:=c) (fl:=fl) (p:=all[i]) f2 all (i:Y) (FV fl all c n) hTe a9 T 0 bigN acc a9 (by rw[Cc]; omega) a9;have g1:HG fl (Cy c all[i]) all (i:Y) c all[i] (Gj fl all c n) bigN 0 acc=_:=g1;have g2:Hd fl all (i:Y) (AO fl all[i].Ship) c all[i] (FV fl all c n) bigN 0 acc=_:=g2;rw[g1,g2,<- yM,Au h hl];generalize acc++zI T (Cw c all[i] all[i])=ac2 at ih ⊢
 by_cases h12:(12:Y)<(ac2.length:Y)
 .have:¬ac2.length+(BU c fl (all.drop (i+1))).length<=12:=by omega
  simp[h12,If,this]
 .simp only[h12,decide_false,zD,if_false];exact ih ac2 a9
def W7(hc:AP c=E){all:Q X1}(hp:∀p∈all,Cf c fl p=E):∀d∈BU c fl all,Bq d=E:=fun d hd=>by
 obtain⟨p,hpm,hd⟩:=List.mem_flatMap.1 hd;rw[(List.mem_replicate.1 hd).2];have:=DW hc (hp p hpm);exact YN hc this.2.1 this.2.1 this.2.2.1 (Qj hc (hp p hpm)) this.2.2.2.2
def Eo(l:Q X1):X1:=l.head?.getD ⟨0,0,G,0,0⟩
def Gw(l:Q X1):X1:=l.getLast?.getD ⟨0,0,G,0,0⟩
def BH(c:X4)(pl:Q X0):Q Xb:=pl.map fun o=>Cw c (Eo o.Passages) (Gw o.Passages)
def U7{l:Q X1}(h:l≠ []):l.head?=O (Eo l)/\l.getLast?=O (Gw l):=by
 cases l with
 | nil=>exact absurd rfl h
 | cons a l=>
  refine⟨zA,?_⟩;unfold Gw;cases e:(a::l).getLast? with
  | none=>rw[kN] at e; cases e
  | some x=>rfl
def GoodP.duty{l:Q X1}(hc:AP c=E)(H:GoodP c fl l):Cf c fl (Eo l)=E/\Cf c fl (Gw l)=E/\Bq (Cw c (Eo l) (Gw l))=E:=by
 obtain⟨e1,e2⟩:=U7 H.ne;have i1:=H.inn _ (List.mem_of_head? e1);have i2:=H.inn _ (List.mem_of_getLast? e2);have f1:=DW hc i1;have f2:=DW hc i2;have hpos:=zU.2 H.ne
 have hlt:∀j (h:j<l.length),(l[0]'hpos).Start<l[j].End:=by
  intro j
  induction j with
  | zero=>intro h; exact Qj hc (H.inn _ (zF h))
  | succ j ih=>
   intro h;have g1:=ih a9;have g2:=(H.link j h).2;have g3:=Qj hc (H.inn _ (zF h));omega
 have s1:l[0]'hpos=Eo l:=by rw[kD,zC hpos] at e1; exact kX e1
 have s2:l[l.length - 1]' a9=Gw l:=by rw[zX,zC a9] at e2; exact kX e2
 have:=hlt (l.length - 1) a9;rw[s1,s2] at this
 exact⟨i1,i2,YN hc f1.2.1 f2.2.1 f1.2.2.1 this f2.2.2.2.2⟩
def A2p(hn:∀x∈c.Points,x.Name.length<=maxLen)(hf:∀x∈fl,x.Name.length<=maxLen)(hc:AP c=E)(hfl:DK fl=E){l:Q X1}(hl:l.length<=100000000)(H:GoodP c fl l):P2 c fl l=O (Cw c (Eo l) (Gw l),E):=by
 have hlm:l.length<=maxLen:=Ak a9;have hpos:=zU.2 H.ne;have h10:=(Ch hc).2.1;obtain⟨e1,e2⟩:=U7 H.ne;obtain⟨i1,i2,_⟩:=H.duty hc;have h00:ix l (0:Y)=O (Eo l):=by have:=Am l 0; rw[<- kD,e1] at this; exact this
 obtain⟨sh,hsh⟩:=H.ship
 have chain:OQ c l=O E:=by
  unfold OQ;rw[E2 hn,hc,zB,if_pos rfl];refine Bi (fun n i=>Hn l c n (i:Y)=O E) hlm (fun n=>by simp[Hn]) (fun n i h ih=> ?_) (zJ _);have hs:=(DW hc (H.inn _ (zF h))).2.1;have hq:(l[i].Ship !=(Eo l).Ship)=G:=by rw[hsh _ (zF h),hsh _ (List.mem_of_head? e1)]; simp
  rw[Hn];simp only[Aj,h,decide_true,if_true,Af h,h00,zB,hq,zD,if_false,CR _ (show c.Segments.length<=1000 by omega),hs,Au h hlm,ih];cases i with
  | zero=>rfl
  | succ i=>
   have hz:(((i+1:J):Y)==(0:Y))=G:=beq_eq_false_iff_ne.2 a9
   have ew:kZ .i64 (((i+1:J):Y) - 1)=(i:Y):=by
    rw[show((i+1:J):Y) - 1=(i:Y) by omega];exact Ai a9 a9
   have hi:i<l.length:=by omega
   have hs':=(DW hc (H.inn _ (zF hi))).2.1;obtain⟨k1,k2⟩:=H.link i h;have hx:¬l[i+1].Start<l[i].End:=by omega
   simp only[hz,zD,if_false,Qu hs,ew,Af hi,zB,Qu hs',k1,bne_self_eq_false,hx,decide_false]
 unfold P2 P3;have hz:((l.length:Y)==(0:Y))=G:=beq_eq_false_iff_ne.2 a9;simp only[hz,zD,if_false,chain,zB,kY];refine Bi (fun n i=>JM fl l c n (i:Y)=O (Cw c (Eo l) (Gw l),E)) hlm (fun n=> ?_) (fun n i h ih=> ?_) (zJ _)
 .have s1:=(DW hc i1).2.1;have s2:=(DW hc i2).2.1;rw[JM,if_neg d0,HT hlm e2,zB,h00,zB,Qu s1,zB,Qu s2,zB];rfl
 .rw[JM];simp only[Aj,h,decide_true,if_true,Af h,zB,du hn hf hc hfl,H.inn _ (zF h),Au h hlm,ih]
end
def BE(pl:Q X0):Q X1:=(B3 pl).flatten
def FitP(h:X3)(pl:Q X0):Prop:=
 (BU h.Chart h.Fleet (BE pl)).length<=12/\(∃n:J,Cm (Bb 0 h.Crew.Moves (BU h.Chart h.Fleet (BE pl))) (2 ^ (BU h.Chart h.Fleet (BE pl)).length - 1) n/\(n:Y)<=h.Crew.Tugs)/\
  ∃n:J,Cm (Bb h.Crew.Rest h.Crew.Moves (BH h.Chart pl)) (2 ^ (BH h.Chart pl).length - 1) n/\(n:Y)<=h.Crew.Pilots
def cA{B:J->J->Z}{S n m:J}(H:Cm B S n)(K:Cm B S m):n=m:=Nat.le_antisymm (H.2 _ K.1) (K.2 _ H.1)
def E9(h:X3)(pl:Q X0):Prop:=∀o∈pl,GoodP h.Chart h.Fleet o.Passages/\o.Passages.length<=1048576
def Ps{h:X3}{pl:Q X0}(H:E9 h pl):∀p∈BE pl,Cf h.Chart h.Fleet p=E:=fun p hp=>by
 obtain⟨l,hl,hp⟩:=List.mem_flatten.1 hp;obtain⟨o,ho,rfl⟩:=kS.1 hl;exact(H o ho).1.inn p hp
def Vy{h:X3}{pl:Q X0}(hc:AP h.Chart=E)(H:E9 h pl):∀d∈BH h.Chart pl,Bq d=E:=fun d hd=>by
 obtain⟨o,ho,rfl⟩:=kS.1 hd;exact((H o ho).1.duty hc).2.2
def FitP.app{h:X3}{pl ql:Q X0}(hh:B4 h=E)(s:HSmall h)(H:E9 h (pl++ql))(hl:pl.length<=12)(F:FitP h (pl++ql)):FitP h pl:=by
 obtain⟨_,hc,_,_,hw⟩:=F2 hh;obtain⟨m1,m2⟩:=U0 hw;have Hp:E9 h pl:=fun o ho=>H o (List.mem_append_left _ ho)
 have et:BU h.Chart h.Fleet (BE (pl++ql))=BU h.Chart h.Fleet (BE pl)++BU h.Chart h.Fleet (BE ql):=by simp[BE,B3,BU,List.flatMap_append]
 have ep:BH h.Chart (pl++ql)=BH h.Chart pl++BH h.Chart ql:=by simp[BH]
 obtain⟨f1,⟨n,f2,f3⟩,m,f4,f5⟩:=F;rw[et] at f1 f2
 rw[ep] at f4
 have l1:(BU h.Chart h.Fleet (BE pl)).length<=12:=by rw[zO] at f1; omega
 obtain⟨n',k1,_,_⟩:=KX (p:=0) s.mv l1 (W7 hc (Ps Hp)) d4 m2;obtain⟨m',k2,_,_⟩:=KX (p:=h.Crew.Rest) s.mv (l:=BH h.Chart pl) (by simpa[BH] using hl) (Vy hc Hp) m1 m2;have q1:=bw d0 (fun i j hi hj=>Yn hi hj) k1 f2;have q2:=bw d0 (fun i j hi hj=>Yn hi hj) k2 f4;exact⟨l1,⟨n',k1,a9⟩,m',k2,a9⟩
def FitP.iff{h:X3}{pl:Q X0}{n m:J}(h12:(BU h.Chart h.Fleet (BE pl)).length<=12)(k1:Cm (Bb 0 h.Crew.Moves (BU h.Chart h.Fleet (BE pl))) (2 ^ (BU h.Chart h.Fleet (BE pl)).length - 1) n)(k4:Cm (Bb h.Crew.Rest h.Crew.Moves (BH h.Chart pl)) (2 ^ (BH h.Chart pl).length - 1) m) :
  (n:Y)<=h.Crew.Tugs/\(m:Y)<=h.Crew.Pilots↔FitP h pl:=by
 constructor
 .rintro⟨a,b⟩
  exact⟨h12,⟨n,k1,a⟩,m,k4,b⟩
 .rintro⟨_,⟨n',a1,a2⟩,m',b1,b2⟩
  rw[cA k1 a1,cA k4 b1];exact⟨a2,b2⟩
def Za{h:X3}{pl:Q X0}(hl:pl.length<=12)(H:E9 h pl):(BE pl).length<=1000000000000:=by
 have:∀(ql:Q X0),(∀o∈ql,o.Passages.length<=1048576)->(BE ql).length<=ql.length*1048576:=by
  intro ql
  induction ql with
  | nil=>intro _; simp[BE,B3]
  | cons o ql ih=>
   intro h;have h1:=ih fun x hx=>h x (yH _ hx)
   have h2:=h o (yK ..);have e:BE (o::ql)=o.Passages++BE ql:=rfl;rw[e,zO,kT];omega
 have:=this pl fun o ho=>(H o ho).2
 omega
def YM{h:X3}(s:HSmall h)(hh:B4 h=E){pl:Q X0}(hl:pl.length<=12)(H:E9 h pl):∃b,H8 h pl=O b/\(b=E↔FitP h pl):=by
 obtain⟨_,hc,hfl,_,hw⟩:=F2 hh;obtain⟨m1,m2⟩:=U0 hw;have hlm:pl.length<=maxLen:=Ak a9
 have key:=Bi (fun n i=>∀v2 v3,v2.length<=i*1048576->v3.length=i->H9 pl h n (i:Y) v2 v3=(NQ h.Chart h.Fleet (v2++BE (pl.drop i))).bind fun r12=>
   if r12.2 then(H7 0 h.Crew.Moves r12.1 h.Crew.Tugs).bind fun r14=>if r14 then(H7 h.Crew.Rest h.Crew.Moves (v3++BH h.Chart (pl.drop i)) h.Crew.Pilots).bind fun r16=>O r16 else O G else O G) hlm
  (fun n v2 v3 h1 h2=>by rw[H9,if_neg d0]; simp[BE,B3,BH]) (fun n i hi ih v2 v3 h1 h2=> ?_) (zJ _) [] [] d0 rfl
 .have key:H8 h pl=_:=key;rw[key,yY,kH,kH,(fQ s.pn s.fn hc hfl (Ak (Za hl H)) (Ps H)).2,zB];unfold If;by_cases h12:(BU h.Chart h.Fleet (BE pl)).length<=12
  .obtain⟨n,k1,_,k3⟩:=KX (p:=0) s.mv h12 (W7 hc (Ps H)) d4 m2;obtain⟨m,k4,_,k6⟩:=KX (p:=h.Crew.Rest) s.mv (l:=BH h.Chart pl) (by simpa[BH] using hl) (Vy hc H) m1 m2;simp only[h12,if_true,k3,k6,zB];refine⟨decide ((n:Y)<=h.Crew.Tugs)&&decide ((m:Y)<=h.Crew.Pilots),by by_cases q:(n:Y)<=h.Crew.Tugs<;>simp[q],?_⟩;simp only[zE,decide_eq_true_eq];exact FitP.iff h12 k1 k4
  .simp only[h12,if_false];exact⟨G,zA,⟨(fun h=>by cases h),fun F=>absurd F.1 h12⟩⟩
 .obtain⟨g1,g2⟩:=H _ (zF hi);obtain⟨e1,e2⟩:=U7 g1.ne;obtain⟨i1,i2,_⟩:=g1.duty hc;have hz:(0:Y)<(pl[i].Passages.length:Y):=by have:=zU.2 g1.ne; omega
  have h00:ix pl[i].Passages (0:Y)=O (Eo pl[i].Passages):=by have:=Am pl[i].Passages 0; rw[<- kD,e1] at this; exact this
  rw[H9];simp only[Aj,hi,decide_true,if_true,Af hi,zB,hz,h00,HT (Ak a9) e2,bR (DW hc i1).2.1 (DW hc i2).2.1];rw[if_pos (KQ a9 a9),if_pos (AT a9 d0 a9),Au hi hlm,ih _ _ d3 d3];simp only[zW hi,BE,B3,BH,List.map_cons,List.flatten_cons,yM,List.singleton_append]
def A4u{h:X3}(s:HSmall h)(hh:B4 h=E){pl:Q X0}(hl:pl.length<=12)(H:E9 h pl):∃b,ON h.Crew h.Chart h.Fleet (B3 pl)=O b/\(b=E↔FitP h pl):=by
 obtain⟨_,hc,hfl,_,hw⟩:=F2 hh;obtain⟨m1,m2⟩:=U0 hw;have hlm:pl.length<=maxLen:=Ak a9;obtain⟨m,k4,⟨w4,k5⟩,_⟩:=KX (p:=h.Crew.Rest) s.mv (l:=BH h.Chart pl) (by simpa[BH] using hl) (Vy hc H) m1 m2
 have pil:P4 h.Crew h.Chart h.Fleet (B3 pl)=O (m:Y):=by
  unfold P4;rw[VL s.mv,hw,zB,if_pos rfl];have hcl:(B3 pl).length=pl.length:=by simp[B3]
  refine Bi (fun n i=>∀v,v.length=i->v++BH h.Chart (pl.drop i)=BH h.Chart pl->Ht h.Fleet (B3 pl) h.Crew h.Chart n (i:Y) v=O (m:Y)) hlm (fun n v h1 h2=> ?_) (fun n i hi ih v h1 h2=> ?_) (zJ _) [] rfl d0
  .rw[Ht,if_neg (by rw[hcl]; simp)];have:v=BH h.Chart pl:=by simpa[BH] using h2
   rw[this,k5];rfl
  .obtain⟨g1,g2⟩:=H _ (zF hi);have hi':i<(B3 pl).length:=by omega
   have hg:(B3 pl)[i]=pl[i].Passages:=by simp[B3]
   have hz:((pl[i].Passages.length:Y)==(0:Y))=G:=beq_eq_false_iff_ne.2 (by have:=zU.2 g1.ne; omega);rw[Ht];simp only[Aj,hi',decide_true,if_true,Af hi',hg,zB,hz,zD,if_false,A2p s.pn s.fn hc hfl a9 g1];rw[if_pos (AT a9 d0 a9),Au hi hlm];exact ih _ d3 (by rw[<- h2,zW hi,yM]; rfl)
 have hT:∃t:Y,LZ h.Crew h.Chart h.Fleet (BE pl)=O t/\((0<=t/\t<=h.Crew.Tugs)/\(m:Y)<=h.Crew.Pilots↔FitP h pl):=by
  unfold LZ;rw[(fQ s.pn s.fn hc hfl (Ak (Za hl H)) (Ps H)).1,zB,VL s.mv,hw,zB,if_pos rfl];unfold If;by_cases h12:(BU h.Chart h.Fleet (BE pl)).length<=12
  .obtain⟨n,k1,⟨w1,k2⟩,_⟩:=KX (p:=0) s.mv h12 (W7 hc (Ps H)) d4 m2;simp only[h12,if_true,k2,zB];exact⟨n,rfl,by rw[<- FitP.iff h12 k1 k4]; constructor<;>(rintro⟨a,b⟩; exact⟨a9,b⟩)⟩
  .simp only[h12,if_false];exact⟨-1,zA,⟨(fun h=>by omega),fun F=>absurd F.1 h12⟩⟩
 obtain⟨t,t1,t2⟩:=hT
 have:=(tb (L:=JB h.Fleet (B3 pl) h.Crew h.Chart) (B3 pl) (O ((decide (0<=t)&&decide (t<=h.Crew.Tugs))&&decide ((m:Y)<=h.Crew.Pilots))) (by simp[B3]; omega) (fun x hx=>by
  obtain⟨o,ho,rfl⟩:=kS.1 hx
  exact(H o ho).2) (fun n i acc hi ha=>by
   have:(B3 pl)[i].length<=1048576:=by
    obtain⟨o,ho,e⟩:=kS.1 (zF hi);rw[<- e]; exact(H o ho).2
   have hcl:(B3 pl).length=pl.length:=by simp[B3]
   rw[JB];simp only[Aj,hi,decide_true,if_true,Af hi,zB]
   rw[if_pos (KQ a9 a9)]) fun n=>by
    rw[JB,if_neg d0];have t1:LZ h.Crew h.Chart h.Fleet (B3 pl).flatten=O t:=t1;rw[t1,zB,Bw,zB,pil,zB,Bw];cases decide (0<=t)&&decide (t<=h.Crew.Tugs)<;>simp).1
 refine⟨_,this,?_⟩;rw[<- t2];simp only[zE,decide_eq_true_eq]
def oi{l:Q X0}(h:l.length<=1000):Lk l=O l:=by
 unfold Lk BB;rw[if_pos ⟨a9,a9,a9,a9⟩];simp only[zB,Int.toNat_zero,List.replicate_zero,kH];rw[if_pos (by simp only[Ab,List.length_nil,decide_eq_true_eq]; omega)]
def Ts(h:X3)(l:Q X0)(o:X0):Prop:=∀x∈l,Bp h.Chart h.Regime x.Passages o.Passages=G
def tZ{h:X3}(s:HSmall h)(hh:B4 h=E){l:Q X0}{o:X0}(hl:l.length<=11)(H:E9 h (l++ [o])):∃b,NK h l o=O b/\(b=E↔Ts h l o/\FitP h (l++ [o])):=by
 obtain⟨_,hc,_,hr,_⟩:=F2 hh;obtain⟨b,b1,b2⟩:=YM s hh (pl:=l++ [o]) d3 H;have Ho:=H o d0
 have e:=FA (L:=IX l h o) l (fun x=>Bp h.Chart h.Regime x.Passages o.Passages) (O G) (O b) (Ak a9) (fun n i hi=>by
  have Hi:=H l[i] (List.mem_append_left _ (zF hi));rw[IX]
  simp only[Aj,hi,decide_true,if_true,Af hi,zB,(Yx hc hr Hi.1.inn Ho.1.inn (Ak a9) (Ak a9)).2]) fun n=>by
   rw[IX,if_neg d0,oi a9,zB,if_pos (AT a9 d0 a9),b1];rfl
 have e:NK h l o=_:=e;rw[e];cases ha:l.any fun x=>Bp h.Chart h.Regime x.Passages o.Passages with
 | true=>
  obtain⟨x,x1,x2⟩:=kQ.1 ha;exact⟨G,zA,(fun h=>by cases h),fun K=>by rw[K.1 x x1] at x2; cases x2⟩
 | false=>
  refine⟨b,zA,b2.trans ⟨fun F=>⟨fun x hx=> ?_,F⟩,fun K=>K.2⟩⟩;have:=List.any_eq_false.1 ha x hx;simpa using this
def FitP.nil{h:X3}(hh:B4 h=E):FitP h []:=by
 have hw:=(F2 hh).2.2.2.2;simp only[FH,zE,decide_eq_true_eq] at hw
 exact⟨by simp[BU,BE,B3],⟨0,Vd,hw.1.1⟩,0,Vd,hw.2.1.1⟩
def TO{m n:J}(h:m+n<=140737488355328):FF m n=E:=by
 unfold FF;simp only[decide_eq_true_eq];omega
def ey{xs:Q X8}(h:xs.length<=1048576):EV xs=O xs:=by
 unfold EV;rw[DQ h a9];have:=FG (L:=Jl xs) xs id (Es h) (fun n i acc hi ha=>by simp[Jl,Am,hi,ha,Ry]) (fun n acc=>by simp[Jl]) (zI xs.length ⟨0,0,0,0,0⟩) d0;simpa using this
def sJ{xs:Q X8}(h:xs.length<=maxLen):NU xs xs=O E:=by
 unfold NU;have:=Fz (L:=J5 xs xs) xs (fun _=>E) h (fun n i hi=>by simp[J5,Am,hi,Rq]) (fun n=>by simp[J5]);simp[this]
def A0q(P:J->J->Prop){len:J}(h0:∀n,P (n+1) len)(hs:∀n i,i<len->P n (i+1)->P (n+1) i):∀k i n,i+k=len->k<n->P n i:=by
 intro k
 induction k with
 | zero=>
  intro i n h1 h2;obtain⟨q,rfl⟩:=sn (n:=n) a9;obtain rfl:i=len:=by omega
  exact h0 q
 | succ k ih=>
  intro i n h1 h2;obtain⟨q,rfl⟩:=sn (n:=n) a9;exact hs q i a9 (ih _ _ a9 a9)
def Ym:∃m,bigN=m+1/\1000000000000<m:=⟨1208925819614629174706175,by rw[Cc],a9⟩
def R7(y:Xa):J:=(Eu y).countP fun b=> !b
def oz{l:Q Z}:∀{n:J},l[n]?=O G->((l.set n E).countP fun b=> !b)+1=l.countP fun b=> !b:=by
 induction l with
 | nil=>intro n h; simp at h
 | cons a l ih=>
  intro n h;cases n with
  | zero=>simp only[yZ,zG] at h; subst h; simp
  | succ n=>
   simp only[List.getElem?_cons_succ] at h;have:=ih h;simp only[List.set_cons_succ,List.countP_cons];omega
def Yz{y:Xa}{a:Y}(h:ix (Eu y) a=O G):R7 (Xa.set y (Int.toNat a) E)+1=R7 y/\0<=a/\a<8:=by
 have hg:=Ah h;have hl:(Eu y).length=8:=rfl
 have ha:0<=a:=by
  unfold ix at h;split at h
  .rename_i h1; exact h1
  .cases h
 have hn:a.toNat<8:=by
  have:=(kM.1 hg).1;omega
 refine⟨?_,ha,a9⟩;unfold R7;rw[dl y hn];exact oz hg
def TQ{l:Q Y}(h:l.length<=1000):Ee l=O l:=by
 unfold Ee BB;rw[if_pos ⟨a9,a9,a9,a9⟩];simp only[zB,Int.toNat_zero,List.replicate_zero,kH];rw[if_pos (by simp only[Ab,List.length_nil,decide_eq_true_eq]; omega)]
structure Lead (c:X4) (a:Y) (rt l:Q Y):Prop where
 r:RtOk c rt l
 hd:l[0]?=O a
 fr:∀i (h:i+1<l.length),((l.take (i+1)).any fun z=>z==l[i+1])=G
def Lead.snoc{c:X4}{a:Y}{rt l:Q Y}(H:Lead c a rt l){x:Y}(hx:l.getLast?=O x){i:J}(hi:i<c.Segments.length)(he:idx (BY c.Segments[i] x) c.Points.length=E)(hf:(l.any fun z=>z==BY c.Segments[i] x)=G) :
  Lead c a (rt++ [(i:Y)]) (l++ [BY c.Segments[i] x]):=by
 have hlen:=H.r.len;have hsi:idx (i:Y) c.Segments.length=E:=Mh.2 ⟨a9,a9⟩;have hsg:Aw c (i:Y)=c.Segments[i]:=by unfold Aw; rw[zP,zC hi]; rfl
 refine⟨⟨d3,fun y hy=> ?_,fun j hj=> ?_,fun j hj=> ?_⟩,by rw[zH a9]; exact H.hd,fun j hj=> ?_⟩
 .rcases zV.1 hy with hy|hy
  .exact H.r.pt y hy
  .rw[zS] at hy; subst hy; exact he
 .by_cases h:j<rt.length
  .rw[zM h]; exact H.r.seg j h
  .rw[yI a9]; simpa using hsi
 .simp only[zO,zY] at hj
  by_cases h:j<rt.length
  .obtain⟨y,y1,y2,y3⟩:=H.r.stp j h;rw[zM h];exact⟨y,by rw[zH a9]; exact y1,by rw[zH a9]; exact y2,y3⟩
  .obtain rfl:j=rt.length:=by omega
   rw[yI a9];simp only[Nat.sub_self,List.getElem_singleton,hsg];exact⟨x,by rw[zH a9,<- hx,zX,hlen]; rfl,by rw[zT a9,hlen]; simp,(Mh.1 he).1⟩
 .simp only[zO,zY] at hj
  by_cases h:j+1<l.length
  .rw[kI a9,zM h];exact H.fr j h
  .have e:j+1=l.length:=by omega
   rw[yI a9];simp only[e,Nat.sub_self,List.getElem_singleton];rw[kI a9,yJ];exact hf
def Lead.points{c:X4}{a:Y}{rt l:Q Y}(hc:AP c=E)(hl:rt.length<=1000000)(H:Lead c a rt l):Hx c a rt=O (l,E):=by
 have hlen:=H.r.len;have h10:=(Ch hc).2.1
 have h1:l.take 1= [a]:=by
  have h0:=H.hd;cases l with
  | nil=>cases h0
  | cons x l=>simp only[yZ,zG] at h0; subst h0; rfl
 unfold Hx;rw[<- h1];refine Bi (fun n i=>El rt c n (i:Y) (l.take (i+1))=O (l,E)) (Ak a9) (fun n=> ?_) (fun n i hi ih=> ?_) (zJ rt.length)
 .rw[El,if_neg d0,<- hlen,yJ]
 .obtain⟨x,x1,x2,x3⟩:=H.r.stp i hi;have hi1:i+1<l.length:=by omega
  have hlast:(l.take (i+1)).getLast?=O x:=by
   rw[zX,List.length_take,Nat.min_eq_left a9,List.getElem?_take_of_lt a9];simpa using x1
  rw[zC hi1,zG] at x2
  have hfr:=H.fr i hi1;rw[x2] at hfr
  have hneg:¬BY (Aw c rt[i]) x<0:=by omega
  rw[El];simp only[Aj,hi,decide_true,if_true,Af hi,zB,CR _ (show c.Segments.length<=1000 by omega),H.r.seg i hi,(BO (H.r.seg i hi)).1,HT (Ak (n:=(l.take (i+1)).length) d3) hlast,Vr,hneg,decide_false,zD,if_false,Um (Ak (n:=(l.take (i+1)).length) d3),hfr,Hy];rw[if_pos (AT d3 d0 a9),Au hi (Ak a9),<- x2];rw[show l.take (i+1)++ [l[i+1]]=l.take (i+1+1) by rw[zL hi1]];exact ih
def A9m{c:X4}(hc:AP c=E){a0:Y}:∀(u n:J) (a b:Y) (rt pts:Q Y) (y:Xa) (out:Q (Q Y)),u<n->R7 y<=u->ix (Eu y) a=O G->Met (Xa.set y a.toNat E) pts->pts.getLast?=O a->Lead c a0 rt pts->rt.length+u<=100->out.length+10 ^ u<=100000000->
  ∃r,H1 n c a b rt y out=O r/\HA n c pts rt b out=O r/\r.length<=out.length+10 ^ u/\∀x∈r,x∈out\/(x.length<=100/\∃p,Lead c a0 x p/\p.getLast?=O b):=by
 obtain⟨_,hs10,_,_⟩:=Ch hc;intro u
 induction u with
 | zero=>
  intro n a b rt pts y out hn hu hi;have:=(Yz hi).1;omega
 | succ u ih=>
  intro n a b rt pts y out hn hu hi hm hla hL hr ho;obtain⟨q,rfl⟩:=sn (n:=n) a9;obtain⟨hc1,ha0,ha8⟩:=Yz hi;have hp:10 ^ (u+1)=10*10 ^ u:=by rw[Nat.pow_succ]; omega
  have hp1:0<10 ^ u:=kL a9;have hpl:=hL.r.len;rw[H1,Rg,HA,RU,HT (Ak a9) hla,zB];by_cases hab:(a==b)=E
  .have e:a=b:=by simpa using hab
   rw[if_pos hab,if_pos hab,TQ a9,zB,if_pos (AT a9 d0 a9),if_pos (AT d0 a9 a9)];refine⟨_,zA,zA,d3,fun x hx=> ?_⟩;rcases zV.1 hx with hx|hx
   .exact Or.inl hx
   .simp only[zS] at hx; subst hx; exact Or.inr ⟨a9,pts,hL,e▸hla⟩
  .rw[if_neg hab,if_neg hab,if_pos d3];generalize hy:Xa.set y (Int.toNat a) E=y' at hm
   have hy':(⟨y'.i0,y'.i1,y'.i2,y'.i3,y'.i4,y'.i5,y'.i6,y'.i7⟩:Xa)=y':=rfl;rw[hy'];rw[hy] at hc1
   obtain⟨r,e1,e2,e3,e4⟩:=Bi (fun m i=>∀o:Q (Q Y),o.length<=out.length+i*10 ^ u->(∀x∈o,x∈out\/(x.length<=100/\∃p,Lead c a0 x p/\p.getLast?=O b))->
     ∃r,H0 (H1 q) a b rt c y' m (i:Y) o=O r/\Hz (HA q) pts rt b a c m (i:Y) o=O r/\r.length<=out.length+c.Segments.length*10 ^ u/\∀x∈r,x∈out\/(x.length<=100/\∃p,Lead c a0 x p/\p.getLast?=O b)) (Ak (n:=c.Segments.length) a9)
    (fun m o hl hx=>⟨o,by simp[H0],by simp[Hz],hl,hx⟩) (fun m i hlt ihk o hl hx=>by
     have hsucc:(i+1)*10 ^ u=i*10 ^ u+10 ^ u:=Nat.succ_mul i _;have hle:i*10 ^ u<=9*10 ^ u:=Nat.mul_le_mul_right _ a9;rw[H0,Hz];simp only[Aj,hlt,decide_true,if_true,Af hlt,zB,U6,Vr];have he:=YP hc (zF hlt) a;have hE:∃e,BY c.Segments[i] a=e:=⟨_,rfl⟩;obtain⟨e,hE⟩:=hE;rw[hE] at he ⊢
     by_cases h0:0<=e
     .have hei:=he.resolve_left a9;have he':=Mh.1 hei;have hp8:=(Ch hc).1;have hd:(decide (0<=e)&&decide (e<8))=E:=by simp; omega
      have hmE:=hm e h0 a9;have hmE':=hmE;unfold Eu at hmE'
      simp only[h0,decide_true,if_true,Um (Ak (n:=pts.length) a9),zB];rw[if_pos d3,hmE',zB];cases hb:pts.any fun z=>z==e with
      | true=>
       simp only[IB,JY,kY,zD,if_false,Au hlt (Ak (n:=c.Segments.length) a9)];exact ihk o a9 hx
      | false=>
       simp only[IB,JY,Bool.not_false,if_true,Au hlt (Ak (n:=c.Segments.length) a9)];rw[TQ a9,zB,if_pos (AT a9 d0 a9),if_pos (AT d0 a9 a9),if_pos (AT a9 d0 a9),if_pos (AT d0 a9 a9),if_pos (AT a9 d0 a9)];rw[hb] at hmE
       obtain⟨r,e1,e2,e3,e4⟩:=ih q e b (rt++ [(i:Y)]) (pts++ [e]) y' o a9 a9 hmE (hm.snoc h0 a9) d0 (by have:=hL.snoc hla hlt (by rw[hE]; exact hei) (by rw[hE]; exact hb); rw[hE] at this; exact this) d3 a9;rw[e1,e2,zB,zB]
       exact ihk r a9 fun x h=>by
        rcases e4 x h with h|h
        .exact hx x h
        .exact Or.inr h
     .simp only[h0,decide_false,zD,if_false,IB,JY,Au hlt (Ak (n:=c.Segments.length) a9)];exact ihk o a9 hx) (zJ _) out a9 fun x hx=>Or.inl hx
   have hle:c.Segments.length*10 ^ u<=10*10 ^ u:=Nat.mul_le_mul_right _ hs10;exact⟨r,e1,e2,a9,e4⟩
def nr{c:X4}(hc:AP c=E){a b:Y}(ha:idx a c.Points.length=E)(hb:idx b c.Points.length=E):∃r,P7 c a b=O r/\Nv c a b=O r/\r.length<=100000000/\∀x∈r,x.length<=100/\∃p,Lead c a x p/\p.getLast?=O b:=by
 have hp8:=(Ch hc).1;have hn:=(Ch hc).2.2.1;have ha':=Mh.1 ha
 have hi:ix (Eu ⟨G,G,G,G,G,G,G,G⟩) a=O G:=by
  obtain⟨n,rfl⟩:∃n:J,a=(n:Y):=⟨a.toNat,a9⟩;have:n=0\/n=1\/n=2\/n=3\/n=4\/n=5\/n=6\/n=7:=by omega
  rcases this with rfl|rfl|rfl|rfl|rfl|rfl|rfl|rfl<;>rfl
 have m0:Met ⟨G,G,G,G,G,G,G,G⟩ []:=fun x x0 x8=>by
  obtain⟨n,rfl⟩:∃n:J,x=(n:Y):=⟨x.toNat,a9⟩;have:n=0\/n=1\/n=2\/n=3\/n=4\/n=5\/n=6\/n=7:=by omega
  rcases this with rfl|rfl|rfl|rfl|rfl|rfl|rfl|rfl<;>rfl
 obtain⟨r,e1,e2,e3,e4⟩:=A9m hc (a0:=a) 8 bigN a b [] [a] ⟨G,G,G,G,G,G,G,G⟩ [] (by rw[Cc]; omega) d4 hi (m0.snoc ha'.1 a9) rfl ⟨⟨rfl,by simpa using ha,fun i h=>by simp at h,fun i h=>by simp at h⟩,rfl,fun i h=>by simp at h⟩ d0 d0;refine⟨r,?_,?_,by simpa using e3,fun x hx=>(e4 x hx).resolve_left d0⟩
 .unfold P7 Uc;simp only[E2 hn,hc,zB,if_true,CR _ (show c.Points.length<=1000 by omega),ha,hb,e2]
 .unfold Nv U9;simp only[Gr hn,hc,zB,if_true,Ep,ha,hb,e1]
def nq{c:X4}(hc:AP c=E){a b:Y}(ha:idx a c.Points.length=E)(hb:idx b c.Points.length=E):∃rt q,OF c a b=O (rt,q)/\N9 c a b=O (rt,q)/\(q=G->rt= [])/\(q=E->rt.length<=100/\∃p,Lead c a rt p/\p.getLast?=O b):=by
 obtain⟨r,e1,e2,e3,e4⟩:=nr hc ha hb;unfold OF N9;rw[e1,e2,zB,zB];cases hr0:r with
 | nil=>exact⟨[],G,by obtain⟨m,hm,_⟩:=Ym; rw[hm]; rfl,rfl,fun _=>rfl,fun h=>by cases h⟩
 | cons r0 rs=>
  rw[<- hr0];have hpos:0<r.length:=by rw[hr0]; simp
  have hz:((r.length:Y)==(0:Y))=G:=beq_eq_false_iff_ne.2 a9;have h00:ix r (0:Y)=O r0:=by rw[hr0]; rfl
  have hm0:r0∈r:=by rw[hr0]; simp
  have hlm:r.length<=maxLen:=Ak a9;rw[hz,if_neg d0,h00,zB]
  have rm:∀x∈r,∃m,Hu c x=O m/\H6 c x=O m:=fun x hx=>by
   obtain⟨h1,p,h2,_⟩:=e4 x hx;obtain⟨m,m1,m2,_⟩:=dX hc (rt:=x) a9 h2.r.seg;exact⟨m,m1,m2⟩
  have key:=A0q (fun n i=>∀v∈r,∃rt∈r,G6 r c n v E (i:Y)=O (rt,E)/\FI r c n v (i:Y)=O (rt,E)) (len:=r.length)
   (fun n v hv=>⟨v,hv,by simp[G6],by simp[FI]⟩) (fun n i hi ih v hv=>by
    obtain⟨m1,g1,g2⟩:=rm _ (zF hi);obtain⟨m2,g3,g4⟩:=rm v hv;rw[G6,FI];simp only[Aj,hi,decide_true,if_true,Af hi,zB,g1,g2,g3,g4,Au hi hlm,LK];by_cases hlt:m1<m2
    .simp only[hlt,decide_true,if_true];exact ih _ (zF hi)
    .simp only[hlt,decide_false,zD,if_false];exact ih v hv)
  obtain⟨m,hm,hm1⟩:=Ym;obtain⟨rt,hrt,k1,k2⟩:=key (r.length - 1) 1 m a9 a9 r0 hm0;obtain⟨m1,g1,g2⟩:=rm r0 hm0;refine⟨rt,E,?_,?_,(fun h=>by cases h),fun _=>e4 rt hrt⟩
  .rw[hm,G6];have hd:(decide ((0:Y)<(r.length:Y)))=E:=by simp; omega
   simp only[hd,if_true,h00,zB,zD,if_false,LK];exact k1
  .rw[hm,FI];have hd:(decide ((0:Y)<(r.length:Y)))=E:=by simp; omega
   simp only[hd,if_true,h00,zB,g2,show ¬m1<m1 by omega,decide_false,zD,if_false];exact k2
def EE(h:X3)(o:X0):Prop:=(GoodP h.Chart h.Fleet o.Passages/\o.Passages.length<=1048576)/\0<=o.Cost/\o.Cost<=2940/\0<=o.Start/\o.Start<=2880
def cm{v:Xk}{st r5:Y}{ps:Q X1}{z:X0 × Z}:∀(n:J) (i c:Y),ER v st r5 ps n i c=O z->z.1.Start=st
 | 0,_,_,h=>by cases h
 | n+1,i,c,h=>by
  rw[ER] at h;split at h
  .obtain⟨x,_,h⟩:=yF.1 h;exact cm n _ _ h
  .cases h; rfl
def co{h:X3}{a:X8}{v:Xk}{rt:Q Y}{st:Y}{o:X0}(e:EQ h a v rt st=O (o,E)):o.Start=st:=by
 unfold EQ at e
 obtain⟨r1,_,e⟩:=yF.1 e;split at e
 .obtain⟨x,_,e⟩:=yF.1 e;obtain⟨r4,_,e⟩:=yF.1 e;obtain⟨r5,_,e⟩:=yF.1 e;exact cm _ _ _ e
 .cases e
def AtOk.optG{h:X3}{a:X8}{rt:Q Y}{st:Y}{o:X0}(hh:B4 h=E)(hl:rt.length<=100)(H:AtOk h a rt st o)(h1:0<=o.Cost)(h2:o.Cost<=2880)(h3:0<=o.Start)(h4:o.Start<=2880):EE h o:=by
 obtain⟨ha,pts,l,hr,S,hp⟩:=H
 have e:rt=o.Passages.map fun p=>p.Segment:=by
  refine List.ext_getElem (by simp[hp.1]) fun i g1 g2=> ?_
  obtain⟨x,y,_,_,_,_,q⟩:=hp.2 i g1 g1;simp only[List.length_map] at g2
  rw[zC g2,zG] at q
  simp[q]
 have hlen:=hp.1;subst e;exact⟨⟨AtOk.good hh ⟨ha,pts,l,hr,S,hp⟩,a9⟩,h1,a9,h3,h4⟩
def A2a{h:X3}(s:HSmall h)(hh:B4 h=E){a:X8}(ha:BV h a=E):∃L,OZ h a=O L/\IL h a=O L/\L.length<=8/\∀o∈L,EE h o:=by
 obtain⟨hf,hc,hfl,_,_⟩:=F2 hh;have ha':=ha;simp only[BV,C7,zE,decide_eq_true_eq] at ha'
 obtain⟨q1,q2,q3,q4,⟨q5,q6⟩,q7,q8⟩:=ha';obtain⟨s1,s2⟩:=HR q1;have hso:=(Ma hfl).2 _ s2;have hsn:=s.fn _ s2;obtain⟨rt,q,b1,b2,b3,b4⟩:=nq hc q2 q3;have nil_:∃L,O ([]:Q X0)=O L/\O ([]:Q X0)=O L/\L.length<=8/\∀o∈L,EE h o:=⟨[],rfl,rfl,d0,fun o h=>by cases h⟩;unfold OZ IL;simp only[Qt s,UV s,hh,ha,Bool.and_self,zB,if_true,b1,b2];cases q with
 | false=>
  rw[b3 rfl];obtain⟨pts,bb,g1,g2,g3,g4,_,_⟩:=VF hc (rt:= []) (a:=a.From) d0
  have hv:∃v,FQ h a []=O v:=by
   unfold FQ;rw[g4,zB];split
   .exact⟨_,zA⟩
   .have hl:pts.length<=1:=by
     have:=g4;obtain⟨p,b',e1,e2,e3,e4⟩:=dF hc q2 (rt:= []) d0;have hn:=(Ch hc).2.2.1;unfold Ed at this
     rw[Gr hn,hc,zB,if_pos rfl,e2,zB,zG] at this
     subst this;cases b' with
     | false=>rw[e3 rfl]; simp
     | true=>rw[(e4 rfl).len]; simp
    rename_i hne
    have:∃x,pts.getLast?=O x:=by
     cases hp:pts.getLast? with
     | none=>rw[kN] at hp; rw[hp] at hne; simp at hne
     | some x=>exact⟨x,rfl⟩
    obtain⟨x,hx⟩:=this;rw[HT (Ak a9) hx,zB];unfold FR;split
    .exact⟨_,zA⟩
    .rw[s1,zB]
     have:∃w,FW h.Forecast h.Chart (AO h.Fleet a.Ship) a.From []=O w:=by
      unfold FW;simp only[Mi,Gs hsn,hf,hso,g2,zB,if_true];split<;>exact⟨_,rfl⟩
     obtain⟨w,hw⟩:=this;rw[hw];exact⟨_,zA⟩
  obtain⟨v,hv⟩:=hv;simp only[hv,zB,zD,if_false];exact nil_
 | true=>
  obtain⟨hl,p,P,hp⟩:=b4 rfl;obtain⟨pts,bb,g1,g2,g3,g4,g5,g6⟩:=VF hc (rt:=rt) (a:=a.From) a9
  have hpts:bb=E/\pts=p:=by
   have e:=P.points hc a9;have hn:=(Ch hc).2.2.1;have h8:=(Ch hc).1;unfold Ej at g1
   simp only[E2 hn,hc,zB,if_true,CR _ (show h.Chart.Points.length<=1000 by omega),q2,e,zG] at g1
   subst g1;unfold Ek Ej at g3
   simp only[E2 hn,hc,zB,if_true,CR _ (show h.Chart.Points.length<=1000 by omega),q2,e,zG] at g3
   exact⟨zA,g3.symm⟩
  obtain⟨rfl,rfl⟩:=hpts;have hr:=g6 rfl;have hpl:=hr.len
  have h0:rt≠ []:=fun e=>by
   subst e;have hd:=P.hd;rw[zX,hpl] at hp
   rw[show([]:Q Y).length+1 - 1=0 from rfl,hd] at hp
   exact q4 (kX hp)
  obtain⟨v,v1,V⟩:=fX hf hc hso hsn a9 hr h0 g2 g4;have hz:((pts.length:Y)==(0:Y))=G:=beq_eq_false_iff_ne.2 a9
  have hcv:FQ h a rt=O (v,E):=by
   unfold FQ;simp only[g4,zB,hz,zD,if_false,HT (Ak a9) hp,bne_self_eq_false,FR,s1,v1]
  simp only[hcv,zB,if_true,s1,V.st,g3]
  have key:∀(k n:J) (m:Y) (acc:Q X0),2880<m+15*(k:Y)->k<n->a.Ready<=m->m<=2880+15->acc.length<=8->(∀o∈acc,EE h o)->
    ∃L,Gb (rt,E) h a (AO h.Fleet a.Ship) v.sure pts n m acc=O L/\EM (rt,E) h a (v,E) n m acc=O L/\L.length<=8/\∀o∈L,EE h o:=by
   intro k
   induction k with
   | zero=>
    intro n m acc h1 h2 h3 h4 h5 h6;obtain⟨q,rfl⟩:=sn (n:=n) a9;have:¬m<=a.Due:=by omega
    exact⟨acc,by simp[Gb,this],by simp[EM,this],h5,h6⟩
   | succ k ih=>
    intro n m acc h1 h2 h3 h4 h5 h6;obtain⟨q,rfl⟩:=sn (n:=n) a9;rw[Gb,EM];by_cases hd:m<=a.Due
    .by_cases h8:(acc.length:Y)<8
     .have hw:kZ .i64 (m+15)=m+15:=Ai a9 a9;obtain⟨l,b,c1,c2,c3⟩:=cn ha hc hso hsn a9 V g1 g2 g3 g4 h3 a9;simp only[hd,h8,decide_true,if_true,c1,zB];cases b with
      | false=>
       obtain⟨o,o1⟩:=c2 rfl;simp only[o1,zB,zD,if_false,JK,H5,hw];exact ih q _ acc a9 a9 a9 a9 h5 h6
      | true=>
       obtain⟨o,o1,o2,o3,_,o4,o5,_⟩:=c3 rfl;simp only[o1,o2,zB,if_true,JK,H5,hw];rw[if_pos (AT a9 d0 a9),if_pos (AT a9 d0 a9)]
       exact ih q _ _ a9 a9 a9 a9 d3 fun x hx=>by
        rcases zV.1 hx with hx|hx
        .exact h6 x hx
        .rw[zS] at hx; subst hx; exact o3.optG hh hl o4 o5 (by rw[co o2]; omega) (by rw[co o2]; omega)
     .simp only[hd,h8,decide_true,decide_false,if_true,zD,if_false];exact⟨acc,zA,zA,h5,h6⟩
    .simp only[hd,decide_false,zD,if_false];exact⟨acc,zA,zA,h5,h6⟩
  exact key 200 bigN a.Ready [] a9 (by rw[Cc]; omega) (Int.le_refl _) a9 d0 fun o h=>by cases h
structure CallsGood (h:X3) (cs:Q X8):Prop where
 ok:∀a∈cs,BV h a=E
 six:cs.length<=6
def BZ(l:Q X0):Y:=(l.map X0.Cost).sum
def WN(l:Q X0):Prop:=∀o∈l,0<=o.Cost/\o.Cost<=2940
def VQ{l:Q X0}(h:WN l):0<=BZ l/\BZ l<=2940*(l.length:Y):=by
 induction l with
 | nil=>simp[BZ]
 | cons x l ih=>
  have:=h x d0;have:=ih fun o ho=>h o (by simp[ho])
  simp only[BZ,List.map_cons,List.sum_cons,kT] at *
  omega
def VR(l:Q X0)(o:X0):BZ (l++ [o])=BZ l+o.Cost:=by simp[BZ]
structure Fnd where
 f:Z
 b:Q Y
 w:Xj
def wl(a b:Xj):Z:=decide (a.i0<b.i0) || (decide (a.i0=b.i0)&&decide (a.i1<b.i1))
def I3(A:Fnd)(ch:Q Y)(w:Xj):Fnd:=if(A.f&& !wl w A.w)=E then A else⟨E,ch,w⟩
def Cp(h:X3)(pl:Q X0):Z:=(H8 h pl).getD G
def CE(h:X3)(pl:Q X0)(o:X0):Z:= !(pl.any fun x=>Bp h.Chart h.Regime x.Passages o.Passages)
def Ci(F:X0->Y->Fnd->Fnd):Q X0->J->Fnd->Fnd
 | [],_,A=>A
 | o::l,n,A=>Ci F l (n+1) (F o (n:Y) A)
def AE(h:X3)(wv:Q X0->Xj):Q (Q X0)->Q X0->Q Y->Fnd->Fnd
 | [],pl,ch,A=>if Cp h pl=E then I3 A ch (wv pl) else A
 | l::ls,pl,ch,A=>Ci (fun o n A=>if CE h pl o=E then AE h wv ls (pl++ [o]) (ch++ [n]) A else A) l 0 A
def U5{F:X0->Y->Fnd->Fnd}{A:Fnd}:∀{l:Q X0} {n:J},(∀o∈l,∀n,F o n A=A)->Ci F l n A=A:=by
 intro l
 induction l with
 | nil=>intro n _; rfl
 | cons o l ih=>
  intro n H;rw[Ci,H o (yK ..)];exact ih fun x hx=>H x (yH _ hx)
section
variable {h : X3} {cs : Q X8} {os : Q (Q X0)}
def GoodC(h:X3)(pl:Q X0):Prop:=∀o∈pl,EE h o
def GoodC.pl{pl:Q X0}(H:GoodC h pl):E9 h pl:=fun o ho=>(H o ho).1
def GoodC.cost{pl:Q X0}(H:GoodC h pl):WN pl:=fun o ho=>⟨(H o ho).2.1,(H o ho).2.2.1⟩
def GoodC.snoc{pl:Q X0}{o:X0}(H:GoodC h pl)(ho:EE h o):GoodC h (pl++ [o]):=fun x hx=>by
 rcases zV.1 hx with hx|hx
 .exact H x hx
 .rw[zS] at hx; subst hx; exact ho
def HM(s:HSmall h)(hh:B4 h=E){pl:Q X0}(hl:pl.length<=12)(H:E9 h pl):H8 h pl=O (Cp h pl)/\(Cp h pl=E↔FitP h pl):=by
 obtain⟨b,b1,b2⟩:=YM s hh hl H;have:Cp h pl=b:=by unfold Cp; rw[b1]; rfl
 rw[this];exact⟨b1,b2⟩
def pE(s:HSmall h)(hh:B4 h=E){pl:Q X0}(hl:pl.length<=12)(H:E9 h pl):ON h.Crew h.Chart h.Fleet (B3 pl)=O (Cp h pl):=by
 obtain⟨b,b1,b2⟩:=A4u s hh hl H;have:b=Cp h pl:=by rw[zR,b2,(HM s hh hl H).2]
 rw[b1,this]
def A41(s:HSmall h)(hh:B4 h=E){wv:Q X0->Xj}:∀(ls:Q (Q X0)) (pl:Q X0) (ch:Q Y) (A:Fnd),(∀l∈ls,GoodC h l)->GoodC h pl->pl.length+ls.length<=12->Cp h pl=G->AE h wv ls pl ch A=A:=by
 intro ls
 induction ls with
 | nil=>intro pl ch A _ _ _ hf; rw[AE,if_neg (by rw[hf]; simp)]
 | cons l ls ih=>
  intro pl ch A hg hp hl hf;simp only[kT] at hl
  rw[AE];refine U5 fun o ho n=> ?_
  have ho':=hg l (yK ..) o ho;split
  .refine ih _ _ _ (fun l hm=>hg l (yH _ hm)) (hp.snoc ho') d3 ?_;cases e:Cp h (pl++ [o]) with
   | false=>rfl
   | true=>
    have F:=(HM s hh d3 (hp.snoc ho').pl).2.1 e;have:=(HM s hh a9 hp.pl).2.2 (FitP.app hh s (hp.snoc ho').pl a9 F);rw[hf] at this
    cases this
  .rfl
def A90{a b c:Xj}(h1:wl a b=G)(h2:wl b c=G):wl a c=G:=by
 simp only[wl,Bool.or_eq_false_iff,Bool.and_eq_false_iff,decide_eq_false_iff_not] at *
 omega
def EJ(h:X3)(os:Q (Q X0)):Q (Q (Q (Q Z))):=os.map fun a=>os.map fun b=>a.map fun o=>b.map fun p=>Bp h.Chart h.Regime o.Passages p.Passages
def oh(hh:B4 h=E)(h6:os.length<=6)(h8:∀l∈os,l.length<=9)(hg:∀l∈os,GoodC h l):Po h os=O (EJ h os):=by
 obtain⟨_,hc,_,hr,_⟩:=F2 hh;unfold Po;refine GI (L:=Dr os h) os (fun a=>os.map fun b=>a.map fun o=>b.map fun p=>Bp h.Chart h.Regime o.Passages p.Passages) O (Ak a9) (fun n i acc hi ha=> ?_) fun n acc _=>by rw[Dr,if_neg d0]
 rw[Dr];simp only[Aj,hi,decide_true,if_true,Af hi,zB];have g1:=h8 _ (zF hi);refine(GI (L:=En os os[i] (i:Y) h acc (Dr os h n)) os (fun b=>os[i].map fun o=>b.map fun p=>Bp h.Chart h.Regime o.Passages p.Passages) (fun v=>if Ab acc.length [v].length 24=E then Dr os h n (kZ .i64 ((i:Y)+1)) (acc++ [v]) else none) (Ak a9) (fun n2 j ac2 hj ha2=> ?_) fun n2 ac2 _=>by rw[En,if_neg d0]).trans (by rw[if_pos (AT a9 d0 a9)]);rw[En];simp only[Aj,hj,decide_true,if_true,Af hj,zB];have g2:=h8 _ (zF hj);refine(GI (L:=Gk os os[i] os[j] (i:Y) (j:Y) h acc ac2 (En os os[i] (i:Y) h acc (Dr os h n) n2)) os[i] (fun o=>os[j].map fun p=>Bp h.Chart h.Regime o.Passages p.Passages) (fun v=>if Ab ac2.length [v].length 24=E then En os os[i] (i:Y) h acc (Dr os h n) n2 (kZ .i64 ((j:Y)+1)) (ac2++ [v]) else none) (Ak a9) (fun n3 k ac3 hk ha3=> ?_) fun n3 ac3 _=>by rw[Gk,if_neg d0]).trans (by rw[if_pos (AT a9 d0 a9)]);rw[Gk];simp only[Aj,hk,decide_true,if_true,Af hk,zB];have o1:=(hg _ (zF hi) _ (zF hk)).1;refine(GI (L:=K5 os os[i] os[j] (i:Y) (j:Y) (k:Y) h os[i][k] acc ac2 ac3 (Gk os os[i] os[j] (i:Y) (j:Y) h acc ac2 (En os os[i] (i:Y) h acc (Dr os h n) n2) n3)) os[j] (fun p=>Bp h.Chart h.Regime os[i][k].Passages p.Passages) (fun v=>if Ab ac3.length [v].length 24=E then Gk os os[i] os[j] (i:Y) (j:Y) h acc ac2 (En os os[i] (i:Y) h acc (Dr os h n) n2) n3 (kZ .i64 ((k:Y)+1)) (ac3++ [v]) else none) (Ak a9) (fun n4 m ac4 hm ha4=> ?_) fun n4 ac4 _=>by rw[K5,if_neg d0]).trans (by rw[if_pos (AT a9 d0 a9)]);have o2:=(hg _ (zF hj) _ (zF hm)).1;rw[K5];simp only[Aj,hm,decide_true,if_true,Af hm,zB,(Yx hc hr o1.1.inn o2.1.inn (Ak a9) (Ak a9)).1];rw[if_pos (AT a9 d0 a9)]
def Chos(os:Q (Q X0))(pl:Q X0)(ch:Q Y):Prop:=pl.length=ch.length/\∀i (h:i<pl.length),∃(l:Q X0) (c:J),os[i]?=O l/\ch[i]?=O (c:Y)/\l[c]?=O pl[i]
def Chos.snoc{pl:Q X0}{ch:Q Y}(H:Chos os pl ch){l:Q X0}(hl:os[pl.length]?=O l){i:J}(hi:i<l.length):Chos os (pl++ [l[i]]) (ch++ [(i:Y)]):=by
 obtain⟨h1,h2⟩:=H;refine⟨d3,fun j hj=> ?_⟩;simp only[zO,zY] at hj
 by_cases h:j<pl.length
 .obtain⟨l',c,c1,c2,c3⟩:=h2 j h;exact⟨l',c,c1,by rw[zH a9]; exact c2,by rw[zM h]; exact c3⟩
 .obtain rfl:j=pl.length:=by omega
  exact⟨l,i,hl,by rw[h1,zT a9]; simp,by rw[yI a9,zC hi]; simp⟩
def cE(a b:Xj):NS a b=O (wl a b):=by
 unfold NS wl;by_cases h1:a.i0<b.i0
 .simp[h1]
 .by_cases h2:a.i0=b.i0
  .simp[h2]
  .simp[h1,h2]
def cf{pl:Q X0}{o:X0}:CE h pl o=E↔Ts h pl o:=by
 simp only[CE,Ts,Bool.not_eq_true',List.any_eq_false];exact⟨fun H x hx=>by simpa using H x hx,fun H x hx=>by simpa using H x hx⟩
end
def ri{F:X0->Y->Fnd->Fnd}(p:Fnd->Prop)(H:∀o n A,p A->p (F o n A)):∀(l:Q X0) (n:J) (A:Fnd),p A->p (Ci F l n A):=by
 intro l
 induction l with
 | nil=>intro n A h; exact h
 | cons o l ih=>intro n A h; exact ih _ _ (H _ _ _ h)
def oS{m n:J}(h:m+n<=140737488355328):FF m n=E:=by
 unfold FF;rw[decide_eq_true_eq];omega
def ifc{α:Type}{m n:J}(h:m+n<=140737488355328)(x y:α):(if FF m n=E then x else y)=x:=by rw[if_pos (oS h)]
end Go.Vi
