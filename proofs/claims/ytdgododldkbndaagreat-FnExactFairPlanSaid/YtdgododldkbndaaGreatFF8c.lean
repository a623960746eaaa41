/-
Plain law. No condition.
-/
import Derived.Test.YtdgododldkbndaaGreatFF8b
namespace Go.Vi
set_option linter.all false
open Option renaming bind_some → W, some → N
open Bool renaming false_eq_true → X, and_eq_true → zM, true → T, false → E
open List renaming getElem_mem → Y, getElem?_eq_getElem → Z, take_succ_eq_append_getElem → I, length_cons → zC, getElem?_append_left → zD, getElem_append_right → zE, getElem_append_left → zF, take_length → zG, getLast?_eq_getElem? → zI, set_set → zJ, mem_singleton → zK, getElem?_map → zL, length_singleton → zN, mem_append → zO, mem_cons_of_mem → zP, take_append_of_le_length → zQ, length_append → zR, mem_cons_self → zS, getElem?_append_right → zT, drop_eq_getElem_cons → zU, mem_map → zV, length_nil → zW
open Int renaming toNat_natCast → zA
open Option.some renaming injEq → zB
open Nat renaming zero_le → zH
open _root_ renaming List → O, Int → Q, Nat → U
theorem Rp{m n:U}(h:m+n≤140737488355328):JE m n=T:=by
 unfold JE;simp only[decide_eq_true_eq];omega
theorem wO{xs:O Xa}(h:xs.length≤1048576):Gu xs=N xs:=by
 unfold Gu;rw[Eb h (by omega)];have:=Hn (L:=Ia xs) xs id (FP h) (fun n i acc hi ha=>by simp[Ia,Al,hi,ha,Pz]) (fun n acc=>by simp[Ia]) (List.replicate xs.length ⟨0,0,0,0,0⟩) (by simp);simpa using this
theorem kx{xs:O Xa}(h:xs.length≤maxLen):Mn xs xs=N T:=by
 unfold Mn;have:=G7 (L:=I0 xs xs) xs (fun _=>T) h (fun n i hi=>by simp[I0,Al,hi,Ps]) (fun n=>by simp[I0]);simp[this]
theorem J3{α:Type}{Lm:U→Q→Q→O α→Option (Q × O α)}(c:U)(hc:c≤10)
  (hm:∀(n i:U) (k:Q) (acc:O α),i<acc.length→0≤k→k≤1000000000000→∃e,Lm (n+1) k (i:Q) acc=Lm n (k+c) (IntKind.i64.wrap ((i:Q)+1)) (acc.set i e))
  (he:∀(n:U) (k:Q) (acc:O α),Lm (n+1) k (acc.length:Q) acc=N (k,acc)) (xs:O α) (k0:Q) (h0:0≤k0) (hk:k0≤100000000000) (hl:xs.length≤1048576):∃r,Lm bigN k0 0 xs=N r∧0≤r.1∧r.1≤k0+10485760:=by
 have hlm:xs.length≤maxLen:=As (by omega);refine BO (fun n i=>∀(k:Q) acc,acc.length=xs.length→0≤k→k≤k0+(10*i:U)→∃r,Lm n k (i:Q) acc=N r∧0≤r.1∧r.1≤k0+10485760) hlm (fun n k acc h1 h2 h3=>⟨(k,acc),by rw[← h1]; exact he n k acc,h2,by simp only; omega⟩) (fun n i hi ih k acc h1 h2 h3=> ?_) (zH _) k0 xs rfl h0 (by omega);obtain⟨e,e1⟩:=hm n i k acc (by omega) h2 (by omega);rw[e1,Aw hi hlm];exact ih _ _ (by simpa using h1) (by omega) (by omega)
theorem L1{α:Type}{l:O α}{i:U}{v:α}(h:i<l.length):ix (l.set i v) (i:Q)=N v:=by rw[Al,List.getElem?_set_self h]
theorem XU(k:Q)(h0:0≤k)(hk:k≤1000000000000):∃r,Kk k=N r:=by
 have key:∀(m n:U) (v:Q) (acc:O UInt8),m<n→0≤v→v<10 ^ m→v≤1000000000000→acc.length+m≤1000→∃r,I9 n v acc=N r:=by
  intro m
  induction m with
  | zero=>
   intro n v acc hn h0 hv _ ha;obtain⟨q,rfl⟩:=sn (n:=n) (by omega);have hv0:¬(0:Q)<v:=by simp at hv; omega
   exact⟨[109]++acc,by rw[I9,if_neg (by simp[hv0]),if_pos (Rp (by simp; omega))]⟩
  | succ m ih=>
   intro n v acc hn h0 hv hb ha;obtain⟨q,rfl⟩:=sn (n:=n) (by omega);rw[I9];by_cases hp:(0:Q)<v
   ·rw[if_pos (by simp[hp]),if_pos (Rp (by simp; omega)),show Int.tdiv v 10=v / 10 from Int.tdiv_eq_ediv_of_nonneg h0,Am (by omega) (by omega)];refine ih q _ _ (by omega) (by omega) ?_ (by omega) (by simp; omega);have:(10:Q) ^ (m+1)=10 ^ m*10:=Int.pow_succ 10 m;omega
   ·exact⟨[109]++acc,by rw[if_neg (by simp[hp]),if_pos (Rp (by simp; omega))]⟩
 unfold Kk;by_cases h:k≤0
 ·exact⟨[109,48],by simp only[h,decide_true,if_true]⟩
 ·simp only[h,decide_false,X,if_false];exact key 13 bigN k [] (Bx (As (by omega))) h0 (by simp; omega) hk (by simp)
theorem qx(k:Q):k+1+1=k+(2:U):=by omega
theorem XD(k:Q):k+1+1+1=k+(3:U):=by omega
theorem XE(k:Q):k+1+1+1+1+1=k+(5:U):=by omega
theorem qy(k:Q):k+1+1+1+1+1+1=k+(6:U):=by omega
theorem sD(a:X6)(b1:a.Forecast.Tide.Parts.length≤1048576)(b2:a.Forecast.Surges.length≤1048576)(b3:a.Chart.Points.length≤1048576)(b4:a.Chart.Segments.length≤1048576)(b5:a.Fleet.length≤1048576)(b6:a.Crew.Moves.length≤1048576) :
  ∃r,I8 a 1=N r∧0≤r.1∧r.1≤1000000000:=by
 obtain⟨r1,e1,l1,u1⟩:=J3 (Lm:=Fo) 3 (by omega) (fun n i k acc hi h0 h1=>⟨_,by
  simp (disch:=omega) only[Fo,Af,hi,decide_true,if_true,Ai hi,W,zA,L1 hi,zJ,Am,XD];rfl⟩) (fun n k acc=>by simp[Fo]) a.Forecast.Tide.Parts 1 (by omega) (by omega) b1
 obtain⟨r2,e2,l2,u2⟩:=J3 (Lm:=Ft) 3 (by omega) (fun n i k acc hi h0 h1=>⟨_,by
  simp (disch:=omega) only[Ft,Af,hi,decide_true,if_true,Ai hi,W,zA,L1 hi,zJ,Am,XD];rfl⟩) (fun n k acc=>by simp[Ft]) a.Forecast.Surges r1.1 l1 (by omega) b2
 obtain⟨r3,e3,l3,u3⟩:=J3 (Lm:=Fp) 2 (by omega) (fun n i k acc hi h0 h1=>by
  obtain⟨t,ht⟩:=XU k h0 h1
  exact⟨_,by
   simp (disch:=omega) only[Fp,ht,Af,hi,decide_true,if_true,Ai hi,W,zA,L1 hi,zJ,Am,qx];rfl⟩) (fun n k acc=>by simp[Fp]) a.Chart.Points r2.1 l2 (by omega) b3
 obtain⟨r4,e4,l4,u4⟩:=J3 (Lm:=Fq) 5 (by omega) (fun n i k acc hi h0 h1=>⟨_,by
  simp (disch:=omega) only[Fq,Af,hi,decide_true,if_true,Ai hi,W,zA,L1 hi,zJ,Am,XE];rfl⟩) (fun n k acc=>by simp[Fq]) a.Chart.Segments r3.1 l3 (by omega) b4
 obtain⟨r5,e5,l5,u5⟩:=J3 (Lm:=Fs) 6 (by omega) (fun n i k acc hi h0 h1=>by
  obtain⟨t,ht⟩:=XU k h0 h1
  exact⟨_,by
   simp (disch:=omega) only[Fs,ht,Af,hi,decide_true,if_true,Ai hi,W,zA,L1 hi,zJ,Am,qy];rfl⟩) (fun n k acc=>by simp[Fs]) a.Fleet r4.1 l4 (by omega) b5
 obtain⟨r6,e6,l6,u6⟩:=J3 (Lm:=DE) 1 (by omega) (fun n i k acc hi h0 h1=>⟨_,by
  simp (disch:=omega) only[DE,Af,hi,decide_true,if_true,Ai hi,W,zA,Am];rfl⟩) (fun n k acc=>by simp[DE]) a.Crew.Moves r5.1 l5 (by omega) b6
 refine⟨(r6.1,r1.2,r2.2,r3.2,r4.2,r5.2,r6.2),?_,l6,by simp only; omega⟩;simp only[I8,Kd,Kl,Ke,e1,W,Kj,e2,Kb,Kf,e3,Kg,e4,Ki,e5,Kc,Fm,e6]
theorem sE(xs:O Q)(k:Q)(h0:0≤k)(hk:k≤10000000000)(hl:xs.length≤1048576):∃ys,Fm xs k=N (k+1*(xs.length:Q),ys)∧ys.length=xs.length∧K9 ys k=N (k+1*(xs.length:Q)):=by
 unfold Fm K9;refine sF (Lm:=DE) (Lh:=I7) xs 1 (fun k=>k) k h0 (by omega) hl hk (fun n i k acc hi ha k0 k1=> ?_) (fun n k acc=>by simp[DE]) (fun n i k ys hi hy k0 k1 he=> ?_) (fun n k ys=>by simp[I7])
 ·simp (disch:=omega) only[DE,Af,hi,decide_true,if_true,Ai hi,W,Aw hi (FP ha),Am,zA];rfl
 ·simp (disch:=omega) only[I7,Af,hi,decide_true,if_true,Ai hi,W,Aw hi (FP hy),Am,he,bne_self_eq_false,X,if_false];rfl
theorem rx(P:U→U→Prop){len:U}(h0:∀n,P (n+1) len)(hs:∀n i,i<len→P n (i+1)→P (n+1) i):∀k i n,i+k=len→k<n→P n i:=by
 intro k
 induction k with
 | zero=>
  intro i n h1 h2;obtain⟨q,rfl⟩:=sn (n:=n) (by omega);obtain rfl:i=len:=by omega
  exact h0 q
 | succ k ih=>
  intro i n h1 h2;obtain⟨q,rfl⟩:=sn (n:=n) (by omega);exact hs q i (by omega) (ih _ _ (by omega) (by omega))
theorem Uw:∃m,bigN=m+1∧1000000000000<m:=⟨1208925819614629174706175,by rw[Cb],by omega⟩
def P7(y:X8):U:=(Ea y).countP fun b=> !b
theorem gh{l:O Bool}:∀{n:U},l[n]?=N E→((l.set n T).countP fun b=> !b)+1=l.countP fun b=> !b:=by
 induction l with
 | nil=>intro n h; simp at h
 | cons a l ih=>
  intro n h;cases n with
  | zero=>simp only[List.getElem?_cons_zero,zB] at h; subst h; simp
  | succ n=>
   simp only[List.getElem?_cons_succ] at h;have:=ih h;simp only[List.set_cons_succ,List.countP_cons];omega
theorem UG{y:X8}{a:Q}(h:ix (Ea y) a=N E):P7 (X8.set y (Int.toNat a) T)+1=P7 y∧0≤a∧a<8:=by
 have hg:=Av h;have hl:(Ea y).length=8:=rfl
 have ha:0≤a:=by
  unfold ix at h;split at h
  ·rename_i h1; exact h1
  ·cases h
 have hn:a.toNat<8:=by
  have:=(List.getElem?_eq_some_iff.1 hg).1;omega
 refine⟨?_,ha,by omega⟩;unfold P7;rw[YJ y hn];exact gh hg
theorem Rq{l:O Q}(h:l.length≤1000):BD l=N l:=by
 unfold BD Br;rw[if_pos ⟨by omega,by omega,by omega,by omega⟩];simp only[W,Int.toNat_zero,List.replicate_zero,List.nil_append];rw[if_pos (by simp only[A3,zW,decide_eq_true_eq]; omega)]
structure Lead (c:X1) (a:Q) (rt l:O Q):Prop where
 r:RtOk c rt l
 hd:l[0]?=N a
 fr:∀i (h:i+1<l.length),((l.take (i+1)).any fun z=>z==l[i+1])=E
theorem Lead.snoc{c:X1}{a:Q}{rt l:O Q}(H:Lead c a rt l){x:Q}(hx:l.getLast?=N x){i:U}(hi:i<c.Segments.length)(he:idx (BR c.Segments[i] x) c.Points.length=T)(hf:(l.any fun z=>z==BR c.Segments[i] x)=E) :
  Lead c a (rt++ [(i:Q)]) (l++ [BR c.Segments[i] x]):=by
 have hlen:=H.r.len;have hsi:idx (i:Q) c.Segments.length=T:=IW.2 ⟨by omega,by omega⟩;have hsg:Aq c (i:Q)=c.Segments[i]:=by unfold Aq; rw[zA,Z hi]; rfl
 refine⟨⟨by simp; omega,fun y hy=> ?_,fun j hj=> ?_,fun j hj=> ?_⟩,by rw[zD (by omega)]; exact H.hd,fun j hj=> ?_⟩
 ·rcases zO.1 hy with hy|hy
  ·exact H.r.pt y hy
  ·rw[zK] at hy; subst hy; exact he
 ·by_cases h:j<rt.length
  ·rw[zF h]; exact H.r.seg j h
  ·rw[zE (by omega)]; simpa using hsi
 ·simp only[zR,zN] at hj
  by_cases h:j<rt.length
  ·obtain⟨y,y1,y2,y3⟩:=H.r.stp j h;rw[zF h];exact⟨y,by rw[zD (by omega)]; exact y1,by rw[zD (by omega)]; exact y2,y3⟩
  ·obtain rfl:j=rt.length:=by omega
   rw[zE (by omega)];simp only[Nat.sub_self,List.getElem_singleton,hsg];exact⟨x,by rw[zD (by omega),← hx,zI,hlen]; rfl,by rw[zT (by omega),hlen]; simp,(IW.1 he).1⟩
 ·simp only[zR,zN] at hj
  by_cases h:j+1<l.length
  ·rw[zQ (by omega),zF h];exact H.fr j h
  ·have e:j+1=l.length:=by omega
   rw[zE (by omega)];simp only[e,Nat.sub_self,List.getElem_singleton];rw[zQ (by omega),zG];exact hf
theorem Lead.points{c:X1}{a:Q}{rt l:O Q}(hc:AO c=T)(hl:rt.length≤1000000)(H:Lead c a rt l):GD c a rt=N (l,T):=by
 have hlen:=H.r.len;have h10:=(Cc hc).2.1
 have h1:l.take 1= [a]:=by
  have h0:=H.hd;cases l with
  | nil=>cases h0
  | cons x l=>simp only[List.getElem?_cons_zero,zB] at h0; subst h0; rfl
 unfold GD;rw[← h1];refine BO (fun n i=>E3 rt c n (i:Q) (l.take (i+1))=N (l,T)) (As (by omega)) (fun n=> ?_) (fun n i hi ih=> ?_) (zH rt.length)
 ·rw[E3,if_neg (by simp),← hlen,zG]
 ·obtain⟨x,x1,x2,x3⟩:=H.r.stp i hi;have hi1:i+1<l.length:=by omega
  have hlast:(l.take (i+1)).getLast?=N x:=by
   rw[zI,List.length_take,Nat.min_eq_left (by omega),List.getElem?_take_of_lt (by omega)];simpa using x1
  rw[Z hi1,zB] at x2
  have hfr:=H.fr i hi1;rw[x2] at hfr
  have hneg:¬BR (Aq c rt[i]) x<0:=by omega
  rw[E3];simp only[Af,hi,decide_true,if_true,Ai hi,W,CP _ (show c.Segments.length≤1000 by omega),H.r.seg i hi,(BJ (H.r.seg i hi)).1,J1 (As (n:=(l.take (i+1)).length) (by simp; omega)) hlast,SO,hneg,decide_false,X,if_false,RQ (As (n:=(l.take (i+1)).length) (by simp; omega)),hfr,GE];rw[if_pos (B3 (by simp; omega) (by simp) (by omega)),Aw hi (As (by omega)),← x2];rw[show l.take (i+1)++ [l[i+1]]=l.take (i+1+1) by rw[I hi1]];exact ih
theorem yz{c:X1}(hc:AO c=T){a0:Q}:∀(u n:U) (a b:Q) (rt pts:O Q) (y:X8) (out:O (O Q)),u<n→P7 y≤u→ix (Ea y) a=N E→Met (X8.set y a.toNat T) pts→pts.getLast?=N a→Lead c a0 rt pts→rt.length+u≤100→out.length+10 ^ u≤100000000→
  ∃r,Ge n c a b rt y out=N r∧GG n c pts rt b out=N r∧r.length≤out.length+10 ^ u∧∀x∈r,x∈out∨(x.length≤100∧∃p,Lead c a0 x p∧p.getLast?=N b):=by
 obtain⟨_,hs10,_,_⟩:=Cc hc;intro u
 induction u with
 | zero=>
  intro n a b rt pts y out hn hu hi;have:=(UG hi).1;omega
 | succ u ih=>
  intro n a b rt pts y out hn hu hi hm hla hL hr ho;obtain⟨q,rfl⟩:=sn (n:=n) (by omega);obtain⟨hc1,ha0,ha8⟩:=UG hi;have hp:10 ^ (u+1)=10*10 ^ u:=by rw[Nat.pow_succ]; omega
  have hp1:0<10 ^ u:=Nat.pow_pos (by omega);have hpl:=hL.r.len;rw[Ge,Pf,GG,PN,J1 (As (by omega)) hla,W];by_cases hab:(a==b)=T
  ·have e:a=b:=by simpa using hab
   rw[if_pos hab,if_pos hab,Rq (by omega),W,if_pos (B3 (by omega) (by simp) (by omega)),if_pos (B3 (by simp) (by omega) (by omega))];refine⟨_,rfl,rfl,by simp; omega,fun x hx=> ?_⟩;rcases zO.1 hx with hx|hx
   ·exact Or.inl hx
   ·simp only[zK] at hx; subst hx; exact Or.inr ⟨by omega,pts,hL,e▸hla⟩
  ·rw[if_neg hab,if_neg hab,if_pos (by simp; omega)];generalize hy:X8.set y (Int.toNat a) T=y' at hm
   have hy':(⟨y'.i0,y'.i1,y'.i2,y'.i3,y'.i4,y'.i5,y'.i6,y'.i7⟩:X8)=y':=rfl;rw[hy'];rw[hy] at hc1
   obtain⟨r,e1,e2,e3,e4⟩:=BO (fun m i=>∀o:O (O Q),o.length≤out.length+i*10 ^ u→(∀x∈o,x∈out∨(x.length≤100∧∃p,Lead c a0 x p∧p.getLast?=N b))→
     ∃r,Gd (Ge q) a b rt c y' m (i:Q) o=N r∧GF (GG q) pts rt b a c m (i:Q) o=N r∧r.length≤out.length+c.Segments.length*10 ^ u∧∀x∈r,x∈out∨(x.length≤100∧∃p,Lead c a0 x p∧p.getLast?=N b)) (As (n:=c.Segments.length) (by omega))
    (fun m o hl hx=>⟨o,by simp[Gd],by simp[GF],hl,hx⟩) (fun m i hlt ihk o hl hx=>by
     have hsucc:(i+1)*10 ^ u=i*10 ^ u+10 ^ u:=Nat.succ_mul i _;have hle:i*10 ^ u≤9*10 ^ u:=Nat.mul_le_mul_right _ (by omega);rw[Gd,GF];simp only[Af,hlt,decide_true,if_true,Ai hlt,W,RE,SO];have he:=UV hc (Y hlt) a;have hE:∃e,BR c.Segments[i] a=e:=⟨_,rfl⟩;obtain⟨e,hE⟩:=hE;rw[hE] at he ⊢
     by_cases h0:0≤e
     ·have hei:=he.resolve_left (by omega);have he':=IW.1 hei;have hp8:=(Cc hc).1;have hd:(decide (0≤e)&&decide (e<8))=T:=by simp; omega
      have hmE:=hm e h0 (by omega);have hmE':=hmE;unfold Ea at hmE'
      simp only[h0,decide_true,if_true,RQ (As (n:=pts.length) (by omega)),W];rw[if_pos (by simp; omega),hmE',W];cases hb:pts.any fun z=>z==e with
      | true=>
       simp only[Hv,II,Bool.not_true,X,if_false,Aw hlt (As (n:=c.Segments.length) (by omega))];exact ihk o (by omega) hx
      | false=>
       simp only[Hv,II,Bool.not_false,if_true,Aw hlt (As (n:=c.Segments.length) (by omega))];rw[Rq (by omega),W,if_pos (B3 (by omega) (by simp) (by omega)),if_pos (B3 (by simp) (by omega) (by omega)),if_pos (B3 (by omega) (by simp) (by omega)),if_pos (B3 (by simp) (by omega) (by omega)),if_pos (B3 (by omega) (by simp) (by omega))];rw[hb] at hmE
       obtain⟨r,e1,e2,e3,e4⟩:=ih q e b (rt++ [(i:Q)]) (pts++ [e]) y' o (by omega) (by omega) hmE (hm.snoc h0 (by omega)) (by simp) (by have:=hL.snoc hla hlt (by rw[hE]; exact hei) (by rw[hE]; exact hb); rw[hE] at this; exact this) (by simp; omega) (by omega);rw[e1,e2,W,W]
       exact ihk r (by omega) fun x h=>by
        rcases e4 x h with h|h
        ·exact hx x h
        ·exact Or.inr h
     ·simp only[h0,decide_false,X,if_false,Hv,II,Aw hlt (As (n:=c.Segments.length) (by omega))];exact ihk o (by omega) hx) (zH _) out (by omega) fun x hx=>Or.inl hx
   have hle:c.Segments.length*10 ^ u≤10*10 ^ u:=Nat.mul_le_mul_right _ hs10;exact⟨r,e1,e2,by omega,e4⟩
theorem fi{c:X1}(hc:AO c=T){a b:Q}(ha:idx a c.Points.length=T)(hb:idx b c.Points.length=T):∃r,Nk c a b=N r∧M0 c a b=N r∧r.length≤100000000∧∀x∈r,x.length≤100∧∃p,Lead c a x p∧p.getLast?=N b:=by
 have hp8:=(Cc hc).1;have hn:=(Cc hc).2.2.1;have ha':=IW.1 ha
 have hi:ix (Ea ⟨E,E,E,E,E,E,E,E⟩) a=N E:=by
  obtain⟨n,rfl⟩:∃n:U,a=(n:Q):=⟨a.toNat,by omega⟩;have:n=0∨n=1∨n=2∨n=3∨n=4∨n=5∨n=6∨n=7:=by omega
  rcases this with rfl|rfl|rfl|rfl|rfl|rfl|rfl|rfl<;>rfl
 have m0:Met ⟨E,E,E,E,E,E,E,E⟩ []:=fun x x0 x8=>by
  obtain⟨n,rfl⟩:∃n:U,x=(n:Q):=⟨x.toNat,by omega⟩;have:n=0∨n=1∨n=2∨n=3∨n=4∨n=5∨n=6∨n=7:=by omega
  rcases this with rfl|rfl|rfl|rfl|rfl|rfl|rfl|rfl<;>rfl
 obtain⟨r,e1,e2,e3,e4⟩:=yz hc (a0:=a) 8 bigN a b [] [a] ⟨E,E,E,E,E,E,E,E⟩ [] (by rw[Cb]; omega) (by decide) hi (m0.snoc ha'.1 (by omega)) rfl ⟨⟨rfl,by simpa using ha,fun i h=>by simp at h,fun i h=>by simp at h⟩,rfl,fun i h=>by simp at h⟩ (by simp) (by simp);refine⟨r,?_,?_,by simpa using e3,fun x hx=>(e4 x hx).resolve_left (by simp)⟩
 ·unfold Nk RJ;simp only[DQ hn,hc,W,if_true,CP _ (show c.Points.length≤1000 by omega),ha,hb,e2]
 ·unfold M0 RG;simp only[FM hn,hc,W,if_true,E7,ha,hb,e1]
theorem fh{c:X1}(hc:AO c=T){a b:Q}(ha:idx a c.Points.length=T)(hb:idx b c.Points.length=T):∃rt q,MZ c a b=N (rt,q)∧LH c a b=N (rt,q)∧(q=E→rt= [])∧(q=T→rt.length≤100∧∃p,Lead c a rt p∧p.getLast?=N b):=by
 obtain⟨r,e1,e2,e3,e4⟩:=fi hc ha hb;unfold MZ LH;rw[e1,e2,W,W];cases hr0:r with
 | nil=>exact⟨[],E,by obtain⟨m,hm,_⟩:=Uw; rw[hm]; rfl,rfl,fun _=>rfl,fun h=>by cases h⟩
 | cons r0 rs=>
  rw[← hr0];have hpos:0<r.length:=by rw[hr0]; simp
  have hz:((r.length:Q)==(0:Q))=E:=beq_eq_false_iff_ne.2 (by omega);have h00:ix r (0:Q)=N r0:=by rw[hr0]; rfl
  have hm0:r0∈r:=by rw[hr0]; simp
  have hlm:r.length≤maxLen:=As (by omega);rw[hz,if_neg (by simp),h00,W]
  have rm:∀x∈r,∃m,GB c x=N m∧Gj c x=N m:=fun x hx=>by
   obtain⟨h1,p,h2,_⟩:=e4 x hx;obtain⟨m,m1,m2,_⟩:=Yz hc (rt:=x) (by omega) h2.r.seg;exact⟨m,m1,m2⟩
  have key:=rx (fun n i=>∀v∈r,∃rt∈r,Fu r c n v T (i:Q)=N (rt,T)∧F5 r c n v (i:Q)=N (rt,T)) (len:=r.length)
   (fun n v hv=>⟨v,hv,by simp[Fu],by simp[F5]⟩) (fun n i hi ih v hv=>by
    obtain⟨m1,g1,g2⟩:=rm _ (Y hi);obtain⟨m2,g3,g4⟩:=rm v hv;rw[Fu,F5];simp only[Af,hi,decide_true,if_true,Ai hi,W,g1,g2,g3,g4,Aw hi hlm,Ko];by_cases hlt:m1<m2
    ·simp only[hlt,decide_true,if_true];exact ih _ (Y hi)
    ·simp only[hlt,decide_false,X,if_false];exact ih v hv)
  obtain⟨m,hm,hm1⟩:=Uw;obtain⟨rt,hrt,k1,k2⟩:=key (r.length - 1) 1 m (by omega) (by omega) r0 hm0;obtain⟨m1,g1,g2⟩:=rm r0 hm0;refine⟨rt,T,?_,?_,(fun h=>by cases h),fun _=>e4 rt hrt⟩
  ·rw[hm,Fu];have hd:(decide ((0:Q)<(r.length:Q)))=T:=by simp; omega
   simp only[hd,if_true,h00,W,X,if_false,Ko];exact k1
  ·rw[hm,F5];have hd:(decide ((0:Q)<(r.length:Q)))=T:=by simp; omega
   simp only[hd,if_true,h00,W,g2,show ¬m1<m1 by omega,decide_false,X,if_false];exact k2
def EY(h:X6)(o:X0):Prop:=(GoodP h.Chart h.Fleet o.Passages∧o.Passages.length≤1048576)∧0≤o.Cost∧o.Cost≤2880
theorem AtOk.optG{h:X6}{a:Xa}{rt:O Q}{st:Q}{o:X0}(hh:B5 h=T)(hl:rt.length≤100)(H:AtOk h a rt st o)(h1:0≤o.Cost)(h2:o.Cost≤2880):EY h o:=by
 obtain⟨ha,pts,l,hr,S,hp⟩:=H
 have e:rt=o.Passages.map fun p=>p.Segment:=by
  refine List.ext_getElem (by simp[hp.1]) fun i g1 g2=> ?_
  obtain⟨x,y,_,_,_,_,q⟩:=hp.2 i g1 g1;simp only[List.length_map] at g2
  rw[Z g2,zB] at q
  simp[q]
 have hlen:=hp.1;subst e;exact⟨⟨AtOk.good hh ⟨ha,pts,l,hr,S,hp⟩,by omega⟩,h1,h2⟩
theorem tF{h:X6}(s:HSmall h)(hh:B5 h=T){a:Xa}(ha:C3 h a=T):∃L,KC h a=N L∧De h a=N L∧L.length≤8∧∀o∈L,EY h o:=by
 obtain⟨hf,hc,hfl,_,_⟩:=EB hh;have ha':=ha;simp only[C3,C5,zM,decide_eq_true_eq] at ha'
 obtain⟨q1,q2,q3,q4,⟨q5,q6⟩,q7,q8⟩:=ha';obtain⟨s1,s2⟩:=ED q1;have hso:=(IU hfl).2 _ s2;have hsn:=s.fn _ s2;obtain⟨rt,q,b1,b2,b3,b4⟩:=fh hc q2 q3;have nil_:∃L,N ([]:O X0)=N L∧N ([]:O X0)=N L∧L.length≤8∧∀o∈L,EY h o:=⟨[],rfl,rfl,by simp,fun o h=>by cases h⟩;unfold KC De;simp only[YM s,pQ s,hh,ha,Bool.and_self,W,if_true,b1,b2];cases q with
 | false=>
  rw[b3 rfl];obtain⟨pts,bb,g1,g2,g3,g4,_,_⟩:=YA hc (rt:= []) (a:=a.From) (by simp)
  have hv:∃v,HM h a []=N v:=by
   unfold HM;rw[g4,W];split
   ·exact⟨_,rfl⟩
   ·have hl:pts.length≤1:=by
     have:=g4;obtain⟨p,b',e1,e2,e3,e4⟩:=Ym hc q2 (rt:= []) (by simp);have hn:=(Cc hc).2.2.1;unfold DY at this
     rw[FM hn,hc,W,if_pos rfl,e2,W,zB] at this
     subst this;cases b' with
     | false=>rw[e3 rfl]; simp
     | true=>rw[(e4 rfl).len]; simp
    rename_i hne
    have:∃x,pts.getLast?=N x:=by
     cases hp:pts.getLast? with
     | none=>rw[List.getLast?_eq_none_iff] at hp; rw[hp] at hne; simp at hne
     | some x=>exact⟨x,rfl⟩
    obtain⟨x,hx⟩:=this;rw[J1 (As (by omega)) hx,W];unfold K0;split
    ·exact⟨_,rfl⟩
    ·rw[s1,W]
     have:∃w,HV h.Forecast h.Chart (AL h.Fleet a.Ship) a.From []=N w:=by
      unfold HV;simp only[NS,GS hsn,hf,hso,g2,W,if_true];split<;>exact⟨_,rfl⟩
     obtain⟨w,hw⟩:=this;rw[hw];exact⟨_,rfl⟩
  obtain⟨v,hv⟩:=hv;simp only[hv,W,X,if_false];exact nil_
 | true=>
  obtain⟨hl,p,P,hp⟩:=b4 rfl;obtain⟨pts,bb,g1,g2,g3,g4,g5,g6⟩:=YA hc (rt:=rt) (a:=a.From) (by omega)
  have hpts:bb=T∧pts=p:=by
   have e:=P.points hc (by omega);have hn:=(Cc hc).2.2.1;have h8:=(Cc hc).1;unfold Ew at g1
   simp only[DQ hn,hc,W,if_true,CP _ (show h.Chart.Points.length≤1000 by omega),q2,e,zB] at g1
   subst g1;unfold Fx Ew at g3
   simp only[DQ hn,hc,W,if_true,CP _ (show h.Chart.Points.length≤1000 by omega),q2,e,zB] at g3
   exact⟨rfl,g3.symm⟩
  obtain⟨rfl,rfl⟩:=hpts;have hr:=g6 rfl;have hpl:=hr.len
  have h0:rt≠ []:=fun e=>by
   subst e;have hd:=P.hd;rw[zI,hpl] at hp
   rw[show([]:O Q).length+1 - 1=0 from rfl,hd] at hp
   exact q4 (Option.some.inj hp)
  obtain⟨v,v1,V⟩:=xC hf hc hso hsn (by omega) hr h0 g2 g4;have hz:((pts.length:Q)==(0:Q))=E:=beq_eq_false_iff_ne.2 (by omega)
  have hcv:HM h a rt=N (v,T):=by
   unfold HM;simp only[g4,W,hz,X,if_false,J1 (As (by omega)) hp,bne_self_eq_false,K0,s1,v1]
  simp only[hcv,W,if_true,s1,V.st,g3]
  have key:∀(k n:U) (m:Q) (acc:O X0),2880<m+15*(k:Q)→k<n→a.Ready≤m→m≤2880+15→acc.length≤8→(∀o∈acc,EY h o)→
    ∃L,Fw (rt,T) h a (AL h.Fleet a.Ship) v.sure pts n m acc=N L∧Gi (rt,T) h a (v,T) n m acc=N L∧L.length≤8∧∀o∈L,EY h o:=by
   intro k
   induction k with
   | zero=>
    intro n m acc h1 h2 h3 h4 h5 h6;obtain⟨q,rfl⟩:=sn (n:=n) (by omega);have:¬m≤a.Due:=by omega
    exact⟨acc,by simp[Fw,this],by simp[Gi,this],h5,h6⟩
   | succ k ih=>
    intro n m acc h1 h2 h3 h4 h5 h6;obtain⟨q,rfl⟩:=sn (n:=n) (by omega);rw[Fw,Gi];by_cases hd:m≤a.Due
    ·by_cases h8:(acc.length:Q)<8
     ·have hw:IntKind.i64.wrap (m+15)=m+15:=Am (by omega) (by omega);obtain⟨l,b,c1,c2,c3⟩:=tE ha hc hso hsn (by omega) V g1 g2 g3 g4 h3 (by omega);simp only[hd,h8,decide_true,if_true,c1,W];cases b with
      | false=>
       obtain⟨o,o1⟩:=c2 rfl;simp only[o1,W,X,if_false,Iw,JU,hw];exact ih q _ acc (by omega) (by omega) (by omega) (by omega) h5 h6
      | true=>
       obtain⟨o,o1,o2,o3,_,o4,o5,_⟩:=c3 rfl;simp only[o1,o2,W,if_true,Iw,JU,hw];rw[if_pos (B3 (by omega) (by simp) (by omega)),if_pos (B3 (by omega) (by simp) (by omega))]
       exact ih q _ _ (by omega) (by omega) (by omega) (by omega) (by simp; omega) fun x hx=>by
        rcases zO.1 hx with hx|hx
        ·exact h6 x hx
        ·rw[zK] at hx; subst hx; exact o3.optG hh hl o4 o5
     ·simp only[hd,h8,decide_true,decide_false,if_true,X,if_false];exact⟨acc,rfl,rfl,h5,h6⟩
    ·simp only[hd,decide_false,X,if_false];exact⟨acc,rfl,rfl,h5,h6⟩
  exact key 200 bigN a.Ready [] (by omega) (by rw[Cb]; omega) (Int.le_refl _) (by omega) (by simp) fun o h=>by cases h
def eQ(h:X6)(cs:O Xa)(os:O (O X0)):Prop:=os.length=cs.length∧(∀l∈os,l.length≤8)∧∀l∈os,∀o∈l,EY h o
theorem eY{h:X6}(s:HSmall h)(hh:B5 h=T){cs:O Xa}(h6:cs.length≤6)(hcs:∀a∈cs,C3 h a=T):∃os,PS h cs=N os∧Po h cs=N os∧eQ h cs os:=by
 have opt:∀a∈cs,KC h a=N ((De h a).getD [])∧De h a=N ((De h a).getD [])∧((De h a).getD []).length≤8∧∀o∈(De h a).getD [],EY h o:=fun a ha=>by
  obtain⟨L,l1,l2,l3⟩:=tF s hh (hcs a ha);rw[l2];exact⟨l1,rfl,l3⟩
 refine⟨cs.map fun a=>(De h a).getD [],?_,?_,by simp,fun l hl=> ?_,fun l hl=> ?_⟩
 ·refine FY (L:=IN cs h) cs _ N (As (by omega)) (fun n i acc hi hacc=> ?_) fun n acc _=>by rw[IN,if_neg (by simp)]
  rw[IN];simp only[Af,hi,decide_true,if_true,Ai hi,W,(opt _ (Y hi)).1];rw[if_pos (B3 (by omega) (by simp) (by omega))]
 ·refine FY (L:=HL cs h) cs (fun a=>(De h a).getD []) N (As (by omega)) (fun n i acc hi hacc=> ?_) fun n acc _=>by rw[HL,if_neg (by simp)]
  obtain⟨L,hL⟩:∃L,(De h cs[i]).getD []=L:=⟨_,rfl⟩;have e:=(opt _ (Y hi)).2.1;rw[hL] at e ⊢
  rw[HL];simp only[Af,hi,decide_true,if_true,Ai hi,W,e];rw[if_pos (B3 (by omega) (by simp) (by omega))]
 ·obtain⟨a,ha,rfl⟩:=zV.1 hl;exact(opt a ha).2.2.1
 ·obtain⟨a,ha,rfl⟩:=zV.1 hl;exact(opt a ha).2.2.2
structure CallsGood (h:X6) (cs:O Xa):Prop where
 ok:∀a∈cs,C3 h a=T
 six:cs.length≤6
def CS(l:O X0):Q:=(l.map X0.Cost).sum
def Jt(l:O X0):Prop:=∀o∈l,0≤o.Cost∧o.Cost≤2880
theorem vp{l:O X0}(h:Jt l):0≤CS l∧CS l≤2880*(l.length:Q):=by
 induction l with
 | nil=>simp[CS]
 | cons x l ih=>
  have:=h x (by simp);have:=ih fun o ho=>h o (by simp[ho])
  simp only[CS,List.map_cons,List.sum_cons,zC] at *
  omega
theorem Zp(l:O X0)(o:X0):CS (l++ [o])=CS l+o.Cost:=by simp[CS]
theorem UO{l:O X0}(hl:l.length≤1000)(h:Jt l):Pg l=N (CS l):=by
 have key:∀(k i n:U),i+k=l.length→k<n→F7 l n (CS (l.take i)) (i:Q)=N (CS l):=by
  intro k
  induction k with
  | zero=>
   intro i n hi hn;obtain⟨q,rfl⟩:=sn (n:=n) (by omega);have:i=l.length:=by omega
   subst this;rw[zG];simp[F7]
  | succ k ih=>
   intro i n hi hn;obtain⟨q,rfl⟩:=sn (n:=n) (by omega);have hlt:i<l.length:=by omega
   have b1:=vp (l:=l.take i) fun o ho=>h o (List.mem_of_mem_take ho)
   have b2:=h _ (Y hlt);have b3:((l.take i).length:Q)≤1000:=by simp only[List.length_take]; omega
   have e:=ih (i+1) q (by omega) (by omega);rw[I hlt,Zp] at e
   rw[F7];simp only[Af,hlt,decide_true,if_true,Ai hlt,W,Aw hlt (As (by omega))];rw[Am (by omega) (by omega)];exact e
 exact key l.length 0 bigN (by omega) (Bx (As (by omega)))
def Jy(l:O Q)(k:U × Q):O Q:=l.set k.1 (l[k.1]?.getD 0+k.2)
def AI(ks:O (U × Q)):O Q:=ks.foldl Jy [0,0,0,0]
theorem OH(ks:O (U × Q))(k:U × Q):AI (ks++ [k])=Jy (AI ks) k:=by simp[AI]
theorem YL{α:Type}{p:O α→Prop}(h0:p [])(h1:∀l a,p l→p (l++ [a]))(l:O α):p l:=by
 have:∀l:O α,p l.reverse:=fun l=>by
  induction l with
  | nil=>exact h0
  | cons a l ih=>rw[List.reverse_cons]; exact h1 _ _ ih
 have g:=this l.reverse;rwa [List.reverse_reverse] at g
theorem Jl(ks:O (U × Q)):(AI ks).length=4:=by
 refine YL (p:=fun ks=>(AI ks).length=4) rfl (fun l a h=> ?_) ks;rw[OH,Jy,List.length_set];exact h
theorem Vl(l:O Q)(i j:U)(x:Q):(l.set i x)[j]?.getD 0=if i=j∧i<l.length then x else l[j]?.getD 0:=by
 rw[List.getElem?_set];by_cases h:i=j
 ·subst h;by_cases h2:i<l.length
  ·simp[h2]
  ·simp[h2]
 ·simp[h]
theorem we(ks:O (U × Q)){L:U}(hL:L<4):(AI ks)[L]?.getD 0=((ks.filter fun k=>k.1==L).map Prod.snd).sum:=by
 refine YL (p:=fun ks=>(AI ks)[L]?.getD 0=((ks.filter fun k=>k.1==L).map Prod.snd).sum) ?_ (fun l a ih=> ?_) ks
 ·have:L=0∨L=1∨L=2∨L=3:=by omega
  rcases this with rfl|rfl|rfl|rfl<;>rfl
 ·rw[OH,Jy,Vl,Jl];by_cases h:a.1=L
  ·rw[if_pos ⟨h,by omega⟩,h,ih];simp[h]
  ·rw[if_neg (by omega),ih];simp[h]
theorem vq{l:O Q}{M:Q}(h:∀x∈l,0≤x∧x≤M):0≤l.sum∧l.sum≤M*(l.length:Q):=by
 induction l with
 | nil=>simp
 | cons x l ih=>
  have h1:=h x (by simp);have h2:=ih fun y hy=>h y (by simp[hy])
  simp only[List.sum_cons,zC,Int.natCast_add,Int.mul_add];omega
theorem ZB{ks:O (U × Q)}{M:Q}(hM:0≤M)(h:∀k∈ks,0≤k.2∧k.2≤M){L:U}(hL:L<4):0≤(AI ks)[L]?.getD 0∧(AI ks)[L]?.getD 0≤M*(ks.length:Q):=by
 rw[we ks hL]
 obtain⟨a,b⟩:=vq (l:=(ks.filter fun k=>k.1==L).map Prod.snd) (M:=M) fun x hx=>by
  obtain⟨k,hk,rfl⟩:=zV.1 hx;exact h k (List.mem_filter.1 hk).1
 refine⟨a,Int.le_trans b (Int.mul_le_mul_of_nonneg_left ?_ hM)⟩;have:=List.length_filter_le (fun k:U × Q=>k.1==L) ks;simp only[List.length_map];omega
theorem wg(ks:O (U × Q)){k:U × Q}(hk:0≤k.2){L:U}(hL:L<4):(AI ks)[L]?.getD 0≤(AI (ks++ [k]))[L]?.getD 0:=by
 rw[OH,Jy,Vl];split
 ·rename_i h; rw[← h.1]; omega
 ·omega
def gr(l:O Q):Q:=l.foldl (fun v x=>if v<x then x else v) 0
theorem Vo(l:O Q)(M:Q):gr l≤M↔0≤M∧∀x∈l,x≤M:=by
 have:∀(l:O Q) (v:Q),l.foldl (fun v x=>if v<x then x else v) v≤M↔v≤M∧∀x∈l,x≤M:=fun l=>by
  induction l with
  | nil=>intro v; simp
  | cons a l ih=>
   intro v;rw[List.foldl_cons,ih];constructor
   ·intro⟨h1,h2⟩;split at h1
    ·exact⟨by omega,fun x hx=>(List.mem_cons.1 hx).elim (fun e=>e▸h1) (h2 x)⟩
    ·exact⟨h1,fun x hx=>(List.mem_cons.1 hx).elim (fun e=>by omega) (h2 x)⟩
   ·intro⟨h1,h2⟩;refine⟨?_,fun x hx=>h2 x (by simp[hx])⟩;have:=h2 a (by simp);split<;>omega
 exact this l 0
theorem oS{l l':O Q}(h4:l.length=4)(h4':l'.length=4)(h:∀L,L<4→l[L]?.getD 0≤l'[L]?.getD 0):gr l≤gr l':=by
 rw[Vo];obtain⟨a,b⟩:=(Vo l' (gr l')).1 (Int.le_refl _);refine⟨a,fun x hx=> ?_⟩;obtain⟨i,hi,rfl⟩:=List.getElem_of_mem hx;have g:=h i (by omega);rw[Z hi,Z (show i<l'.length by omega)] at g
 exact Int.le_trans g (b _ (Y _))
theorem Vp{R:Type}(xs:O Q)(hl:xs.length≤maxLen)(K:Q→Option R){F:U→Q→Q→Option R}
  (hF:∀n (i:U) v,F (n+1) v (i:Q)=if h:i<xs.length then F n (if v<xs[i] then xs[i] else v) ((i+1:U):Q) else K v):F bigN 0 0=K (gr xs):=by
 have key:∀(k i n:U),i+k=xs.length→k<n→F n (gr (xs.take i)) (i:Q)=K (gr xs):=by
  intro k
  induction k with
  | zero=>
   intro i n hi hn;obtain⟨q,rfl⟩:=sn (n:=n) (by omega);rw[hF,dif_neg (by omega),List.take_of_length_le (by omega)]
  | succ k ih=>
   intro i n hi hn;obtain⟨q,rfl⟩:=sn (n:=n) (by omega);have hlt:i<xs.length:=by omega
   have e:=ih (i+1) q (by omega) (by omega)
   have eg:gr (xs.take i++ [xs[i]])=if gr (xs.take i)<xs[i] then xs[i] else gr (xs.take i):=by
    unfold gr;rw[List.foldl_append];rfl
   rw[I hlt,eg] at e
   rw[hF,dif_pos hlt];exact e
 exact key xs.length 0 bigN (by omega) (Bx hl)
def Dp(h:X6)(a:Xa):U:=(AL h.Fleet a.Ship).Line.toNat
def AE(h:X6)(cs:O Xa)(pl:O X0):O (U × Q):=List.zipWith (fun a o=>(Dp h a,o.Cost)) cs pl
def CD(ks:O (U × Q)):O (U × Q):=ks.map fun k=>(k.1,1)
theorem Yq(h:X6){o:X0}:∀{cs:O Xa} {pl:O X0} (hl:pl.length<cs.length),AE h cs (pl++ [o])=AE h cs pl++ [(Dp h cs[pl.length],o.Cost)]:=by
 intro cs
 induction cs with
 | nil=>intro pl hl; simp at hl
 | cons c cs ih=>
  intro pl hl;cases pl with
  | nil=>simp[AE]
  | cons p pl=>
   have:=ih (pl:=pl) (by simpa using hl);simp only[AE,List.cons_append,List.zipWith_cons_cons,zC,List.getElem_cons_succ] at *
   rw[this]
theorem tY{h:X6}:∀{cs:O Xa} {pl:O X0},Jt pl→(∀a∈cs,Dp h a<4)→∀k∈AE h cs pl,k.1<4∧0≤k.2∧k.2≤2880:=by
 intro cs pl hc hl k hk;simp only[AE,List.mem_iff_getElem,List.length_zipWith,List.getElem_zipWith] at hk
 obtain⟨i,hi,rfl⟩:=hk;have:=hc pl[i] (Y _);exact⟨hl _ (Y _),this.1,this.2⟩
theorem tZ(h:X6)(cs:O Xa)(pl:O X0):(AE h cs pl).length=min cs.length pl.length:=by simp[AE]
theorem XO{h:X6}(hh:B5 h=T){a:Xa}(ha:C3 h a=T):idx a.Ship h.Fleet.length=T∧(AL h.Fleet a.Ship).Line=(Dp h a:Q)∧Dp h a<4:=by
 simp only[B5,zM] at hh
 simp only[C3,zM] at ha
 have hs:=(IU hh.2.2.1).2 _ (ED ha.1).2;simp only[Cj,zM,decide_eq_true_eq] at hs
 unfold Dp;exact⟨ha.1,by omega,by omega⟩
theorem U9{h:X6}(hh:B5 h=T){cs:O Xa}(hc:CallsGood h cs){pl:O X0}(hp:Jt pl)(hl:pl.length≤cs.length) :
  HK h cs pl=N ⟨AI (AE h cs pl),AI (CD (AE h cs pl))⟩:=by
 have h6:=hc.six;have hln:∀a∈cs,Dp h a<4:=fun a ha=>(XO hh (hc.ok a ha)).2.2
 unfold HK;rw[show Br 4 4 8=N 4 from Eb (n:=4) (bytes:=8) (by omega) (by omega),W,W]
 have key:∀(k i n:U),i+k=pl.length→k<n→Ep cs pl h n (i:Q) (AI (AE h cs (pl.take i))) (AI (CD (AE h cs (pl.take i))))=N ⟨AI (AE h cs pl),AI (CD (AE h cs pl))⟩:=by
  intro k
  induction k with
  | zero=>
   intro i n hi hn;obtain⟨q,rfl⟩:=sn (n:=n) (by omega);have:i=pl.length:=by omega
   subst this;rw[zG];simp[Ep]
  | succ k ih=>
   intro i n hi hn;obtain⟨q,rfl⟩:=sn (n:=n) (by omega);have hlt:i<pl.length:=by omega
   have hlc:i<cs.length:=by omega
   have htl:(pl.take i).length=i:=by simp; omega
   obtain⟨w1,w2,w3⟩:=XO hh (hc.ok _ (Y hlc));have e:=ih (i+1) q (by omega) (by omega);have es:=Yq h (o:=pl[i]) (cs:=cs) (pl:=pl.take i) (by omega);simp only[htl] at es
   rw[I hlt,es] at e
   have hin:=tY (h:=h) (cs:=cs) (pl:=pl.take i) (fun o ho=>hp o (List.mem_of_mem_take ho)) hln;have hpl6:((AE h cs (pl.take i)).length:Q)≤6:=by rw[tZ]; omega
   have hol:(CD (AE h cs (pl.take i))).length=(AE h cs (pl.take i)).length:=by simp[CD]
   have b1:=ZB (ks:=AE h cs (pl.take i)) (M:=2880) (by omega) (fun k hk=>(hin k hk).2) w3
   have b2:=ZB (ks:=CD (AE h cs (pl.take i))) (M:=1) (by omega) (fun k hk=>by
    obtain⟨k',_,rfl⟩:=zV.1 hk;exact⟨by simp,by simp⟩) w3
   have b3:=hp _ (Y hlt);rw[OH,show CD (AE h cs (pl.take i)++ [(Dp h cs[i],pl[i].Cost)])=CD (AE h cs (pl.take i))++ [(Dp h cs[i],1)] by simp[CD],OH] at e
   simp only[Jy] at e
   have l1:Dp h cs[i]<(AI (AE h cs (pl.take i))).length:=by rw[Jl]; exact w3
   have l2:Dp h cs[i]<(AI (CD (AE h cs (pl.take i)))).length:=by rw[Jl]; exact w3
   rw[Z l1,Option.getD_some] at b1 e
   rw[Z l2,Option.getD_some] at b2 e
   rw[Ep];simp only[Af,hlt,decide_true,if_true,Ai hlt,Ai hlc,(ED w1).1,W,w2,Ai l1,Ai l2,Aw hlt (As (by omega)),zA];rw[Am (n:=(AI (AE h cs (pl.take i)))[Dp h cs[i]]+_) (by omega) (by omega),Am (n:=(AI (CD (AE h cs (pl.take i))))[Dp h cs[i]]+1) (by omega) (by omega)];exact e
 have e:=key pl.length 0 bigN (by omega) (Bx (As (by omega)));simpa[AE,CD,AI] using e
def Bb(h:X6)(cs:O Xa)(pl:O X0):Xj:=⟨gr (AI (AE h cs pl)),CS pl⟩
theorem V0{h:X6}(hh:B5 h=T){cs:O Xa}(hc:CallsGood h cs){pl:O X0}(hp:Jt pl)(hl:pl.length≤cs.length):CX pl h cs=N (Bb h cs pl):=by
 have h6:=hc.six;unfold CX;rw[U9 hh hc hp hl,W];have h4:(AI (AE h cs pl)).length≤maxLen:=by rw[Jl,AA]; omega
 exact Vp (AI (AE h cs pl)) h4 (fun v=>N (⟨v,CS pl⟩:Xj)) (F:=fun n v i=>Hz pl ⟨AI (AE h cs pl),AI (CD (AE h cs pl))⟩ n v i) fun n i v=>by
  show Hz pl ⟨AI (AE h cs pl),AI (CD (AE h cs pl))⟩ (n+1) v (i:Q)=_
  rw[Hz];by_cases h:i<(AI (AE h cs pl)).length
  ·simp only[Af,h,decide_true,if_true,Ai h,W,dif_pos,Aw h h4]
  ·simp only[Af,h,decide_false,X,if_false,dif_neg,not_false_eq_true,UO (l:=pl) (by omega) hp,W]
structure Fnd where
 f:Bool
 b:O Q
 w:Xj
def wl(a b:Xj):Bool:=decide (a.i0<b.i0) || (decide (a.i0=b.i0)&&decide (a.i1<b.i1))
def Ef(A:Fnd)(ch:O Q)(w:Xj):Fnd:=if(A.f&& !wl w A.w)=T then A else⟨T,ch,w⟩
def Cd(h:X6)(pl:O X0):Bool:=(DC h pl).getD E
def CZ(h:X6)(pl:O X0)(o:X0):Bool:= !(pl.any fun x=>Bt h.Chart h.Regime x.Passages o.Passages)
def Dd(F:X0→Q→Fnd→Fnd):O X0→U→Fnd→Fnd
 | [],_,A=>A
 | o::l,n,A=>Dd F l (n+1) (F o (n:Q) A)
def Bc(h:X6)(wv:O X0→Xj):O (O X0)→O X0→O Q→Fnd→Fnd
 | [],pl,ch,A=>if Cd h pl=T then Ef A ch (wv pl) else A
 | l::ls,pl,ch,A=>Dd (fun o n A=>if CZ h pl o=T then Bc h wv ls (pl++ [o]) (ch++ [n]) A else A) l 0 A
theorem UU{F:X0→Q→Fnd→Fnd}{A:Fnd}:∀{l:O X0} {n:U},(∀o∈l,∀n,F o n A=A)→Dd F l n A=A:=by
 intro l
 induction l with
 | nil=>intro n _; rfl
 | cons o l ih=>
  intro n H;rw[Dd,H o (zS ..)];exact ih fun x hx=>H x (zP _ hx)
def Rf(A B:Fnd):Prop:=B=A∨B.f=T
theorem jw{F:X0→Q→Fnd→Fnd}(H:∀o n A,Rf A (F o n A)):∀(l:O X0) (n:U) (A:Fnd),Rf A (Dd F l n A):=by
 intro l
 induction l with
 | nil=>intro n A; exact Or.inl rfl
 | cons o l ih=>
  intro n A;rw[Dd];rcases H o n A with e|e
  ·rw[e]; exact ih _ _
  ·rcases ih (n+1) (F o n A) with g|g
   ·rw[g]; exact Or.inr e
   ·exact Or.inr g
theorem vO(h:X6)(wv:O X0→Xj):∀(ls:O (O X0)) (pl:O X0) (ch:O Q) (A:Fnd),Rf A (Bc h wv ls pl ch A):=by
 intro ls
 induction ls with
 | nil=>
  intro pl ch A;rw[Bc];split
  ·unfold Ef;split
   ·exact Or.inl rfl
   ·exact Or.inr rfl
  ·exact Or.inl rfl
 | cons l ls ih=>
  intro pl ch A;rw[Bc];refine jw (fun o n A=> ?_) l 0 A;split
  ·exact ih _ _ _
  ·exact Or.inl rfl
section
variable {h : X6} {cs : O Xa} {os : O (O X0)}
def GoodC(h:X6)(pl:O X0):Prop:=∀o∈pl,EY h o
theorem GoodC.pl{pl:O X0}(H:GoodC h pl):DT h pl:=fun o ho=>(H o ho).1
theorem GoodC.cost{pl:O X0}(H:GoodC h pl):Jt pl:=fun o ho=>(H o ho).2
theorem GoodC.snoc{pl:O X0}{o:X0}(H:GoodC h pl)(ho:EY h o):GoodC h (pl++ [o]):=fun x hx=>by
 rcases zO.1 hx with hx|hx
 ·exact H x hx
 ·rw[zK] at hx; subst hx; exact ho
theorem KO(s:HSmall h)(hh:B5 h=T){pl:O X0}(hl:pl.length≤12)(H:DT h pl):DC h pl=N (Cd h pl)∧(Cd h pl=T↔FitP h pl):=by
 obtain⟨b,b1,b2⟩:=US s hh hl H;have:Cd h pl=b:=by unfold Cd; rw[b1]; rfl
 rw[this];exact⟨b1,b2⟩
theorem gl(s:HSmall h)(hh:B5 h=T){pl:O X0}(hl:pl.length≤12)(H:DT h pl):In h.Crew h.Chart h.Fleet (BC pl)=N (Cd h pl):=by
 obtain⟨b,b1,b2⟩:=vE s hh hl H;have:b=Cd h pl:=by rw[Bool.eq_iff_iff,b2,(KO s hh hl H).2]
 rw[b1,this]
theorem vL(s:HSmall h)(hh:B5 h=T){wv:O X0→Xj}:∀(ls:O (O X0)) (pl:O X0) (ch:O Q) (A:Fnd),(∀l∈ls,GoodC h l)→GoodC h pl→pl.length+ls.length≤12→Cd h pl=E→Bc h wv ls pl ch A=A:=by
 intro ls
 induction ls with
 | nil=>intro pl ch A _ _ _ hf; rw[Bc,if_neg (by rw[hf]; simp)]
 | cons l ls ih=>
  intro pl ch A hg hp hl hf;simp only[zC] at hl
  rw[Bc];refine UU fun o ho n=> ?_
  have ho':=hg l (zS ..) o ho;split
  ·refine ih _ _ _ (fun l hm=>hg l (zP _ hm)) (hp.snoc ho') (by simp; omega) ?_;cases e:Cd h (pl++ [o]) with
   | false=>rfl
   | true=>
    have F:=(KO s hh (by simp; omega) (hp.snoc ho').pl).2.1 e;have:=(KO s hh (by omega) hp.pl).2.2 (FitP.app hh s (hp.snoc ho').pl (by omega) F);rw[hf] at this
    cases this
  ·rfl
theorem lr{pl:O X0}{o:X0}(hl:pl.length<cs.length)(ho:0≤o.Cost):wl (Bb h cs (pl++ [o])) (Bb h cs pl)=E:=by
 have hg:gr (AI (AE h cs pl))≤gr (AI (AE h cs (pl++ [o]))):=oS (Jl _) (Jl _) fun L hL=>by
  rw[Yq h hl];exact wg _ ho hL
 simp only[wl,Bb,Zp,Bool.or_eq_false_iff,Bool.and_eq_false_iff,decide_eq_false_iff_not];omega
theorem zo{a b c:Xj}(h1:wl a b=E)(h2:wl b c=E):wl a c=E:=by
 simp only[wl,Bool.or_eq_false_iff,Bool.and_eq_false_iff,decide_eq_false_iff_not] at *
 omega
theorem vN:∀(ls:O (O X0)) (pl:O X0) (ch:O Q) (A:Fnd),(∀l∈ls,GoodC h l)→pl.length+ls.length=cs.length→A.f=T→wl (Bb h cs pl) A.w=E→Bc h (Bb h cs) ls pl ch A=A:=by
 intro ls
 induction ls with
 | nil=>
  intro pl ch A _ _ hf hw;rw[Bc];split
  ·unfold Ef; rw[if_pos (by rw[hf,hw]; rfl)]
  ·rfl
 | cons l ls ih=>
  intro pl ch A hg hl hf hw;simp only[zC] at hl
  rw[Bc];refine UU fun o ho n=> ?_
  split
  ·exact ih _ _ _ (fun l hm=>hg l (zP _ hm)) (by simp; omega) hf (zo (lr (by omega) (hg l (zS ..) o ho).2.1) hw)
  ·rfl
def Gb(h:X6)(os:O (O X0)):O (O (O (O Bool))):=os.map fun a=>os.map fun b=>a.map fun o=>b.map fun p=>Bt h.Chart h.Regime o.Passages p.Passages
theorem gS(hh:B5 h=T)(h6:os.length≤6)(h8:∀l∈os,l.length≤8)(hg:∀l∈os,GoodC h l):NB h os=N (Gb h os):=by
 obtain⟨_,hc,_,hr,_⟩:=EB hh;unfold NB;refine FY (L:=Dg os h) os (fun a=>os.map fun b=>a.map fun o=>b.map fun p=>Bt h.Chart h.Regime o.Passages p.Passages) N (As (by omega)) (fun n i acc hi ha=> ?_) fun n acc _=>by rw[Dg,if_neg (by simp)]
 rw[Dg];simp only[Af,hi,decide_true,if_true,Ai hi,W];have g1:=h8 _ (Y hi);refine(FY (L:=E5 os os[i] (i:Q) h acc (Dg os h n)) os (fun b=>os[i].map fun o=>b.map fun p=>Bt h.Chart h.Regime o.Passages p.Passages) (fun v=>if A3 acc.length [v].length 24=T then Dg os h n (IntKind.i64.wrap ((i:Q)+1)) (acc++ [v]) else none) (As (by omega)) (fun n2 j ac2 hj ha2=> ?_) fun n2 ac2 _=>by rw[E5,if_neg (by simp)]).trans (by rw[if_pos (B3 (by omega) (by simp) (by omega))]);rw[E5];simp only[Af,hj,decide_true,if_true,Ai hj,W];have g2:=h8 _ (Y hj);refine(FY (L:=FG os os[i] os[j] (i:Q) (j:Q) h acc ac2 (E5 os os[i] (i:Q) h acc (Dg os h n) n2)) os[i] (fun o=>os[j].map fun p=>Bt h.Chart h.Regime o.Passages p.Passages) (fun v=>if A3 ac2.length [v].length 24=T then E5 os os[i] (i:Q) h acc (Dg os h n) n2 (IntKind.i64.wrap ((j:Q)+1)) (ac2++ [v]) else none) (As (by omega)) (fun n3 k ac3 hk ha3=> ?_) fun n3 ac3 _=>by rw[FG,if_neg (by simp)]).trans (by rw[if_pos (B3 (by omega) (by simp) (by omega))]);rw[FG];simp only[Af,hk,decide_true,if_true,Ai hk,W];have o1:=(hg _ (Y hi) _ (Y hk)).1;refine(FY (L:=IM os os[i] os[j] (i:Q) (j:Q) (k:Q) h os[i][k] acc ac2 ac3 (FG os os[i] os[j] (i:Q) (j:Q) h acc ac2 (E5 os os[i] (i:Q) h acc (Dg os h n) n2) n3)) os[j] (fun p=>Bt h.Chart h.Regime os[i][k].Passages p.Passages) (fun v=>if A3 ac3.length [v].length 24=T then FG os os[i] os[j] (i:Q) (j:Q) h acc ac2 (E5 os os[i] (i:Q) h acc (Dg os h n) n2) n3 (IntKind.i64.wrap ((k:Q)+1)) (ac3++ [v]) else none) (As (by omega)) (fun n4 m ac4 hm ha4=> ?_) fun n4 ac4 _=>by rw[IM,if_neg (by simp)]).trans (by rw[if_pos (B3 (by omega) (by simp) (by omega))]);have o2:=(hg _ (Y hj) _ (Y hm)).1;rw[IM];simp only[Af,hm,decide_true,if_true,Ai hm,W,(UF hc hr o1.1.inn o2.1.inn (As (by omega)) (As (by omega))).1];rw[if_pos (B3 (by omega) (by simp) (by omega))]
abbrev Sx(h:X6)(cs:O Xa)(os:O (O X0))(A:Fnd):Xf:=⟨h,cs,os,Gb h os,A.b,A.w.i0,A.w.i1,A.f⟩
def Chos(os:O (O X0))(pl:O X0)(ch:O Q):Prop:=pl.length=ch.length∧∀i (h:i<pl.length),∃(l:O X0) (c:U),os[i]?=N l∧ch[i]?=N (c:Q)∧l[c]?=N pl[i]
theorem gf(l:O X0):∀n v i,Ku l n v i=F7 l n v i:=by
 intro n
 induction n with
 | zero=>intro v i; rfl
 | succ n ih=>intro v i; simp only[Ku,F7,ih]
theorem vH(s:HSmall h)(hh:B5 h=T)(hcs:CallsGood h cs){pl:O X0}{ch:O Q}(H:Chos os pl ch)(hl:pl.length=cs.length)(G:GoodC h pl)(A:Fnd) :
  ND (Sx h cs os A) ch=N (Sx h cs os (if Cd h pl=T then Ef A ch (Bb h cs pl) else A)):=by
 have h6:=hcs.six;have hlen:=H.1
 have e1:ND (Sx h cs os A) ch=(IP h cs pl).bind fun r9=>Di ch r9 (Sx h cs os A) pl bigN 0 0:=by
  refine BO (fun n i=>IR ch (Sx h cs os A) n (i:Q) (pl.take i)=(IP h cs pl).bind fun r9=>Di ch r9 (Sx h cs os A) pl bigN 0 0) (As (n:=pl.length) (by omega)) (fun n=> ?_) (fun n i hi ih=> ?_) (zH _)
  ·rw[IR,if_neg (by rw[hlen]; simp),zG]
  ·obtain⟨l,c,c1,c2,c3⟩:=H.2 i hi;have hi':i<ch.length:=by omega
   rw[IR];simp only[Af,hi',decide_true,if_true,Al,c1,c2,W,c3];rw[if_pos (B3 (by simp; omega) (by simp) (by omega)),Aw hi (As (by omega)),← I hi];exact ih
 obtain⟨r,r1,r2,_,_⟩:=eT hh (by omega) hl hcs.ok;rw[U9 hh hcs G.cost (by omega),zB] at r2
 subst r2;rw[e1,r1,W];have h4:(AI (AE h cs pl)).length≤maxLen:=by rw[Jl,AA]; omega
 have e2:=Vp (AI (AE h cs pl)) h4 (fun v=>Di ch ⟨AI (AE h cs pl),AI (CD (AE h cs pl))⟩ (Sx h cs os A) pl 1 v ((AI (AE h cs pl)).length:Q)) (F:=fun n v i=>Di ch ⟨AI (AE h cs pl),AI (CD (AE h cs pl))⟩ (Sx h cs os A) pl n v i) fun n i v=>by
  show Di ch ⟨AI (AE h cs pl),AI (CD (AE h cs pl))⟩ (Sx h cs os A) pl (n+1) v (i:Q)=_
  by_cases hi:i<(AI (AE h cs pl)).length
  ·rw[Di];simp only[Af,hi,decide_true,if_true,Ai hi,W,dif_pos,Aw hi h4]
  ·rw[dif_neg hi,Di,Di,if_neg (by simpa using hi),if_neg (by simp)]
 have hco:N3 pl=N (CS pl):=by
  unfold N3;rw[gf];exact UO (by omega) G.cost
 refine e2.trans ?_;rw[Di,if_neg (by simp),hco,W];have hch:Gw pl=N (BC pl):=vD (by omega) fun o ho=>(G o ho).1.2
 have hap:A3 ([]:O Q).length ch.length 8=T:=B3 (by simp) (by omega) (by omega);simp only[hch,W,gl s hh (pl:=pl) (by omega) G.pl,KM,hap,if_true];obtain⟨f,b,w0,w1⟩:=A;cases f with
 | false=>cases Cd h pl<;>simp[Ef,wl,Bb]
 | true=>
  by_cases g1:w0<gr (AI (AE h cs pl))
  ·have g2:¬gr (AI (AE h cs pl))<w0:=by omega
   have g3:¬gr (AI (AE h cs pl))=w0:=by omega
   cases Cd h pl<;>simp[Ef,wl,Bb,g1,g2,g3]
  ·by_cases g2:gr (AI (AE h cs pl))=w0
   ·by_cases g3:w1≤CS pl
    ·have g4:¬CS pl<w1:=by omega
     cases Cd h pl<;>simp[Ef,wl,Bb,g1,g2,g3,g4]
    ·have g4:CS pl<w1:=by omega
     cases Cd h pl<;>simp[Ef,wl,Bb,g1,g2,g3,g4]
   ·have g3:gr (AI (AE h cs pl))<w0:=by omega
    cases Cd h pl<;>simp[Ef,wl,Bb,g1,g2,g3]
theorem Chos.snoc{pl:O X0}{ch:O Q}(H:Chos os pl ch){l:O X0}(hl:os[pl.length]?=N l){i:U}(hi:i<l.length):Chos os (pl++ [l[i]]) (ch++ [(i:Q)]):=by
 obtain⟨h1,h2⟩:=H;refine⟨by simp; omega,fun j hj=> ?_⟩;simp only[zR,zN] at hj
 by_cases h:j<pl.length
 ·obtain⟨l',c,c1,c2,c3⟩:=h2 j h;exact⟨l',c,c1,by rw[zD (by omega)]; exact c2,by rw[zF h]; exact c3⟩
 ·obtain rfl:j=pl.length:=by omega
  exact⟨l,i,hl,by rw[h1,zT (by omega)]; simp,by rw[zE (by omega),Z hi]; simp⟩
theorem vG(s:HSmall h)(hh:B5 h=T)(hcs:CallsGood h cs)(hos:os.length=cs.length)(h8:∀l∈os,l.length≤8)(hg:∀l∈os,GoodC h l):∀(ls:O (O X0)) (pl:O X0) (ch:O Q) (A:Fnd) (n:U),ls.length<n→os.drop pl.length=ls→pl.length+ls.length=os.length→Chos os pl ch→GoodC h pl→
  Dh n (Sx h cs os A) ch=N (Sx h cs os (Bc h (Bb h cs) ls pl ch A)):=by
 have h6:=hcs.six;intro ls
 induction ls with
 | nil=>
  intro pl ch A n hn hd hl H G;obtain⟨q,rfl⟩:=sn (n:=n) (by simpa using hn);have hlen:=H.1;simp only[zW,Nat.add_zero] at hl
  have hz:((ch.length:Q)==(os.length:Q))=T:=by rw[← hlen,hl]; simp
  rw[Dh,NC];simp only[hz,if_true,vH s hh hcs H (by omega) G,W,Bc]
 | cons l ls ih=>
  intro pl ch A n hn hd hl H G;obtain⟨q,rfl⟩:=sn (n:=n) (by omega);have hlen:=H.1;simp only[zC] at hl hn
  have hz:((ch.length:Q)==(os.length:Q))=E:=beq_eq_false_iff_ne.2 (by omega);have hpl:pl.length<os.length:=by omega
  have hol:os[pl.length]?=N l:=by
   have:=congrArg List.head? hd;rw[List.head?_drop] at this
   exact this
  have hd':os.drop (pl.length+1)=ls:=by rw[← List.tail_drop,hd]; rfl
  have hlm:=List.mem_of_getElem? hol;have hl8:=h8 l hlm;rw[Dh,NC];simp only[hz,X,if_false];rw[← hlen,Al,hol,W,Bc]
  have key:=BO (fun m i=>∀A:Fnd,FH (Dh q) ch l m (i:Q) h.Forecast.Tide.Mean h.Forecast.Tide.Parts h.Forecast.Surges h.Chart.Points h.Chart.Segments h.Fleet h.Regime.Gap h.Regime.NoMeet h.Crew.Tugs h.Crew.Pilots h.Crew.Rest h.Crew.Moves cs os (Gb h os) A.w.i0 A.w.i1 A.f A.b=N (Sx h cs os (Dd (fun o n A=>if CZ h pl o=T then Bc h (Bb h cs) ls (pl++ [o]) (ch++ [n]) A else A) (l.drop i) i A))) (As (n:=l.length) (by omega))
   (fun m A=>by rw[FH,if_neg (by simp),List.drop_length]; rfl) (fun m i hi ihm A=>by
    have ed:Dd (fun o n A=>if CZ h pl o=T then Bc h (Bb h cs) ls (pl++ [o]) (ch++ [n]) A else A) (l.drop i) i A=Dd (fun o n A=>if CZ h pl o=T then Bc h (Bb h cs) ls (pl++ [o]) (ch++ [n]) A else A) (l.drop (i+1)) (i+1) (if CZ h pl l[i]=T then Bc h (Bb h cs) ls (pl++ [l[i]]) (ch++ [(i:Q)]) A else A):=by
     rw[zU hi]; rfl
    rw[ed,FH,if_pos (by simpa using hi)]
    have fits:=BO (fun m2 j=>∀v:Bool,v=(!((pl.take j).any fun x=>Bt h.Chart h.Regime x.Passages l[i].Passages))→E6 (Dh q) ch (i:Q) l h.Forecast.Tide.Mean h.Forecast.Tide.Parts h.Forecast.Surges h.Chart.Points h.Chart.Segments h.Fleet h.Regime.Gap h.Regime.NoMeet h.Crew.Tugs h.Crew.Pilots h.Crew.Rest h.Crew.Moves cs os (Gb h os) A.w.i0 A.w.i1 A.f A.b (FH (Dh q) ch l m) m2 v (j:Q) =
      E6 (Dh q) ch (i:Q) l h.Forecast.Tide.Mean h.Forecast.Tide.Parts h.Forecast.Surges h.Chart.Points h.Chart.Segments h.Fleet h.Regime.Gap h.Regime.NoMeet h.Crew.Tugs h.Crew.Pilots h.Crew.Rest h.Crew.Moves cs os (Gb h os) A.w.i0 A.w.i1 A.f A.b (FH (Dh q) ch l m) 1 (CZ h pl l[i]) (ch.length:Q)) (As (n:=pl.length) (by omega))
     (fun m2 v hv=>by
      rw[zG] at hv
      have ev:CZ h pl l[i]=v:=by rw[hv]; rfl
      have hd0:decide ((ch.length:Q)<(ch.length:Q))=E:=by simp
      rw[ev,hlen,E6,E6];simp only[hd0,X,if_false]) (fun m2 j hj ih2 v hv=>by
      have hj':j<ch.length:=by omega
      obtain⟨l',c,c1,c2,c3⟩:=H.2 j hj;have t1:(Gb h os)[pl.length]?=N (os.map fun b=>l.map fun o=>b.map fun p=>Bt h.Chart h.Regime o.Passages p.Passages):=by unfold Gb; rw[zL,hol]; rfl
      have t2:(os.map fun b=>l.map fun o=>b.map fun p=>Bt h.Chart h.Regime o.Passages p.Passages)[j]?=N (l.map fun o=>l'.map fun p=>Bt h.Chart h.Regime o.Passages p.Passages):=by rw[zL,c1]; rfl
      have t3:(l.map fun o=>l'.map fun p=>Bt h.Chart h.Regime o.Passages p.Passages)[i]?=N (l'.map fun p=>Bt h.Chart h.Regime l[i].Passages p.Passages):=by rw[zL,Z hi]; rfl
      have t4:(l'.map fun p=>Bt h.Chart h.Regime l[i].Passages p.Passages)[c]?=N (Bt h.Chart h.Regime l[i].Passages pl[j].Passages):=by rw[zL,c3]; rfl
      rw[E6,if_pos (by simpa using hj'),Al,c2,W,← hlen,Al,t1,W,Al,t2,W,Al,t3,W,Al,t4,W,Aw hj (As (by omega))];rw[← hlen] at ih2
      have ea:((pl.take (j+1)).any fun x=>Bt h.Chart h.Regime x.Passages l[i].Passages)=(((pl.take j).any fun x=>Bt h.Chart h.Regime x.Passages l[i].Passages) || Bt h.Chart h.Regime pl[j].Passages l[i].Passages):=by
       rw[I hj,List.any_append]; simp
      rw[gR];cases hcl:Bt h.Chart h.Regime pl[j].Passages l[i].Passages with
      | true=>rw[if_pos rfl]; exact ih2 E (by rw[ea,hcl]; simp)
      | false=>rw[if_neg (by simp)]; exact ih2 v (by rw[ea,hcl,hv]; simp)) (zH _) T (by simp)
    refine fits.trans ?_;rw[E6,if_neg (by simp)];have hap:A3 ([]:O Q).length ch.length 8=T:=B3 (by simp) (by omega) (by omega);have hap2:A3 ch.length [(i:Q)].length 8=T:=B3 (by omega) (by simp) (by omega);cases hn2:CZ h pl l[i] with
    | false=>
     simp only[X,if_false,Aw hi (As (n:=l.length) (by omega))];exact ihm A
    | true=>
     simp only[if_true,hap,hap2,Aw hi (As (n:=l.length) (by omega))];have e:=ih (pl++ [l[i]]) (ch++ [(i:Q)]) A q (by omega) (by simp[hd']) (by simp; omega) (H.snoc hol hi) (G.snoc (hg l hlm _ (Y hi)));refine(congrArg (fun z=>Option.bind z _) e).trans ?_;exact ihm _) (zH _) A
  exact key
theorem XN(a b:Xj):Ml a b=N (wl a b):=by
 unfold Ml wl;by_cases h1:a.i0<b.i0
 ·simp[h1]
 ·by_cases h2:a.i0=b.i0
  ·simp[h2]
  ·simp[h1,h2]
abbrev Px(h:X6)(os:O (O X0))(A:Fnd)(pl:O X0)(ch:O Q):Xe:=⟨h,os,pl,ch,A.b,A.w,A.f⟩
theorem Y9{pl:O X0}{o:X0}:CZ h pl o=T↔R5 h pl o:=by
 simp only[CZ,R5,Bool.not_eq_true',List.any_eq_false];exact⟨fun H x hx=>by simpa using H x hx,fun H x hx=>by simpa using H x hx⟩
theorem pj(s:HSmall h)(hh:B5 h=T)(hcs:CallsGood h cs)(hos:os.length=cs.length)(h8:∀l∈os,l.length≤8)(hg:∀l∈os,GoodC h l):∀(ls:O (O X0)) (pl:O X0) (ch:O Q) (A:Fnd) (n:U),ls.length<n→os.drop pl.length=ls→pl.length+ls.length=os.length→pl.length=ch.length→GoodC h pl→Cd h pl=T→
  DD (fun z0=>CX z0 h cs) n (Px h os A pl ch)=N (Px h os (Bc h (Bb h cs) ls pl ch A) pl ch):=by
 have h6:=hcs.six;intro ls
 induction ls with
 | nil=>
  intro pl ch A n hn hd hl hlen G hf;obtain⟨q,rfl⟩:=sn (n:=n) (by simpa using hn);simp only[zW,Nat.add_zero] at hl
  have hz:((pl.length:Q)==(os.length:Q))=T:=by rw[hl]; simp
  have hcl:BD ch=N ch:=Rq (by omega);rw[DD,Mh];simp only[V0 hh hcs G.cost (by omega:pl.length≤cs.length),W,XN,HU,hz,if_true,hcl,Bc,hf,Ef];obtain⟨f,b,w⟩:=A;cases f with
  | false=>simp
  | true=>cases hw:wl (Bb h cs pl) w<;>simp[hw]
 | cons l ls ih=>
  intro pl ch A n hn hd hl hlen G hf;obtain⟨q,rfl⟩:=sn (n:=n) (by omega);simp only[zC] at hl hn
  have hz:((pl.length:Q)==(os.length:Q))=E:=beq_eq_false_iff_ne.2 (by omega);have hpl:pl.length<os.length:=by omega
  have hol:os[pl.length]?=N l:=by
   have:=congrArg List.head? hd;rw[List.head?_drop] at this
   exact this
  have hd':os.drop (pl.length+1)=ls:=by rw[← List.tail_drop,hd]; rfl
  have hlm:=List.mem_of_getElem? hol;have hl8:=h8 l hlm;have hgl:∀l'∈ls,GoodC h l':=fun l' h'=>hg l' (by rw[← hd'] at h'; exact List.mem_of_mem_drop h')
  have key:=BO (fun m i=>∀A:Fnd,E1 (fun z0=>CX z0 h cs) (DD (fun z0=>CX z0 h cs) q) (Px h os A pl ch) l m (i:Q) h os A.w.i0 A.w.i1 A.f pl ch A.b=N (Px h os (Dd (fun o n A=>if CZ h pl o=T then Bc h (Bb h cs) ls (pl++ [o]) (ch++ [n]) A else A) (l.drop i) i A) pl ch)) (As (n:=l.length) (by omega))
   (fun m A=>by rw[E1,if_neg (by simp),List.drop_length]; rfl) (fun m i hi ihm A=>by
    have ed:Dd (fun o n A=>if CZ h pl o=T then Bc h (Bb h cs) ls (pl++ [o]) (ch++ [n]) A else A) (l.drop i) i A=Dd (fun o n A=>if CZ h pl o=T then Bc h (Bb h cs) ls (pl++ [o]) (ch++ [n]) A else A) (l.drop (i+1)) (i+1) (if CZ h pl l[i]=T then Bc h (Bb h cs) ls (pl++ [l[i]]) (ch++ [(i:Q)]) A else A):=by
     rw[zU hi]; rfl
    have ho:=hg l hlm _ (Y hi);obtain⟨b,b1,b2⟩:=mF s hh (by omega) (G.snoc ho).pl
    have a0same:∀(A':Fnd) (m:U) (v:Q),E1 (fun z0=>CX z0 h cs) (DD (fun z0=>CX z0 h cs) q) (Px h os A pl ch) l m v=E1 (fun z0=>CX z0 h cs) (DD (fun z0=>CX z0 h cs) q) (Px h os A' pl ch) l m v:=by
     intro A' m
     induction m with
     | zero=>intro v; funext a b c d e f g i; rfl
     | succ m ihh=>intro v; funext a b c d e f g i; simp only[E1,ihh]
    rw[ed,E1,if_pos (by simpa using hi),Ai hi,W,b1,W,Aw hi (As (by omega))];cases b with
    | true=>
     obtain⟨k1,k2⟩:=b2.1 rfl;have hfit:Cd h (pl++ [l[i]])=T:=(KO s hh (by simp; omega) (G.snoc ho).pl).2.2 k2;have e:=ih (pl++ [l[i]]) (ch++ [(i:Q)]) A q (by omega) (by simp[hd']) (by simp; omega) (by simp; omega) (G.snoc ho) hfit;rw[if_pos rfl,if_pos (B3 (by omega) (by simp) (by omega)),if_pos (B3 (by omega) (by simp) (by omega)),if_pos (Y9.2 k1)];refine(congrArg (fun z=>Option.bind z _) e).trans ?_;have t1:bnd (((pl++ [l[i]]).length:U):Q) (pl.length:Q) (0:Q) (pl++ [l[i]]).length=N (0,pl.length):=F3 (by simp);have t2:bnd (((ch++ [(i:Q)]).length:U):Q) (pl.length:Q) (0:Q) (ch++ [(i:Q)]).length=N (0,pl.length):=F3 (by simp; omega);have t3:(pl++ [l[i]]).take pl.length=pl:=by simp
     have t4:(ch++ [(i:Q)]).take pl.length=ch:=by rw[hlen]; simp
     simp only[W,t1,t2,t3,t4];rw[a0same (Bc h (Bb h cs) ls (pl++ [l[i]]) (ch++ [(i:Q)]) A)];exact ihm _
    | false=>
     rw[if_neg (by simp)]
     have:(if CZ h pl l[i]=T then Bc h (Bb h cs) ls (pl++ [l[i]]) (ch++ [(i:Q)]) A else A)=A:=by
      split
      ·rename_i hnc
       refine vL s hh ls _ _ A hgl (G.snoc ho) (by simp; omega) ?_;cases hft:Cd h (pl++ [l[i]]) with
       | false=>rfl
       | true=>
        have:=b2.2 ⟨Y9.1 hnc,(KO s hh (by simp; omega) (G.snoc ho).pl).2.1 hft⟩;cases this
      ·rfl
     rw[this];exact ihm A) (zH _) A
  rw[DD,Mh];have hw:=V0 hh hcs G.cost (by omega:pl.length≤cs.length)
  have go:HU (fun z0=>CX z0 h cs) (DD (fun z0=>CX z0 h cs) q) (Px h os A pl ch) (Bb h cs pl) A.f=N (Px h os (Bc h (Bb h cs) (l::ls) pl ch A) pl ch):=by
   unfold HU;simp only[hz,X,if_false,Al,hol,W,Bc];exact key
  simp only[hw,W,XN];cases hAf:A.f with
  | false=>rw[hAf] at go; simpa using go
  | true=>
   rw[hAf] at go
   cases hwl:wl (Bb h cs pl) A.w with
   | true=>simpa using go
   | false=>
    rw[vN (l::ls) pl ch A (fun l' h'=>hg l' (by rw[← hd] at h'; exact List.mem_of_mem_drop h')) (by simp; omega) hAf hwl];simp only[if_true,X,if_false];rw[← hAf]
end
theorem jv{F:X0→Q→Fnd→Fnd}(p:Fnd→Prop)(H:∀o n A,p A→p (F o n A)):∀(l:O X0) (n:U) (A:Fnd),p A→p (Dd F l n A):=by
 intro l
 induction l with
 | nil=>intro n A h; exact h
 | cons o l ih=>intro n A h; exact ih _ _ (H _ _ _ h)
theorem vM(h:X6)(wv:O X0→Xj):∀(ls:O (O X0)) (pl:O X0) (ch:O Q) (A:Fnd),ch.length+ls.length≤12→A.b.length≤12→(Bc h wv ls pl ch A).b.length≤12:=by
 intro ls
 induction ls with
 | nil=>
  intro pl ch A h1 h2;rw[Bc];split
  ·unfold Ef;split
   ·exact h2
   ·simpa using h1
  ·exact h2
 | cons l ls ih=>
  intro pl ch A h1 h2;simp only[zC] at h1
  rw[Bc];refine jv (fun A=>A.b.length≤12) (fun o n A hA=> ?_) l 0 A h2;split
  ·exact ih _ _ _ (by simp; omega) hA
  ·exact hA
theorem lq{h:X6}(s:HSmall h){cs:O Xa}:∃r:O Q × Q × Bool,N5 h cs=N r∧JQ h cs=N r∧r.1.length≤12:=by
 obtain⟨b,b1,b2,b3⟩:=gJ s (cs:=cs);unfold N5 JQ;simp only[b1,b2,W];cases b with
 | false=>exact⟨([],0,E),rfl,rfl,by simp⟩
 | true=>
  obtain⟨hh,h6,hcs⟩:=b3 rfl;have C:CallsGood h cs:=⟨hcs,h6⟩;obtain⟨os,o1,o2,o3,o4,o5⟩:=eY s hh h6 hcs;have hfit:Cd h []=T:=(KO s hh (by simp) (fun o ho=>by cases ho)).2.2 (FitP.nil hh);have e1:=vG s hh C o3 o4 o5 os [] [] ⟨E,[],⟨0,0⟩⟩ bigN (by rw[Cb]; omega) rfl (by simp) ⟨rfl,fun i hi=>by simp at hi⟩ (fun o ho=>by cases ho);have e2:=pj s hh C o3 o4 o5 os [] [] ⟨E,[],⟨0,0⟩⟩ bigN (by rw[Cb]; omega) rfl (by simp) rfl (fun o ho=>by cases ho) hfit;have e3:=vO h (Bb h cs) os [] [] ⟨E,[],⟨0,0⟩⟩;have e4:=vM h (Bb h cs) os [] [] ⟨E,[],⟨0,0⟩⟩ (by simp; omega) (by simp);generalize Bc h (Bb h cs) os [] [] ⟨E,[],⟨0,0⟩⟩=B at e1 e2 e3 e4
  have e1:RL ⟨h,cs,os,Gb h os,[],0,0,E⟩ []=N (Sx h cs os B):=e1;have e2:RI (fun z0=>CX z0 h cs) ⟨h,os,[],[],[],⟨0,0⟩,E⟩=N (Px h os B [] []):=e2;simp only[if_true,o1,o2,gS hh (by omega) o4 o5,W,e1,Pq,e2];refine⟨(B.b,B.w.i0,B.f),?_,rfl,e4⟩;cases hB:B.f with
  | true=>rfl
  | false=>
   rcases e3 with e|e
   ·rw[e]; rfl
   ·rw[hB] at e; cases e
theorem law_FnExactFairPlan(a:X6)(cs:O Xa)(ok:DsOk [.ag (X6.row a),.sc (.sl (List.map Xa.row cs))]):Pr a cs=N T:=by
 unfold Pr;obtain⟨q1,q2,q3,q4,q5,s⟩:=oT ok.ag.1;have hcm:=GV (row:=Xa.row) ok.ag.2.sc.1;obtain⟨r,e,k⟩:=vw (a:=a) (l:=1048576) (by omega) (by omega) q1 q2 q3 q4 q5 s;by_cases hr:r<0
 ·simp[e,hr]
 obtain⟨b0,b1,b2,b3,b4,b5,b6⟩:=k (by omega)
 have hsz:MC cs r=N (if r - (cs.length:Q)<0 then -1 else r - (cs.length:Q)):=by
  unfold MC;rw[AA] at hcm
  rw[Am (by omega) (by omega)];split<;>split<;>simp_all
 by_cases hc:r - (cs.length:Q)<0
 ·simp[e,hr,hsz,hc]
 have kc:cs.length≤1048576:=by omega
 obtain⟨x,x1,x2,x3⟩:=lq s (cs:=cs);obtain⟨m1,f1,g1,g2⟩:=sD a b1 b2 b3 b4 b5 b6
 obtain⟨m2,f2,g3,g4⟩:=J3 (Lm:=Fl) 5 (by omega) (fun n i k acc hi h0 h1=>⟨_,by
  simp (disch:=omega) only[Fl,Af,hi,decide_true,if_true,Ai hi,W,zA,L1 hi,zJ,Am,XE];rfl⟩) (fun n k acc=>by simp[Fl]) cs m1.1 g1 (by omega) kc
 have f2:Ka cs m1.1=N m2:=f2;obtain⟨w,w1,w2,w3⟩:=sE x.1 1 (by omega) (by omega) (by omega);have ea:Fj x.1 x.1=N T:=by simp[UY (xs:=x.1) (ys:=x.1) (As (by omega))]
 have n3:¬m2.1<0:=by omega
 have n4:¬1+1*(x.1.length:Q)<0:=by omega
 simp only[e,hr,hsz,hc,W,decide_false,X,if_false,wT b1 b2 b3 b4 b5 b6,wO kc,x1,x2,ea,if_true,beq_self_eq_true,bne_self_eq_false,lD q1 q2 q3 q4 q5 s.mv,kx hcm,f1,f2,n3,w1,w3,n4]
end Go.Vi
