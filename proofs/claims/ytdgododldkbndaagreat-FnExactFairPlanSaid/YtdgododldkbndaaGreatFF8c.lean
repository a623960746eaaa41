/-
Plain law. No condition.
-/
import Derived.Test.YtdgododldkbndaaGreatFF8b
namespace Go.Vi
set_option linter.all false
open Option renaming bind_some → W, some → N
open Bool renaming false_eq_true → X, and_eq_true → zM, true → T, false → E
open List renaming getElem_mem → Y, getElem?_eq_getElem → Z, take_succ_eq_append_getElem → I, length_cons → zC, getElem?_append_left → zD, getElem_append_right → zE, getElem_append_left → zF, take_length → zG, getLast?_eq_getElem? → zI, set_set → zJ, mem_singleton → zK, getElem?_map → zL, length_singleton → zN, mem_append → zO, mem_cons_of_mem → zP, take_append_of_le_length → zQ, length_append → zR, mem_cons_self → zS, getElem?_append_right → zT, drop_eq_getElem_cons → zU, mem_map → zV, length_nil → zW
open Int renaming toNat_natCast → zA
open Option.some renaming injEq → zB
open Nat renaming zero_le → zH
open _root_ renaming List → O, Int → Q, Nat → U
theorem Ro{m n:U}(h:m+n≤140737488355328):JD m n=T:=by
 unfold JD;simp only[decide_eq_true_eq];omega
theorem wN{xs:O Xa}(h:xs.length≤1048576):Gt xs=N xs:=by
 unfold Gt;rw[Ea h (by omega)];have:=Hm (L:=I9 xs) xs id (FO h) (fun n i acc hi ha=>by simp[I9,Ak,hi,ha,Py]) (fun n acc=>by simp[I9]) (List.replicate xs.length ⟨0,0,0,0,0⟩) (by simp);simpa using this
theorem kw{xs:O Xa}(h:xs.length≤maxLen):Mm xs xs=N T:=by
 unfold Mm;have:=G6 (L:=HZ xs xs) xs (fun _=>T) h (fun n i hi=>by simp[HZ,Ak,hi,Pr]) (fun n=>by simp[HZ]);simp[this]
theorem J2{α:Type}{Lm:U→Q→Q→O α→Option (Q × O α)}(c:U)(hc:c≤10)
  (hm:∀(n i:U) (k:Q) (acc:O α),i<acc.length→0≤k→k≤1000000000000→∃e,Lm (n+1) k (i:Q) acc=Lm n (k+c) (IntKind.i64.wrap ((i:Q)+1)) (acc.set i e))
  (he:∀(n:U) (k:Q) (acc:O α),Lm (n+1) k (acc.length:Q) acc=N (k,acc)) (xs:O α) (k0:Q) (h0:0≤k0) (hk:k0≤100000000000) (hl:xs.length≤1048576):∃r,Lm bigN k0 0 xs=N r∧0≤r.1∧r.1≤k0+10485760:=by
 have hlm:xs.length≤maxLen:=Aq (by omega);refine BN (fun n i=>∀(k:Q) acc,acc.length=xs.length→0≤k→k≤k0+(10*i:U)→∃r,Lm n k (i:Q) acc=N r∧0≤r.1∧r.1≤k0+10485760) hlm (fun n k acc h1 h2 h3=>⟨(k,acc),by rw[← h1]; exact he n k acc,h2,by simp only; omega⟩) (fun n i hi ih k acc h1 h2 h3=> ?_) (zH _) k0 xs rfl h0 (by omega);obtain⟨e,e1⟩:=hm n i k acc (by omega) h2 (by omega);rw[e1,Av hi hlm];exact ih _ _ (by simpa using h1) (by omega) (by omega)
theorem L0{α:Type}{l:O α}{i:U}{v:α}(h:i<l.length):ix (l.set i v) (i:Q)=N v:=by rw[Ak,List.getElem?_set_self h]
theorem XT(k:Q)(h0:0≤k)(hk:k≤1000000000000):∃r,Kj k=N r:=by
 have key:∀(m n:U) (v:Q) (acc:O UInt8),m<n→0≤v→v<10 ^ m→v≤1000000000000→acc.length+m≤1000→∃r,I8 n v acc=N r:=by
  intro m
  induction m with
  | zero=>
   intro n v acc hn h0 hv _ ha;obtain⟨q,rfl⟩:=sn (n:=n) (by omega);have hv0:¬(0:Q)<v:=by simp at hv; omega
   exact⟨[109]++acc,by rw[I8,if_neg (by simp[hv0]),if_pos (Ro (by simp; omega))]⟩
  | succ m ih=>
   intro n v acc hn h0 hv hb ha;obtain⟨q,rfl⟩:=sn (n:=n) (by omega);rw[I8];by_cases hp:(0:Q)<v
   ·rw[if_pos (by simp[hp]),if_pos (Ro (by simp; omega)),show Int.tdiv v 10=v / 10 from Int.tdiv_eq_ediv_of_nonneg h0,Al (by omega) (by omega)];refine ih q _ _ (by omega) (by omega) ?_ (by omega) (by simp; omega);have:(10:Q) ^ (m+1)=10 ^ m*10:=Int.pow_succ 10 m;omega
   ·exact⟨[109]++acc,by rw[if_neg (by simp[hp]),if_pos (Ro (by simp; omega))]⟩
 unfold Kj;by_cases h:k≤0
 ·exact⟨[109,48],by simp only[h,decide_true,if_true]⟩
 ·simp only[h,decide_false,X,if_false];exact key 13 bigN k [] (Bw (Aq (by omega))) h0 (by simp; omega) hk (by simp)
theorem qw(k:Q):k+1+1=k+(2:U):=by omega
theorem XB(k:Q):k+1+1+1=k+(3:U):=by omega
theorem XD(k:Q):k+1+1+1+1+1=k+(5:U):=by omega
theorem qx(k:Q):k+1+1+1+1+1+1=k+(6:U):=by omega
theorem sC(a:X6)(b1:a.Forecast.Tide.Parts.length≤1048576)(b2:a.Forecast.Surges.length≤1048576)(b3:a.Chart.Points.length≤1048576)(b4:a.Chart.Segments.length≤1048576)(b5:a.Fleet.length≤1048576)(b6:a.Crew.Moves.length≤1048576) :
  ∃r,I7 a 1=N r∧0≤r.1∧r.1≤1000000000:=by
 obtain⟨r1,e1,l1,u1⟩:=J2 (Lm:=Fm) 3 (by omega) (fun n i k acc hi h0 h1=>⟨_,by
  simp (disch:=omega) only[Fm,Af,hi,decide_true,if_true,Ah hi,W,zA,L0 hi,zJ,Al,XB];rfl⟩) (fun n k acc=>by simp[Fm]) a.Forecast.Tide.Parts 1 (by omega) (by omega) b1
 obtain⟨r2,e2,l2,u2⟩:=J2 (Lm:=Fs) 3 (by omega) (fun n i k acc hi h0 h1=>⟨_,by
  simp (disch:=omega) only[Fs,Af,hi,decide_true,if_true,Ah hi,W,zA,L0 hi,zJ,Al,XB];rfl⟩) (fun n k acc=>by simp[Fs]) a.Forecast.Surges r1.1 l1 (by omega) b2
 obtain⟨r3,e3,l3,u3⟩:=J2 (Lm:=Fo) 2 (by omega) (fun n i k acc hi h0 h1=>by
  obtain⟨t,ht⟩:=XT k h0 h1
  exact⟨_,by
   simp (disch:=omega) only[Fo,ht,Af,hi,decide_true,if_true,Ah hi,W,zA,L0 hi,zJ,Al,qw];rfl⟩) (fun n k acc=>by simp[Fo]) a.Chart.Points r2.1 l2 (by omega) b3
 obtain⟨r4,e4,l4,u4⟩:=J2 (Lm:=Fp) 5 (by omega) (fun n i k acc hi h0 h1=>⟨_,by
  simp (disch:=omega) only[Fp,Af,hi,decide_true,if_true,Ah hi,W,zA,L0 hi,zJ,Al,XD];rfl⟩) (fun n k acc=>by simp[Fp]) a.Chart.Segments r3.1 l3 (by omega) b4
 obtain⟨r5,e5,l5,u5⟩:=J2 (Lm:=Fq) 6 (by omega) (fun n i k acc hi h0 h1=>by
  obtain⟨t,ht⟩:=XT k h0 h1
  exact⟨_,by
   simp (disch:=omega) only[Fq,ht,Af,hi,decide_true,if_true,Ah hi,W,zA,L0 hi,zJ,Al,qx];rfl⟩) (fun n k acc=>by simp[Fq]) a.Fleet r4.1 l4 (by omega) b5
 obtain⟨r6,e6,l6,u6⟩:=J2 (Lm:=DD) 1 (by omega) (fun n i k acc hi h0 h1=>⟨_,by
  simp (disch:=omega) only[DD,Af,hi,decide_true,if_true,Ah hi,W,zA,Al];rfl⟩) (fun n k acc=>by simp[DD]) a.Crew.Moves r5.1 l5 (by omega) b6
 refine⟨(r6.1,r1.2,r2.2,r3.2,r4.2,r5.2,r6.2),?_,l6,by simp only; omega⟩;simp only[I7,Kc,Kk,Kd,e1,W,Ki,e2,Ka,Ke,e3,Kf,e4,Kg,e5,Kb,Fl,e6]
theorem sD(xs:O Q)(k:Q)(h0:0≤k)(hk:k≤10000000000)(hl:xs.length≤1048576):∃ys,Fl xs k=N (k+1*(xs.length:Q),ys)∧ys.length=xs.length∧K7 ys k=N (k+1*(xs.length:Q)):=by
 unfold Fl K7;refine sE (Lm:=DD) (Lh:=I6) xs 1 (fun k=>k) k h0 (by omega) hl hk (fun n i k acc hi ha k0 k1=> ?_) (fun n k acc=>by simp[DD]) (fun n i k ys hi hy k0 k1 he=> ?_) (fun n k ys=>by simp[I6])
 ·simp (disch:=omega) only[DD,Af,hi,decide_true,if_true,Ah hi,W,Av hi (FO ha),Al,zA];rfl
 ·simp (disch:=omega) only[I6,Af,hi,decide_true,if_true,Ah hi,W,Av hi (FO hy),Al,he,bne_self_eq_false,X,if_false];rfl
theorem rv(P:U→U→Prop){len:U}(h0:∀n,P (n+1) len)(hs:∀n i,i<len→P n (i+1)→P (n+1) i):∀k i n,i+k=len→k<n→P n i:=by
 intro k
 induction k with
 | zero=>
  intro i n h1 h2;obtain⟨q,rfl⟩:=sn (n:=n) (by omega);obtain rfl:i=len:=by omega
  exact h0 q
 | succ k ih=>
  intro i n h1 h2;obtain⟨q,rfl⟩:=sn (n:=n) (by omega);exact hs q i (by omega) (ih _ _ (by omega) (by omega))
theorem Uv:∃m,bigN=m+1∧1000000000000<m:=⟨1208925819614629174706175,by rw[Ca],by omega⟩
def P6(y:X8):U:=(E9 y).countP fun b=> !b
theorem gg{l:O Bool}:∀{n:U},l[n]?=N E→((l.set n T).countP fun b=> !b)+1=l.countP fun b=> !b:=by
 induction l with
 | nil=>intro n h; simp at h
 | cons a l ih=>
  intro n h;cases n with
  | zero=>simp only[List.getElem?_cons_zero,zB] at h; subst h; simp
  | succ n=>
   simp only[List.getElem?_cons_succ] at h;have:=ih h;simp only[List.set_cons_succ,List.countP_cons];omega
theorem UF{y:X8}{a:Q}(h:ix (E9 y) a=N E):P6 (X8.set y (Int.toNat a) T)+1=P6 y∧0≤a∧a<8:=by
 have hg:=Au h;have hl:(E9 y).length=8:=rfl
 have ha:0≤a:=by
  unfold ix at h;split at h
  ·rename_i h1; exact h1
  ·cases h
 have hn:a.toNat<8:=by
  have:=(List.getElem?_eq_some_iff.1 hg).1;omega
 refine⟨?_,ha,by omega⟩;unfold P6;rw[YI y hn];exact gg hg
theorem Rp{l:O Q}(h:l.length≤1000):BC l=N l:=by
 unfold BC Bq;rw[if_pos ⟨by omega,by omega,by omega,by omega⟩];simp only[W,Int.toNat_zero,List.replicate_zero,List.nil_append];rw[if_pos (by simp only[A3,zW,decide_eq_true_eq]; omega)]
structure Lead (c:X1) (a:Q) (rt l:O Q):Prop where
 r:RtOk c rt l
 hd:l[0]?=N a
 fr:∀i (h:i+1<l.length),((l.take (i+1)).any fun z=>z==l[i+1])=E
theorem Lead.snoc{c:X1}{a:Q}{rt l:O Q}(H:Lead c a rt l){x:Q}(hx:l.getLast?=N x){i:U}(hi:i<c.Segments.length)(he:idx (BQ c.Segments[i] x) c.Points.length=T)(hf:(l.any fun z=>z==BQ c.Segments[i] x)=E) :
  Lead c a (rt++ [(i:Q)]) (l++ [BQ c.Segments[i] x]):=by
 have hlen:=H.r.len;have hsi:idx (i:Q) c.Segments.length=T:=IV.2 ⟨by omega,by omega⟩;have hsg:Ap c (i:Q)=c.Segments[i]:=by unfold Ap; rw[zA,Z hi]; rfl
 refine⟨⟨by simp; omega,fun y hy=> ?_,fun j hj=> ?_,fun j hj=> ?_⟩,by rw[zD (by omega)]; exact H.hd,fun j hj=> ?_⟩
 ·rcases zO.1 hy with hy|hy
  ·exact H.r.pt y hy
  ·rw[zK] at hy; subst hy; exact he
 ·by_cases h:j<rt.length
  ·rw[zF h]; exact H.r.seg j h
  ·rw[zE (by omega)]; simpa using hsi
 ·simp only[zR,zN] at hj
  by_cases h:j<rt.length
  ·obtain⟨y,y1,y2,y3⟩:=H.r.stp j h;rw[zF h];exact⟨y,by rw[zD (by omega)]; exact y1,by rw[zD (by omega)]; exact y2,y3⟩
  ·obtain rfl:j=rt.length:=by omega
   rw[zE (by omega)];simp only[Nat.sub_self,List.getElem_singleton,hsg];exact⟨x,by rw[zD (by omega),← hx,zI,hlen]; rfl,by rw[zT (by omega),hlen]; simp,(IV.1 he).1⟩
 ·simp only[zR,zN] at hj
  by_cases h:j+1<l.length
  ·rw[zQ (by omega),zF h];exact H.fr j h
  ·have e:j+1=l.length:=by omega
   rw[zE (by omega)];simp only[e,Nat.sub_self,List.getElem_singleton];rw[zQ (by omega),zG];exact hf
theorem Lead.points{c:X1}{a:Q}{rt l:O Q}(hc:AN c=T)(hl:rt.length≤1000000)(H:Lead c a rt l):GC c a rt=N (l,T):=by
 have hlen:=H.r.len;have h10:=(Cb hc).2.1
 have h1:l.take 1= [a]:=by
  have h0:=H.hd;cases l with
  | nil=>cases h0
  | cons x l=>simp only[List.getElem?_cons_zero,zB] at h0; subst h0; rfl
 unfold GC;rw[← h1];refine BN (fun n i=>E2 rt c n (i:Q) (l.take (i+1))=N (l,T)) (Aq (by omega)) (fun n=> ?_) (fun n i hi ih=> ?_) (zH rt.length)
 ·rw[E2,if_neg (by simp),← hlen,zG]
 ·obtain⟨x,x1,x2,x3⟩:=H.r.stp i hi;have hi1:i+1<l.length:=by omega
  have hlast:(l.take (i+1)).getLast?=N x:=by
   rw[zI,List.length_take,Nat.min_eq_left (by omega),List.getElem?_take_of_lt (by omega)];simpa using x1
  rw[Z hi1,zB] at x2
  have hfr:=H.fr i hi1;rw[x2] at hfr
  have hneg:¬BQ (Ap c rt[i]) x<0:=by omega
  rw[E2];simp only[Af,hi,decide_true,if_true,Ah hi,W,CO _ (show c.Segments.length≤1000 by omega),H.r.seg i hi,(BI (H.r.seg i hi)).1,J0 (Aq (n:=(l.take (i+1)).length) (by simp; omega)) hlast,SN,hneg,decide_false,X,if_false,RP (Aq (n:=(l.take (i+1)).length) (by simp; omega)),hfr,GD];rw[if_pos (B2 (by simp; omega) (by simp) (by omega)),Av hi (Aq (by omega)),← x2];rw[show l.take (i+1)++ [l[i+1]]=l.take (i+1+1) by rw[I hi1]];exact ih
theorem yy{c:X1}(hc:AN c=T){a0:Q}:∀(u n:U) (a b:Q) (rt pts:O Q) (y:X8) (out:O (O Q)),u<n→P6 y≤u→ix (E9 y) a=N E→Met (X8.set y a.toNat T) pts→pts.getLast?=N a→Lead c a0 rt pts→rt.length+u≤100→out.length+10 ^ u≤100000000→
  ∃r,Gd n c a b rt y out=N r∧GF n c pts rt b out=N r∧r.length≤out.length+10 ^ u∧∀x∈r,x∈out∨(x.length≤100∧∃p,Lead c a0 x p∧p.getLast?=N b):=by
 obtain⟨_,hs10,_,_⟩:=Cb hc;intro u
 induction u with
 | zero=>
  intro n a b rt pts y out hn hu hi;have:=(UF hi).1;omega
 | succ u ih=>
  intro n a b rt pts y out hn hu hi hm hla hL hr ho;obtain⟨q,rfl⟩:=sn (n:=n) (by omega);obtain⟨hc1,ha0,ha8⟩:=UF hi;have hp:10 ^ (u+1)=10*10 ^ u:=by rw[Nat.pow_succ]; omega
  have hp1:0<10 ^ u:=Nat.pow_pos (by omega);have hpl:=hL.r.len;rw[Gd,Pe,GF,PM,J0 (Aq (by omega)) hla,W];by_cases hab:(a==b)=T
  ·have e:a=b:=by simpa using hab
   rw[if_pos hab,if_pos hab,Rp (by omega),W,if_pos (B2 (by omega) (by simp) (by omega)),if_pos (B2 (by simp) (by omega) (by omega))];refine⟨_,rfl,rfl,by simp; omega,fun x hx=> ?_⟩;rcases zO.1 hx with hx|hx
   ·exact Or.inl hx
   ·simp only[zK] at hx; subst hx; exact Or.inr ⟨by omega,pts,hL,e▸hla⟩
  ·rw[if_neg hab,if_neg hab,if_pos (by simp; omega)];generalize hy:X8.set y (Int.toNat a) T=y' at hm
   have hy':(⟨y'.i0,y'.i1,y'.i2,y'.i3,y'.i4,y'.i5,y'.i6,y'.i7⟩:X8)=y':=rfl;rw[hy'];rw[hy] at hc1
   obtain⟨r,e1,e2,e3,e4⟩:=BN (fun m i=>∀o:O (O Q),o.length≤out.length+i*10 ^ u→(∀x∈o,x∈out∨(x.length≤100∧∃p,Lead c a0 x p∧p.getLast?=N b))→
     ∃r,Gc (Gd q) a b rt c y' m (i:Q) o=N r∧GE (GF q) pts rt b a c m (i:Q) o=N r∧r.length≤out.length+c.Segments.length*10 ^ u∧∀x∈r,x∈out∨(x.length≤100∧∃p,Lead c a0 x p∧p.getLast?=N b)) (Aq (n:=c.Segments.length) (by omega))
    (fun m o hl hx=>⟨o,by simp[Gc],by simp[GE],hl,hx⟩) (fun m i hlt ihk o hl hx=>by
     have hsucc:(i+1)*10 ^ u=i*10 ^ u+10 ^ u:=Nat.succ_mul i _;have hle:i*10 ^ u≤9*10 ^ u:=Nat.mul_le_mul_right _ (by omega);rw[Gc,GE];simp only[Af,hlt,decide_true,if_true,Ah hlt,W,RD,SN];have he:=UU hc (Y hlt) a;have hE:∃e,BQ c.Segments[i] a=e:=⟨_,rfl⟩;obtain⟨e,hE⟩:=hE;rw[hE] at he ⊢
     by_cases h0:0≤e
     ·have hei:=he.resolve_left (by omega);have he':=IV.1 hei;have hp8:=(Cb hc).1;have hd:(decide (0≤e)&&decide (e<8))=T:=by simp; omega
      have hmE:=hm e h0 (by omega);have hmE':=hmE;unfold E9 at hmE'
      simp only[h0,decide_true,if_true,RP (Aq (n:=pts.length) (by omega)),W];rw[if_pos (by simp; omega),hmE',W];cases hb:pts.any fun z=>z==e with
      | true=>
       simp only[Hu,IH,Bool.not_true,X,if_false,Av hlt (Aq (n:=c.Segments.length) (by omega))];exact ihk o (by omega) hx
      | false=>
       simp only[Hu,IH,Bool.not_false,if_true,Av hlt (Aq (n:=c.Segments.length) (by omega))];rw[Rp (by omega),W,if_pos (B2 (by omega) (by simp) (by omega)),if_pos (B2 (by simp) (by omega) (by omega)),if_pos (B2 (by omega) (by simp) (by omega)),if_pos (B2 (by simp) (by omega) (by omega)),if_pos (B2 (by omega) (by simp) (by omega))];rw[hb] at hmE
       obtain⟨r,e1,e2,e3,e4⟩:=ih q e b (rt++ [(i:Q)]) (pts++ [e]) y' o (by omega) (by omega) hmE (hm.snoc h0 (by omega)) (by simp) (by have:=hL.snoc hla hlt (by rw[hE]; exact hei) (by rw[hE]; exact hb); rw[hE] at this; exact this) (by simp; omega) (by omega);rw[e1,e2,W,W]
       exact ihk r (by omega) fun x h=>by
        rcases e4 x h with h|h
        ·exact hx x h
        ·exact Or.inr h
     ·simp only[h0,decide_false,X,if_false,Hu,IH,Av hlt (Aq (n:=c.Segments.length) (by omega))];exact ihk o (by omega) hx) (zH _) out (by omega) fun x hx=>Or.inl hx
   have hle:c.Segments.length*10 ^ u≤10*10 ^ u:=Nat.mul_le_mul_right _ hs10;exact⟨r,e1,e2,by omega,e4⟩
theorem fh{c:X1}(hc:AN c=T){a b:Q}(ha:idx a c.Points.length=T)(hb:idx b c.Points.length=T):∃r,Nj c a b=N r∧LZ c a b=N r∧r.length≤100000000∧∀x∈r,x.length≤100∧∃p,Lead c a x p∧p.getLast?=N b:=by
 have hp8:=(Cb hc).1;have hn:=(Cb hc).2.2.1;have ha':=IV.1 ha
 have hi:ix (E9 ⟨E,E,E,E,E,E,E,E⟩) a=N E:=by
  obtain⟨n,rfl⟩:∃n:U,a=(n:Q):=⟨a.toNat,by omega⟩;have:n=0∨n=1∨n=2∨n=3∨n=4∨n=5∨n=6∨n=7:=by omega
  rcases this with rfl|rfl|rfl|rfl|rfl|rfl|rfl|rfl<;>rfl
 have m0:Met ⟨E,E,E,E,E,E,E,E⟩ []:=fun x x0 x8=>by
  obtain⟨n,rfl⟩:∃n:U,x=(n:Q):=⟨x.toNat,by omega⟩;have:n=0∨n=1∨n=2∨n=3∨n=4∨n=5∨n=6∨n=7:=by omega
  rcases this with rfl|rfl|rfl|rfl|rfl|rfl|rfl|rfl<;>rfl
 obtain⟨r,e1,e2,e3,e4⟩:=yy hc (a0:=a) 8 bigN a b [] [a] ⟨E,E,E,E,E,E,E,E⟩ [] (by rw[Ca]; omega) (by decide) hi (m0.snoc ha'.1 (by omega)) rfl ⟨⟨rfl,by simpa using ha,fun i h=>by simp at h,fun i h=>by simp at h⟩,rfl,fun i h=>by simp at h⟩ (by simp) (by simp);refine⟨r,?_,?_,by simpa using e3,fun x hx=>(e4 x hx).resolve_left (by simp)⟩
 ·unfold Nj RI;simp only[DP hn,hc,W,if_true,CO _ (show c.Points.length≤1000 by omega),ha,hb,e2]
 ·unfold LZ RF;simp only[FL hn,hc,W,if_true,E6,ha,hb,e1]
theorem fg{c:X1}(hc:AN c=T){a b:Q}(ha:idx a c.Points.length=T)(hb:idx b c.Points.length=T):∃rt q,MY c a b=N (rt,q)∧LG c a b=N (rt,q)∧(q=E→rt= [])∧(q=T→rt.length≤100∧∃p,Lead c a rt p∧p.getLast?=N b):=by
 obtain⟨r,e1,e2,e3,e4⟩:=fh hc ha hb;unfold MY LG;rw[e1,e2,W,W];cases hr0:r with
 | nil=>exact⟨[],E,by obtain⟨m,hm,_⟩:=Uv; rw[hm]; rfl,rfl,fun _=>rfl,fun h=>by cases h⟩
 | cons r0 rs=>
  rw[← hr0];have hpos:0<r.length:=by rw[hr0]; simp
  have hz:((r.length:Q)==(0:Q))=E:=beq_eq_false_iff_ne.2 (by omega);have h00:ix r (0:Q)=N r0:=by rw[hr0]; rfl
  have hm0:r0∈r:=by rw[hr0]; simp
  have hlm:r.length≤maxLen:=Aq (by omega);rw[hz,if_neg (by simp),h00,W]
  have rm:∀x∈r,∃m,GA c x=N m∧Gi c x=N m:=fun x hx=>by
   obtain⟨h1,p,h2,_⟩:=e4 x hx;obtain⟨m,m1,m2,_⟩:=Yy hc (rt:=x) (by omega) h2.r.seg;exact⟨m,m1,m2⟩
  have key:=rv (fun n i=>∀v∈r,∃rt∈r,Ft r c n v T (i:Q)=N (rt,T)∧F4 r c n v (i:Q)=N (rt,T)) (len:=r.length)
   (fun n v hv=>⟨v,hv,by simp[Ft],by simp[F4]⟩) (fun n i hi ih v hv=>by
    obtain⟨m1,g1,g2⟩:=rm _ (Y hi);obtain⟨m2,g3,g4⟩:=rm v hv;rw[Ft,F4];simp only[Af,hi,decide_true,if_true,Ah hi,W,g1,g2,g3,g4,Av hi hlm,Kn];by_cases hlt:m1<m2
    ·simp only[hlt,decide_true,if_true];exact ih _ (Y hi)
    ·simp only[hlt,decide_false,X,if_false];exact ih v hv)
  obtain⟨m,hm,hm1⟩:=Uv;obtain⟨rt,hrt,k1,k2⟩:=key (r.length - 1) 1 m (by omega) (by omega) r0 hm0;obtain⟨m1,g1,g2⟩:=rm r0 hm0;refine⟨rt,T,?_,?_,(fun h=>by cases h),fun _=>e4 rt hrt⟩
  ·rw[hm,Ft];have hd:(decide ((0:Q)<(r.length:Q)))=T:=by simp; omega
   simp only[hd,if_true,h00,W,X,if_false,Kn];exact k1
  ·rw[hm,F4];have hd:(decide ((0:Q)<(r.length:Q)))=T:=by simp; omega
   simp only[hd,if_true,h00,W,g2,show ¬m1<m1 by omega,decide_false,X,if_false];exact k2
def EX(h:X6)(o:X0):Prop:=(GoodP h.Chart h.Fleet o.Passages∧o.Passages.length≤1048576)∧0≤o.Cost∧o.Cost≤2880
theorem AtOk.optG{h:X6}{a:Xa}{rt:O Q}{st:Q}{o:X0}(hh:B4 h=T)(hl:rt.length≤100)(H:AtOk h a rt st o)(h1:0≤o.Cost)(h2:o.Cost≤2880):EX h o:=by
 obtain⟨ha,pts,l,hr,S,hp⟩:=H
 have e:rt=o.Passages.map fun p=>p.Segment:=by
  refine List.ext_getElem (by simp[hp.1]) fun i g1 g2=> ?_
  obtain⟨x,y,_,_,_,_,q⟩:=hp.2 i g1 g1;simp only[List.length_map] at g2
  rw[Z g2,zB] at q
  simp[q]
 have hlen:=hp.1;subst e;exact⟨⟨AtOk.good hh ⟨ha,pts,l,hr,S,hp⟩,by omega⟩,h1,h2⟩
theorem tE{h:X6}(s:HSmall h)(hh:B4 h=T){a:Xa}(ha:BZ h a=T):∃L,KA h a=N L∧Dd h a=N L∧L.length≤8∧∀o∈L,EX h o:=by
 obtain⟨hf,hc,hfl,_,_⟩:=EA hh;have ha':=ha;simp only[BZ,C4,zM,decide_eq_true_eq] at ha'
 obtain⟨q1,q2,q3,q4,⟨q5,q6⟩,q7,q8⟩:=ha';obtain⟨s1,s2⟩:=EC q1;have hso:=(IT hfl).2 _ s2;have hsn:=s.fn _ s2;obtain⟨rt,q,b1,b2,b3,b4⟩:=fg hc q2 q3;have nil_:∃L,N ([]:O X0)=N L∧N ([]:O X0)=N L∧L.length≤8∧∀o∈L,EX h o:=⟨[],rfl,rfl,by simp,fun o h=>by cases h⟩;unfold KA Dd;simp only[YL s,pP s,hh,ha,Bool.and_self,W,if_true,b1,b2];cases q with
 | false=>
  rw[b3 rfl];obtain⟨pts,bb,g1,g2,g3,g4,_,_⟩:=Yz hc (rt:= []) (a:=a.From) (by simp)
  have hv:∃v,HL h a []=N v:=by
   unfold HL;rw[g4,W];split
   ·exact⟨_,rfl⟩
   ·have hl:pts.length≤1:=by
     have:=g4;obtain⟨p,b',e1,e2,e3,e4⟩:=Yl hc q2 (rt:= []) (by simp);have hn:=(Cb hc).2.2.1;unfold DX at this
     rw[FL hn,hc,W,if_pos rfl,e2,W,zB] at this
     subst this;cases b' with
     | false=>rw[e3 rfl]; simp
     | true=>rw[(e4 rfl).len]; simp
    rename_i hne
    have:∃x,pts.getLast?=N x:=by
     cases hp:pts.getLast? with
     | none=>rw[List.getLast?_eq_none_iff] at hp; rw[hp] at hne; simp at hne
     | some x=>exact⟨x,rfl⟩
    obtain⟨x,hx⟩:=this;rw[J0 (Aq (by omega)) hx,W];unfold JZ;split
    ·exact⟨_,rfl⟩
    ·rw[s1,W]
     have:∃w,HU h.Forecast h.Chart (AK h.Fleet a.Ship) a.From []=N w:=by
      unfold HU;simp only[NR,GR hsn,hf,hso,g2,W,if_true];split<;>exact⟨_,rfl⟩
     obtain⟨w,hw⟩:=this;rw[hw];exact⟨_,rfl⟩
  obtain⟨v,hv⟩:=hv;simp only[hv,W,X,if_false];exact nil_
 | true=>
  obtain⟨hl,p,P,hp⟩:=b4 rfl;obtain⟨pts,bb,g1,g2,g3,g4,g5,g6⟩:=Yz hc (rt:=rt) (a:=a.From) (by omega)
  have hpts:bb=T∧pts=p:=by
   have e:=P.points hc (by omega);have hn:=(Cb hc).2.2.1;have h8:=(Cb hc).1;unfold Eu at g1
   simp only[DP hn,hc,W,if_true,CO _ (show h.Chart.Points.length≤1000 by omega),q2,e,zB] at g1
   subst g1;unfold Fw Eu at g3
   simp only[DP hn,hc,W,if_true,CO _ (show h.Chart.Points.length≤1000 by omega),q2,e,zB] at g3
   exact⟨rfl,g3.symm⟩
  obtain⟨rfl,rfl⟩:=hpts;have hr:=g6 rfl;have hpl:=hr.len
  have h0:rt≠ []:=fun e=>by
   subst e;have hd:=P.hd;rw[zI,hpl] at hp
   rw[show([]:O Q).length+1 - 1=0 from rfl,hd] at hp
   exact q4 (Option.some.inj hp)
  obtain⟨v,v1,V⟩:=xB hf hc hso hsn (by omega) hr h0 g2 g4;have hz:((pts.length:Q)==(0:Q))=E:=beq_eq_false_iff_ne.2 (by omega)
  have hcv:HL h a rt=N (v,T):=by
   unfold HL;simp only[g4,W,hz,X,if_false,J0 (Aq (by omega)) hp,bne_self_eq_false,JZ,s1,v1]
  simp only[hcv,W,if_true,s1,V.st,g3]
  have key:∀(k n:U) (m:Q) (acc:O X0),2880<m+15*(k:Q)→k<n→a.Ready≤m→m≤2880+15→acc.length≤8→(∀o∈acc,EX h o)→
    ∃L,Fv (rt,T) h a (AK h.Fleet a.Ship) v.sure pts n m acc=N L∧Gh (rt,T) h a (v,T) n m acc=N L∧L.length≤8∧∀o∈L,EX h o:=by
   intro k
   induction k with
   | zero=>
    intro n m acc h1 h2 h3 h4 h5 h6;obtain⟨q,rfl⟩:=sn (n:=n) (by omega);have:¬m≤a.Due:=by omega
    exact⟨acc,by simp[Fv,this],by simp[Gh,this],h5,h6⟩
   | succ k ih=>
    intro n m acc h1 h2 h3 h4 h5 h6;obtain⟨q,rfl⟩:=sn (n:=n) (by omega);rw[Fv,Gh];by_cases hd:m≤a.Due
    ·by_cases h8:(acc.length:Q)<8
     ·have hw:IntKind.i64.wrap (m+15)=m+15:=Al (by omega) (by omega);obtain⟨l,b,c1,c2,c3⟩:=tD ha hc hso hsn (by omega) V g1 g2 g3 g4 h3 (by omega);simp only[hd,h8,decide_true,if_true,c1,W];cases b with
      | false=>
       obtain⟨o,o1⟩:=c2 rfl;simp only[o1,W,X,if_false,Iv,JT,hw];exact ih q _ acc (by omega) (by omega) (by omega) (by omega) h5 h6
      | true=>
       obtain⟨o,o1,o2,o3,_,o4,o5,_⟩:=c3 rfl;simp only[o1,o2,W,if_true,Iv,JT,hw];rw[if_pos (B2 (by omega) (by simp) (by omega)),if_pos (B2 (by omega) (by simp) (by omega))]
       exact ih q _ _ (by omega) (by omega) (by omega) (by omega) (by simp; omega) fun x hx=>by
        rcases zO.1 hx with hx|hx
        ·exact h6 x hx
        ·rw[zK] at hx; subst hx; exact o3.optG hh hl o4 o5
     ·simp only[hd,h8,decide_true,decide_false,if_true,X,if_false];exact⟨acc,rfl,rfl,h5,h6⟩
    ·simp only[hd,decide_false,X,if_false];exact⟨acc,rfl,rfl,h5,h6⟩
  exact key 200 bigN a.Ready [] (by omega) (by rw[Ca]; omega) (Int.le_refl _) (by omega) (by simp) fun o h=>by cases h
def eP(h:X6)(cs:O Xa)(os:O (O X0)):Prop:=os.length=cs.length∧(∀l∈os,l.length≤8)∧∀l∈os,∀o∈l,EX h o
theorem eX{h:X6}(s:HSmall h)(hh:B4 h=T){cs:O Xa}(h6:cs.length≤6)(hcs:∀a∈cs,BZ h a=T):∃os,PR h cs=N os∧Pn h cs=N os∧eP h cs os:=by
 have opt:∀a∈cs,KA h a=N ((Dd h a).getD [])∧Dd h a=N ((Dd h a).getD [])∧((Dd h a).getD []).length≤8∧∀o∈(Dd h a).getD [],EX h o:=fun a ha=>by
  obtain⟨L,l1,l2,l3⟩:=tE s hh (hcs a ha);rw[l2];exact⟨l1,rfl,l3⟩
 refine⟨cs.map fun a=>(Dd h a).getD [],?_,?_,by simp,fun l hl=> ?_,fun l hl=> ?_⟩
 ·refine FX (L:=IM cs h) cs _ N (Aq (by omega)) (fun n i acc hi hacc=> ?_) fun n acc _=>by rw[IM,if_neg (by simp)]
  rw[IM];simp only[Af,hi,decide_true,if_true,Ah hi,W,(opt _ (Y hi)).1];rw[if_pos (B2 (by omega) (by simp) (by omega))]
 ·refine FX (L:=HK cs h) cs (fun a=>(Dd h a).getD []) N (Aq (by omega)) (fun n i acc hi hacc=> ?_) fun n acc _=>by rw[HK,if_neg (by simp)]
  obtain⟨L,hL⟩:∃L,(Dd h cs[i]).getD []=L:=⟨_,rfl⟩;have e:=(opt _ (Y hi)).2.1;rw[hL] at e ⊢
  rw[HK];simp only[Af,hi,decide_true,if_true,Ah hi,W,e];rw[if_pos (B2 (by omega) (by simp) (by omega))]
 ·obtain⟨a,ha,rfl⟩:=zV.1 hl;exact(opt a ha).2.2.1
 ·obtain⟨a,ha,rfl⟩:=zV.1 hl;exact(opt a ha).2.2.2
structure CallsGood (h:X6) (cs:O Xa):Prop where
 ok:∀a∈cs,BZ h a=T
 six:cs.length≤6
def CR(l:O X0):Q:=(l.map X0.Cost).sum
def Js(l:O X0):Prop:=∀o∈l,0≤o.Cost∧o.Cost≤2880
theorem vo{l:O X0}(h:Js l):0≤CR l∧CR l≤2880*(l.length:Q):=by
 induction l with
 | nil=>simp[CR]
 | cons x l ih=>
  have:=h x (by simp);have:=ih fun o ho=>h o (by simp[ho])
  simp only[CR,List.map_cons,List.sum_cons,zC] at *
  omega
theorem Zo(l:O X0)(o:X0):CR (l++ [o])=CR l+o.Cost:=by simp[CR]
theorem UN{l:O X0}(hl:l.length≤1000)(h:Js l):Pf l=N (CR l):=by
 have key:∀(k i n:U),i+k=l.length→k<n→F6 l n (CR (l.take i)) (i:Q)=N (CR l):=by
  intro k
  induction k with
  | zero=>
   intro i n hi hn;obtain⟨q,rfl⟩:=sn (n:=n) (by omega);have:i=l.length:=by omega
   subst this;rw[zG];simp[F6]
  | succ k ih=>
   intro i n hi hn;obtain⟨q,rfl⟩:=sn (n:=n) (by omega);have hlt:i<l.length:=by omega
   have b1:=vo (l:=l.take i) fun o ho=>h o (List.mem_of_mem_take ho)
   have b2:=h _ (Y hlt);have b3:((l.take i).length:Q)≤1000:=by simp only[List.length_take]; omega
   have e:=ih (i+1) q (by omega) (by omega);rw[I hlt,Zo] at e
   rw[F6];simp only[Af,hlt,decide_true,if_true,Ah hlt,W,Av hlt (Aq (by omega))];rw[Al (by omega) (by omega)];exact e
 exact key l.length 0 bigN (by omega) (Bw (Aq (by omega)))
def Jx(l:O Q)(k:U × Q):O Q:=l.set k.1 (l[k.1]?.getD 0+k.2)
def AH(ks:O (U × Q)):O Q:=ks.foldl Jx [0,0,0,0]
theorem OG(ks:O (U × Q))(k:U × Q):AH (ks++ [k])=Jx (AH ks) k:=by simp[AH]
theorem YK{α:Type}{p:O α→Prop}(h0:p [])(h1:∀l a,p l→p (l++ [a]))(l:O α):p l:=by
 have:∀l:O α,p l.reverse:=fun l=>by
  induction l with
  | nil=>exact h0
  | cons a l ih=>rw[List.reverse_cons]; exact h1 _ _ ih
 have g:=this l.reverse;rwa [List.reverse_reverse] at g
theorem Jk(ks:O (U × Q)):(AH ks).length=4:=by
 refine YK (p:=fun ks=>(AH ks).length=4) rfl (fun l a h=> ?_) ks;rw[OG,Jx,List.length_set];exact h
theorem Vk(l:O Q)(i j:U)(x:Q):(l.set i x)[j]?.getD 0=if i=j∧i<l.length then x else l[j]?.getD 0:=by
 rw[List.getElem?_set];by_cases h:i=j
 ·subst h;by_cases h2:i<l.length
  ·simp[h2]
  ·simp[h2]
 ·simp[h]
theorem wd(ks:O (U × Q)){L:U}(hL:L<4):(AH ks)[L]?.getD 0=((ks.filter fun k=>k.1==L).map Prod.snd).sum:=by
 refine YK (p:=fun ks=>(AH ks)[L]?.getD 0=((ks.filter fun k=>k.1==L).map Prod.snd).sum) ?_ (fun l a ih=> ?_) ks
 ·have:L=0∨L=1∨L=2∨L=3:=by omega
  rcases this with rfl|rfl|rfl|rfl<;>rfl
 ·rw[OG,Jx,Vk,Jk];by_cases h:a.1=L
  ·rw[if_pos ⟨h,by omega⟩,h,ih];simp[h]
  ·rw[if_neg (by omega),ih];simp[h]
theorem vp{l:O Q}{M:Q}(h:∀x∈l,0≤x∧x≤M):0≤l.sum∧l.sum≤M*(l.length:Q):=by
 induction l with
 | nil=>simp
 | cons x l ih=>
  have h1:=h x (by simp);have h2:=ih fun y hy=>h y (by simp[hy])
  simp only[List.sum_cons,zC,Int.natCast_add,Int.mul_add];omega
theorem ZA{ks:O (U × Q)}{M:Q}(hM:0≤M)(h:∀k∈ks,0≤k.2∧k.2≤M){L:U}(hL:L<4):0≤(AH ks)[L]?.getD 0∧(AH ks)[L]?.getD 0≤M*(ks.length:Q):=by
 rw[wd ks hL]
 obtain⟨a,b⟩:=vp (l:=(ks.filter fun k=>k.1==L).map Prod.snd) (M:=M) fun x hx=>by
  obtain⟨k,hk,rfl⟩:=zV.1 hx;exact h k (List.mem_filter.1 hk).1
 refine⟨a,Int.le_trans b (Int.mul_le_mul_of_nonneg_left ?_ hM)⟩;have:=List.length_filter_le (fun k:U × Q=>k.1==L) ks;simp only[List.length_map];omega
theorem we(ks:O (U × Q)){k:U × Q}(hk:0≤k.2){L:U}(hL:L<4):(AH ks)[L]?.getD 0≤(AH (ks++ [k]))[L]?.getD 0:=by
 rw[OG,Jx,Vk];split
 ·rename_i h; rw[← h.1]; omega
 ·omega
def gr(l:O Q):Q:=l.foldl (fun v x=>if v<x then x else v) 0
theorem Vn(l:O Q)(M:Q):gr l≤M↔0≤M∧∀x∈l,x≤M:=by
 have:∀(l:O Q) (v:Q),l.foldl (fun v x=>if v<x then x else v) v≤M↔v≤M∧∀x∈l,x≤M:=fun l=>by
  induction l with
  | nil=>intro v; simp
  | cons a l ih=>
   intro v;rw[List.foldl_cons,ih];constructor
   ·intro⟨h1,h2⟩;split at h1
    ·exact⟨by omega,fun x hx=>(List.mem_cons.1 hx).elim (fun e=>e▸h1) (h2 x)⟩
    ·exact⟨h1,fun x hx=>(List.mem_cons.1 hx).elim (fun e=>by omega) (h2 x)⟩
   ·intro⟨h1,h2⟩;refine⟨?_,fun x hx=>h2 x (by simp[hx])⟩;have:=h2 a (by simp);split<;>omega
 exact this l 0
theorem oR{l l':O Q}(h4:l.length=4)(h4':l'.length=4)(h:∀L,L<4→l[L]?.getD 0≤l'[L]?.getD 0):gr l≤gr l':=by
 rw[Vn];obtain⟨a,b⟩:=(Vn l' (gr l')).1 (Int.le_refl _);refine⟨a,fun x hx=> ?_⟩;obtain⟨i,hi,rfl⟩:=List.getElem_of_mem hx;have g:=h i (by omega);rw[Z hi,Z (show i<l'.length by omega)] at g
 exact Int.le_trans g (b _ (Y _))
theorem Vo{R:Type}(xs:O Q)(hl:xs.length≤maxLen)(K:Q→Option R){F:U→Q→Q→Option R}
  (hF:∀n (i:U) v,F (n+1) v (i:Q)=if h:i<xs.length then F n (if v<xs[i] then xs[i] else v) ((i+1:U):Q) else K v):F bigN 0 0=K (gr xs):=by
 have key:∀(k i n:U),i+k=xs.length→k<n→F n (gr (xs.take i)) (i:Q)=K (gr xs):=by
  intro k
  induction k with
  | zero=>
   intro i n hi hn;obtain⟨q,rfl⟩:=sn (n:=n) (by omega);rw[hF,dif_neg (by omega),List.take_of_length_le (by omega)]
  | succ k ih=>
   intro i n hi hn;obtain⟨q,rfl⟩:=sn (n:=n) (by omega);have hlt:i<xs.length:=by omega
   have e:=ih (i+1) q (by omega) (by omega)
   have eg:gr (xs.take i++ [xs[i]])=if gr (xs.take i)<xs[i] then xs[i] else gr (xs.take i):=by
    unfold gr;rw[List.foldl_append];rfl
   rw[I hlt,eg] at e
   rw[hF,dif_pos hlt];exact e
 exact key xs.length 0 bigN (by omega) (Bw hl)
def Do(h:X6)(a:Xa):U:=(AK h.Fleet a.Ship).Line.toNat
def AD(h:X6)(cs:O Xa)(pl:O X0):O (U × Q):=List.zipWith (fun a o=>(Do h a,o.Cost)) cs pl
def CC(ks:O (U × Q)):O (U × Q):=ks.map fun k=>(k.1,1)
theorem Yp(h:X6){o:X0}:∀{cs:O Xa} {pl:O X0} (hl:pl.length<cs.length),AD h cs (pl++ [o])=AD h cs pl++ [(Do h cs[pl.length],o.Cost)]:=by
 intro cs
 induction cs with
 | nil=>intro pl hl; simp at hl
 | cons c cs ih=>
  intro pl hl;cases pl with
  | nil=>simp[AD]
  | cons p pl=>
   have:=ih (pl:=pl) (by simpa using hl);simp only[AD,List.cons_append,List.zipWith_cons_cons,zC,List.getElem_cons_succ] at *
   rw[this]
theorem tX{h:X6}:∀{cs:O Xa} {pl:O X0},Js pl→(∀a∈cs,Do h a<4)→∀k∈AD h cs pl,k.1<4∧0≤k.2∧k.2≤2880:=by
 intro cs pl hc hl k hk;simp only[AD,List.mem_iff_getElem,List.length_zipWith,List.getElem_zipWith] at hk
 obtain⟨i,hi,rfl⟩:=hk;have:=hc pl[i] (Y _);exact⟨hl _ (Y _),this.1,this.2⟩
theorem tY(h:X6)(cs:O Xa)(pl:O X0):(AD h cs pl).length=min cs.length pl.length:=by simp[AD]
theorem XN{h:X6}(hh:B4 h=T){a:Xa}(ha:BZ h a=T):idx a.Ship h.Fleet.length=T∧(AK h.Fleet a.Ship).Line=(Do h a:Q)∧Do h a<4:=by
 simp only[B4,zM] at hh
 simp only[BZ,zM] at ha
 have hs:=(IT hh.2.2.1).2 _ (EC ha.1).2;simp only[Ci,zM,decide_eq_true_eq] at hs
 unfold Do;exact⟨ha.1,by omega,by omega⟩
theorem U8{h:X6}(hh:B4 h=T){cs:O Xa}(hc:CallsGood h cs){pl:O X0}(hp:Js pl)(hl:pl.length≤cs.length) :
  HJ h cs pl=N ⟨AH (AD h cs pl),AH (CC (AD h cs pl))⟩:=by
 have h6:=hc.six;have hln:∀a∈cs,Do h a<4:=fun a ha=>(XN hh (hc.ok a ha)).2.2
 unfold HJ;rw[show Bq 4 4 8=N 4 from Ea (n:=4) (bytes:=8) (by omega) (by omega),W,W]
 have key:∀(k i n:U),i+k=pl.length→k<n→Eo cs pl h n (i:Q) (AH (AD h cs (pl.take i))) (AH (CC (AD h cs (pl.take i))))=N ⟨AH (AD h cs pl),AH (CC (AD h cs pl))⟩:=by
  intro k
  induction k with
  | zero=>
   intro i n hi hn;obtain⟨q,rfl⟩:=sn (n:=n) (by omega);have:i=pl.length:=by omega
   subst this;rw[zG];simp[Eo]
  | succ k ih=>
   intro i n hi hn;obtain⟨q,rfl⟩:=sn (n:=n) (by omega);have hlt:i<pl.length:=by omega
   have hlc:i<cs.length:=by omega
   have htl:(pl.take i).length=i:=by simp; omega
   obtain⟨w1,w2,w3⟩:=XN hh (hc.ok _ (Y hlc));have e:=ih (i+1) q (by omega) (by omega);have es:=Yp h (o:=pl[i]) (cs:=cs) (pl:=pl.take i) (by omega);simp only[htl] at es
   rw[I hlt,es] at e
   have hin:=tX (h:=h) (cs:=cs) (pl:=pl.take i) (fun o ho=>hp o (List.mem_of_mem_take ho)) hln;have hpl6:((AD h cs (pl.take i)).length:Q)≤6:=by rw[tY]; omega
   have hol:(CC (AD h cs (pl.take i))).length=(AD h cs (pl.take i)).length:=by simp[CC]
   have b1:=ZA (ks:=AD h cs (pl.take i)) (M:=2880) (by omega) (fun k hk=>(hin k hk).2) w3
   have b2:=ZA (ks:=CC (AD h cs (pl.take i))) (M:=1) (by omega) (fun k hk=>by
    obtain⟨k',_,rfl⟩:=zV.1 hk;exact⟨by simp,by simp⟩) w3
   have b3:=hp _ (Y hlt);rw[OG,show CC (AD h cs (pl.take i)++ [(Do h cs[i],pl[i].Cost)])=CC (AD h cs (pl.take i))++ [(Do h cs[i],1)] by simp[CC],OG] at e
   simp only[Jx] at e
   have l1:Do h cs[i]<(AH (AD h cs (pl.take i))).length:=by rw[Jk]; exact w3
   have l2:Do h cs[i]<(AH (CC (AD h cs (pl.take i)))).length:=by rw[Jk]; exact w3
   rw[Z l1,Option.getD_some] at b1 e
   rw[Z l2,Option.getD_some] at b2 e
   rw[Eo];simp only[Af,hlt,decide_true,if_true,Ah hlt,Ah hlc,(EC w1).1,W,w2,Ah l1,Ah l2,Av hlt (Aq (by omega)),zA];rw[Al (n:=(AH (AD h cs (pl.take i)))[Do h cs[i]]+_) (by omega) (by omega),Al (n:=(AH (CC (AD h cs (pl.take i))))[Do h cs[i]]+1) (by omega) (by omega)];exact e
 have e:=key pl.length 0 bigN (by omega) (Bw (Aq (by omega)));simpa[AD,CC,AH] using e
def Ba(h:X6)(cs:O Xa)(pl:O X0):Xj:=⟨gr (AH (AD h cs pl)),CR pl⟩
theorem UZ{h:X6}(hh:B4 h=T){cs:O Xa}(hc:CallsGood h cs){pl:O X0}(hp:Js pl)(hl:pl.length≤cs.length):CW pl h cs=N (Ba h cs pl):=by
 have h6:=hc.six;unfold CW;rw[U8 hh hc hp hl,W];have h4:(AH (AD h cs pl)).length≤maxLen:=by rw[Jk,Az]; omega
 exact Vo (AH (AD h cs pl)) h4 (fun v=>N (⟨v,CR pl⟩:Xj)) (F:=fun n v i=>Hy pl ⟨AH (AD h cs pl),AH (CC (AD h cs pl))⟩ n v i) fun n i v=>by
  show Hy pl ⟨AH (AD h cs pl),AH (CC (AD h cs pl))⟩ (n+1) v (i:Q)=_
  rw[Hy];by_cases h:i<(AH (AD h cs pl)).length
  ·simp only[Af,h,decide_true,if_true,Ah h,W,dif_pos,Av h h4]
  ·simp only[Af,h,decide_false,X,if_false,dif_neg,not_false_eq_true,UN (l:=pl) (by omega) hp,W]
structure Fnd where
 f:Bool
 b:O Q
 w:Xj
def wl(a b:Xj):Bool:=decide (a.i0<b.i0) || (decide (a.i0=b.i0)&&decide (a.i1<b.i1))
def Ee(A:Fnd)(ch:O Q)(w:Xj):Fnd:=if(A.f&& !wl w A.w)=T then A else⟨T,ch,w⟩
def Cc(h:X6)(pl:O X0):Bool:=(DB h pl).getD E
def CY(h:X6)(pl:O X0)(o:X0):Bool:= !(pl.any fun x=>Bs h.Chart h.Regime x.Passages o.Passages)
def Dc(F:X0→Q→Fnd→Fnd):O X0→U→Fnd→Fnd
 | [],_,A=>A
 | o::l,n,A=>Dc F l (n+1) (F o (n:Q) A)
def Bb(h:X6)(wv:O X0→Xj):O (O X0)→O X0→O Q→Fnd→Fnd
 | [],pl,ch,A=>if Cc h pl=T then Ee A ch (wv pl) else A
 | l::ls,pl,ch,A=>Dc (fun o n A=>if CY h pl o=T then Bb h wv ls (pl++ [o]) (ch++ [n]) A else A) l 0 A
theorem UT{F:X0→Q→Fnd→Fnd}{A:Fnd}:∀{l:O X0} {n:U},(∀o∈l,∀n,F o n A=A)→Dc F l n A=A:=by
 intro l
 induction l with
 | nil=>intro n _; rfl
 | cons o l ih=>
  intro n H;rw[Dc,H o (zS ..)];exact ih fun x hx=>H x (zP _ hx)
def Rf(A B:Fnd):Prop:=B=A∨B.f=T
theorem jv{F:X0→Q→Fnd→Fnd}(H:∀o n A,Rf A (F o n A)):∀(l:O X0) (n:U) (A:Fnd),Rf A (Dc F l n A):=by
 intro l
 induction l with
 | nil=>intro n A; exact Or.inl rfl
 | cons o l ih=>
  intro n A;rw[Dc];rcases H o n A with e|e
  ·rw[e]; exact ih _ _
  ·rcases ih (n+1) (F o n A) with g|g
   ·rw[g]; exact Or.inr e
   ·exact Or.inr g
theorem vN(h:X6)(wv:O X0→Xj):∀(ls:O (O X0)) (pl:O X0) (ch:O Q) (A:Fnd),Rf A (Bb h wv ls pl ch A):=by
 intro ls
 induction ls with
 | nil=>
  intro pl ch A;rw[Bb];split
  ·unfold Ee;split
   ·exact Or.inl rfl
   ·exact Or.inr rfl
  ·exact Or.inl rfl
 | cons l ls ih=>
  intro pl ch A;rw[Bb];refine jv (fun o n A=> ?_) l 0 A;split
  ·exact ih _ _ _
  ·exact Or.inl rfl
section
variable {h : X6} {cs : O Xa} {os : O (O X0)}
def GoodC(h:X6)(pl:O X0):Prop:=∀o∈pl,EX h o
theorem GoodC.pl{pl:O X0}(H:GoodC h pl):DS h pl:=fun o ho=>(H o ho).1
theorem GoodC.cost{pl:O X0}(H:GoodC h pl):Js pl:=fun o ho=>(H o ho).2
theorem GoodC.snoc{pl:O X0}{o:X0}(H:GoodC h pl)(ho:EX h o):GoodC h (pl++ [o]):=fun x hx=>by
 rcases zO.1 hx with hx|hx
 ·exact H x hx
 ·rw[zK] at hx; subst hx; exact ho
theorem KM(s:HSmall h)(hh:B4 h=T){pl:O X0}(hl:pl.length≤12)(H:DS h pl):DB h pl=N (Cc h pl)∧(Cc h pl=T↔FitP h pl):=by
 obtain⟨b,b1,b2⟩:=UR s hh hl H;have:Cc h pl=b:=by unfold Cc; rw[b1]; rfl
 rw[this];exact⟨b1,b2⟩
theorem gk(s:HSmall h)(hh:B4 h=T){pl:O X0}(hl:pl.length≤12)(H:DS h pl):Im h.Crew h.Chart h.Fleet (BB pl)=N (Cc h pl):=by
 obtain⟨b,b1,b2⟩:=vD s hh hl H;have:b=Cc h pl:=by rw[Bool.eq_iff_iff,b2,(KM s hh hl H).2]
 rw[b1,this]
theorem vK(s:HSmall h)(hh:B4 h=T){wv:O X0→Xj}:∀(ls:O (O X0)) (pl:O X0) (ch:O Q) (A:Fnd),(∀l∈ls,GoodC h l)→GoodC h pl→pl.length+ls.length≤12→Cc h pl=E→Bb h wv ls pl ch A=A:=by
 intro ls
 induction ls with
 | nil=>intro pl ch A _ _ _ hf; rw[Bb,if_neg (by rw[hf]; simp)]
 | cons l ls ih=>
  intro pl ch A hg hp hl hf;simp only[zC] at hl
  rw[Bb];refine UT fun o ho n=> ?_
  have ho':=hg l (zS ..) o ho;split
  ·refine ih _ _ _ (fun l hm=>hg l (zP _ hm)) (hp.snoc ho') (by simp; omega) ?_;cases e:Cc h (pl++ [o]) with
   | false=>rfl
   | true=>
    have F:=(KM s hh (by simp; omega) (hp.snoc ho').pl).2.1 e;have:=(KM s hh (by omega) hp.pl).2.2 (FitP.app hh s (hp.snoc ho').pl (by omega) F);rw[hf] at this
    cases this
  ·rfl
theorem lq{pl:O X0}{o:X0}(hl:pl.length<cs.length)(ho:0≤o.Cost):wl (Ba h cs (pl++ [o])) (Ba h cs pl)=E:=by
 have hg:gr (AH (AD h cs pl))≤gr (AH (AD h cs (pl++ [o]))):=oR (Jk _) (Jk _) fun L hL=>by
  rw[Yp h hl];exact we _ ho hL
 simp only[wl,Ba,Zo,Bool.or_eq_false_iff,Bool.and_eq_false_iff,decide_eq_false_iff_not];omega
theorem zn{a b c:Xj}(h1:wl a b=E)(h2:wl b c=E):wl a c=E:=by
 simp only[wl,Bool.or_eq_false_iff,Bool.and_eq_false_iff,decide_eq_false_iff_not] at *
 omega
theorem vM:∀(ls:O (O X0)) (pl:O X0) (ch:O Q) (A:Fnd),(∀l∈ls,GoodC h l)→pl.length+ls.length=cs.length→A.f=T→wl (Ba h cs pl) A.w=E→Bb h (Ba h cs) ls pl ch A=A:=by
 intro ls
 induction ls with
 | nil=>
  intro pl ch A _ _ hf hw;rw[Bb];split
  ·unfold Ee; rw[if_pos (by rw[hf,hw]; rfl)]
  ·rfl
 | cons l ls ih=>
  intro pl ch A hg hl hf hw;simp only[zC] at hl
  rw[Bb];refine UT fun o ho n=> ?_
  split
  ·exact ih _ _ _ (fun l hm=>hg l (zP _ hm)) (by simp; omega) hf (zn (lq (by omega) (hg l (zS ..) o ho).2.1) hw)
  ·rfl
def Ga(h:X6)(os:O (O X0)):O (O (O (O Bool))):=os.map fun a=>os.map fun b=>a.map fun o=>b.map fun p=>Bs h.Chart h.Regime o.Passages p.Passages
theorem gR(hh:B4 h=T)(h6:os.length≤6)(h8:∀l∈os,l.length≤8)(hg:∀l∈os,GoodC h l):NA h os=N (Ga h os):=by
 obtain⟨_,hc,_,hr,_⟩:=EA hh;unfold NA;refine FX (L:=Df os h) os (fun a=>os.map fun b=>a.map fun o=>b.map fun p=>Bs h.Chart h.Regime o.Passages p.Passages) N (Aq (by omega)) (fun n i acc hi ha=> ?_) fun n acc _=>by rw[Df,if_neg (by simp)]
 rw[Df];simp only[Af,hi,decide_true,if_true,Ah hi,W];have g1:=h8 _ (Y hi);refine(FX (L:=E4 os os[i] (i:Q) h acc (Df os h n)) os (fun b=>os[i].map fun o=>b.map fun p=>Bs h.Chart h.Regime o.Passages p.Passages) (fun v=>if A3 acc.length [v].length 24=T then Df os h n (IntKind.i64.wrap ((i:Q)+1)) (acc++ [v]) else none) (Aq (by omega)) (fun n2 j ac2 hj ha2=> ?_) fun n2 ac2 _=>by rw[E4,if_neg (by simp)]).trans (by rw[if_pos (B2 (by omega) (by simp) (by omega))]);rw[E4];simp only[Af,hj,decide_true,if_true,Ah hj,W];have g2:=h8 _ (Y hj);refine(FX (L:=FF os os[i] os[j] (i:Q) (j:Q) h acc ac2 (E4 os os[i] (i:Q) h acc (Df os h n) n2)) os[i] (fun o=>os[j].map fun p=>Bs h.Chart h.Regime o.Passages p.Passages) (fun v=>if A3 ac2.length [v].length 24=T then E4 os os[i] (i:Q) h acc (Df os h n) n2 (IntKind.i64.wrap ((j:Q)+1)) (ac2++ [v]) else none) (Aq (by omega)) (fun n3 k ac3 hk ha3=> ?_) fun n3 ac3 _=>by rw[FF,if_neg (by simp)]).trans (by rw[if_pos (B2 (by omega) (by simp) (by omega))]);rw[FF];simp only[Af,hk,decide_true,if_true,Ah hk,W];have o1:=(hg _ (Y hi) _ (Y hk)).1;refine(FX (L:=IL os os[i] os[j] (i:Q) (j:Q) (k:Q) h os[i][k] acc ac2 ac3 (FF os os[i] os[j] (i:Q) (j:Q) h acc ac2 (E4 os os[i] (i:Q) h acc (Df os h n) n2) n3)) os[j] (fun p=>Bs h.Chart h.Regime os[i][k].Passages p.Passages) (fun v=>if A3 ac3.length [v].length 24=T then FF os os[i] os[j] (i:Q) (j:Q) h acc ac2 (E4 os os[i] (i:Q) h acc (Df os h n) n2) n3 (IntKind.i64.wrap ((k:Q)+1)) (ac3++ [v]) else none) (Aq (by omega)) (fun n4 m ac4 hm ha4=> ?_) fun n4 ac4 _=>by rw[IL,if_neg (by simp)]).trans (by rw[if_pos (B2 (by omega) (by simp) (by omega))]);have o2:=(hg _ (Y hj) _ (Y hm)).1;rw[IL];simp only[Af,hm,decide_true,if_true,Ah hm,W,(UE hc hr o1.1.inn o2.1.inn (Aq (by omega)) (Aq (by omega))).1];rw[if_pos (B2 (by omega) (by simp) (by omega))]
abbrev Sx(h:X6)(cs:O Xa)(os:O (O X0))(A:Fnd):Xf:=⟨h,cs,os,Ga h os,A.b,A.w.i0,A.w.i1,A.f⟩
def Chos(os:O (O X0))(pl:O X0)(ch:O Q):Prop:=pl.length=ch.length∧∀i (h:i<pl.length),∃(l:O X0) (c:U),os[i]?=N l∧ch[i]?=N (c:Q)∧l[c]?=N pl[i]
theorem ge(l:O X0):∀n v i,Kt l n v i=F6 l n v i:=by
 intro n
 induction n with
 | zero=>intro v i; rfl
 | succ n ih=>intro v i; simp only[Kt,F6,ih]
theorem vG(s:HSmall h)(hh:B4 h=T)(hcs:CallsGood h cs){pl:O X0}{ch:O Q}(H:Chos os pl ch)(hl:pl.length=cs.length)(G:GoodC h pl)(A:Fnd) :
  NC (Sx h cs os A) ch=N (Sx h cs os (if Cc h pl=T then Ee A ch (Ba h cs pl) else A)):=by
 have h6:=hcs.six;have hlen:=H.1
 have e1:NC (Sx h cs os A) ch=(IN h cs pl).bind fun r9=>Dh ch r9 (Sx h cs os A) pl bigN 0 0:=by
  refine BN (fun n i=>IQ ch (Sx h cs os A) n (i:Q) (pl.take i)=(IN h cs pl).bind fun r9=>Dh ch r9 (Sx h cs os A) pl bigN 0 0) (Aq (n:=pl.length) (by omega)) (fun n=> ?_) (fun n i hi ih=> ?_) (zH _)
  ·rw[IQ,if_neg (by rw[hlen]; simp),zG]
  ·obtain⟨l,c,c1,c2,c3⟩:=H.2 i hi;have hi':i<ch.length:=by omega
   rw[IQ];simp only[Af,hi',decide_true,if_true,Ak,c1,c2,W,c3];rw[if_pos (B2 (by simp; omega) (by simp) (by omega)),Av hi (Aq (by omega)),← I hi];exact ih
 obtain⟨r,r1,r2,_,_⟩:=eS hh (by omega) hl hcs.ok;rw[U8 hh hcs G.cost (by omega),zB] at r2
 subst r2;rw[e1,r1,W];have h4:(AH (AD h cs pl)).length≤maxLen:=by rw[Jk,Az]; omega
 have e2:=Vo (AH (AD h cs pl)) h4 (fun v=>Dh ch ⟨AH (AD h cs pl),AH (CC (AD h cs pl))⟩ (Sx h cs os A) pl 1 v ((AH (AD h cs pl)).length:Q)) (F:=fun n v i=>Dh ch ⟨AH (AD h cs pl),AH (CC (AD h cs pl))⟩ (Sx h cs os A) pl n v i) fun n i v=>by
  show Dh ch ⟨AH (AD h cs pl),AH (CC (AD h cs pl))⟩ (Sx h cs os A) pl (n+1) v (i:Q)=_
  by_cases hi:i<(AH (AD h cs pl)).length
  ·rw[Dh];simp only[Af,hi,decide_true,if_true,Ah hi,W,dif_pos,Av hi h4]
  ·rw[dif_neg hi,Dh,Dh,if_neg (by simpa using hi),if_neg (by simp)]
 have hco:N2 pl=N (CR pl):=by
  unfold N2;rw[ge];exact UN (by omega) G.cost
 refine e2.trans ?_;rw[Dh,if_neg (by simp),hco,W];have hch:Gv pl=N (BB pl):=vC (by omega) fun o ho=>(G o ho).1.2
 have hap:A3 ([]:O Q).length ch.length 8=T:=B2 (by simp) (by omega) (by omega);simp only[hch,W,gk s hh (pl:=pl) (by omega) G.pl,KL,hap,if_true];obtain⟨f,b,w0,w1⟩:=A;cases f with
 | false=>cases Cc h pl<;>simp[Ee,wl,Ba]
 | true=>
  by_cases g1:w0<gr (AH (AD h cs pl))
  ·have g2:¬gr (AH (AD h cs pl))<w0:=by omega
   have g3:¬gr (AH (AD h cs pl))=w0:=by omega
   cases Cc h pl<;>simp[Ee,wl,Ba,g1,g2,g3]
  ·by_cases g2:gr (AH (AD h cs pl))=w0
   ·by_cases g3:w1≤CR pl
    ·have g4:¬CR pl<w1:=by omega
     cases Cc h pl<;>simp[Ee,wl,Ba,g1,g2,g3,g4]
    ·have g4:CR pl<w1:=by omega
     cases Cc h pl<;>simp[Ee,wl,Ba,g1,g2,g3,g4]
   ·have g3:gr (AH (AD h cs pl))<w0:=by omega
    cases Cc h pl<;>simp[Ee,wl,Ba,g1,g2,g3]
theorem Chos.snoc{pl:O X0}{ch:O Q}(H:Chos os pl ch){l:O X0}(hl:os[pl.length]?=N l){i:U}(hi:i<l.length):Chos os (pl++ [l[i]]) (ch++ [(i:Q)]):=by
 obtain⟨h1,h2⟩:=H;refine⟨by simp; omega,fun j hj=> ?_⟩;simp only[zR,zN] at hj
 by_cases h:j<pl.length
 ·obtain⟨l',c,c1,c2,c3⟩:=h2 j h;exact⟨l',c,c1,by rw[zD (by omega)]; exact c2,by rw[zF h]; exact c3⟩
 ·obtain rfl:j=pl.length:=by omega
  exact⟨l,i,hl,by rw[h1,zT (by omega)]; simp,by rw[zE (by omega),Z hi]; simp⟩
theorem vF(s:HSmall h)(hh:B4 h=T)(hcs:CallsGood h cs)(hos:os.length=cs.length)(h8:∀l∈os,l.length≤8)(hg:∀l∈os,GoodC h l):∀(ls:O (O X0)) (pl:O X0) (ch:O Q) (A:Fnd) (n:U),ls.length<n→os.drop pl.length=ls→pl.length+ls.length=os.length→Chos os pl ch→GoodC h pl→
  Dg n (Sx h cs os A) ch=N (Sx h cs os (Bb h (Ba h cs) ls pl ch A)):=by
 have h6:=hcs.six;intro ls
 induction ls with
 | nil=>
  intro pl ch A n hn hd hl H G;obtain⟨q,rfl⟩:=sn (n:=n) (by simpa using hn);have hlen:=H.1;simp only[zW,Nat.add_zero] at hl
  have hz:((ch.length:Q)==(os.length:Q))=T:=by rw[← hlen,hl]; simp
  rw[Dg,NB];simp only[hz,if_true,vG s hh hcs H (by omega) G,W,Bb]
 | cons l ls ih=>
  intro pl ch A n hn hd hl H G;obtain⟨q,rfl⟩:=sn (n:=n) (by omega);have hlen:=H.1;simp only[zC] at hl hn
  have hz:((ch.length:Q)==(os.length:Q))=E:=beq_eq_false_iff_ne.2 (by omega);have hpl:pl.length<os.length:=by omega
  have hol:os[pl.length]?=N l:=by
   have:=congrArg List.head? hd;rw[List.head?_drop] at this
   exact this
  have hd':os.drop (pl.length+1)=ls:=by rw[← List.tail_drop,hd]; rfl
  have hlm:=List.mem_of_getElem? hol;have hl8:=h8 l hlm;rw[Dg,NB];simp only[hz,X,if_false];rw[← hlen,Ak,hol,W,Bb]
  have key:=BN (fun m i=>∀A:Fnd,FG (Dg q) ch l m (i:Q) h.Forecast.Tide.Mean h.Forecast.Tide.Parts h.Forecast.Surges h.Chart.Points h.Chart.Segments h.Fleet h.Regime.Gap h.Regime.NoMeet h.Crew.Tugs h.Crew.Pilots h.Crew.Rest h.Crew.Moves cs os (Ga h os) A.w.i0 A.w.i1 A.f A.b=N (Sx h cs os (Dc (fun o n A=>if CY h pl o=T then Bb h (Ba h cs) ls (pl++ [o]) (ch++ [n]) A else A) (l.drop i) i A))) (Aq (n:=l.length) (by omega))
   (fun m A=>by rw[FG,if_neg (by simp),List.drop_length]; rfl) (fun m i hi ihm A=>by
    have ed:Dc (fun o n A=>if CY h pl o=T then Bb h (Ba h cs) ls (pl++ [o]) (ch++ [n]) A else A) (l.drop i) i A=Dc (fun o n A=>if CY h pl o=T then Bb h (Ba h cs) ls (pl++ [o]) (ch++ [n]) A else A) (l.drop (i+1)) (i+1) (if CY h pl l[i]=T then Bb h (Ba h cs) ls (pl++ [l[i]]) (ch++ [(i:Q)]) A else A):=by
     rw[zU hi]; rfl
    rw[ed,FG,if_pos (by simpa using hi)]
    have fits:=BN (fun m2 j=>∀v:Bool,v=(!((pl.take j).any fun x=>Bs h.Chart h.Regime x.Passages l[i].Passages))→E5 (Dg q) ch (i:Q) l h.Forecast.Tide.Mean h.Forecast.Tide.Parts h.Forecast.Surges h.Chart.Points h.Chart.Segments h.Fleet h.Regime.Gap h.Regime.NoMeet h.Crew.Tugs h.Crew.Pilots h.Crew.Rest h.Crew.Moves cs os (Ga h os) A.w.i0 A.w.i1 A.f A.b (FG (Dg q) ch l m) m2 v (j:Q) =
      E5 (Dg q) ch (i:Q) l h.Forecast.Tide.Mean h.Forecast.Tide.Parts h.Forecast.Surges h.Chart.Points h.Chart.Segments h.Fleet h.Regime.Gap h.Regime.NoMeet h.Crew.Tugs h.Crew.Pilots h.Crew.Rest h.Crew.Moves cs os (Ga h os) A.w.i0 A.w.i1 A.f A.b (FG (Dg q) ch l m) 1 (CY h pl l[i]) (ch.length:Q)) (Aq (n:=pl.length) (by omega))
     (fun m2 v hv=>by
      rw[zG] at hv
      have ev:CY h pl l[i]=v:=by rw[hv]; rfl
      have hd0:decide ((ch.length:Q)<(ch.length:Q))=E:=by simp
      rw[ev,hlen,E5,E5];simp only[hd0,X,if_false]) (fun m2 j hj ih2 v hv=>by
      have hj':j<ch.length:=by omega
      obtain⟨l',c,c1,c2,c3⟩:=H.2 j hj;have t1:(Ga h os)[pl.length]?=N (os.map fun b=>l.map fun o=>b.map fun p=>Bs h.Chart h.Regime o.Passages p.Passages):=by unfold Ga; rw[zL,hol]; rfl
      have t2:(os.map fun b=>l.map fun o=>b.map fun p=>Bs h.Chart h.Regime o.Passages p.Passages)[j]?=N (l.map fun o=>l'.map fun p=>Bs h.Chart h.Regime o.Passages p.Passages):=by rw[zL,c1]; rfl
      have t3:(l.map fun o=>l'.map fun p=>Bs h.Chart h.Regime o.Passages p.Passages)[i]?=N (l'.map fun p=>Bs h.Chart h.Regime l[i].Passages p.Passages):=by rw[zL,Z hi]; rfl
      have t4:(l'.map fun p=>Bs h.Chart h.Regime l[i].Passages p.Passages)[c]?=N (Bs h.Chart h.Regime l[i].Passages pl[j].Passages):=by rw[zL,c3]; rfl
      rw[E5,if_pos (by simpa using hj'),Ak,c2,W,← hlen,Ak,t1,W,Ak,t2,W,Ak,t3,W,Ak,t4,W,Av hj (Aq (by omega))];rw[← hlen] at ih2
      have ea:((pl.take (j+1)).any fun x=>Bs h.Chart h.Regime x.Passages l[i].Passages)=(((pl.take j).any fun x=>Bs h.Chart h.Regime x.Passages l[i].Passages) || Bs h.Chart h.Regime pl[j].Passages l[i].Passages):=by
       rw[I hj,List.any_append]; simp
      rw[gQ];cases hcl:Bs h.Chart h.Regime pl[j].Passages l[i].Passages with
      | true=>rw[if_pos rfl]; exact ih2 E (by rw[ea,hcl]; simp)
      | false=>rw[if_neg (by simp)]; exact ih2 v (by rw[ea,hcl,hv]; simp)) (zH _) T (by simp)
    refine fits.trans ?_;rw[E5,if_neg (by simp)];have hap:A3 ([]:O Q).length ch.length 8=T:=B2 (by simp) (by omega) (by omega);have hap2:A3 ch.length [(i:Q)].length 8=T:=B2 (by omega) (by simp) (by omega);cases hn2:CY h pl l[i] with
    | false=>
     simp only[X,if_false,Av hi (Aq (n:=l.length) (by omega))];exact ihm A
    | true=>
     simp only[if_true,hap,hap2,Av hi (Aq (n:=l.length) (by omega))];have e:=ih (pl++ [l[i]]) (ch++ [(i:Q)]) A q (by omega) (by simp[hd']) (by simp; omega) (H.snoc hol hi) (G.snoc (hg l hlm _ (Y hi)));refine(congrArg (fun z=>Option.bind z _) e).trans ?_;exact ihm _) (zH _) A
  exact key
theorem XM(a b:Xj):Mj a b=N (wl a b):=by
 unfold Mj wl;by_cases h1:a.i0<b.i0
 ·simp[h1]
 ·by_cases h2:a.i0=b.i0
  ·simp[h2]
  ·simp[h1,h2]
abbrev Px(h:X6)(os:O (O X0))(A:Fnd)(pl:O X0)(ch:O Q):Xe:=⟨h,os,pl,ch,A.b,A.w,A.f⟩
theorem Y8{pl:O X0}{o:X0}:CY h pl o=T↔R4 h pl o:=by
 simp only[CY,R4,Bool.not_eq_true',List.any_eq_false];exact⟨fun H x hx=>by simpa using H x hx,fun H x hx=>by simpa using H x hx⟩
theorem pi(s:HSmall h)(hh:B4 h=T)(hcs:CallsGood h cs)(hos:os.length=cs.length)(h8:∀l∈os,l.length≤8)(hg:∀l∈os,GoodC h l):∀(ls:O (O X0)) (pl:O X0) (ch:O Q) (A:Fnd) (n:U),ls.length<n→os.drop pl.length=ls→pl.length+ls.length=os.length→pl.length=ch.length→GoodC h pl→Cc h pl=T→
  DC (fun z0=>CW z0 h cs) n (Px h os A pl ch)=N (Px h os (Bb h (Ba h cs) ls pl ch A) pl ch):=by
 have h6:=hcs.six;intro ls
 induction ls with
 | nil=>
  intro pl ch A n hn hd hl hlen G hf;obtain⟨q,rfl⟩:=sn (n:=n) (by simpa using hn);simp only[zW,Nat.add_zero] at hl
  have hz:((pl.length:Q)==(os.length:Q))=T:=by rw[hl]; simp
  have hcl:BC ch=N ch:=Rp (by omega);rw[DC,Mg];simp only[UZ hh hcs G.cost (by omega:pl.length≤cs.length),W,XM,HT,hz,if_true,hcl,Bb,hf,Ee];obtain⟨f,b,w⟩:=A;cases f with
  | false=>simp
  | true=>cases hw:wl (Ba h cs pl) w<;>simp[hw]
 | cons l ls ih=>
  intro pl ch A n hn hd hl hlen G hf;obtain⟨q,rfl⟩:=sn (n:=n) (by omega);simp only[zC] at hl hn
  have hz:((pl.length:Q)==(os.length:Q))=E:=beq_eq_false_iff_ne.2 (by omega);have hpl:pl.length<os.length:=by omega
  have hol:os[pl.length]?=N l:=by
   have:=congrArg List.head? hd;rw[List.head?_drop] at this
   exact this
  have hd':os.drop (pl.length+1)=ls:=by rw[← List.tail_drop,hd]; rfl
  have hlm:=List.mem_of_getElem? hol;have hl8:=h8 l hlm;have hgl:∀l'∈ls,GoodC h l':=fun l' h'=>hg l' (by rw[← hd'] at h'; exact List.mem_of_mem_drop h')
  have key:=BN (fun m i=>∀A:Fnd,E0 (fun z0=>CW z0 h cs) (DC (fun z0=>CW z0 h cs) q) (Px h os A pl ch) l m (i:Q) h os A.w.i0 A.w.i1 A.f pl ch A.b=N (Px h os (Dc (fun o n A=>if CY h pl o=T then Bb h (Ba h cs) ls (pl++ [o]) (ch++ [n]) A else A) (l.drop i) i A) pl ch)) (Aq (n:=l.length) (by omega))
   (fun m A=>by rw[E0,if_neg (by simp),List.drop_length]; rfl) (fun m i hi ihm A=>by
    have ed:Dc (fun o n A=>if CY h pl o=T then Bb h (Ba h cs) ls (pl++ [o]) (ch++ [n]) A else A) (l.drop i) i A=Dc (fun o n A=>if CY h pl o=T then Bb h (Ba h cs) ls (pl++ [o]) (ch++ [n]) A else A) (l.drop (i+1)) (i+1) (if CY h pl l[i]=T then Bb h (Ba h cs) ls (pl++ [l[i]]) (ch++ [(i:Q)]) A else A):=by
     rw[zU hi]; rfl
    have ho:=hg l hlm _ (Y hi);obtain⟨b,b1,b2⟩:=mE s hh (by omega) (G.snoc ho).pl
    have a0same:∀(A':Fnd) (m:U) (v:Q),E0 (fun z0=>CW z0 h cs) (DC (fun z0=>CW z0 h cs) q) (Px h os A pl ch) l m v=E0 (fun z0=>CW z0 h cs) (DC (fun z0=>CW z0 h cs) q) (Px h os A' pl ch) l m v:=by
     intro A' m
     induction m with
     | zero=>intro v; funext a b c d e f g i; rfl
     | succ m ihh=>intro v; funext a b c d e f g i; simp only[E0,ihh]
    rw[ed,E0,if_pos (by simpa using hi),Ah hi,W,b1,W,Av hi (Aq (by omega))];cases b with
    | true=>
     obtain⟨k1,k2⟩:=b2.1 rfl;have hfit:Cc h (pl++ [l[i]])=T:=(KM s hh (by simp; omega) (G.snoc ho).pl).2.2 k2;have e:=ih (pl++ [l[i]]) (ch++ [(i:Q)]) A q (by omega) (by simp[hd']) (by simp; omega) (by simp; omega) (G.snoc ho) hfit;rw[if_pos rfl,if_pos (B2 (by omega) (by simp) (by omega)),if_pos (B2 (by omega) (by simp) (by omega)),if_pos (Y8.2 k1)];refine(congrArg (fun z=>Option.bind z _) e).trans ?_;have t1:bnd (((pl++ [l[i]]).length:U):Q) (pl.length:Q) (0:Q) (pl++ [l[i]]).length=N (0,pl.length):=F2 (by simp);have t2:bnd (((ch++ [(i:Q)]).length:U):Q) (pl.length:Q) (0:Q) (ch++ [(i:Q)]).length=N (0,pl.length):=F2 (by simp; omega);have t3:(pl++ [l[i]]).take pl.length=pl:=by simp
     have t4:(ch++ [(i:Q)]).take pl.length=ch:=by rw[hlen]; simp
     simp only[W,t1,t2,t3,t4];rw[a0same (Bb h (Ba h cs) ls (pl++ [l[i]]) (ch++ [(i:Q)]) A)];exact ihm _
    | false=>
     rw[if_neg (by simp)]
     have:(if CY h pl l[i]=T then Bb h (Ba h cs) ls (pl++ [l[i]]) (ch++ [(i:Q)]) A else A)=A:=by
      split
      ·rename_i hnc
       refine vK s hh ls _ _ A hgl (G.snoc ho) (by simp; omega) ?_;cases hft:Cc h (pl++ [l[i]]) with
       | false=>rfl
       | true=>
        have:=b2.2 ⟨Y8.1 hnc,(KM s hh (by simp; omega) (G.snoc ho).pl).2.1 hft⟩;cases this
      ·rfl
     rw[this];exact ihm A) (zH _) A
  rw[DC,Mg];have hw:=UZ hh hcs G.cost (by omega:pl.length≤cs.length)
  have go:HT (fun z0=>CW z0 h cs) (DC (fun z0=>CW z0 h cs) q) (Px h os A pl ch) (Ba h cs pl) A.f=N (Px h os (Bb h (Ba h cs) (l::ls) pl ch A) pl ch):=by
   unfold HT;simp only[hz,X,if_false,Ak,hol,W,Bb];exact key
  simp only[hw,W,XM];cases hAf:A.f with
  | false=>rw[hAf] at go; simpa using go
  | true=>
   rw[hAf] at go
   cases hwl:wl (Ba h cs pl) A.w with
   | true=>simpa using go
   | false=>
    rw[vM (l::ls) pl ch A (fun l' h'=>hg l' (by rw[← hd] at h'; exact List.mem_of_mem_drop h')) (by simp; omega) hAf hwl];simp only[if_true,X,if_false];rw[← hAf]
end
theorem ju{F:X0→Q→Fnd→Fnd}(p:Fnd→Prop)(H:∀o n A,p A→p (F o n A)):∀(l:O X0) (n:U) (A:Fnd),p A→p (Dc F l n A):=by
 intro l
 induction l with
 | nil=>intro n A h; exact h
 | cons o l ih=>intro n A h; exact ih _ _ (H _ _ _ h)
theorem vL(h:X6)(wv:O X0→Xj):∀(ls:O (O X0)) (pl:O X0) (ch:O Q) (A:Fnd),ch.length+ls.length≤12→A.b.length≤12→(Bb h wv ls pl ch A).b.length≤12:=by
 intro ls
 induction ls with
 | nil=>
  intro pl ch A h1 h2;rw[Bb];split
  ·unfold Ee;split
   ·exact h2
   ·simpa using h1
  ·exact h2
 | cons l ls ih=>
  intro pl ch A h1 h2;simp only[zC] at h1
  rw[Bb];refine ju (fun A=>A.b.length≤12) (fun o n A hA=> ?_) l 0 A h2;split
  ·exact ih _ _ _ (by simp; omega) hA
  ·exact hA
theorem lp{h:X6}(s:HSmall h){cs:O Xa}:∃r:O Q × Q × Bool,N4 h cs=N r∧JP h cs=N r∧r.1.length≤12:=by
 obtain⟨b,b1,b2,b3⟩:=gI s (cs:=cs);unfold N4 JP;simp only[b1,b2,W];cases b with
 | false=>exact⟨([],0,E),rfl,rfl,by simp⟩
 | true=>
  obtain⟨hh,h6,hcs⟩:=b3 rfl;have C:CallsGood h cs:=⟨hcs,h6⟩;obtain⟨os,o1,o2,o3,o4,o5⟩:=eX s hh h6 hcs;have hfit:Cc h []=T:=(KM s hh (by simp) (fun o ho=>by cases ho)).2.2 (FitP.nil hh);have e1:=vF s hh C o3 o4 o5 os [] [] ⟨E,[],⟨0,0⟩⟩ bigN (by rw[Ca]; omega) rfl (by simp) ⟨rfl,fun i hi=>by simp at hi⟩ (fun o ho=>by cases ho);have e2:=pi s hh C o3 o4 o5 os [] [] ⟨E,[],⟨0,0⟩⟩ bigN (by rw[Ca]; omega) rfl (by simp) rfl (fun o ho=>by cases ho) hfit;have e3:=vN h (Ba h cs) os [] [] ⟨E,[],⟨0,0⟩⟩;have e4:=vL h (Ba h cs) os [] [] ⟨E,[],⟨0,0⟩⟩ (by simp; omega) (by simp);generalize Bb h (Ba h cs) os [] [] ⟨E,[],⟨0,0⟩⟩=B at e1 e2 e3 e4
  have e1:RJ ⟨h,cs,os,Ga h os,[],0,0,E⟩ []=N (Sx h cs os B):=e1;have e2:RH (fun z0=>CW z0 h cs) ⟨h,os,[],[],[],⟨0,0⟩,E⟩=N (Px h os B [] []):=e2;simp only[if_true,o1,o2,gR hh (by omega) o4 o5,W,e1,Pp,e2];refine⟨(B.b,B.w.i0,B.f),?_,rfl,e4⟩;cases hB:B.f with
  | true=>rfl
  | false=>
   rcases e3 with e|e
   ·rw[e]; rfl
   ·rw[hB] at e; cases e
theorem law_FnExactFairPlan(a:X6)(cs:O Xa)(ok:DsOk [.ag (X6.row a),.sc (.sl (List.map Xa.row cs))]):Pq a cs=N T:=by
 unfold Pq;obtain⟨q1,q2,q3,q4,q5,s⟩:=oS ok.ag.1;have hcm:=GU (row:=Xa.row) ok.ag.2.sc.1;obtain⟨r,e,k⟩:=vu (a:=a) (l:=1048576) (by omega) (by omega) q1 q2 q3 q4 q5 s;by_cases hr:r<0
 ·simp[e,hr]
 obtain⟨b0,b1,b2,b3,b4,b5,b6⟩:=k (by omega)
 have hsz:MB cs r=N (if r - (cs.length:Q)<0 then -1 else r - (cs.length:Q)):=by
  unfold MB;rw[Az] at hcm
  rw[Al (by omega) (by omega)];split<;>split<;>simp_all
 by_cases hc:r - (cs.length:Q)<0
 ·simp[e,hr,hsz,hc]
 have kc:cs.length≤1048576:=by omega
 obtain⟨x,x1,x2,x3⟩:=lp s (cs:=cs);obtain⟨m1,f1,g1,g2⟩:=sC a b1 b2 b3 b4 b5 b6
 obtain⟨m2,f2,g3,g4⟩:=J2 (Lm:=Fj) 5 (by omega) (fun n i k acc hi h0 h1=>⟨_,by
  simp (disch:=omega) only[Fj,Af,hi,decide_true,if_true,Ah hi,W,zA,L0 hi,zJ,Al,XD];rfl⟩) (fun n k acc=>by simp[Fj]) cs m1.1 g1 (by omega) kc
 have f2:K9 cs m1.1=N m2:=f2;obtain⟨w,w1,w2,w3⟩:=sD x.1 1 (by omega) (by omega) (by omega);have ea:Fi x.1 x.1=N T:=by simp[UX (xs:=x.1) (ys:=x.1) (Aq (by omega))]
 have n3:¬m2.1<0:=by omega
 have n4:¬1+1*(x.1.length:Q)<0:=by omega
 simp only[e,hr,hsz,hc,W,decide_false,X,if_false,wS b1 b2 b3 b4 b5 b6,wN kc,x1,x2,ea,if_true,beq_self_eq_true,bne_self_eq_false,lC q1 q2 q3 q4 q5 s.mv,kw hcm,f1,f2,n3,w1,w3,n4]
end Go.Vi
