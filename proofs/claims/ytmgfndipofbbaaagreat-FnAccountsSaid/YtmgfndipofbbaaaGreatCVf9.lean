/-
Plain law. No condition.
-/
import Derived.Test.YtmgfndipofbbaaaGreatCVd9
namespace Go.Vi
set_option linter.all false
open Option renaming bind_some → O, some → F
open Bool renaming false_eq_true → P, true → T
open List renaming take_succ_eq_append_getElem → Q, getElem_append_right → U, getElem_append_left → V, length_singleton → X, length_append → Y, getElem?_eq_getElem → Z, filter_cons → A, length_take → C, map_cons → I
open IntKind renaming wrap → zA
open _root_ renaming List → E, Int → G, Nat → N
structure AccIn (M:G) (k:Xg):Prop where
 w4:k.Waits.length=4
 c4:k.Calls.length=4
 wb:∀i (h:i<k.Waits.length),0≤k.Waits[i]∧k.Waits[i]≤M
 cb:∀i (h:i<k.Calls.length),0≤k.Calls[i]∧k.Calls[i]≤M
theorem D8n(i:N):decide ((i:G)<4)=decide (i<4):=by simp[Int.ofNat_lt]; omega
theorem C36{i:N}(h:i<4):zA .i64 ((i:G)+1)=((i+1:N):G):=H6 h (smx (by omega))
theorem C3z:4<bigN:=by rw[V6]; omega
theorem B0b{M:G}{k:Xg}(H:AccIn M k)(hM:M≤1000000):P2 k=F T:=by
 have w4:=H.w4
 have c4:=H.c4
 unfold P2
 rw[if_neg (by simp; omega),if_neg (by simp; omega)]
 have key:∀(j i n:N),i+j=4→j<n→T4 k n (i:G)=F T:=by
  intro j
  induction j with
  | zero=>
   intro i n hi hn
   obtain⟨q,rfl⟩:=sn (n:=n) (by omega)
   have:i=4:=by omega
   subst this
   simp[T4]
  | succ j ih=>
   intro i n hi hn
   obtain⟨q,rfl⟩:=sn (n:=n) (by omega)
   have h4:i<4:=by omega
   have a:=H.wb i (by omega)
   have b:=H.cb i (by omega)
   have e1:(decide (0≤k.Waits[i])&&decide (k.Waits[i]≤1000000))=T:=by simp; omega
   have e2:(decide (0≤k.Calls[i])&&decide (k.Calls[i]≤1000000))=T:=by simp; omega
   rw[T4]
   simp only[D8n,h4,decide_true,if_true,E2 (show i<k.Waits.length by omega),E2 (show i<k.Calls.length by omega),O,U1,e1,e2,C36 h4]
   exact ih (i+1) q (by omega) (by omega)
 exact key 4 0 bigN (by omega) C3z
theorem B8i{b:E G}(hb:b.length≤maxLen){k:N}(hk:k≤1000):∃x,O7 b (k:G)=F x∧AccIn 300 x:=by
 obtain⟨c,e,hc⟩:=E0u hk hb
 unfold O7
 rw[e,O]
 have key:∀(j i n:N) (c:X1) (w l:E G),i+j=4→j<n→CurOk c→w.length=i→l.length=i→(∀i (h:i<w.length),0≤w[i]∧w[i]≤300)→(∀i (h:i<l.length),0≤l[i]∧l[i]≤300)→
   ∃x,P3 n (i:G) c.b c.i c.h w l=F x∧AccIn 300 x:=by
  intro j
  induction j with
  | zero=>
   intro i n c w l hi hn hc h1 h2 h3 h4
   obtain⟨q,rfl⟩:=sn (n:=n) (by omega)
   have:i=4:=by omega
   subst this
   exact⟨⟨w,l⟩,by simp[P3],h1,h2,h3,h4⟩
  | succ j ih=>
   intro i n c w l hi hn hc h1 h2 h3 h4
   obtain⟨q,rfl⟩:=sn (n:=n) (by omega)
   have h4':i<4:=by omega
   obtain⟨v,c1,e1,g1,p1,q1,_⟩:=F1 (n:=300) hc (by omega)
   obtain⟨u,c2,e2,g2,p2,q2,_⟩:=F1 (n:=4) g1 (by omega)
   have e1:A3 ⟨c.b,c.i,c.h⟩ 300=F (v,c1):=e1
   have:=q1 (by omega)
   have:=q2 (by omega)
   rw[P3]
   simp only[D8n,h4',decide_true,if_true,e1,e2,O,C36 h4']
   rw[if_pos (apk (by omega) (by simp) (by omega)),if_pos (apk (by omega) (by simp) (by omega))]
   have app:∀(l:E G) (x:G),(∀i (h:i<l.length),0≤l[i]∧l[i]≤300)→0≤x∧x≤300→∀i (h:i<(l++ [x]).length),0≤(l++ [x])[i]∧(l++ [x])[i]≤300:=fun l x hl hx i h=>by
    simp only[Y,X] at h
    by_cases hi:i<l.length
    ·rw[V hi]; exact hl i hi
    ·rw[U (by omega)]; simpa using hx
   exact ih (i+1) q c2 _ _ (by omega) (by omega) g2 (by simp; omega) (by simp; omega) (app w v h3 (by omega)) (app l u h4 (by omega))
 exact key 4 0 bigN c [] [] (by omega) C3z hc rfl rfl (fun i h=>by simp at h) fun i h=>by simp at h
theorem F6j:∃m,bigN=m+5:=⟨1208925819614629174706171,by rw[V6]⟩
theorem D3c{a b:Xg}(ha:AccIn 300 a)(hb:AccIn 300 b):∃s x y,A1m a b=F (s,T)∧AccIn 600 s∧ix a.Waits 1=F x∧ix b.Waits 1=F y∧ix s.Waits 1=F (zA .i64 (x+y)):=by
 cases a with | mk aw ac=>
 cases b with | mk bw bc=>
 obtain⟨w0,w1,w2,w3,rfl⟩:=C46 ha.w4
 obtain⟨c0,c1,c2,c3,rfl⟩:=C46 ha.c4
 obtain⟨u0,u1,u2,u3,rfl⟩:=C46 hb.w4
 obtain⟨d0,d1,d2,d3,rfl⟩:=C46 hb.c4
 have a0:=ha.wb 0 (by simp); have a1:=ha.wb 1 (by simp); have a2:=ha.wb 2 (by simp); have a3:=ha.wb 3 (by simp)
 have b0:=hb.wb 0 (by simp); have b1:=hb.wb 1 (by simp); have b2:=hb.wb 2 (by simp); have b3:=hb.wb 3 (by simp)
 have p0:=ha.cb 0 (by simp); have p1:=ha.cb 1 (by simp); have p2:=ha.cb 2 (by simp); have p3:=ha.cb 3 (by simp)
 have q0:=hb.cb 0 (by simp); have q1:=hb.cb 1 (by simp); have q2:=hb.cb 2 (by simp); have q3:=hb.cb 3 (by simp)
 simp only[List.getElem_cons_zero,List.getElem_cons_succ] at a0 a1 a2 a3 b0 b1 b2 b3 p0 p1 p2 p3 q0 q1 q2 q3
 have each:∀(l:E G),(∀x∈l,0≤x∧x≤600)→∀i (h:i<l.length),0≤l[i]∧l[i]≤600:=fun l hl i h=>hl _ (List.getElem_mem h)
 have hs:AccIn 600 ⟨[w0+u0,w1+u1,w2+u2,w3+u3],[c0+d0,c1+d1,c2+d2,c3+d3]⟩:=by
  refine⟨rfl,rfl,each _ fun x hx=> ?_,each _ fun x hx=> ?_⟩
  ·simp only[List.mem_cons,List.not_mem_nil,or_false] at hx
   rcases hx with rfl|rfl|rfl|rfl<;>omega
  ·simp only[List.mem_cons,List.not_mem_nil,or_false] at hx
   rcases hx with rfl|rfl|rfl|rfl<;>omega
 obtain⟨m,hm⟩:=F6j
 have W:∀x y:G,0≤x∧x≤300→0≤y∧y≤300→zA .i64 (x+y)=x+y:=fun x y hx hy=>A7 (by omega) (by omega)
 have ix4:∀x0 x1 x2 x3:G,ix [x0,x1,x2,x3] 0=F x0∧ix [x0,x1,x2,x3] 1=F x1∧ix [x0,x1,x2,x3] 2=F x2∧ix [x0,x1,x2,x3] 3=F x3:=fun _ _ _ _=>⟨rfl,rfl,rfl,rfl⟩
 refine⟨_,w1,u1,?_,hs,rfl,rfl,?_⟩
 ·unfold A1m
  rw[B0b ha (by omega),O,if_pos rfl,B0b hb (by omega),O]
  simp only[A0j,Bool.not_true,P,if_false]
  rw[B3o (by simp),O,B3o (by simp),O,hm]
  have s0:zA .i64 ((0:G)+1)=1:=rfl
  have s1:zA .i64 ((1:G)+1)=2:=rfl
  have s2:zA .i64 ((2:G)+1)=3:=rfl
  have s3:zA .i64 ((3:G)+1)=4:=rfl
  have t1:Int.toNat 1=1:=rfl
  have t2:Int.toNat 2=2:=rfl
  have t3:Int.toNat 3=3:=rfl
  simp only[A0n,ix4,O,W _ _ a0 b0,W _ _ a1 b1,W _ _ a2 b2,W _ _ a3 b3,W _ _ p0 q0,W _ _ p1 q1,W _ _ p2 q2,W _ _ p3 q3,s0,s1,s2,s3,Int.toNat_zero,t1,t2,t3,List.set_cons_zero,List.set_cons_succ]
  simp only[show decide ((0:G)<4)=T from rfl,show decide ((1:G)<4)=T from rfl,show decide ((2:G)<4)=T from rfl,show decide ((3:G)<4)=T from rfl,show decide ((4:G)<4)=false from rfl,if_true,P,if_false,B0b hs (by omega),O]
 ·show F (w1+u1)=_
  rw[W _ _ a1 b1]
structure MeanOk (k:Xg) (r:E G × E G):Prop where
 len:r.1.length=r.2.length
 le4:r.1.length≤4
 val:∀i (h:i<r.1.length),0≤r.1[i]∧r.1[i]≤1000000
 lin:∀i (h:i<r.2.length),∃L:N,r.2[i]=(L:G)∧L<4∧0<k.Calls[L]?.getD 0
theorem C5g{M:G}{k:Xg}(H:AccIn M k)(hM:M≤1000000):∃r,A4s k=F r∧MeanOk k r∧((∃L,L<4∧0<k.Calls[L]?.getD 0)→0<r.1.length):=by
 have w4:=H.w4
 have c4:=H.c4
 unfold A4s
 rw[B0b H hM,O,if_pos rfl]
 have key:∀(j i n:N) (v l:E G),i+j=4→j<n→v.length≤i→MeanOk k (v,l)→((∃L,L<i∧0<k.Calls[L]?.getD 0)→0<v.length)→
   ∃r,Y5 k n (i:G) v l=F r∧MeanOk k r∧((∃L,L<4∧0<k.Calls[L]?.getD 0)→0<r.1.length):=by
  intro j
  induction j with
  | zero=>
   intro i n v l hi hn hv hm hx
   obtain⟨q,rfl⟩:=sn (n:=n) (by omega)
   have:i=4:=by omega
   subst this
   exact⟨(v,l),by simp[Y5],hm,hx⟩
  | succ j ih=>
   intro i n v l hi hn hv hm hx
   obtain⟨q,rfl⟩:=sn (n:=n) (by omega)
   have h4:i<4:=by omega
   have a:=H.wb i (by omega)
   have b:=H.cb i (by omega)
   have hg:k.Calls[i]?.getD 0=k.Calls[i]:=by rw[Z (by omega)]; rfl
   rw[Y5]
   simp only[D8n,h4,decide_true,if_true,E2 (show i<k.Calls.length by omega),E2 (show i<k.Waits.length by omega),O,C36 h4]
   by_cases hp:0<k.Calls[i]
   ·have hll:l.length≤i:=by have:=hm.len; simp only at this; omega
    have hq1:0≤k.Waits[i].tdiv k.Calls[i]:=Int.tdiv_nonneg a.1 b.1
    have hq2:k.Waits[i].tdiv k.Calls[i]≤k.Waits[i]:=by
     rw[Int.tdiv_eq_ediv_of_nonneg a.1]
     exact Int.ediv_le_self _ a.1
    have hz:(k.Calls[i]==0)=false:=by simp; omega
    have hw:zA .i64 (k.Waits[i].tdiv k.Calls[i])=k.Waits[i].tdiv k.Calls[i]:=A7 (by omega) (by omega)
    simp only[hp,decide_true,if_true,hz,P,if_false,hw]
    rw[if_pos (apk (by omega) (by simp) (by omega)),if_pos (apk (by omega) (by simp) (by omega))]
    refine ih (i+1) q _ _ (by omega) (by omega) (by simp; omega) ⟨by have:=hm.len; simp at this ⊢; omega,by simp; omega,fun t ht=> ?_,fun t ht=> ?_⟩ fun _=>by simp
    ·simp only[Y,X] at ht
     by_cases hlt:t<v.length
     ·simp only[V hlt]; exact hm.val t hlt
     ·simp only[U (show v.length≤t by omega),List.getElem_singleton]; omega
    ·simp only[Y,X] at ht
     by_cases hlt:t<l.length
     ·simp only[V hlt]; exact hm.lin t hlt
     ·simp only[U (show l.length≤t by omega),List.getElem_singleton]
      exact⟨i,rfl,h4,by rw[hg]; exact hp⟩
   ·simp only[hp,decide_false,P,if_false]
    refine ih (i+1) q v l (by omega) (by omega) (by omega) hm fun hL=>hx ?_
    obtain⟨L,h1,h2⟩:=hL
    refine⟨L,?_,h2⟩
    rcases Nat.lt_or_ge L i with h|h
    ·exact h
    ·have:L=i:=by omega
     subst this
     rw[hg] at h2
     exact absurd h2 hp
 exact key 4 0 bigN [] [] (by omega) C3z (by simp) ⟨rfl,by simp,fun i h=>by simp at h,fun i h=>by simp at h⟩ fun h=>by
  obtain⟨L,h1,_⟩:=h
  omega
theorem D3m{M:G}{k:Xg}(H:AccIn M k)(hM:M≤1000000):∃r,A32 k=F r∧0≤r:=by
 obtain⟨r,e,hm,_⟩:=C5g H hM
 have h4:=hm.le4
 unfold A32
 rw[e,O]
 by_cases h0:0<r.1.length
 ·rw[if_neg (by simp; intro h; rw[h] at h0; simp at h0),show(0:G)=((0:N):G) from rfl,E2 h0,O]
  have key:∀(j i n:N) (lo hi:G),i+j=r.1.length→j<n→0≤lo→lo≤hi→hi≤1000000→∃x,V2 r n lo hi (i:G)=F x∧0≤x:=by
   intro j
   induction j with
   | zero=>
    intro i n lo hi h1 hn g1 g2 g3
    obtain⟨q,rfl⟩:=sn (n:=n) (by omega)
    have:i=r.1.length:=by omega
    subst this
    refine⟨hi - lo,?_,by omega⟩
    rw[V2]
    simp only[D5,Nat.lt_irrefl,decide_false,P,if_false]
    rw[A7 (by omega) (by omega)]
   | succ j ih=>
    intro i n lo hi h1 hn g1 g2 g3
    obtain⟨q,rfl⟩:=sn (n:=n) (by omega)
    have hlt:i<r.1.length:=by omega
    have hv:=hm.val i hlt
    rw[V2]
    simp only[D5,hlt,decide_true,if_true,E2 hlt,O,H6 hlt (smx (by omega))]
    exact ih (i+1) q _ _ (by omega) (by omega) (by split<;>omega) (by split<;>split<;>omega) (by split<;>omega)
  have hv:=hm.val 0 h0
  exact key r.1.length 0 bigN _ _ (by omega) (E5 (smx (by omega))) hv.1 (Int.le_refl _) hv.2
 ·have hz:r.1.length=0:=by omega
  exact⟨0,by simp[hz],by omega⟩
theorem D5f{M:G}{k:Xg}(H:AccIn M k)(hM:M≤1000000)(hp:∃L,L<4∧0<k.Calls[L]?.getD 0):∃L:N,A26 k=F (L:G)∧L<4∧0<k.Calls[L]?.getD 0:=by
 obtain⟨r,e,hm,hne⟩:=C5g H hM
 have h4:=hm.le4
 have h0:=hne hp
 have hlen:=hm.len
 unfold A26
 rw[e,O]
 have key:∀(j i n:N) (w m:G),i+j=r.1.length→j<n→(i=0→m= -1)→(0<i→∃L:N,w=(L:G)∧L<4∧0<k.Calls[L]?.getD 0)→∃L:N,O2 r n w m (i:G)=F (L:G)∧L<4∧0<k.Calls[L]?.getD 0:=by
  intro j
  induction j with
  | zero=>
   intro i n w m h1 hn g1 g2
   obtain⟨q,rfl⟩:=sn (n:=n) (by omega)
   have:i=r.1.length:=by omega
   subst this
   obtain⟨L,rfl,l1,l2⟩:=g2 h0
   exact⟨L,by simp[O2],l1,l2⟩
  | succ j ih=>
   intro i n w m h1 hn g1 g2
   obtain⟨q,rfl⟩:=sn (n:=n) (by omega)
   have hlt:i<r.1.length:=by omega
   have hlt2:i<r.2.length:=by omega
   have hv:=hm.val i hlt
   obtain⟨L,l0,l1,l2⟩:=hm.lin i hlt2
   rw[O2]
   simp only[D5,hlt,decide_true,if_true,E2 hlt,E2 hlt2,O,H6 hlt (smx (by omega))]
   by_cases hc:m<r.1[i]
   ·simp only[hc,decide_true,if_true]
    exact ih (i+1) q _ _ (by omega) (by omega) (fun h=>by omega) fun _=>⟨L,l0,l1,l2⟩
   ·simp only[hc,decide_false,P,if_false]
    refine ih (i+1) q _ _ (by omega) (by omega) (fun h=>by omega) fun _=>g2 ?_
    rcases Nat.eq_zero_or_pos i with hi|hi
    ·have:=g1 hi; omega
    ·exact hi
 exact key r.1.length 0 bigN (-1) (-1) (by omega) (E5 (smx (by omega))) (fun _=>rfl) fun h=>by omega
def A52(h:X4)(cs:E X9)(L:N):G:=((cs.filter fun a=>A1z h a==L).length:G)
theorem D50(h:X4)(L:N):∀{cs:E X9} {pl:E X0},pl.length=cs.length→(((P8 (prs h cs pl)).filter fun k=>k.1==L).map Prod.snd).sum=A52 h cs L:=by
 intro cs
 induction cs with
 | nil=>intro pl hl; simp[prs,P8,A52]
 | cons c cs ih=>
  intro pl hl
  cases pl with
  | nil=>simp at hl
  | cons p pl=>
   have:=ih (pl:=pl) (by simpa using hl)
   simp only[prs,P8,A52,List.zipWith_cons_cons,I,A] at *
   by_cases hL:(A1z h c==L)=T
   ·simp only[hL,if_true,I,List.sum_cons,List.length_cons,this]; omega
   ·simp only[hL,if_false,P,this]
theorem D7w{h:X4}(hh:O6 h=T){cs:E X9}(hc:CallsGood h cs)(L:N):A2t h cs (L:G)=F (A52 h cs L):=by
 have h6:=hc.six
 unfold A2t
 have key:∀(j i n:N),i+j=cs.length→j<n→O4 (L:G) cs h n (A52 h (cs.take i) L) (i:G)=F (A52 h cs L):=by
  intro j
  induction j with
  | zero=>
   intro i n hi hn
   obtain⟨q,rfl⟩:=sn (n:=n) (by omega)
   have:i=cs.length:=by omega
   subst this
   rw[List.take_length]
   simp[O4]
  | succ j ih=>
   intro i n hi hn
   obtain⟨q,rfl⟩:=sn (n:=n) (by omega)
   have hlt:i<cs.length:=by omega
   obtain⟨w1,w2,w3⟩:=B5a hh (hc.ok _ (List.getElem_mem hlt))
   have hb:A52 h (cs.take i) L≤6:=by
    have:=List.length_filter_le (fun a=>A1z h a==L) (cs.take i)
    simp only[C] at this
    unfold A52
    omega
   have hb0:0≤A52 h (cs.take i) L:=by unfold A52; omega
   have e:=ih (i+1) q (by omega) (by omega)
   have es:A52 h (cs.take (i+1)) L=if A1z h cs[i]=L then A52 h (cs.take i) L+1 else A52 h (cs.take i) L:=by
    rw[Q hlt]
    unfold A52
    rw[List.filter_append]
    by_cases hL:A1z h cs[i]=L
    ·simp[hL,A]
    ·simp[hL,A]
   rw[es] at e
   rw[O4]
   simp only[D5,hlt,decide_true,if_true,E2 hlt,(A7b w1).1,O,w2,H6 hlt (smx (by omega))]
   by_cases hL:A1z h cs[i]=L
   ·rw[if_pos hL] at e
    rw[if_pos (by simp[hL]),A7 (by omega) (by omega)]
    exact e
   ·rw[if_neg hL] at e
    rw[if_neg (by simp; omega)]
    exact e
 simpa[A52] using key cs.length 0 bigN (by omega) (E5 (smx (by omega)))
theorem E0g(h:X4):∀{cs:E X9} {pl:E X0},pl.length=cs.length→((prs h cs pl).map Prod.snd).sum=A7k pl∧((P8 (prs h cs pl)).map Prod.snd).sum=(cs.length:G):=by
 intro cs
 induction cs with
 | nil=>
  intro pl hl
  cases pl with
  | nil=>exact⟨rfl,rfl⟩
  | cons p pl=>simp at hl
 | cons c cs ih=>
  intro pl hl
  cases pl with
  | nil=>simp at hl
  | cons p pl=>
   obtain⟨i1,i2⟩:=ih (pl:=pl) (by simpa using hl)
   simp only[prs,P8,A7k,List.zipWith_cons_cons,I,List.sum_cons,List.length_cons] at *
   omega
theorem F5k{l:E G}(h:l.length=4):l.sum=l[0]+l[1]+l[2]+l[3]:=by
 obtain⟨a,b,c,d,rfl⟩:=C46 h
 simp
 omega
theorem law_FnAccounts(a0:E G)(ok:DsOk [.sc (.sl (List.map r8 a0))]):A4l a0=F T:=by
 unfold A4l
 by_cases hlen:(decide ((1048576:G)<(a0.length:G)))=T
 ·rw[if_pos hlen]
 rw[if_neg hlen]
 have hl:a0.length≤maxLen:=by
  simp only[decide_eq_true_eq] at hlen
  rw[F5]; omega
 obtain⟨h,cs,e1,s,hh,hc,hc1⟩:=C5e hl
 obtain⟨os,e0,ho⟩:=C2j s hh hc
 obtain⟨ch,lw,f,e2,B⟩:=C6z s hh hc e0 ho
 have e4:=A9n s hh hc
 obtain⟨a,ea,ha⟩:=B8i hl (k:=90) (by omega)
 obtain⟨b,eb,hb⟩:=B8i hl (k:=110) (by omega)
 have ea:O7 a0 90=F a:=ea
 have eb:O7 a0 110=F b:=eb
 obtain⟨t,x,y,et,ht,ix1,iy1,is1⟩:=D3c ha hb
 obtain⟨sp,es,hs0⟩:=D3m ha (by omega)
 have hsp:¬sp<0:=by omega
 simp only[e1,ea,eb,et,e4,B0b ht (show(600:G)≤1000000 by omega),O,if_true,ix1,iy1,is1,bne_self_eq_false,P,if_false,es,hsp,decide_false,e2]
 cases f with
 | false=>
  simp only[P,if_false,A50,e2,O]
  rfl
 | true=>
  obtain⟨pl,p1,p2,p3,p4⟩:=B.plan rfl
  have hlen:=ho.len
  have h6:=hc.six
  have hcost:=A8h ho p1
  have g1:=C6h s hh hc ho p1 p2 p3
  have hln:∀a∈cs,A1z h a<4:=fun a ha=>(B5a hh (hc.ok a ha)).2.2
  have hin:=D3i (h:=h) (cs:=cs) (pl:=pl) hcost hln
  have hpl:((prs h cs pl).length:G)≤6:=by rw[C73]; omega
  have hol:(P8 (prs h cs pl)).length=(prs h cs pl).length:=by simp[P8]
  have hin1:∀k∈P8 (prs h cs pl),k.1<4∧0≤k.2∧k.2≤1:=fun k hk=>by
   obtain⟨k',hk',rfl⟩:=List.mem_map.1 hk
   exact⟨(hin k' hk').1,by simp,by simp⟩
  have b1:∀L,L<4→_:=fun L hL=>B7p (ks:=prs h cs pl) (M:=2880) (by omega) (fun k hk=>(hin k hk).2) (L:=L) hL
  have b2:∀L,L<4→_:=fun L hL=>B7p (ks:=P8 (prs h cs pl)) (M:=1) (by omega) (fun k hk=>(hin1 k hk).2) (L:=L) hL
  have l1:=A90 (prs h cs pl)
  have l2:=A90 (P8 (prs h cs pl))
  have gg:∀(l:E G) i (hi:i<l.length),l[i]?.getD 0=l[i]:=fun l i hi=>by rw[Z hi]; rfl
  have hacc:AccIn 1000000 ⟨tot (prs h cs pl),tot (P8 (prs h cs pl))⟩:=⟨l1,l2,fun i hi=>by
   have:=b1 i (by simp only at hi; omega)
   rw[gg _ i hi] at this
   simp only at this ⊢
   omega,fun i hi=>by
   have:=b2 i (by simp only at hi; omega)
   rw[gg _ i hi] at this
   simp only at this ⊢
   omega⟩
  obtain⟨sw,sc⟩:=E0g h (cs:=cs) (pl:=pl) (by omega)
  have tw:=C70 (prs h cs pl) fun k hk=>(hin k hk).1
  have tc:=C70 (P8 (prs h cs pl)) fun k hk=>(hin1 k hk).1
  rw[sw] at tw
  rw[sc] at tc
  have hex:∃L,L<4∧0<(tot (P8 (prs h cs pl)))[L]?.getD 0:=by
   rw[F5k l2] at tc
   have c0:=b2 0 (by omega); have c1:=b2 1 (by omega); have c2:=b2 2 (by omega); have c3:=b2 3 (by omega)
   rw[gg _ 0 (by omega)] at c0
   rw[gg _ 1 (by omega)] at c1
   rw[gg _ 2 (by omega)] at c2
   rw[gg _ 3 (by omega)] at c3
   by_cases q0:0<(tot (P8 (prs h cs pl)))[0]
   ·exact⟨0,by omega,by rw[gg _ 0 (by omega)]; exact q0⟩
   by_cases q1:0<(tot (P8 (prs h cs pl)))[1]
   ·exact⟨1,by omega,by rw[gg _ 1 (by omega)]; exact q1⟩
   by_cases q2:0<(tot (P8 (prs h cs pl)))[2]
   ·exact⟨2,by omega,by rw[gg _ 2 (by omega)]; exact q2⟩
   exact⟨3,by omega,by rw[gg _ 3 (by omega)]; omega⟩
  obtain⟨L,ew,hL4,hLp⟩:=D5f hacc (by omega) hex
  simp only[if_true,D41 s hh hc ho p1 p2,g1,O,l1,l2,show((4:N):G)=4 from rfl,bne_self_eq_false,P,if_false]
  have hs1:∀i,i≤4→0≤((tot (prs h cs pl)).take i).sum∧((tot (prs h cs pl)).take i).sum≤1000000:=fun i hi=>by
   obtain⟨q1,q2⟩:=C6a (l:=(tot (prs h cs pl)).take i) (M:=17280) fun x hx=>by
    obtain⟨j,hj,rfl⟩:=List.getElem_of_mem (List.mem_of_mem_take hx)
    have:=b1 j (by omega)
    rw[gg _ j hj] at this
    omega
   simp only[C] at q2
   omega
  have hs2:∀i,i≤4→0≤((tot (P8 (prs h cs pl))).take i).sum∧((tot (P8 (prs h cs pl))).take i).sum≤1000000:=fun i hi=>by
   obtain⟨q1,q2⟩:=C6a (l:=(tot (P8 (prs h cs pl))).take i) (M:=6) fun x hx=>by
    obtain⟨j,hj,rfl⟩:=List.getElem_of_mem (List.mem_of_mem_take hx)
    have:=b2 j (by omega)
    rw[gg _ j hj] at this
    omega
   simp only[C] at q2
   omega
  have key:∀(j i n:N),i+j=4→j<n→R5 (h,cs) (ch,lw.i0,T) (⟨tot (prs h cs pl),tot (P8 (prs h cs pl))⟩,T) n ((tot (prs h cs pl)).take i).sum ((tot (P8 (prs h cs pl))).take i).sum (i:G)=F T:=by
   intro j
   induction j with
   | zero=>
    intro i n hi hn
    obtain⟨q,rfl⟩:=sn (n:=n) (by omega)
    have:i=4:=by omega
    subst this
    have hix:ix (tot (P8 (prs h cs pl))) (L:G)=F ((tot (P8 (prs h cs pl)))[L]?.getD 0):=by rw[E2 (by omega),gg _ L (by omega)]
    have hlw:lw.i0=A7k pl:=by rw[p4]; rfl
    rw[R5]
    rw[List.take_of_length_le (by omega),List.take_of_length_le (by omega),tw,tc]
    simp only[l1,D5,Nat.lt_irrefl,decide_false,P,if_false,ew,O,hlw,beq_self_eq_true,if_true,show(0:G)≤(L:G) by omega,decide_true,show(L:G)<4 by omega,hix,hLp]
   | succ j ih=>
    intro i n hi hn
    obtain⟨q,rfl⟩:=sn (n:=n) (by omega)
    have h4:i<4:=by omega
    have i1:i<(tot (prs h cs pl)).length:=by omega
    have i2:i<(tot (P8 (prs h cs pl))).length:=by omega
    have hcnt:(tot (P8 (prs h cs pl)))[i]=A52 h cs i:=by
     rw[← gg _ i i2,C8c _ h4,D50 h i (by omega)]
    have e:=ih (i+1) q (by omega) (by omega)
    have s1:=hs1 (i+1) (by omega)
    have s2:=hs2 (i+1) (by omega)
    rw[Q i1,List.sum_append,List.sum_singleton] at e s1
    rw[Q i2,List.sum_append,List.sum_singleton] at e s2
    rw[R5]
    simp only[l1,D5,h4,decide_true,if_true,E2 i1,E2 i2,O,D7w hh hc i,hcnt,bne_self_eq_false,P,if_false,C36 h4]
    rw[hcnt] at e s2
    rw[A7 (n:=_+(tot (prs h cs pl))[i]) (by omega) (by omega),A7 (n:=_+A52 h cs i) (by omega) (by omega)]
    exact e
  exact key 4 0 bigN (by omega) C3z
end Go.Vi
