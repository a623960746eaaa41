/-
Plain law. No condition.
-/
import Derived.Test.YtmgfndipofbbaaaGreatOO8f
namespace Go.Vi
set_option linter.all false
open Option renaming bind_some → G, some → T
open Int renaming toNat_natCast → H
open Bool renaming false_eq_true → N
open List renaming set_set → O
open _root_ renaming List → F, Int → E
theorem TH{m n:Nat}(h:m+n≤140737488355328):Jj m n=true:=by
 unfold Jj;simp only[decide_eq_true_eq];omega
theorem A58{xs:F Xa}(h:xs.length≤1048576):FY xs=T xs:=by
 unfold FY;rw[DA h (by omega)];have:=EN (L:=HT xs) xs id (DS h) (fun n i acc hi ha=>by simp[HT,Ay,hi,ha,S0]) (fun n acc=>by simp[HT]) (List.replicate xs.length ⟨0,0,0,0,0⟩) (by simp);simpa using this
theorem tE{xs:F Xa}(h:xs.length≤maxLen):Mx xs xs=T true:=by
 unfold Mx;have:=EH (L:=HD xs xs) xs (fun _=>true) h (fun n i hi=>by simp[HD,Ay,hi,RO]) (fun n=>by simp[HD]);simp[this]
theorem IN{α:Type}{Lm:Nat→E→E→F α→Option (E × F α)}(c:Nat)(hc:c≤10)
  (hm:∀(n i:Nat) (k:E) (acc:F α),i<acc.length→0≤k→k≤1000000000000→∃e,Lm (n+1) k (i:E) acc=Lm n (k+c) (IntKind.i64.wrap ((i:E)+1)) (acc.set i e))
  (he:∀(n:Nat) (k:E) (acc:F α),Lm (n+1) k (acc.length:E) acc=T (k,acc)) (xs:F α) (k0:E) (h0:0≤k0) (hk:k0≤100000000000) (hl:xs.length≤1048576):∃r,Lm bigN k0 0 xs=T r∧0≤r.1∧r.1≤k0+10485760:=by
 have hlm:xs.length≤maxLen:=Bb (by omega);refine BZ (fun n i=>∀(k:E) acc,acc.length=xs.length→0≤k→k≤k0+(10*i:Nat)→∃r,Lm n k (i:E) acc=T r∧0≤r.1∧r.1≤k0+10485760) hlm (fun n k acc h1 h2 h3=>⟨(k,acc),by rw[← h1]; exact he n k acc,h2,by simp only; omega⟩) (fun n i hi ih k acc h1 h2 h3=> ?_) (Nat.zero_le _) k0 xs rfl h0 (by omega);obtain⟨e,e1⟩:=hm n i k acc (by omega) h2 (by omega);rw[e1,AT hi hlm];exact ih _ _ (by simpa using h1) (by omega) (by omega)
theorem KA{α:Type}{l:F α}{i:Nat}{v:α}(h:i<l.length):ix (l.set i v) (i:E)=T v:=by rw[Ay,List.getElem?_set_self h]
theorem fW(k:E)(h0:0≤k)(hk:k≤1000000000000):∃r,K0 k=T r:=by
 have key:∀(m n:Nat) (v:E) (acc:F UInt8),m<n→0≤v→v<10 ^ m→v≤1000000000000→acc.length+m≤1000→∃r,HS n v acc=T r:=by
  intro m
  induction m with
  | zero=>
   intro n v acc hn h0 hv _ ha;obtain⟨q,rfl⟩:=sn (n:=n) (by omega);have hv0:¬(0:E)<v:=by simp at hv; omega
   exact⟨[109]++acc,by rw[HS,if_neg (by simp[hv0]),if_pos (TH (by simp; omega))]⟩
  | succ m ih=>
   intro n v acc hn h0 hv hb ha;obtain⟨q,rfl⟩:=sn (n:=n) (by omega);rw[HS];by_cases hp:(0:E)<v
   ·rw[if_pos (by simp[hp]),if_pos (TH (by simp; omega)),show Int.tdiv v 10=v / 10 from Int.tdiv_eq_ediv_of_nonneg h0,AF (by omega) (by omega)];refine ih q _ _ (by omega) (by omega) ?_ (by omega) (by simp; omega);have:(10:E) ^ (m+1)=10 ^ m*10:=Int.pow_succ 10 m;omega
   ·exact⟨[109]++acc,by rw[if_neg (by simp[hp]),if_pos (TH (by simp; omega))]⟩
 unfold K0;by_cases h:k≤0
 ·exact⟨[109,48],by simp only[h,decide_true,if_true]⟩
 ·simp only[h,decide_false,N,if_false];exact key 13 bigN k [] (BL (Bb (by omega))) h0 (by simp; omega) hk (by simp)
theorem ze(k:E):k+1+1=k+(2:Nat):=by omega
theorem fG(k:E):k+1+1+1=k+(3:Nat):=by omega
theorem fH(k:E):k+1+1+1+1+1=k+(5:Nat):=by omega
theorem zf(k:E):k+1+1+1+1+1+1=k+(6:Nat):=by omega
theorem A02(a:X7)(b1:a.Forecast.Tide.Parts.length≤1048576)(b2:a.Forecast.Surges.length≤1048576)(b3:a.Chart.Points.length≤1048576)(b4:a.Chart.Segments.length≤1048576)(b5:a.Fleet.length≤1048576)(b6:a.Crew.Moves.length≤1048576) :
  ∃r,HP a 1=T r∧0≤r.1∧r.1≤1000000000:=by
 obtain⟨r1,e1,l1,u1⟩:=IN (Lm:=F1) 3 (by omega) (fun n i k acc hi h0 h1=>⟨_,by
  simp (disch:=omega) only[F1,Au,hi,decide_true,if_true,Ax hi,G,H,KA hi,O,AF,fG];rfl⟩) (fun n k acc=>by simp[F1]) a.Forecast.Tide.Parts 1 (by omega) (by omega) b1
 obtain⟨r2,e2,l2,u2⟩:=IN (Lm:=F5) 3 (by omega) (fun n i k acc hi h0 h1=>⟨_,by
  simp (disch:=omega) only[F5,Au,hi,decide_true,if_true,Ax hi,G,H,KA hi,O,AF,fG];rfl⟩) (fun n k acc=>by simp[F5]) a.Forecast.Surges r1.1 l1 (by omega) b2
 obtain⟨r3,e3,l3,u3⟩:=IN (Lm:=F2) 2 (by omega) (fun n i k acc hi h0 h1=>by
  obtain⟨t,ht⟩:=fW k h0 h1
  exact⟨_,by
   simp (disch:=omega) only[F2,ht,Au,hi,decide_true,if_true,Ax hi,G,H,KA hi,O,AF,ze];rfl⟩) (fun n k acc=>by simp[F2]) a.Chart.Points r2.1 l2 (by omega) b3
 obtain⟨r4,e4,l4,u4⟩:=IN (Lm:=F3) 5 (by omega) (fun n i k acc hi h0 h1=>⟨_,by
  simp (disch:=omega) only[F3,Au,hi,decide_true,if_true,Ax hi,G,H,KA hi,O,AF,fH];rfl⟩) (fun n k acc=>by simp[F3]) a.Chart.Segments r3.1 l3 (by omega) b4
 obtain⟨r5,e5,l5,u5⟩:=IN (Lm:=F4) 6 (by omega) (fun n i k acc hi h0 h1=>by
  obtain⟨t,ht⟩:=fW k h0 h1
  exact⟨_,by
   simp (disch:=omega) only[F4,ht,Au,hi,decide_true,if_true,Ax hi,G,H,KA hi,O,AF,zf];rfl⟩) (fun n k acc=>by simp[F4]) a.Fleet r4.1 l4 (by omega) b5
 obtain⟨r6,e6,l6,u6⟩:=IN (Lm:=Dq) 1 (by omega) (fun n i k acc hi h0 h1=>⟨_,by
  simp (disch:=omega) only[Dq,Au,hi,decide_true,if_true,Ax hi,G,H,AF];rfl⟩) (fun n k acc=>by simp[Dq]) a.Crew.Moves r5.1 l5 (by omega) b6
 refine⟨(r6.1,r1.2,r2.2,r3.2,r4.2,r5.2,r6.2),?_,l6,by simp only; omega⟩;simp only[HP,JU,K1,JV,e1,G,JZ,e2,JS,JW,e3,JX,e4,JY,e5,JT,Ef,e6]
theorem A03{xs:F X2}{k0:E}(h0:0≤k0)(hk:k0≤1000000000000)(hl:xs.length≤1048576)(hp:∀x∈xs,x.Passages.length≤1048576):∃r,RU xs k0=T r∧0≤r:=by
 have hlm:xs.length≤maxLen:=Bb (by omega)
 have pas:∀(ps:F X1) (k:E),ps.length≤1048576→0≤k→k≤1000000000000000→∃r,RW ps k=T r∧0≤r∧r≤k+10485760:=fun ps k hl h0 h1=>by
  have hm:ps.length≤maxLen:=Bb (by omega);refine BZ (fun n i=>∀v:E,0≤v→v≤k+(10*i:Nat)→∃r,HR ps n v (i:E)=T r∧0≤r∧r≤k+10485760) hm (fun n v a b=>⟨v,by simp[HR],a,by omega⟩) (fun n i hi ih v a b=> ?_) (Nat.zero_le _) k h0 (by omega);rw[HR];simp (disch:=omega) only[Au,hi,decide_true,if_true,Ax hi,G,AT hi hm,AF];exact ih _ (by omega) (by omega)
 refine BZ (fun n i=>∀v:E,0≤v→v≤k0+(20000000*i:Nat)→∃r,HQ xs n v (i:E)=T r∧0≤r) hlm (fun n v a b=>⟨v,by simp[HQ],a⟩) (fun n i hi ih v a b=> ?_) (Nat.zero_le _) k0 h0 (by omega);rw[HQ];simp (disch:=omega) only[Au,hi,decide_true,if_true,Ax hi,G,AT hi hlm,AF];obtain⟨r,r1,r2,r3⟩:=pas xs[i].Passages (v+1+1+1) (hp _ (List.getElem_mem hi)) (by omega) (by omega);rw[r1,G];exact ih r r2 (by omega)
theorem fV(xs:F E)(k:E)(h0:0≤k)(hk:k≤10000000000)(hl:xs.length≤1048576):∃ys,Ef xs k=T (k+1*(xs.length:E),ys)∧ys.length=xs.length∧JQ ys k=T (k+1*(xs.length:E)):=by
 unfold Ef JQ;refine A04 (Lm:=Dq) (Lh:=HN) xs 1 (fun k=>k) k h0 (by omega) hl hk (fun n i k acc hi ha k0 k1=> ?_) (fun n k acc=>by simp[Dq]) (fun n i k ys hi hy k0 k1 he=> ?_) (fun n k ys=>by simp[HN])
 ·simp (disch:=omega) only[Dq,Au,hi,decide_true,if_true,Ax hi,G,AT hi (DS ha),AF,H];rfl
 ·simp (disch:=omega) only[HN,Au,hi,decide_true,if_true,Ax hi,G,AT hi (DS hy),AF,he,bne_self_eq_false,N,if_false];rfl
theorem law_FnExactAccountOf(a:X7)(cs:F Xa)(l:F X2)(ok:DsOk [.ag (X7.row a),.sc (.sl (List.map Xa.row cs)),.sc (.sl (List.map X2.row l))]):Mw a cs l=T true:=by
 unfold Mw;obtain⟨q1,q2,q3,q4,q5,s⟩:=wU ok.ag.1;have hcm:=Er (row:=Xa.row) ok.ag.2.sc.1;obtain⟨o1,o2⟩:=A18 ok.ag.2.sc.2.sc.1;obtain⟨r,e,k⟩:=A5q (a:=a) (l:=1048576) (by omega) (by omega) q1 q2 q3 q4 q5 s;by_cases hr:r<0
 ·simp[e,hr]
 obtain⟨b0,b1,b2,b3,b4,b5,b6⟩:=k (by omega)
 have hsz:MP cs r=T (if r - (cs.length:E)<0 then -1 else r - (cs.length:E)):=by
  unfold MP;rw[AN] at hcm
  rw[AF (by omega) (by omega)];split<;>split<;>simp_all
 by_cases hc:r - (cs.length:E)<0
 ·simp[e,hr,hsz,hc]
 have kc:cs.length≤1048576:=by omega
 obtain⟨r',e',k'⟩:=A5s (xs:=l) (l:=r - (cs.length:E)) (by omega) (by omega) o1 o2;by_cases hr':r'<0
 ·simp[e,hr,hsz,hc,e',hr']
 obtain⟨_,c1,c2⟩:=k' (by omega);obtain⟨x,x1,x2,x3,x4⟩:=oI s (cs:=cs) c1 c2;obtain⟨m1,f1,g1,g2⟩:=A02 a b1 b2 b3 b4 b5 b6
 obtain⟨m2,f2,g3,g4⟩:=IN (Lm:=F0) 5 (by omega) (fun n i k acc hi h0 h1=>⟨_,by
  simp (disch:=omega) only[F0,Au,hi,decide_true,if_true,Ax hi,G,H,KA hi,O,AF,fH];rfl⟩) (fun n k acc=>by simp[F0]) cs m1.1 g1 (by omega) kc
 have f2:JR cs m1.1=T m2:=f2;obtain⟨m3,f3,g5⟩:=A03 (xs:=l) g3 (by omega) c1 c2;obtain⟨w,w1,w2,w3⟩:=fV x.1.Waits 1 (by omega) (by omega) (by omega);obtain⟨v,v1,v2,v3⟩:=fV x.1.Calls (1+1*(x.1.Waits.length:E)) (by omega) (by omega) (by omega);have ma:HO x.1 1=T (1+1*(x.1.Waits.length:E)+1*(x.1.Calls.length:E),w,v):=by simp only[HO,w1,G,v1]
 have hd:JP ⟨w,v⟩ 1=T (1+1*(x.1.Waits.length:E)+1*(x.1.Calls.length:E)):=by
  have n1:¬1+1*(x.1.Waits.length:E)<0:=by omega
  have n2:¬1+1*(x.1.Waits.length:E)+1*(x.1.Calls.length:E)<0:=by omega
  simp only[JP,w3,G,n1,decide_false,N,if_false,v3,n2]
 have ea:HC x.1 x.1=T true:=by simp[HC,VW (xs:=x.1.Waits) (ys:=x.1.Waits) (Bb (by omega)),VW (xs:=x.1.Calls) (ys:=x.1.Calls) (Bb (by omega))]
 have n3:¬m3<0:=by omega
 have n4:¬1+1*(x.1.Waits.length:E)+1*(x.1.Calls.length:E)<0:=by omega
 simp only[e,hr,hsz,hc,e',hr',G,decide_false,N,if_false,A6d b1 b2 b3 b4 b5 b6,A58 kc,A6f c1 c2,x1,x2,ea,if_true,beq_self_eq_true,tK q1 q2 q3 q4 q5 s.mv,tE hcm,tL o1 o2,f1,f2,f3,n3,ma,hd,n4,bne_self_eq_false]
end Go.Vi
