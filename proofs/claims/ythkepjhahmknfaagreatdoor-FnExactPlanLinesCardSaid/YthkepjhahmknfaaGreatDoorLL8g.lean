/-
Plain law. No condition.
-/
import Derived.Test.YthkepjhahmknfaaGreatDoorLL8b
namespace Go.Vi
open Go.Lib
set_option linter.all false
open Option renaming bind_some → G, some → T
open Int renaming toNat_natCast → H
open List renaming set_set → N, getElem_mem → O
open Nat renaming zero_le → P
open _root_ renaming List → F, Int → E
theorem EM{m n:Nat}(h:m+n≤140737488355328):Ce m n=true:=by
 unfold Ce;simp only[decide_eq_true_eq];omega
theorem A7s{xs:F Xa}(h:xs.length≤1048576):G2 xs=T xs:=by
 unfold G2;rw[DU h (by omega)];have:=EO (L:=I0 xs) xs id (DS h) (fun n i acc hi ha=>by simp[I0,AA,hi,ha,Sa]) (fun n acc=>by simp[I0]) (List.replicate xs.length ⟨0,0,0,0,0⟩) (by simp);simpa using this
theorem tq{xs:F Xa}(h:xs.length≤maxLen):MD xs xs=T true:=by
 unfold MD;have:=EH (L:=HK xs xs) xs (fun _=>true) h (fun n i hi=>by simp[HK,AA,hi,S0]) (fun n=>by simp[HK]);simp[this]
theorem IS{α:Type}{Lm:Nat→E→E→F α→Option (E × F α)}(c:Nat)(hc:c≤10)
  (hm:∀(n i:Nat) (k:E) (acc:F α),i<acc.length→0≤k→k≤1000000000000→∃e,Lm (n+1) k (i:E) acc=Lm n (k+c) (IntKind.i64.wrap ((i:E)+1)) (acc.set i e))
  (he:∀(n:Nat) (k:E) (acc:F α),Lm (n+1) k (acc.length:E) acc=T (k,acc)) (xs:F α) (k0:E) (h0:0≤k0) (hk:k0≤100000000000) (hl:xs.length≤1048576):∃r,Lm bigN k0 0 xs=T r∧0≤r.1∧r.1≤k0+10485760:=by
 have hlm:xs.length≤maxLen:=B9 (by omega);refine BV (fun n i=>∀(k:E) acc,acc.length=xs.length→0≤k→k≤k0+(10*i:Nat)→∃r,Lm n k (i:E) acc=T r∧0≤r.1∧r.1≤k0+10485760) hlm (fun n k acc h1 h2 h3=>⟨(k,acc),by rw[← h1]; exact he n k acc,h2,by simp only; omega⟩) (fun n i hi ih k acc h1 h2 h3=> ?_) (P _) k0 xs rfl h0 (by omega);obtain⟨e,e1⟩:=hm n i k acc (by omega) h2 (by omega);rw[e1,AS hi hlm];exact ih _ _ (by simpa using h1) (by omega) (by omega)
theorem KG{α:Type}{l:F α}{i:Nat}{v:α}(h:i<l.length):ix (l.set i v) (i:E)=T v:=by rw[AA,List.getElem?_set_self h]
theorem WM(k:E)(h0:0≤k)(hk:k≤1000000000000):∃r,Ef k=T r:=by
 have key:∀(m n:Nat) (v:E) (acc:F UInt8),m<n→0≤v→v<10 ^ m→v≤1000000000000→acc.length+m≤1000→∃r,HZ n v acc=T r:=by
  intro m
  induction m with
  | zero=>
   intro n v acc hn h0 hv _ ha;obtain⟨q,rfl⟩:=sn (n:=n) (by omega);have hv0:¬(0:E)<v:=by simp at hv; omega
   exact⟨[109]++acc,by rw[HZ,if_neg (by simp[hv0]),if_pos (EM (by simp; omega))]⟩
  | succ m ih=>
   intro n v acc hn h0 hv hb ha;obtain⟨q,rfl⟩:=sn (n:=n) (by omega);rw[HZ];by_cases hp:(0:E)<v
   ·rw[if_pos (by simp[hp]),if_pos (EM (by simp; omega)),show Int.tdiv v 10=v / 10 from Int.tdiv_eq_ediv_of_nonneg h0,Az (by omega) (by omega)];refine ih q _ _ (by omega) (by omega) ?_ (by omega) (by simp; omega);have:(10:E) ^ (m+1)=10 ^ m*10:=Int.pow_succ 10 m;omega
   ·exact⟨[109]++acc,by rw[if_neg (by simp[hp]),if_pos (EM (by simp; omega))]⟩
 unfold Ef;by_cases h:k≤0
 ·exact⟨[109,48],by simp only[h,decide_true,if_true]⟩
 ·simp only[h,decide_false,Bool.false_eq_true,if_false];exact key 13 bigN k [] (BG (B9 (by omega))) h0 (by simp; omega) hk (by simp)
theorem kk2(k:E):k+1+1=k+(2:Nat):=by omega
theorem fq(k:E):k+1+1+1=k+(3:Nat):=by omega
theorem ft(k:E):k+1+1+1+1+1=k+(5:Nat):=by omega
theorem kk6(k:E):k+1+1+1+1+1+1=k+(6:Nat):=by omega
theorem A2e(a:X7)(b1:a.Forecast.Tide.Parts.length≤1048576)(b2:a.Forecast.Surges.length≤1048576)(b3:a.Chart.Points.length≤1048576)(b4:a.Chart.Segments.length≤1048576)(b5:a.Fleet.length≤1048576)(b6:a.Crew.Moves.length≤1048576) :
  ∃r,HV a 1=T r∧0≤r.1∧r.1≤1000000000:=by
 obtain⟨r1,e1,l1,u1⟩:=IS (Lm:=F3) 3 (by omega) (fun n i k acc hi h0 h1=>⟨_,by
  simp (disch:=omega) only[F3,At,hi,decide_true,if_true,Aw hi,G,H,KG hi,N,Az,fq];rfl⟩) (fun n k acc=>by simp[F3]) a.Forecast.Tide.Parts 1 (by omega) (by omega) b1
 obtain⟨r2,e2,l2,u2⟩:=IS (Lm:=F8) 3 (by omega) (fun n i k acc hi h0 h1=>⟨_,by
  simp (disch:=omega) only[F8,At,hi,decide_true,if_true,Aw hi,G,H,KG hi,N,Az,fq];rfl⟩) (fun n k acc=>by simp[F8]) a.Forecast.Surges r1.1 l1 (by omega) b2
 obtain⟨r3,e3,l3,u3⟩:=IS (Lm:=F4) 2 (by omega) (fun n i k acc hi h0 h1=>by
  obtain⟨t,ht⟩:=WM k h0 h1
  exact⟨_,by
   simp (disch:=omega) only[F4,ht,At,hi,decide_true,if_true,Aw hi,G,H,KG hi,N,Az,kk2];rfl⟩) (fun n k acc=>by simp[F4]) a.Chart.Points r2.1 l2 (by omega) b3
 obtain⟨r4,e4,l4,u4⟩:=IS (Lm:=F5) 5 (by omega) (fun n i k acc hi h0 h1=>⟨_,by
  simp (disch:=omega) only[F5,At,hi,decide_true,if_true,Aw hi,G,H,KG hi,N,Az,ft];rfl⟩) (fun n k acc=>by simp[F5]) a.Chart.Segments r3.1 l3 (by omega) b4
 obtain⟨r5,e5,l5,u5⟩:=IS (Lm:=F6) 6 (by omega) (fun n i k acc hi h0 h1=>by
  obtain⟨t,ht⟩:=WM k h0 h1
  exact⟨_,by
   simp (disch:=omega) only[F6,ht,At,hi,decide_true,if_true,Aw hi,G,H,KG hi,N,Az,kk6];rfl⟩) (fun n k acc=>by simp[F6]) a.Fleet r4.1 l4 (by omega) b5
 obtain⟨r6,e6,l6,u6⟩:=IS (Lm:=F2) 1 (by omega) (fun n i k acc hi h0 h1=>⟨_,by
  simp (disch:=omega) only[F2,At,hi,decide_true,if_true,Aw hi,G,H,Az];rfl⟩) (fun n k acc=>by simp[F2]) a.Crew.Moves r5.1 l5 (by omega) b6
 refine⟨(r6.1,r1.2,r2.2,r3.2,r4.2,r5.2,r6.2),?_,l6,by simp only; omega⟩;simp only[HV,JX,K4,JZ,e1,G,K3,e2,JV,K0,e3,K1,e4,K2,e5,JW,JY,e6]
theorem A2f{xs:F X2}{k0:E}(h0:0≤k0)(hk:k0≤1000000000000)(hl:xs.length≤1048576)(hp:∀x∈xs,x.Passages.length≤1048576):∃r,S5 xs k0=T r∧0≤r:=by
 have hlm:xs.length≤maxLen:=B9 (by omega)
 have pas:∀(ps:F X1) (k:E),ps.length≤1048576→0≤k→k≤1000000000000000→∃r,S6 ps k=T r∧0≤r∧r≤k+10485760:=fun ps k hl h0 h1=>by
  have hm:ps.length≤maxLen:=B9 (by omega);refine BV (fun n i=>∀v:E,0≤v→v≤k+(10*i:Nat)→∃r,HX ps n v (i:E)=T r∧0≤r∧r≤k+10485760) hm (fun n v a b=>⟨v,by simp[HX],a,by omega⟩) (fun n i hi ih v a b=> ?_) (P _) k h0 (by omega);rw[HX];simp (disch:=omega) only[At,hi,decide_true,if_true,Aw hi,G,AS hi hm,Az];exact ih _ (by omega) (by omega)
 refine BV (fun n i=>∀v:E,0≤v→v≤k0+(20000000*i:Nat)→∃r,HW xs n v (i:E)=T r∧0≤r) hlm (fun n v a b=>⟨v,by simp[HW],a⟩) (fun n i hi ih v a b=> ?_) (P _) k0 h0 (by omega);rw[HW];simp (disch:=omega) only[At,hi,decide_true,if_true,Aw hi,G,AS hi hlm,Az];obtain⟨r,r1,r2,r3⟩:=pas xs[i].Passages (v+1+1+1) (hp _ (O hi)) (by omega) (by omega);rw[r1,G];exact ih r r2 (by omega)
theorem A2g(xs:F (F UInt8))(hl:xs.length≤1048576):∃ys,HY xs 1=T (1+1*(xs.length:E),ys)∧ys.length=xs.length∧JT ys 1=T (1+1*(xs.length:E)):=by
 unfold HY JT;refine A2h (Lm:=F7) (Lh:=HU) xs 1 (fun k=>(Ef k).getD []) 1 (by omega) (by omega) hl (by omega) (fun n i k acc hi ha k0 k1=> ?_) (fun n k acc=>by simp[F7]) (fun n i k ys hi hy k0 k1 he=> ?_) (fun n k ys=>by simp[HU]);all_goals obtain⟨t,ht⟩:=WM k k0 (by omega)
 ·simp (disch:=omega) only[F7,At,hi,decide_true,if_true,ht,Option.getD_some,Aw hi,G,AS hi (DS ha),Az,H];rfl
 ·rw[ht,Option.getD_some] at he
  simp (disch:=omega) only[HU,At,hi,decide_true,if_true,ht,Aw hi,G,AS hi (DS hy),Az,he,beq_self_eq_true];rfl
def wd(w:Xl):F UInt8:=if w.isS=true then w.s else itoa w.n
theorem B4e{ws:F Xl}(hl:ws.length≤100)(h:∀w∈ws,w.isS=true∨i64 w.n)(hj:(join (ws.map wd) [32]).length≤140737488355328):MB ws=T (join (ws.map wd) [32]):=by
 unfold MB;rw[KX (L:=HJ ws) ws wd (fun v=>(JF v ([32]:F UInt8)).bind fun r7=>T r7) (B9 (by omega)) (fun n i acc hi ha=> ?_) (fun n acc _=>by rw[HJ,if_neg (by simp)]),ye (by simp; omega) hj]
 ·rfl
 ·have hw:MA ws[i]=T (wd ws[i]):=by
   unfold MA wd;rcases h _ (O hi) with e|e
   ·simp[e]
   ·split
    ·rfl
    ·rw[yd e]; rfl
  rw[HJ,At,if_pos (by simpa using hi),Aw hi,G,hw,G,if_pos (CK (by omega) (by simp) (by omega))]
def TE(o:X2):Prop:=i64 o.Start∧i64 o.Arrival∧i64 o.Cost
theorem A1z{h:X7}(hh:BQ h=true){cs:F Xa}{pl:F X2}(hl:pl.length≤12)(hlen:pl.length=cs.length)(hcs:∀a∈cs,CV h a=true)(ho:∀o∈pl,TE o) :
  ∃r,Gb pl cs h bigN 0 []=T r∧FP cs pl h bigN 0 []=T r∧r.length=pl.length:=by
 have hlm:pl.length≤maxLen:=B9 (by omega)
 refine BV (fun n i=>∀v:F (F UInt8),v.length=i→∃r,Gb pl cs h n (i:E) v=T r∧FP cs pl h n (i:E) v=T r∧r.length=pl.length) hlm
  (fun n v h1=>⟨v,by rw[Gb,if_neg (by rw[hlen]; simp)],by rw[FP,if_neg (by simp)],h1⟩) (fun n i hi ih v h1=> ?_) (P _) _ rfl
 have hi':i<cs.length:=by omega
 have ha:=hcs _ (O hi');simp only[CV,Bool.and_eq_true] at ha
 obtain⟨s1,s2⟩:=IP ha.1;have hso:=(Kw (El hh).2.2.1).2 _ s2;simp only[CG,DR,KQ,Bool.and_eq_true,decide_eq_true_eq] at hso
 have hn:=hso.1.1.2;obtain⟨a1,a2,a3⟩:=ho _ (O hi);have l1:=SP a1;have l2:=SP a2;have l3:=SP a3;have ea:AJ v.length 1 16=true:=CK (by omega) (by omega) (by omega);rw[Gb,FP];simp only[At,hi,hi',decide_true,if_true,Aw hi,Aw hi',G,s1,AS hi hlm,Wj a1,Wj a2,Wj a3];rw[B4e (by simp) (by simp[a1,a2,a3]) (by simp[wd,join]; omega),G];simp only[List.length_cons,List.length_nil,Nat.zero_add,ea,if_true];rw[if_pos (EM (by simp; omega)),if_pos (EM (by simp; omega)),if_pos (EM (by simp; omega)),if_pos (EM (by simp; omega)),if_pos (EM (by simp; omega)),if_pos (EM (by simp; omega))];have e:∀nm:F UInt8,join ([(⟨true,nm,0⟩:Xl),(⟨true,[115,116,97,114,116],0⟩:Xl),(⟨false,[],pl[i].Start⟩:Xl),(⟨true,[97,114,114,105,118,101],0⟩:Xl),(⟨false,[],pl[i].Arrival⟩:Xl),(⟨true,[119,97,105,116],0⟩:Xl),(⟨false,[],pl[i].Cost⟩:Xl)].map wd) [32]=((((((nm++ [32,115,116,97,114,116,32])++itoa pl[i].Start)++ [32,97,114,114,105,118,101,32])++itoa pl[i].Arrival)++ [32,119,97,105,116,32])++itoa pl[i].Cost):=fun nm=>by simp[wd,join]
 rw[e];exact ih _ (by simp[h1])
theorem A34{h:X7}(s:HSmall h){cs:F Xa}{pl:F X2}(hpl:pl.length≤1048576)(hp:∀o∈pl,o.Passages.length≤1048576)(ho:∀o∈pl,TE o) :
  ∃r,NH h cs pl=T r∧JJ h cs pl=T r∧r.length≤12:=by
 obtain⟨b,b1,b2,b3⟩:=A0f s (cs:=cs) hpl hp;unfold NH JJ;rw[b1,b2,G,G];cases b with
 | false=>exact⟨_,rfl,rfl,by simp⟩
 | true=>
  obtain⟨hh,h6,hlen,hcs⟩:=b3 rfl;obtain⟨r,r1,r2,r3⟩:=A1z hh (by omega) hlen hcs ho;exact⟨r,by simp only[if_true,r1],by simp only[if_true,r2],by omega⟩
theorem law_FnExactPlanLines(a:X7)(cs:F Xa)(l:F X2)(ok:DsOk [.ag (X7.row a),.sc (.sl (List.map Xa.row cs)),.sc (.sl (List.map X2.row l))]):MC a cs l=T true:=by
 unfold MC;obtain⟨q1,q2,q3,q4,q5,s⟩:=xN ok.ag.1;have hcm:=Er (row:=Xa.row) ok.ag.2.sc.1;obtain⟨o1,o2⟩:=A3m ok.ag.2.sc.2.sc.1;obtain⟨r,e,k⟩:=A67 (a:=a) (l:=1048576) (by omega) (by omega) q1 q2 q3 q4 q5 s;by_cases hr:r<0
 ·simp[e,hr]
 obtain⟨b0,b1,b2,b3,b4,b5,b6⟩:=k (by omega)
 have hsz:MW cs r=T (if r - (cs.length:E)<0 then -1 else r - (cs.length:E)):=by
  unfold MW;rw[AO] at hcm
  rw[Az (by omega) (by omega)];split<;>split<;>simp_all
 by_cases hc:r - (cs.length:E)<0
 ·simp[e,hr,hsz,hc]
 have kc:cs.length≤1048576:=by omega
 obtain⟨r',e',k'⟩:=A69 (xs:=l) (l:=r - (cs.length:E)) (by omega) (by omega) o1 o2;by_cases hr':r'<0
 ·simp[e,hr,hsz,hc,e',hr']
 obtain⟨_,c1,c2⟩:=k' (by omega)
 have o64:∀o∈l,TE o:=fun o ho=>by
  have k:=ok.ag.2.sc.2.sc.1.sl.2 (X2.row o) (List.mem_map_of_mem ho);exact⟨(k (.int .i64 o.Start) (by simp[X2.row_eq])).int,(k (.int .i64 o.Arrival) (by simp[X2.row_eq])).int,(k (.int .i64 o.Cost) (by simp[X2.row_eq])).int⟩
 obtain⟨x,x1,x2,x3⟩:=A34 s (cs:=cs) c1 c2 o64;obtain⟨m1,f1,g1,g2⟩:=A2e a b1 b2 b3 b4 b5 b6
 obtain⟨m2,f2,g3,g4⟩:=IS (Lm:=F1) 5 (by omega) (fun n i k acc hi h0 h1=>⟨_,by
  simp (disch:=omega) only[F1,At,hi,decide_true,if_true,Aw hi,G,H,KG hi,N,Az,ft];rfl⟩) (fun n k acc=>by simp[F1]) cs m1.1 g1 (by omega) kc
 have f2:JU cs m1.1=T m2:=f2;obtain⟨m3,f3,g5⟩:=A2f (xs:=l) g3 (by omega) c1 c2;obtain⟨w,w1,w2,w3⟩:=A2g x (by omega);have ea:FY x x=T true:=uN (B9 (by omega));have n3:¬m3<0:=by omega
 have n4:¬1+1*(x.length:E)<0:=by omega
 simp only[e,hr,hsz,hc,e',hr',G,decide_false,Bool.false_eq_true,if_false,A7x b1 b2 b3 b4 b5 b6,A7s kc,A7z c1 c2,x1,x2,ea,if_true,tz q1 q2 q3 q4 q5 s.mv,tq hcm,uB o1 o2,f1,f2,f3,n3,w1,w3,n4,bne_self_eq_false]
end Go.Vi
