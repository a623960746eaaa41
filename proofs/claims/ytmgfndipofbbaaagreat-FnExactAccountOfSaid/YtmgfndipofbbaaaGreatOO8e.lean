/-
Plain laws. No condition.
-/
import Derived.Test.YtmgfndipofbbaaaGreatOO8d
namespace Go.Vi
set_option linter.all false
open Option renaming bind_some → U, some → O
open List renaming getElem_mem → V, length_pos_iff → X, drop_eq_getElem_cons → Y, head?_eq_getElem? → Z, append_assoc → zA, getElem?_append_left → zB, getElem?_eq_getElem → zD, mem_map → zE, replicate → zF
open Bool renaming false_eq_true → W, and_eq_true → zC, true → E, false → G
open Nat renaming zero_le → A, testBit_two_pow_sub_one → I
open _root_ renaming List → P, Int → Q
theorem fL{B C:Nat→Nat→Bool}{N M n m:Nat}(h:N≤M)(e:∀i j,i<N→j<N→B i j=C i j)(H:Ck B (2 ^ N - 1) n)(K:Ck C (2 ^ M - 1) m):n≤m:=by
 obtain⟨f,f1,f2⟩:=K.1
 have b:∀i,(2 ^ N - 1).testBit i=E→i<N∧(2 ^ M - 1).testBit i=E:=fun i hi=>by
  rw[I,decide_eq_true_eq] at hi
  exact⟨hi,by rw[I,decide_eq_true_eq]; omega⟩
 exact H.2 m ⟨f,fun i hi=>f1 i (b i hi).2,fun i j hi hj hne he=>by rw[e i j (b i hi).1 (b j hj).1]; exact f2 i j (b i hi).2 (b j hj).2 hne he⟩
theorem YF{p:Q}{m:P Q}{l k:P X8}{i j:Nat}(hi:i<l.length)(hj:j<l.length):Bj p m l i j=Bj p m (l++k) i j:=by
 unfold Bj;rw[zB hi,zB hj]
theorem Jq{p:Q}{m:P Q}{l:P X8}(hm:m.length≤maxLen)(h1:l.length≤12)(h2:∀d∈l,Bw d=E)(h3:Cq p=E)(h4:Eu m=E) :
  ∃n:Nat,Ck (Bj p m l) (2 ^ l.length - 1) n∧(∃w,Ig p m l=O (w,(n:Q),E))∧∀k:Q,FO p m l k=O (decide ((n:Q)≤k)):=by
 obtain⟨n,w1,w2,n12,n1,e1,e2⟩:=oE hm (oN h1 h2 h3 h4);refine⟨n,n1,⟨w1,e1⟩,fun k=> ?_⟩;have hn:n≤l.length:=n1.2 _ (Rx (by have:=Nat.pow_pos (n:=l.length) (show 0<2 by omega); omega));unfold FO;by_cases hk:(l.length:Q)≤k
 ·have:(n:Q)≤k:=by omega
  simp[hk,this]
 ·simp[hk,e2]
section
variable {c : X6} {fl : P X5}
def BW(c:X6)(fl:P X5)(all:P X1):P X8:=all.flatMap fun p=>zF (BV fl p.Ship).Tugs.toNat (CM c p p)
def GD(l:P X8):P X8 × Bool:=if l.length≤12 then(l,E) else([],G)
theorem iU(hn:∀x∈c.Points,x.Name.length≤maxLen)(hf:∀x∈fl,x.Name.length≤maxLen)(hc:Be c=E)(hfl:Dv fl=E){all:P X1}(hl:all.length≤maxLen)(hp:∀p∈all,Cd c fl p=E) :
  Sm c fl all=O (GD (BW c fl all))∧Ms c fl all=O (GD (BW c fl all)):=by
 refine BZ (fun n i=>∀acc:P X8,acc.length≤12→Fe fl all c n (i:Q) acc=O (GD (acc++BW c fl (all.drop i)))∧EY fl all c n (i:Q) acc=O (GD (acc++BW c fl (all.drop i)))) hl
  (fun n acc ha=>by simp[Fe,EY,BW,GD,ha]) (fun n i h ih acc ha=> ?_) (A _) [] (by simp)
 have hpi:=hp _ (V h);obtain⟨f1,f2,f3,f4,f5⟩:=DC hc hpi;obtain⟨s1,s2⟩:=IK f1;have hso:=(Kq hfl).2 _ s2
 have hT:0≤(BV fl all[i].Ship).Tugs∧(BV fl all[i].Ship).Tugs≤4:=by
  simp only[CG,zC,decide_eq_true_eq] at hso
  omega
 have hTe:(BV fl all[i].Ship).Tugs=((BV fl all[i].Ship).Tugs.toNat:Q):=by omega
 have hd:BW c fl (all.drop i)=zF (BV fl all[i].Ship).Tugs.toNat (CM c all[i] all[i])++BW c fl (all.drop (i+1)):=by
  rw[Y h]; rfl
 rw[Fe,EY,hd];simp only[Au,h,decide_true,if_true,Ax h,U,gg hn hf hc hfl,xF hn hf hc hfl,hpi,OI f2,s1];generalize (BV fl all[i].Ship).Tugs.toNat=T at *
 have g1:=A6t (c:=c) (p:=all[i]) s1 f2 all (i:Q) (Fe fl all c n) hTe (by omega) T 0 bigN acc (by omega) (by rw[D0]; omega) (by omega);have g2:=A6s (c:=c) (fl:=fl) (p:=all[i]) f2 all (i:Q) (EY fl all c n) hTe (by omega) T 0 bigN acc (by omega) (by rw[D0]; omega) (by omega);have g1:Gg fl (Cy c all[i]) all (i:Q) c all[i] (Fe fl all c n) bigN 0 acc=_:=g1;have g2:FU fl all (i:Q) (BV fl all[i].Ship) c all[i] (EY fl all c n) bigN 0 acc=_:=g2;rw[g1,g2,← zA,AT h hl];generalize acc++zF T (CM c all[i] all[i])=ac2 at ih ⊢
 by_cases h12:(12:Q)<(ac2.length:Q)
 ·have:¬ac2.length+(BW c fl (all.drop (i+1))).length≤12:=by omega
  simp[h12,GD,this]
 ·simp only[h12,decide_false,W,if_false];exact ih ac2 (by omega)
theorem Xu(hc:Be c=E){all:P X1}(hp:∀p∈all,Cd c fl p=E):∀d∈BW c fl all,Bw d=E:=fun d hd=>by
 obtain⟨p,hpm,hd⟩:=List.mem_flatMap.1 hd;rw[(List.mem_replicate.1 hd).2];have:=DC hc (hp p hpm);exact di hc this.2.1 this.2.1 this.2.2.1 (Oy hc (hp p hpm)) this.2.2.2.2
def Ej(l:P X1):X1:=l.head?.getD ⟨0,0,G,0,0⟩
def Gp(l:P X1):X1:=l.getLast?.getD ⟨0,0,G,0,0⟩
def C3(c:X6)(pl:P X2):P X8:=pl.map fun o=>CM c (Ej o.Passages) (Gp o.Passages)
theorem VU{l:P X1}(h:l≠ []):l.head?=O (Ej l)∧l.getLast?=O (Gp l):=by
 cases l with
 | nil=>exact absurd rfl h
 | cons a l=>
  refine⟨rfl,?_⟩;unfold Gp;cases e:(a::l).getLast? with
  | none=>rw[List.getLast?_eq_none_iff] at e; cases e
  | some x=>rfl
theorem GoodP.duty{l:P X1}(hc:Be c=E)(H:GoodP c fl l):Cd c fl (Ej l)=E∧Cd c fl (Gp l)=E∧Bw (CM c (Ej l) (Gp l))=E:=by
 obtain⟨e1,e2⟩:=VU H.ne;have i1:=H.inn _ (List.mem_of_head? e1);have i2:=H.inn _ (List.mem_of_getLast? e2);have f1:=DC hc i1;have f2:=DC hc i2;have hpos:=X.2 H.ne
 have hlt:∀j (h:j<l.length),(l[0]'hpos).Start<l[j].End:=by
  intro j
  induction j with
  | zero=>intro h; exact Oy hc (H.inn _ (V h))
  | succ j ih=>
   intro h;have g1:=ih (by omega);have g2:=(H.link j h).2;have g3:=Oy hc (H.inn _ (V h));omega
 have s1:l[0]'hpos=Ej l:=by rw[Z,zD hpos] at e1; exact Option.some.inj e1
 have s2:l[l.length - 1]'(by omega)=Gp l:=by rw[List.getLast?_eq_getElem?,zD (by omega)] at e2; exact Option.some.inj e2
 have:=hlt (l.length - 1) (by omega);rw[s1,s2] at this
 exact⟨i1,i2,di hc f1.2.1 f2.2.1 f1.2.2.1 this f2.2.2.2.2⟩
theorem A2p(hn:∀x∈c.Points,x.Name.length≤maxLen)(hf:∀x∈fl,x.Name.length≤maxLen)(hc:Be c=E)(hfl:Dv fl=E){l:P X1}(hl:l.length≤100000000)(H:GoodP c fl l):Ny c fl l=O (CM c (Ej l) (Gp l),E):=by
 have hlm:l.length≤maxLen:=Bb (by omega);have hpos:=X.2 H.ne;have h10:=(DK hc).2.1;obtain⟨e1,e2⟩:=VU H.ne;obtain⟨i1,i2,_⟩:=H.duty hc;have h00:ix l (0:Q)=O (Ej l):=by have:=Ay l 0; rw[← Z,e1] at this; exact this
 obtain⟨sh,hsh⟩:=H.ship
 have chain:Np c l=O E:=by
  unfold Np;rw[Fw hn,hc,U,if_pos rfl];refine BZ (fun n i=>G2 l c n (i:Q)=O E) hlm (fun n=>by simp[G2]) (fun n i h ih=> ?_) (A _);have hs:=(DC hc (H.inn _ (V h))).2.1;have hq:(l[i].Ship !=(Ej l).Ship)=G:=by rw[hsh _ (V h),hsh _ (List.mem_of_head? e1)]; simp
  rw[G2];simp only[Au,h,decide_true,if_true,Ax h,h00,U,hq,W,if_false,Dw _ (show c.Segments.length≤1000 by omega),hs,AT h hlm,ih];cases i with
  | zero=>rfl
  | succ i=>
   have hz:(((i+1:Nat):Q)==(0:Q))=G:=beq_eq_false_iff_ne.2 (by omega)
   have ew:IntKind.i64.wrap (((i+1:Nat):Q) - 1)=(i:Q):=by
    rw[show((i+1:Nat):Q) - 1=(i:Q) by omega];exact AF (by omega) (by omega)
   have hi:i<l.length:=by omega
   have hs':=(DC hc (H.inn _ (V hi))).2.1;obtain⟨k1,k2⟩:=H.link i h;have hx:¬l[i+1].Start<l[i].End:=by omega
   simp only[hz,W,if_false,OI hs,ew,Ax hi,U,OI hs',k1,bne_self_eq_false,hx,decide_false]
 unfold Ny Nz;have hz:((l.length:Q)==(0:Q))=G:=beq_eq_false_iff_ne.2 (by omega);simp only[hz,W,if_false,chain,U,Bool.not_true];refine BZ (fun n i=>Ik fl l c n (i:Q)=O (CM c (Ej l) (Gp l),E)) hlm (fun n=> ?_) (fun n i h ih=> ?_) (A _)
 ·have s1:=(DC hc i1).2.1;have s2:=(DC hc i2).2.1;rw[Ik,if_neg (by simp),SR hlm e2,U,h00,U,OI s1,U,OI s2,U];rfl
 ·rw[Ik];simp only[Au,h,decide_true,if_true,Ax h,U,gg hn hf hc hfl,H.inn _ (V h),AT h hlm,ih]
end
def BJ(pl:P X2):P X1:=(BY pl).flatten
def FitP(h:X7)(pl:P X2):Prop:=
 (BW h.Chart h.Fleet (BJ pl)).length≤12∧(∃n:Nat,Ck (Bj 0 h.Crew.Moves (BW h.Chart h.Fleet (BJ pl))) (2 ^ (BW h.Chart h.Fleet (BJ pl)).length - 1) n∧(n:Q)≤h.Crew.Tugs)∧
  ∃n:Nat,Ck (Bj h.Crew.Rest h.Crew.Moves (C3 h.Chart pl)) (2 ^ (C3 h.Chart pl).length - 1) n∧(n:Q)≤h.Crew.Pilots
theorem fM{B:Nat→Nat→Bool}{S n m:Nat}(H:Ck B S n)(K:Ck B S m):n=m:=Nat.le_antisymm (H.2 _ K.1) (K.2 _ H.1)
def E1(h:X7)(pl:P X2):Prop:=∀o∈pl,GoodP h.Chart h.Fleet o.Passages∧o.Passages.length≤1048576
theorem NW{h:X7}{pl:P X2}(H:E1 h pl):∀p∈BJ pl,Cd h.Chart h.Fleet p=E:=fun p hp=>by
 obtain⟨l,hl,hp⟩:=List.mem_flatten.1 hp;obtain⟨o,ho,rfl⟩:=zE.1 hl;exact(H o ho).1.inn p hp
theorem WI{h:X7}{pl:P X2}(hc:Be h.Chart=E)(H:E1 h pl):∀d∈C3 h.Chart pl,Bw d=E:=fun d hd=>by
 obtain⟨o,ho,rfl⟩:=zE.1 hd;exact((H o ho).1.duty hc).2.2
theorem FitP.app{h:X7}{pl ql:P X2}(hh:BS h=E)(s:HSmall h)(H:E1 h (pl++ql))(hl:pl.length≤12)(F:FitP h (pl++ql)):FitP h pl:=by
 obtain⟨_,hc,_,_,hw⟩:=Ek hh;obtain⟨m1,m2⟩:=VP hw;have Hp:E1 h pl:=fun o ho=>H o (List.mem_append_left _ ho)
 have et:BW h.Chart h.Fleet (BJ (pl++ql))=BW h.Chart h.Fleet (BJ pl)++BW h.Chart h.Fleet (BJ ql):=by simp[BJ,BY,BW,List.flatMap_append]
 have ep:C3 h.Chart (pl++ql)=C3 h.Chart pl++C3 h.Chart ql:=by simp[C3]
 obtain⟨f1,⟨n,f2,f3⟩,m,f4,f5⟩:=F;rw[et] at f1 f2
 rw[ep] at f4
 have l1:(BW h.Chart h.Fleet (BJ pl)).length≤12:=by rw[List.length_append] at f1; omega
 obtain⟨n',k1,_,_⟩:=Jq (p:=0) s.mv l1 (Xu hc (NW Hp)) (by decide) m2;obtain⟨m',k2,_,_⟩:=Jq (p:=h.Crew.Rest) s.mv (l:=C3 h.Chart pl) (by simpa[C3] using hl) (WI hc Hp) m1 m2;have q1:=fL (by simp) (fun i j hi hj=>YF hi hj) k1 f2;have q2:=fL (by simp) (fun i j hi hj=>YF hi hj) k2 f4;exact⟨l1,⟨n',k1,by omega⟩,m',k2,by omega⟩
theorem FitP.iff{h:X7}{pl:P X2}{n m:Nat}(h12:(BW h.Chart h.Fleet (BJ pl)).length≤12)(k1:Ck (Bj 0 h.Crew.Moves (BW h.Chart h.Fleet (BJ pl))) (2 ^ (BW h.Chart h.Fleet (BJ pl)).length - 1) n)(k4:Ck (Bj h.Crew.Rest h.Crew.Moves (C3 h.Chart pl)) (2 ^ (C3 h.Chart pl).length - 1) m) :
  (n:Q)≤h.Crew.Tugs∧(m:Q)≤h.Crew.Pilots↔FitP h pl:=by
 constructor
 ·rintro⟨a,b⟩
  exact⟨h12,⟨n,k1,a⟩,m,k4,b⟩
 ·rintro⟨_,⟨n',a1,a2⟩,m',b1,b2⟩
  rw[fM k1 a1,fM k4 b1];exact⟨a2,b2⟩
theorem eG{h:X7}{pl:P X2}(hl:pl.length≤12)(H:E1 h pl):(BJ pl).length≤1000000000000:=by
 have:∀(ql:P X2),(∀o∈ql,o.Passages.length≤1048576)→(BJ ql).length≤ql.length*1048576:=by
  intro ql
  induction ql with
  | nil=>intro _; simp[BJ,BY]
  | cons o ql ih=>
   intro h;have h1:=ih fun x hx=>h x (List.mem_cons_of_mem _ hx)
   have h2:=h o (List.mem_cons_self ..);have e:BJ (o::ql)=o.Passages++BJ ql:=rfl;rw[e,List.length_append,List.length_cons];omega
 have:=this pl fun o ho=>(H o ho).2
 omega
theorem qR{h:X7}(s:HSmall h)(hh:BS h=E){pl:P X2}(hl:pl.length≤12)(H:E1 h pl):∃b,Ec h pl=O b∧(b=E↔FitP h pl):=by
 obtain⟨_,hc,hfl,_,hw⟩:=Ek hh;obtain⟨m1,m2⟩:=VP hw;have hlm:pl.length≤maxLen:=Bb (by omega)
 have key:=BZ (fun n i=>∀v2 v3,v2.length≤i*1048576→v3.length=i→FP pl h n (i:Q) v2 v3=(Ms h.Chart h.Fleet (v2++BJ (pl.drop i))).bind fun r12=>
   if r12.2 then(FO 0 h.Crew.Moves r12.1 h.Crew.Tugs).bind fun r14=>if r14 then(FO h.Crew.Rest h.Crew.Moves (v3++C3 h.Chart (pl.drop i)) h.Crew.Pilots).bind fun r16=>O r16 else O G else O G) hlm
  (fun n v2 v3 h1 h2=>by rw[FP,if_neg (by simp)]; simp[BJ,BY,C3]) (fun n i hi ih v2 v3 h1 h2=> ?_) (A _) [] [] (by simp) rfl
 ·have key:Ec h pl=_:=key;rw[key,List.drop_zero,List.nil_append,List.nil_append,(iU s.pn s.fn hc hfl (Bb (eG hl H)) (NW H)).2,U];unfold GD;by_cases h12:(BW h.Chart h.Fleet (BJ pl)).length≤12
  ·obtain⟨n,k1,_,k3⟩:=Jq (p:=0) s.mv h12 (Xu hc (NW H)) (by decide) m2;obtain⟨m,k4,_,k6⟩:=Jq (p:=h.Crew.Rest) s.mv (l:=C3 h.Chart pl) (by simpa[C3] using hl) (WI hc H) m1 m2;simp only[h12,if_true,k3,k6,U];refine⟨decide ((n:Q)≤h.Crew.Tugs)&&decide ((m:Q)≤h.Crew.Pilots),by by_cases q:(n:Q)≤h.Crew.Tugs<;>simp[q],?_⟩;simp only[zC,decide_eq_true_eq];exact FitP.iff h12 k1 k4
  ·simp only[h12,if_false];exact⟨G,rfl,⟨(fun h=>by cases h),fun F=>absurd F.1 h12⟩⟩
 ·obtain⟨g1,g2⟩:=H _ (V hi);obtain⟨e1,e2⟩:=VU g1.ne;obtain⟨i1,i2,_⟩:=g1.duty hc;have hz:(0:Q)<(pl[i].Passages.length:Q):=by have:=X.2 g1.ne; omega
  have h00:ix pl[i].Passages (0:Q)=O (Ej pl[i].Passages):=by have:=Ay pl[i].Passages 0; rw[← Z,e1] at this; exact this
  rw[FP];simp only[Au,hi,decide_true,if_true,Ax hi,U,hz,h00,SR (Bb (by omega)) e2,eX (DC hc i1).2.1 (DC hc i2).2.1];rw[if_pos (Pd (by omega) (by omega)),if_pos (CZ (by omega) (by simp) (by omega)),AT hi hlm,ih _ _ (by simp; omega) (by simp; omega)];simp only[Y hi,BJ,BY,C3,List.map_cons,List.flatten_cons,zA,List.singleton_append]
theorem A4w{h:X7}(s:HSmall h)(hh:BS h=E){pl:P X2}(hl:pl.length≤12)(H:E1 h pl):∃b,Sd h.Crew h.Chart h.Fleet (BY pl)=O b∧(b=E↔FitP h pl):=by
 obtain⟨_,hc,hfl,_,hw⟩:=Ek hh;obtain⟨m1,m2⟩:=VP hw;have hlm:pl.length≤maxLen:=Bb (by omega);obtain⟨m,k4,⟨w4,k5⟩,_⟩:=Jq (p:=h.Crew.Rest) s.mv (l:=C3 h.Chart pl) (by simpa[C3] using hl) (WI hc H) m1 m2
 have pil:NA h.Crew h.Chart h.Fleet (BY pl)=O (m:Q):=by
  unfold NA;rw[WQ s.mv,hw,U,if_pos rfl];have hcl:(BY pl).length=pl.length:=by simp[BY]
  refine BZ (fun n i=>∀v,v.length=i→v++C3 h.Chart (pl.drop i)=C3 h.Chart pl→G6 h.Fleet (BY pl) h.Crew h.Chart n (i:Q) v=O (m:Q)) hlm (fun n v h1 h2=> ?_) (fun n i hi ih v h1 h2=> ?_) (A _) [] rfl (by simp)
  ·rw[G6,if_neg (by rw[hcl]; simp)];have:v=C3 h.Chart pl:=by simpa[C3] using h2
   rw[this,k5];rfl
  ·obtain⟨g1,g2⟩:=H _ (V hi);have hi':i<(BY pl).length:=by omega
   have hg:(BY pl)[i]=pl[i].Passages:=by simp[BY]
   have hz:((pl[i].Passages.length:Q)==(0:Q))=G:=beq_eq_false_iff_ne.2 (by have:=X.2 g1.ne; omega);rw[G6];simp only[Au,hi',decide_true,if_true,Ax hi',hg,U,hz,W,if_false,A2p s.pn s.fn hc hfl (by omega) g1];rw[if_pos (CZ (by omega) (by simp) (by omega)),AT hi hlm];exact ih _ (by simp; omega) (by rw[← h2,Y hi,zA]; rfl)
 have hT:∃t:Q,Kh h.Crew h.Chart h.Fleet (BJ pl)=O t∧((0≤t∧t≤h.Crew.Tugs)∧(m:Q)≤h.Crew.Pilots↔FitP h pl):=by
  unfold Kh;rw[(iU s.pn s.fn hc hfl (Bb (eG hl H)) (NW H)).1,U,WQ s.mv,hw,U,if_pos rfl];unfold GD;by_cases h12:(BW h.Chart h.Fleet (BJ pl)).length≤12
  ·obtain⟨n,k1,⟨w1,k2⟩,_⟩:=Jq (p:=0) s.mv h12 (Xu hc (NW H)) (by decide) m2;simp only[h12,if_true,k2,U];exact⟨n,rfl,by rw[← FitP.iff h12 k1 k4]; constructor<;>(rintro⟨a,b⟩; exact⟨by omega,b⟩)⟩
  ·simp only[h12,if_false];exact⟨-1,rfl,⟨(fun h=>by omega),fun F=>absurd F.1 h12⟩⟩
 obtain⟨t,t1,t2⟩:=hT
 have:=(uL (L:=I9 h.Fleet (BY pl) h.Crew h.Chart) (BY pl) (O ((decide (0≤t)&&decide (t≤h.Crew.Tugs))&&decide ((m:Q)≤h.Crew.Pilots))) (by simp[BY]; omega) (fun x hx=>by
  obtain⟨o,ho,rfl⟩:=zE.1 hx
  exact(H o ho).2) (fun n i acc hi ha=>by
   have:(BY pl)[i].length≤1048576:=by
    obtain⟨o,ho,e⟩:=zE.1 (V hi);rw[← e]; exact(H o ho).2
   have hcl:(BY pl).length=pl.length:=by simp[BY]
   rw[I9];simp only[Au,hi,decide_true,if_true,Ax hi,U]
   rw[if_pos (Pd (by omega) (by omega))]) fun n=>by
    rw[I9,if_neg (by simp)];have t1:Kh h.Crew h.Chart h.Fleet (BY pl).flatten=O t:=t1;rw[t1,U,BG,U,pil,U,BG];cases decide (0≤t)&&decide (t≤h.Crew.Tugs)<;>simp).1
 refine⟨_,this,?_⟩;rw[← t2];simp only[zC,decide_eq_true_eq]
end Go.Vi
