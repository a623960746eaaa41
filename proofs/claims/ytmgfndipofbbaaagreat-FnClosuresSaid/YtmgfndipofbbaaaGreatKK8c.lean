/-
Plain laws. No condition.
-/
import Derived.Test.YtmgfndipofbbaaaGreatKVa8
import Derived.Test.YtmgfndipofbbaaaGreatKK8b
namespace Go.Vi
set_option linter.all false
open Option renaming bind_some → V, some → G
open List renaming take_succ_eq_append_getElem → W, getElem_mem → Y, getElem_append_left → Z, getElem_append_right → A, getElem_of_mem → I, getElem?_eq_getElem → zA, length_singleton → zB, mem_singleton → zC, length_append → zD, mem_append → zE
open Bool renaming false_eq_true → X, and_eq_true → B, true → F, false → E
open Nat renaming lt_irrefl → C
open _root_ renaming List → L, Int → N, Nat → O, rfl → U
section
variable {p : N} {m : L N} {l : L Xe}
theorem D8u(hl:m.length≤maxLen):∃w n b,W6 p m l=G (w,n,b):=by
 by_cases hdo:(decide (l.length≤12)&&l.all A5x)=F
 ·by_cases ht:B4v p m=F
  ·have hdo':=hdo
   simp only[B,decide_eq_true_eq] at hdo'
   obtain⟨hN,hda⟩:=hdo'
   have hd:∀d∈l,A5x d=F:=fun d h=>List.all_eq_true.1 hda d h
   obtain⟨ms,m1,m2,m3⟩:=B9s hl ht hd hN
   obtain⟨n,n1,n2,n3⟩:=C1m (D6m p m l) hN (ms:=ms) ⟨m1,m2⟩
   have hmx:∀x∈ms,x<2 ^ 12:=fun x hx=>by
    obtain⟨i,hi,rfl⟩:=I hx
    refine A8o fun j hj=> ?_
    have:=m2 i j (by omega)
    rw[zA hi] at this
    have this:ms[i].testBit j=adj p m l i j:=this
    rw[this,adj,B,decide_eq_true_eq] at hj
    omega
   obtain⟨b,r,c1,c2,_⟩:=C9w ms.length bigN ms [] (n:N) [] (by simp) (by rw[A0d]; omega) hmx (by omega) (fun g h=>by cases h) (by simp)
   refine⟨r.who,r.most,F,?_⟩
   unfold W6 A11
   have ht':=ht
   simp only[B4v,B] at ht'
   rw[A3t,hdo,V,if_pos rfl,B6t,ht'.1,V,if_pos rfl,B0i hl,ht'.2,V,V,if_pos rfl,m3,V,n3,V]
   have c1:A52 ⟨nn ms,(n:N),[],[]⟩=G (b,r):=c1
   rw[c1,V]
  ·refine⟨[],0,E,?_⟩
   unfold W6 A11
   rw[A3t,hdo,V,if_pos rfl,B6t,V,B0i hl]
   simp only[B4v,B,not_and,Bool.not_eq_true] at ht
   cases h1:A6y p with
   | false=>rfl
   | true=>simp only[if_true,V,ht h1]; rfl
 ·refine⟨[],0,E,?_⟩
  unfold W6 A11
  rw[A3t,V,Bool.not_eq_true _ |>.mp hdo]
  rfl
theorem B68(hl:m.length≤maxLen)(k:N):∃b,A1y p m l k=G b:=by
 unfold A1y
 obtain⟨w,n,b,e⟩:=D8u (p:=p) (m:=m) (l:=l) hl
 split
 ·exact⟨_,U⟩
 ·rw[e]; exact⟨_,rfl⟩
end
theorem C8v{c:X5}{fl:L Xb}(hn:∀x∈c.Points,x.Name.length≤maxLen)(hf:∀x∈fl,x.Name.length≤maxLen)(hc:I4 c=F)(hfl:A7m fl=F){all:L X4}(hl:all.length≤maxLen) :
  ∃out ok,A5z c fl all=G (out,ok):=by
 have key:∀(k i n:O) (acc:L Xe),i+k=all.length→k<n→acc.length≤12→∃out ok,L2 fl all c n (i:N) acc=G (out,ok):=by
  intro k
  induction k with
  | zero=>
   intro i n acc hi hn2 ha
   obtain⟨n,rfl⟩:=sn (n:=n) (by omega)
   exact⟨acc,F,by rw[L2,if_neg (by simp; omega)]⟩
  | succ k ih=>
   intro i n acc hi hn2 ha
   obtain⟨n,rfl⟩:=sn (n:=n) (by omega)
   have hlt:i<all.length:=by omega
   simp only[L2,C6,hlt,decide_true,if_true,D9 hlt,V,B8j hn hf hc hfl]
   cases hp:A8j c fl all[i] with
   | false=>exact⟨[],E,rfl⟩
   | true=>
    obtain⟨f1,f2,f3,f4,f5⟩:=B1o hc hp
    obtain⟨s1,s2⟩:=B30 f1
    have hso:=(B3e hfl).2 _ s2
    have hT:0≤(A34 fl all[i].Ship).Tugs∧(A34 fl all[i].Ship).Tugs≤4:=by
     simp only[A2i,B,decide_eq_true_eq] at hso
     omega
    obtain⟨T,hTe⟩:∃T:O,(A34 fl all[i].Ship).Tugs=(T:N):=⟨(A34 fl all[i].Ship).Tugs.toNat,by omega⟩
    simp only[if_true,V,s1]
    have g2:=D5w (c:=c) (fl:=fl) (p:=all[i]) f2 all (i:N) (L2 fl all c n) hTe (by omega) T 0 bigN acc (by omega) (by rw[A0d]; omega) (by omega)
    have g2:P5 fl all (i:N) (A34 fl all[i].Ship) c all[i] (L2 fl all c n) bigN 0 acc=_:=g2
    rw[g2]
    by_cases h12:(12:N)<((acc++List.replicate T (B6u c all[i] all[i])).length:N)
    ·simp only[h12,decide_true,if_true]
     exact⟨[],E,U⟩
    ·simp only[h12,decide_false,X,if_false]
     rw[E9 hlt hl]
     exact ih (i+1) n _ (by omega) (by omega) (by omega)
 exact key all.length 0 bigN [] (by omega) (D4 hl) (by simp)
theorem C9n{c:X5}{rg:Xl}{p q:X4}:∃r,A40 c rg p q=G r:=by
 have c4:∀b,∃r,A1f p q b=G r:=fun b=>by
  unfold A1f
  repeat' split
  all_goals exact⟨_,rfl⟩
 have near:∀x y z,∃b,A7x x y z=G b:=fun _ _ _=>⟨_,rfl⟩
 have over:∃b,A4n p q=G b:=⟨_,rfl⟩
 obtain⟨o1,eo⟩:=over
 have c3:∀a b,∃r,S2 rg p q a b=G r:=fun a b=>by
  obtain⟨b1,e1⟩:=near p.Start q.Start rg.Gap
  obtain⟨b2,e2⟩:=near p.End q.End rg.Gap
  unfold S2
  simp only[e1,e2,V]
  repeat' split
  all_goals first | exact⟨_,rfl⟩ | exact c4 _
 have c1:(f:Bool)→idx p.Segment c.Segments.length=F∨f=F→∃r,A1e c rg p q f=G r:=fun f hf=>by
  cases f with
  | true=>exact⟨0,rfl⟩
  | false=>
   have hs:=hf.resolve_right (by simp)
   have c2:∀b,∃r,A1b c rg p q b=G r:=fun b=>by
    unfold A1b
    simp only[eo,V,(A35 hs).1]
    repeat' split
    all_goals first | exact⟨_,rfl⟩ | exact c3 _ _
   unfold A1e
   simp only[eo,V,X,if_false]
   split
   ·exact c2 _
   ·exact c2 _
 unfold A40
 split
 ·exact c1 _ (Or.inr U)
 ·rw[A17,V]
  cases h:idx p.Segment c.Segments.length with
  | true=>exact c1 _ (Or.inl h)
  | false=>exact c1 _ (Or.inr rfl)
theorem D15{c:X5}{rg:Xl}{a b:L X4}(ha:a.length≤maxLen)(hb:b.length≤maxLen):∃r,A7a c rg a b=G r:=by
 have key:∀(k i n:O),i+k=a.length→k<n→∃r,Q4 b a c rg n (i:N)=G r:=by
  intro k
  induction k with
  | zero=>
   intro i n hi hn
   obtain⟨q,rfl⟩:=sn (n:=n) (by omega)
   have:i=a.length:=by omega
   subst this
   exact⟨E,by simp[Q4]⟩
  | succ k ih=>
   intro i n hi hn
   obtain⟨q,rfl⟩:=sn (n:=n) (by omega)
   have hlt:i<a.length:=by omega
   obtain⟨r0,e0⟩:=ih (i+1) q (by omega) (by omega)
   rw[← E9 hlt ha] at e0
   rw[Q4]
   simp only[C6,hlt,decide_true,if_true,D9 hlt,V]
   have inner:∀(k j n:O),j+k=b.length→k<n→∃r,Z9 b a (i:N) c rg a[i] (Q4 b a c rg q) n (j:N)=G r:=by
    intro k
    induction k with
    | zero=>
     intro j n hj hn
     obtain⟨q',rfl⟩:=sn (n:=n) (by omega)
     have:j=b.length:=by omega
     subst this
     exact⟨r0,by simp only[Z9,C6,C,decide_false,X,if_false]; exact e0⟩
    | succ k ihk=>
     intro j n hj hn
     obtain⟨q',rfl⟩:=sn (n:=n) (by omega)
     have hjl:j<b.length:=by omega
     obtain⟨r,e⟩:=C9n (c:=c) (rg:=rg) (p:=a[i]) (q:=b[j])
     rw[Z9]
     simp only[C6,hjl,decide_true,if_true,D9 hjl,V,e,E9 hjl hb]
     split
     ·exact⟨F,U⟩
     ·exact ihk (j+1) q' (by omega) (by omega)
   exact inner b.length 0 bigN (by omega) (D4 hb)
 exact key a.length 0 bigN (by omega) (D4 ha)
def B4d(h:X6)(o:X0):Prop:=o.Passages.length≤100∧∀p∈o.Passages,A8j h.Chart h.Fleet p=F
theorem E9c{l:L X0}(h:l.length≤1000):J9 l=G l:=by
 unfold J9 mkS
 rw[if_pos ⟨by omega,by omega,by omega,by omega⟩]
 simp only[V,Int.toNat_zero,List.replicate_zero,List.nil_append]
 rw[if_pos (by simp only[D1,List.length_nil,decide_eq_true_eq]; omega)]
theorem C9s{h:X6}(s:HSmall h)(hh:O3 h=F){l:L X0}(hl:l.length≤1000)(ho:∀o∈l,B4d h o):∃b,T6 h l=G b:=by
 have hh':=hh
 simp only[O3,B] at hh'
 obtain⟨hf,hc,hfl,hreg,hcrew⟩:=hh'
 have key:∀(k i n:O) (all:L X4) (pil:L Xe),i+k=l.length→k<n→all.length≤100*i→pil.length≤i→∃b,S3 l h n (i:N) all pil=G b:=by
  intro k
  induction k with
  | zero=>
   intro i n all pil hi hn ha hp
   obtain⟨q,rfl⟩:=sn (n:=n) (by omega)
   have:i=l.length:=by omega
   subst this
   obtain⟨out,ok,e⟩:=C8v s.pn s.fn hc hfl (all:=all) (smx (by omega))
   obtain⟨b1,e1⟩:=B68 (p:=0) (m:=h.Crew.Moves) (l:=out) s.mv h.Crew.Tugs
   obtain⟨b2,e2⟩:=B68 (p:=h.Crew.Rest) (m:=h.Crew.Moves) (l:=pil) s.mv h.Crew.Pilots
   rw[S3]
   simp only[C6,C,decide_false,X,if_false,e,e1,e2,V]
   split
   ·split
    ·exact⟨_,U⟩
    ·exact⟨_,U⟩
   ·exact⟨_,U⟩
  | succ k ih=>
   intro i n all pil hi hn ha hp
   obtain⟨q,rfl⟩:=sn (n:=n) (by omega)
   have hlt:i<l.length:=by omega
   obtain⟨g1,g2⟩:=ho _ (Y hlt)
   rw[S3]
   simp only[C6,hlt,decide_true,if_true,D9 hlt,V,E9 hlt (smx (by omega))]
   rw[if_pos (apk (by omega) (by omega) (by omega))]
   by_cases h0:(0:N)<(l[i].Passages.length:N)
   ·have hz:0<l[i].Passages.length:=by omega
    have ep:IntKind.i64.wrap ((l[i].Passages.length:N) - 1)=((l[i].Passages.length - 1:O):N):=by rw[A9 (by omega) (by omega)]; omega
    have e0:ix l[i].Passages 0=G l[i].Passages[0]:=D9 hz
    have e9:ix l[i].Passages ((l[i].Passages.length - 1:O):N)=G l[i].Passages[l[i].Passages.length - 1]:=D9 (by omega)
    have s1:=(B1o hc (g2 _ (Y hz))).2.1
    have s2:=(B1o hc (g2 _ (Y (show l[i].Passages.length - 1<l[i].Passages.length by omega)))).2.1
    simp only[h0,decide_true,if_true,e0,ep,e9,V,B5w s1 s2]
    rw[if_pos (apk (by omega) (by simp) (by omega))]
    exact ih (i+1) q _ _ (by omega) (by omega) (by simp; omega) (by simp; omega)
   ·simp only[h0,decide_false,X,if_false]
    exact ih (i+1) q _ _ (by omega) (by omega) (by simp; omega) (by omega)
 exact key l.length 0 bigN [] [] (by omega) (D4 (smx (by omega))) (by simp) (by simp)
theorem E5r{h:X6}(s:HSmall h)(hh:O3 h=F){l:L X0}{o:X0}(hl:l.length≤100)(ho:∀o∈l,B4d h o)(h0:B4d h o):∃b,A2v h l o=G b:=by
 have key:∀(k i n:O),i+k=l.length→k<n→∃b,A06 l h o n (i:N)=G b:=by
  intro k
  induction k with
  | zero=>
   intro i n hi hn
   obtain⟨q,rfl⟩:=sn (n:=n) (by omega)
   have:i=l.length:=by omega
   subst this
   obtain⟨b,e⟩:=C9s s hh (l:=l++ [o]) (by simp; omega) fun x hx=>by
    rcases zE.1 hx with hx|hx
    ·exact ho x hx
    ·simp only[zC] at hx; exact hx▸h0
   rw[A06]
   simp only[C6,C,decide_false,X,if_false,E9c (show l.length≤1000 by omega),V]
   rw[if_pos (apk (by omega) (by simp) (by omega)),e]
   exact⟨b,U⟩
  | succ k ih=>
   intro i n hi hn
   obtain⟨q,rfl⟩:=sn (n:=n) (by omega)
   have hlt:i<l.length:=by omega
   obtain⟨r,e⟩:=D15 (c:=h.Chart) (rg:=h.Regime) (a:=l[i].Passages) (b:=o.Passages) (smx (by have:=(ho _ (Y hlt)).1; omega)) (smx (by have:=h0.1; omega))
   rw[A06]
   simp only[C6,hlt,decide_true,if_true,D9 hlt,V,e,E9 hlt (smx (by omega))]
   split
   ·exact⟨_,U⟩
   ·exact ih (i+1) q (by omega) (by omega)
 exact key l.length 0 bigN (by omega) (D4 (smx (by omega)))
def Chosen(cs:L (L X0))(pl:L X0)(ch:L N):Prop:=
 pl.length=ch.length∧pl.length≤cs.length∧∀i (h1:i<ch.length) (h2:i<pl.length) (h3:i<cs.length),0≤ch[i]∧(ch[i]<(cs[i].length:N))∧cs[i][ch[i].toNat]?=G pl[i]
theorem Chosen.take{cs:L (L X0)}{pl:L X0}{ch:L N}(H:Chosen cs pl ch)(k:O):Chosen cs (pl.take k) (ch.take k):=by
 obtain⟨c1,c2,c3⟩:=H
 refine⟨by simp; omega,by simp; omega,fun i h1 h2 h3=> ?_⟩
 simp only[List.length_take] at h1 h2
 rw[List.getElem_take,List.getElem_take]
 exact c3 i (by omega) (by omega) h3
theorem Chosen.snoc{cs:L (L X0)}{pl:L X0}{ch:L N}(H:Chosen cs pl ch){i:O}(hlt:pl.length<cs.length)(hil:i<cs[pl.length].length):Chosen cs (pl++ [cs[pl.length][i]]) (ch++ [(i:N)]):=by
 obtain⟨c1,c2,c3⟩:=H
 refine⟨by simp; omega,by simp; omega,fun j h1 h2 h3=> ?_⟩
 simp only[zD,zB] at h1 h2
 by_cases hj:j<pl.length
 ·rw[Z (show j<ch.length by omega),Z hj]
  exact c3 j (by omega) hj h3
 ·have:j=pl.length:=by omega
  subst this
  rw[A (by omega),A (by omega)]
  simp only[show pl.length - ch.length=0 by omega,Nat.sub_self,List.getElem_singleton,Int.toNat_natCast]
  exact⟨by omega,by omega,by rw[zA hil]⟩
def wlt(a b:Xj):Prop:=a.i0<b.i0∨(a.i0=b.i0∧a.i1<b.i1)
def wle(a b:Xj):Prop:=¬wlt b a
theorem B17(a:Xj):wle a a:=by unfold wle wlt; omega
theorem B2o{a b c:Xj}(h1:wle a b)(h2:wle b c):wle a c:=by unfold wle wlt at *; omega
theorem F0c{a b:Xj}(h:wlt a b):wle a b:=by unfold wle wlt at *; omega
theorem D0a(a b:Xj):∃r,A2j a b=G r∧(r=F↔wlt a b):=by
 unfold A2j wlt
 split
 ·rename_i h
  simp only[decide_eq_true_eq] at h
  exact⟨F,U,by simp[h]⟩
 ·rename_i h
  simp only[decide_eq_true_eq] at h
  split
  ·rename_i h2
   simp only[beq_iff_eq] at h2
   exact⟨_,U,by simp[h2]⟩
  ·rename_i h2
   simp only[beq_iff_eq] at h2
   exact⟨E,U,by simp[h,h2]⟩
def Fit(h:X6)(pl:L X0):Prop:=∀i (hi:i<pl.length),A2v h (pl.take i) pl[i]=G F
theorem Fit.snoc{h:X6}{pl:L X0}{o:X0}(H:Fit h pl)(ho:A2v h pl o=G F):Fit h (pl++ [o]):=fun i hi=>by
 simp only[zD,zB] at hi
 by_cases hj:i<pl.length
 ·rw[Z hj,List.take_append_of_le_length (by omega)]
  exact H i hj
 ·have:i=pl.length:=by omega
  subst this
  rw[A (by omega)]
  simpa using ho
structure SearchOk (h:X6) (cs:L (L X0)) (wv:L X0→Xj) (x:Xd):Prop where
 hh:x.h=h
 hc:x.choices=cs
 cho:Chosen cs x.plan x.choice
 fit:Fit h x.plan
 best:x.found=F→∃pl,Chosen cs pl x.best∧pl.length=cs.length∧Fit h pl∧x.least=wv pl
 emp:x.found=E→x.best= []
structure Low (h:X6) (cs:L (L X0)) (wv:L X0→Xj) (P:L X0→Prop) (x y:Xd):Prop where
 mono:x.found=F→y.found=F∧wle y.least x.least
 all:∀pl ch,Chosen cs pl ch→pl.length=cs.length→Fit h pl→P pl→y.found=F∧wle y.least (wv pl)
theorem Low.trans{h:X6}{cs:L (L X0)}{wv:L X0→Xj}{P Q R:L X0→Prop}{x y z:Xd}(H1:Low h cs wv P x y)(H2:Low h cs wv Q y z)(hr:∀pl,R pl→P pl∨Q pl):Low h cs wv R x z:=
 ⟨fun hf=>by
  obtain⟨a,b⟩:=H1.mono hf
  obtain⟨c,d⟩:=H2.mono a
  exact⟨c,B2o d b⟩,fun pl ch h1 h2 h3 h4=>by
  rcases hr pl h4 with h5|h5
  ·obtain⟨a,b⟩:=H1.all pl ch h1 h2 h3 h5
   obtain⟨c,d⟩:=H2.mono a
   exact⟨c,B2o d b⟩
  ·exact H2.all pl ch h1 h2 h3 h5⟩
theorem D62{cs:L (L X0)}{wv:L X0→Xj}(hm:∀pl ch o c,Chosen cs pl ch→Chosen cs (pl++ [o]) (ch++ [c])→wle (wv pl) (wv (pl++ [o]))){pl:L X0}{ch:L N}(H:Chosen cs pl ch) :
  ∀(d k:O),k+d=pl.length→wle (wv (pl.take k)) (wv pl):=by
 intro d
 induction d with
 | zero=>
  intro k hk
  rw[List.take_of_length_le (by omega)]
  exact B17 _
 | succ d ih=>
  intro k hk
  refine B2o ?_ (ih (k+1) (by omega))
  have h1:k<pl.length:=by omega
  have h2:k<ch.length:=by have:=H.1; omega
  have hc:=H.take (k+1)
  rw[W h1,W h2] at hc
  rw[W h1]
  exact hm _ _ _ _ (H.take k) hc
theorem D76{h:X6}(s:HSmall h)(hok:O3 h=F){cs:L (L X0)}(hcs:cs.length≤50)(hl8:∀l∈cs,l.length≤8)(hgo:∀l∈cs,∀o∈l,B4d h o){w:L X0→Option Xj}{wv:L X0→Xj}
  (hw:∀pl ch,Chosen cs pl ch→w pl=G (wv pl)) (hm:∀pl ch o c,Chosen cs pl ch→Chosen cs (pl++ [o]) (ch++ [c])→wle (wv pl) (wv (pl++ [o]))) :
  ∀(d n:O) (x:Xd),x.plan.length+d=cs.length→d<n→SearchOk h cs wv x→
   ∃r,F6 w n x=G r∧SearchOk h cs wv r∧r.plan=x.plan∧r.choice=x.choice∧Low h cs wv (fun pl=>pl.take x.plan.length=x.plan) x r:=by
 intro d
 induction d with
 | zero=>
  intro n x hd hn hx
  obtain⟨q,rfl⟩:=sn (n:=n) (by omega)
  rw[F6,W3,hw _ _ hx.cho,V]
  have same:∀pl:L X0,pl.length=cs.length→pl.take x.plan.length=x.plan→pl=x.plan:=fun pl h1 h2=>by
   rw[← h2,List.take_of_length_le (by omega)]
  have leaf:∀b,(x.found=F→wlt (wv x.plan) x.least)→∃r,K3 w (F6 w q) x (wv x.plan) b=G r∧SearchOk h cs wv r∧r.plan=x.plan∧r.choice=x.choice∧Low h cs wv (fun pl=>pl.take x.plan.length=x.plan) x r:=fun b hb=>by
   unfold K3
   rw[if_pos (by rw[hx.hc]; simp; omega),C7t (by have:=hx.cho.1; omega),V]
   exact⟨_,U,⟨hx.hh,hx.hc,hx.cho,hx.fit,fun _=>⟨x.plan,hx.cho,by omega,hx.fit,U⟩,fun h=>by cases h⟩,U,U,fun hf=>⟨U,F0c (hb hf)⟩,fun pl ch h1 h2 h3 h4=>⟨U,by rw[same pl h2 h4]; exact B17 _⟩⟩
  split
  ·rename_i hf
   obtain⟨b,eb,hb⟩:=D0a (wv x.plan) x.least
   rw[eb,V]
   split
   ·rename_i hbt
    exact leaf _ fun _=>hb.1 hbt
   ·rename_i hbf
    exact⟨_,U,⟨hx.hh,hx.hc,hx.cho,hx.fit,fun _=>hx.best hf,fun h=>by cases h⟩,U,U,fun _=>⟨U,B17 _⟩,fun pl ch h1 h2 h3 h4=>⟨U,by rw[same pl h2 h4]; exact fun h=>hbf (hb.2 h)⟩⟩
  ·rename_i hf
   exact leaf _ fun h=>absurd h hf
 | succ d ih=>
  intro n x hd hn hx
  obtain⟨q,rfl⟩:=sn (n:=n) (by omega)
  have hlt:x.plan.length<cs.length:=by omega
  rw[F6,W3,hw _ _ hx.cho,V]
  have part:∀(pl:L X0),pl.length=cs.length→pl.take x.plan.length=x.plan→∀(hp:x.plan.length<pl.length),pl.take (x.plan.length+1)=x.plan++ [pl[x.plan.length]]:=fun pl h1 h2 hp=>by
   rw[W hp,h2]
  have key:∀(k i m:O) (y:Xd),i+k=cs[x.plan.length].length→k<m→SearchOk h cs wv y→y.plan=x.plan→y.choice=x.choice→
    ∃r,K4 w (F6 w q) x cs[x.plan.length] m (i:N) y.h y.choices y.least.i0 y.least.i1 y.found y.plan y.choice y.best=G r∧
     SearchOk h cs wv r∧r.plan=x.plan∧r.choice=x.choice∧Low h cs wv (fun pl=>∃(j:O) (hj:j<cs[x.plan.length].length),i≤j∧pl.take (x.plan.length+1)=x.plan++ [cs[x.plan.length][j]]) y r:=by
   intro k
   induction k with
   | zero=>
    intro i m y hi hm' hy hp hc
    obtain⟨m,rfl⟩:=sn (n:=m) (by omega)
    have:i=cs[x.plan.length].length:=by omega
    subst this
    rw[K4]
    simp only[C6,C,decide_false,X,if_false]
    exact⟨y,U,hy,hp,hc,fun hf=>⟨hf,B17 _⟩,fun pl ch h1 h2 h3 h4=>by
     obtain⟨j,h5,h6,_⟩:=h4
     omega⟩
   | succ k ihk=>
    intro i m y hi hm' hy hp hc
    obtain⟨m,rfl⟩:=sn (n:=m) (by omega)
    have hil:i<cs[x.plan.length].length:=by omega
    have hmem:=Y hlt
    have h8:=hl8 _ hmem
    have hgood:∀o∈x.plan,B4d h o:=fun o ho=>by
     obtain⟨j,hj,rfl⟩:=I ho
     obtain⟨c1,c2,c3⟩:=hx.cho
     obtain⟨_,_,c6⟩:=c3 j (by omega) hj (by omega)
     exact hgo _ (Y (show j<cs.length by omega)) _ (List.mem_of_getElem? c6)
    obtain⟨b,eb⟩:=E5r s hok (l:=x.plan) (o:=cs[x.plan.length][i]) (by omega) hgood (hgo _ hmem _ (Y hil))
    rw[K4]
    simp only[C6,hil,decide_true,if_true,D9 hil,V,E9 hil (smx (by omega))]
    rw[hy.hh,hp,eb,V]
    cases b with
    | false=>
     simp only[X,if_false]
     obtain⟨r,g1,g2,g3,g4,g5⟩:=ihk (i+1) m y (by omega) (by omega) hy hp hc
     rw[hp,hy.hh] at g1
     refine⟨r,g1,g2,g3,g4,g5.mono,fun pl ch h1 h2 h3 h4=> ?_⟩
     obtain⟨j,h5,h6,h7⟩:=h4
     by_cases hji:j=i
     ·subst hji
      have hpl:x.plan.length<pl.length:=by omega
      have hf:=h3 _ hpl
      rw[W hpl] at h7
      obtain⟨e1,e2⟩:=List.append_inj h7 (by simp; omega)
      simp only[List.cons.injEq,and_true] at e2
      rw[e1,e2,eb] at hf
      cases hf
     ·exact g5.all pl ch h1 h2 h3 ⟨j,h5,by omega,h7⟩
    | true=>
     simp only[if_true]
     have hcl:x.choice.length≤1000:=by have:=hx.cho.1; omega
     rw[if_pos (apk (by omega) (by simp) (by omega)),hc,if_pos (apk (by omega) (by simp) (by omega))]
     have hcho:Chosen cs (x.plan++ [cs[x.plan.length][i]]) (x.choice++ [(i:N)]):=hx.cho.snoc hlt hil
     obtain⟨r,g1,g2,g3,g4,g5⟩:=ih q ⟨h,y.choices,x.plan++ [cs[x.plan.length][i]],x.choice++ [(i:N)],y.best,⟨y.least.i0,y.least.i1⟩,y.found⟩ (by simp; omega) (by omega) ⟨rfl,hy.hc,hcho,hx.fit.snoc eb,hy.best,hy.emp⟩
     rw[g1,V]
     have b1:bnd (r.plan.length:N) (x.plan.length:N) 0 r.plan.length=G (0,x.plan.length):=A49 (by rw[g3]; simp)
     have b2:bnd (r.choice.length:N) (x.plan.length:N) 0 r.choice.length=G (0,x.plan.length):=A49 (by rw[g4]; simp; have:=hx.cho.1; omega)
     have t1:r.plan.take x.plan.length=x.plan:=by rw[g3]; simp
     have t2:r.choice.take x.plan.length=x.choice:=by
      have hle:x.plan.length=x.choice.length:=hx.cho.1
      rw[g4]
      show(x.choice++ [(i:N)]).take x.plan.length=x.choice
      generalize x.plan.length=z at hle
      subst hle
      simp
     rw[b1,V,b2,V]
     simp only[t1,t2]
     obtain⟨r',k1,k2,k3,k4,k5⟩:=ihk (i+1) m ⟨r.h,r.choices,x.plan,x.choice,r.best,r.least,r.found⟩ (by omega) (by omega) ⟨g2.hh,g2.hc,hx.cho,hx.fit,g2.best,g2.emp⟩ rfl rfl
     refine⟨r',k1,k2,k3,k4,Low.trans (y:=⟨r.h,r.choices,x.plan,x.choice,r.best,r.least,r.found⟩) ⟨g5.mono,g5.all⟩ k5 fun pl hpl=> ?_⟩
     obtain⟨j,h5,h6,h7⟩:=hpl
     by_cases hji:j=i
     ·subst hji
      left
      simpa using h7
     ·exact Or.inr ⟨j,h5,by omega,h7⟩
  have body:∀b,(b=x.found)→∃r,K3 w (F6 w q) x (wv x.plan) b=G r∧SearchOk h cs wv r∧r.plan=x.plan∧r.choice=x.choice∧Low h cs wv (fun pl=>pl.take x.plan.length=x.plan) x r:=fun b hb=>by
   unfold K3
   rw[if_neg (by rw[hx.hc]; simp; omega),hx.hc,D9 hlt,V]
   obtain⟨r,k1,k2,k3,k4,k5⟩:=key cs[x.plan.length].length 0 bigN ⟨x.h,cs,x.plan,x.choice,x.best,x.least,b⟩ (by omega) (D4 (smx (by have:=hl8 _ (Y hlt); omega))) ⟨hx.hh,rfl,hx.cho,hx.fit,fun hf=>hx.best (by rw[← hb]; exact hf),fun hf=>hx.emp (by rw[← hb]; exact hf)⟩ rfl rfl
   refine⟨r,k1,k2,k3,k4,fun hf=>k5.mono (by rw[hb]; exact hf),fun pl ch h1 h2 h3 h4=>k5.all pl ch h1 h2 h3 ?_⟩
   have hpl:x.plan.length<pl.length:=by omega
   obtain⟨c1,c2,c3⟩:=h1
   obtain⟨d1,d2,d3⟩:=c3 x.plan.length (by omega) hpl hlt
   have hj:ch[x.plan.length].toNat<cs[x.plan.length].length:=by omega
   refine⟨ch[x.plan.length].toNat,hj,by omega,?_⟩
   rw[part pl h2 h4 hpl]
   rw[zA hj] at d3
   simp only[Option.some.injEq] at d3
   rw[d3]
  split
  ·rename_i hf
   obtain⟨b,eb,hb⟩:=D0a (wv x.plan) x.least
   rw[eb,V]
   split
   ·exact body F hf.symm
   ·rename_i hbf
    refine⟨_,U,⟨hx.hh,hx.hc,hx.cho,hx.fit,fun _=>hx.best hf,fun h=>by cases h⟩,U,U,fun _=>⟨U,B17 _⟩,fun pl ch h1 h2 h3 h4=>⟨U,?_⟩⟩
    have g:=D62 hm h1 (pl.length - x.plan.length) x.plan.length (by omega)
    rw[h4] at g
    exact B2o (fun h=>hbf (hb.2 h)) g
  ·rename_i hf
   exact body E (by cases hx':x.found with
    | false=>rfl
    | true=>exact absurd hx' hf)
structure CallsGood (h:X6) (cs:L X8):Prop where
 ok:∀a∈cs,A6j h a=F
 ne:∀i j (hi:i<cs.length) (hj:j<cs.length),i<j→cs[i].Ship≠cs[j].Ship
 six:cs.length≤6
theorem B08{h:X6}(s:HSmall h)(hh:O3 h=F){cs:L X8}(hc:CallsGood h cs):V8 h cs=G F:=by
 have h6:=hc.six
 unfold V8
 rw[B0q s,hh,V,if_pos rfl,if_neg (by simp; omega)]
 have key:∀(k i n:O),i+k=cs.length→k<n→Q1 cs h n (i:N)=G F:=by
  intro k
  induction k with
  | zero=>
   intro i n hi hn
   obtain⟨q,rfl⟩:=sn (n:=n) (by omega)
   have:i=cs.length:=by omega
   subst this
   simp[Q1]
  | succ k ih=>
   intro i n hi hn
   obtain⟨q,rfl⟩:=sn (n:=n) (by omega)
   have hlt:i<cs.length:=by omega
   have e0:=ih (i+1) q (by omega) (by omega)
   rw[← E9 hlt (smx (by omega))] at e0
   rw[Q1]
   simp only[C6,hlt,decide_true,if_true,D9 hlt,V,B33,hc.ok _ (Y hlt),A49 (Nat.le_of_lt hlt),List.drop_zero,Nat.sub_zero]
   have hlen:(cs.take i).length=i:=by simp; omega
   have inner:∀(k j n:O),j+k=i→k<n→A0b cs (i:N) h cs[i] (cs.take i) ((cs.take i).length:N) (Q1 cs h q) n (j:N)=G F:=by
    intro k
    induction k with
    | zero=>
     intro j n hj hn
     obtain⟨q',rfl⟩:=sn (n:=n) (by omega)
     have:j=i:=by omega
     subst this
     rw[A0b]
     simp only[hlen,C6,C,decide_false,X,if_false]
     exact e0
    | succ k ihk=>
     intro j n hj hn
     obtain⟨q',rfl⟩:=sn (n:=n) (by omega)
     have hji:j<i:=by omega
     have hjl:j<(cs.take i).length:=by omega
     have hne:=hc.ne j i (by omega) hlt hji
     have hg:(cs.take i)[j]=cs[j]:=by simp
     rw[A0b]
     simp only[C6,hjl,decide_true,if_true,D9 hjl,V,hg]
     rw[if_neg (by simpa using hne),E9 hji (smx (by omega))]
     exact ihk (j+1) q' (by omega) (by omega)
   exact inner i 0 bigN (by omega) (D4 (smx (by omega)))
 exact key cs.length 0 bigN (by omega) (D4 (smx (by omega)))
structure OptsOf (h:X6) (cs:L X8) (os:L (L X0)):Prop where
 len:os.length=cs.length
 l8:∀l∈os,l.length≤8
 ok:∀i (h1:i<cs.length) (h2:i<os.length),∀o∈os[i],OptOk h cs[i] o
theorem OptsOf.good{h:X6}{cs:L X8}{os:L (L X0)}(H:OptsOf h cs os):∀l∈os,∀o∈l,B4d h o:=fun l hl o ho=>by
 obtain⟨i,hi,rfl⟩:=I hl
 have:=H.ok i (by have:=H.len; omega) hi o ho
 exact⟨this.len,fun p hp=>(this.pass p hp).2.1⟩
theorem B5c{h:X6}(s:HSmall h)(hh:O3 h=F){cs:L X8}(hc:CallsGood h cs):∃os,A26 h cs=G os∧OptsOf h cs os∧∀i (h1:i<cs.length) (h2:i<os.length),K0 h cs[i]=G os[i]:=by
 have h6:=hc.six
 unfold A26
 have key:∀(k i n:O) (acc:L (L X0)),i+k=cs.length→k<n→acc.length=i→(∀l∈acc,l.length≤8)→(∀j (h1:j<cs.length) (h2:j<acc.length),K0 h cs[j]=G acc[j])→
   (∀j (h1:j<cs.length) (h2:j<acc.length),∀o∈acc[j],OptOk h cs[j] o)→∃os,S6 cs h n (i:N) acc=G os∧OptsOf h cs os∧∀i (h1:i<cs.length) (h2:i<os.length),K0 h cs[i]=G os[i]:=by
  intro k
  induction k with
  | zero=>
   intro i n acc hi hn ha h8 he ho
   obtain⟨q,rfl⟩:=sn (n:=n) (by omega)
   have:i=cs.length:=by omega
   subst this
   exact⟨acc,by simp[S6],⟨ha,h8,ho⟩,he⟩
  | succ k ih=>
   intro i n acc hi hn ha h8 he ho
   obtain⟨q,rfl⟩:=sn (n:=n) (by omega)
   have hlt:i<cs.length:=by omega
   obtain⟨l,e1,e2,e3⟩:=D16 s hh (hc.ok _ (Y hlt))
   rw[S6]
   simp only[C6,hlt,decide_true,if_true,D9 hlt,V,e1]
   rw[if_pos (apk (by omega) (by simp) (by omega)),E9 hlt (smx (by omega))]
   refine ih (i+1) q _ (by omega) (by omega) (by simp; omega) (fun x hx=> ?_) (fun j h1 h2=> ?_) fun j h1 h2=> ?_
   ·rcases zE.1 hx with hx|hx
    ·exact h8 x hx
    ·simp only[zC] at hx; exact hx▸e2
   ·by_cases hj:j<acc.length
    ·rw[Z hj]; exact he j h1 hj
    ·have:j=acc.length:=by simp at h2; omega
     subst this
     subst ha
     simpa using e1
   ·by_cases hj:j<acc.length
    ·rw[Z hj]; exact ho j h1 hj
    ·have:j=acc.length:=by simp at h2; omega
     subst this
     subst ha
     simpa using e3
 exact key cs.length 0 bigN [] (by omega) (D4 (smx (by omega))) U (fun l hl=>by cases hl) (fun j _ h=>by simp at h) fun j _ h=>by simp at h
def B1s(l:L X0):N:=(l.map X0.Cost).sum
def C89(l:L X0):Prop:=∀o∈l,0≤o.Cost∧o.Cost≤2880
theorem E5s{l:L X0}(h:C89 l):0≤B1s l∧B1s l≤2880*(l.length:N):=by
 induction l with
 | nil=>simp[B1s]
 | cons x l ih=>
  have:=h x (by simp)
  have:=ih fun o ho=>h o (by simp[ho])
  simp only[B1s,List.map_cons,List.sum_cons,List.length_cons] at *
  omega
theorem C3v(l:L X0)(o:X0):B1s (l++ [o])=B1s l+o.Cost:=by simp[B1s]
theorem E6b{l:L X0}(hl:l.length≤1000)(h:C89 l):A74 l=G (B1s l):=by
 have key:∀(k i n:O),i+k=l.length→k<n→A0v l n (B1s (l.take i)) (i:N)=G (B1s l):=by
  intro k
  induction k with
  | zero=>
   intro i n hi hn
   obtain⟨q,rfl⟩:=sn (n:=n) (by omega)
   have:i=l.length:=by omega
   subst this
   rw[List.take_length]
   simp[A0v]
  | succ k ih=>
   intro i n hi hn
   obtain⟨q,rfl⟩:=sn (n:=n) (by omega)
   have hlt:i<l.length:=by omega
   have b1:=E5s (l:=l.take i) fun o ho=>h o (List.mem_of_mem_take ho)
   have b2:=h _ (Y hlt)
   have b3:((l.take i).length:N)≤1000:=by simp only[List.length_take]; omega
   have e:=ih (i+1) q (by omega) (by omega)
   rw[W hlt,C3v] at e
   rw[A0v]
   simp only[C6,hlt,decide_true,if_true,D9 hlt,V,E9 hlt (smx (by omega))]
   rw[A9 (by omega) (by omega)]
   exact e
 exact key l.length 0 bigN (by omega) (D4 (smx (by omega)))
theorem B4i{h:X6}{cs:L X8}{os:L (L X0)}(ho:OptsOf h cs os){pl:L X0}{ch:L N}(hch:Chosen os pl ch):∀i (hi:i<pl.length),∃hc:i<cs.length,OptOk h cs[i] pl[i]:=fun i hi=>by
 obtain⟨c1,c2,c3⟩:=hch
 have hlen:=ho.len
 obtain⟨_,_,d3⟩:=c3 i (by omega) hi (by omega)
 exact⟨by omega,ho.ok i (by omega) (by omega) _ (List.mem_of_getElem? d3)⟩
theorem B8s{h:X6}{cs:L X8}{os:L (L X0)}(ho:OptsOf h cs os){pl:L X0}{ch:L N}(hch:Chosen os pl ch):C89 pl:=fun o hm=>by
 obtain⟨i,hi,rfl⟩:=I hm
 obtain⟨_,g⟩:=B4i ho hch i hi
 exact g.cost
structure Best (h:X6) (os:L (L X0)) (wv:L X0→Xj) (ch:L N) (lw:Xj) (f:Bool):Prop where
 plan:f=F→∃pl,Chosen os pl ch∧pl.length=os.length∧Fit h pl∧lw=wv pl
 least:∀pl c,Chosen os pl c→pl.length=os.length→Fit h pl→f=F∧wle lw (wv pl)
 emp:f=E→ch= []
theorem C8f{h:X6}(s:HSmall h)(hh:O3 h=F){cs:L X8}(hc:CallsGood h cs){os:L (L X0)}(ho:OptsOf h cs os){w:L X0→Option Xj}{wv:L X0→Xj}
  (hw:∀pl ch,Chosen os pl ch→w pl=G (wv pl)) (hm:∀pl ch o c,Chosen os pl ch→Chosen os (pl++ [o]) (ch++ [c])→wle (wv pl) (wv (pl++ [o]))):∃ch lw f,V4 h os w=G (ch,lw,f)∧Best h os wv ch lw f:=by
 have h6:=hc.six
 have hlen:=ho.len
 obtain⟨r,e,g,_,_,lo⟩:=D76 s hh (cs:=os) (by omega) ho.l8 ho.good hw hm os.length bigN ⟨h,os,[],[],[],⟨0,0⟩,E⟩ (by simp) (by rw[A0d]; omega) ⟨rfl,rfl,⟨rfl,by simp,fun i h1=>by simp at h1⟩,fun i hi=>by simp at hi,fun h=>(by cases h),fun _=>rfl⟩
 have e:A5o w ⟨h,os,[],[],[],⟨0,0⟩,E⟩=G r:=e
 exact⟨r.best,r.least,r.found,by simp only[V4,e,V],fun hf=>g.best hf,fun pl c h1 h2 h3=>lo.all pl c h1 h2 h3 U,g.emp⟩
def D17(pl:L X0):Xj:=⟨B1s pl,0⟩
theorem D2z{c:X1}(hc:CurOk c){x:X6}{cx:X1}(h3:x.Fleet.length≤3)(h4:4≤x.Chart.Points.length)(h1:1≤x.Fleet.length) :
  ∃l c',I9 (x,cx) bigN 0 c.b c.i c.h []=G (x,l,c')∧CurOk c'∧CallsGood x l∧1≤l.length∧∀a∈l,a.Due≤1000:=by
 have key:∀(k i n:O) (c:X1) (l:L X8),i+k=x.Fleet.length→k<n→CurOk c→l.length≤i→(0<i→1≤l.length)→(∀a∈l,(A6j x a=F∧a.Due≤1000)∧a.Ship<(i:N))→
   (∀p q (hp:p<l.length) (hq:q<l.length),p<q→l[p].Ship≠l[q].Ship)→∃l' c',I9 (x,cx) n (i:N) c.b c.i c.h l=G (x,l',c')∧CurOk c'∧CallsGood x l'∧1≤l'.length∧∀a∈l',a.Due≤1000:=by
  intro k
  induction k with
  | zero=>
   intro i n c l hi hn hc hl h0 ha hne
   obtain⟨q,rfl⟩:=sn (n:=n) (by omega)
   have:i=x.Fleet.length:=by omega
   subst this
   exact⟨l,c,by simp[I9],hc,⟨fun a h=>(ha a h).1.1,hne,by omega⟩,h0 (by omega),fun a h=>(ha a h).1.2⟩
  | succ k ih=>
   intro i n c l hi hn hc hl h0 ha hne
   obtain⟨q,rfl⟩:=sn (n:=n) (by omega)
   have hlt:i<x.Fleet.length:=by omega
   have hw:IntKind.i64.wrap ((i:N)+1)=((i+1:O):N):=E9 hlt (smx (by omega))
   have add:∀c:X1,CurOk c→∃l' c',V5 (i:N) (x,cx) l (I9 (x,cx) q) F c.b c.i c.h=G (x,l',c')∧CurOk c'∧CallsGood x l'∧1≤l'.length∧∀a∈l',a.Due≤1000:=fun c hc=>by
    obtain⟨a,c',e,h',a1,a2,a3⟩:=D63 hc (x:=x) (s:=(i:N)) (A67.2 ⟨by omega,by omega⟩) h4
    have e':A3f ⟨c.b,c.i,c.h⟩ (i:N)=G (a,c'):=e
    simp only[V5,if_true,e',V,hw]
    rw[if_pos (apk (by omega) (by simp) (by omega))]
    refine ih (i+1) q c' _ (by omega) (by omega) h' (by simp; omega) (fun _=>by simp) (fun y hy=> ?_) fun p r hp hr hpr=> ?_
    ·rcases zE.1 hy with hy|hy
     ·obtain⟨y1,y2⟩:=ha y hy; exact⟨y1,by omega⟩
     ·simp only[zC] at hy; subst hy; exact⟨⟨a1,a3⟩,by omega⟩
    ·simp only[zD,zB] at hp hr
     rw[Z (show p<l.length by omega)]
     by_cases hrl:r<l.length
     ·rw[Z hrl]; exact hne p r (by omega) hrl hpr
     ·rw[A (by omega)]
      have:r=l.length:=by omega
      subst this
      simp only[Nat.sub_self,List.getElem_singleton,a2]
      have:=(ha _ (Y (show p<l.length by omega))).2
      omega
   have skip:∀c:X1,CurOk c→0<i→∃l' c',V5 (i:N) (x,cx) l (I9 (x,cx) q) E c.b c.i c.h=G (x,l',c')∧CurOk c'∧CallsGood x l'∧1≤l'.length∧∀a∈l',a.Due≤1000:=fun c hc hi0=>by
    simp only[V5,X,if_false,hw]
    exact ih (i+1) q c l (by omega) (by omega) hc (by omega) (fun _=>h0 hi0) (fun y hy=>by obtain⟨y1,y2⟩:=ha y hy; exact⟨y1,by omega⟩) hne
   rw[I9]
   simp only[C6,hlt,decide_true,if_true]
   by_cases hi0:((i:N)==(0:N))=F
   ·rw[if_pos hi0]; exact add c hc
   ·rw[if_neg hi0]
    obtain⟨b,c',e,h'⟩:=A65 (n:=4) hc (by omega)
    have e':J1 ⟨c.b,c.i,c.h⟩ 4=G (b,c'):=e
    rw[e',V]
    have hpos:0<i:=by
     rcases Nat.eq_zero_or_pos i with h|h
     ·subst h; simp at hi0
     ·exact h
    cases b with
    | true=>exact skip c' h' hpos
    | false=>exact add c' h'
 exact key x.Fleet.length 0 bigN c [] (by omega) (D4 (smx (by omega))) hc (by simp) (fun h=>by omega) (fun a h=>by cases h) fun p q hp=>by simp at hp
theorem C76{b:L N}(hb:b.length≤maxLen):∃h cs,A3s b=G (h,cs)∧HSmall h∧O3 h=F∧CallsGood h cs∧1≤cs.length∧1≤h.Chart.Segments.length:=by
 obtain⟨c,e,hc⟩:=D7n hb
 obtain⟨x,c1,e1,h1,s1,s2,s3,s4,s5⟩:=C7p hc
 obtain⟨l,c2,e2,h2,g1,g2,_⟩:=D2z h1 (x:=x) (cx:=c1) s5 s4.1 s3
 exact⟨x,l,by simp only[A3s,A7h,e,e1,e2,V],s1,s2,g1,g2,s4.2⟩
theorem D2f{l:L X4}(hl:l.length≤maxLen):Z1 l l=G F:=by
 unfold Z1
 rw[if_neg (by simp)]
 have key:∀(k i n:O),i+k=l.length→k<n→M4 l l n (i:N)=G F:=by
  intro k
  induction k with
  | zero=>
   intro i n hi hn
   obtain⟨q,rfl⟩:=sn (n:=n) (by omega)
   have:i=l.length:=by omega
   subst this
   simp[M4]
  | succ k ih=>
   intro i n hi hn
   obtain⟨q,rfl⟩:=sn (n:=n) (by omega)
   have hlt:i<l.length:=by omega
   rw[M4]
   simp only[C6,hlt,decide_true,if_true,D9 hlt,V,E9 hlt (by omega),beq_self_eq_true,Bool.and_self]
   exact ih (i+1) q (by omega) (by omega)
 exact key l.length 0 bigN (by omega) (D4 hl)
theorem C90{h:X6}(s:HSmall h)(hh:O3 h=F){a:X8}{o:X0}(ha:A6j h a=F)(ho:OptOk h a o):A4l h a o=G F:=by
 have h100:=ho.len
 obtain⟨v,v1,v2⟩:=ho.again
 have fin:A4x h a (o.Passages.map X4.Segment) o.Start=G (o,F):=by
  have hw:(decide (a.Ready≤o.Start)&&decide (o.Start≤a.Due))=F:=by simp[ho.start.1,ho.start.2]
  unfold A4x
  rw[A82 s,hh,ha,V,Y5,hw]
  simp only[Bool.and_self,if_true,V,A2x,Bool.not_true,X,if_false,v1,v2,V,if_true]
 unfold A4l
 have key:∀(k i n:O),i+k=o.Passages.length→k<n→Y3 o h a n (i:N) ((o.Passages.take i).map X4.Segment)=G F:=by
  intro k
  induction k with
  | zero=>
   intro i n hi hn
   obtain⟨q,rfl⟩:=sn (n:=n) (by omega)
   have:i=o.Passages.length:=by omega
   subst this
   have e:A2f o o=G F:=by
    simp only[A2f,beq_self_eq_true,if_true,D2f (smx (n:=o.Passages.length) (by omega)),V]
   rw[List.take_length,Y3]
   simp only[C6,C,decide_false,X,if_false,fin,V,if_true,e]
  | succ k ih=>
   intro i n hi hn
   obtain⟨q,rfl⟩:=sn (n:=n) (by omega)
   have hlt:i<o.Passages.length:=by omega
   have e:=ih (i+1) q (by omega) (by omega)
   rw[W hlt,List.map_append] at e
   rw[Y3]
   simp only[C6,hlt,decide_true,if_true,D9 hlt,V,E9 hlt (smx (by omega))]
   rw[if_pos (apk (by simp; omega) (by simp) (by omega))]
   exact e
 exact key o.Passages.length 0 bigN (by omega) (D4 (smx (by omega)))
theorem D67{h:X6}(s:HSmall h)(hh:O3 h=F){cs:L X8}(hc:CallsGood h cs){os:L (L X0)}(ho:OptsOf h cs os){pl:L X0}{ch:L N}(hch:Chosen os pl ch)(hl:pl.length=os.length)(hf:Fit h pl) :
  A6e h cs pl=G F:=by
 have h6:=hc.six
 have hlen:=ho.len
 have hopt:=B4i ho hch
 unfold A6e
 rw[B08 s hh hc,V,if_pos rfl,if_neg (by simp; omega)]
 have key:∀(k i n:O),i+k=cs.length→k<n→A0w pl cs h n (i:N)=G F:=by
  intro k
  induction k with
  | zero=>
   intro i n hi hn
   obtain⟨q,rfl⟩:=sn (n:=n) (by omega)
   have:i=cs.length:=by omega
   subst this
   simp[A0w]
  | succ k ih=>
   intro i n hi hn
   obtain⟨q,rfl⟩:=sn (n:=n) (by omega)
   have hlt:i<cs.length:=by omega
   have hpl:i<pl.length:=by omega
   obtain⟨_,g⟩:=hopt i hpl
   rw[A0w]
   simp only[C6,hlt,decide_true,if_true,D9 hlt,D9 hpl,V,C90 s hh (hc.ok _ (Y hlt)) g,A49 (Nat.le_of_lt hpl),List.drop_zero,Nat.sub_zero,hf i hpl,E9 hlt (smx (by omega))]
   exact ih (i+1) q (by omega) (by omega)
 exact key cs.length 0 bigN (by omega) (D4 (smx (by omega)))
end Go.Vi
