/-
Plain laws. No condition.
-/
import Derived.Test.YtmgfndipofbbaaaGreatAVa8
import Derived.Test.YtmgfndipofbbaaaGreatAVb8
namespace Go.Vi
set_option linter.all false
open Option renaming bind_some → N, some → G
open List renaming getElem_mem → O, mem_singleton → U, getElem_append_left → V, mem_append → X, getElem_of_mem → Y, getElem_append_right → Z, take_succ_eq_append_getElem → C, getElem?_eq_getElem → zA, mem_flatMap → zB
open Bool renaming false_eq_true → P, and_eq_true → Q, true → F, false → E
open Nat renaming lt_irrefl → W
open Int renaming le_refl → I
section
variable {p : Int} {m : List Int} {l : List XDuty}
theorem D5d(hl:m.length≤maxLen):∃w n b,W0 p m l=G (w,n,b):=by
 by_cases hdo:(decide (l.length≤12)&&l.all A36)=F
 ·by_cases ht:B2p p m=F
  ·have hdo':=hdo
   simp only[Q,decide_eq_true_eq] at hdo'
   obtain⟨hN,hda⟩:=hdo'
   have hd:∀d∈l,A36 d=F:=fun d h=>List.all_eq_true.1 hda d h
   obtain⟨ms,m1,m2,m3⟩:=B7p hl ht hd hN
   obtain⟨n,n1,n2,n3⟩:=B9f (D3s p m l) hN (ms:=ms) ⟨m1,m2⟩
   have hmx:∀x∈ms,x<2 ^ 12:=fun x hx=>by
    obtain⟨i,hi,rfl⟩:=Y hx
    refine A7w fun j hj=> ?_
    have:=m2 i j (by omega)
    rw[zA hi] at this
    have this:ms[i].testBit j=adj p m l i j:=this
    rw[this,adj,Q,decide_eq_true_eq] at hj
    omega
   obtain⟨b,r,c1,c2,_⟩:=C64 ms.length bigN ms [] (n:Int) [] (by simp) (by rw[T8]; omega) hmx (by omega) (fun g h=>by cases h) (by simp)
   refine⟨r.who,r.most,F,?_⟩
   unfold W0 A1a
   have ht':=ht
   simp only[B2p,Q] at ht'
   rw[A24,hdo,N,if_pos rfl,B4a,ht'.1,N,if_pos rfl,A9b hl,ht'.2,N,N,if_pos rfl,m3,N,n3,N]
   have c1:A4o ⟨nn ms,(n:Int),[],[]⟩=G (b,r):=c1
   rw[c1,N]
  ·refine⟨[],0,E,?_⟩
   unfold W0 A1a
   rw[A24,hdo,N,if_pos rfl,B4a,N,A9b hl]
   simp only[B2p,Q,not_and,Bool.not_eq_true] at ht
   cases h1:A5m p with
   | false=>rfl
   | true=>simp only[if_true,N,ht h1]; rfl
 ·refine⟨[],0,E,?_⟩
  unfold W0 A1a
  rw[A24,N,Bool.not_eq_true _ |>.mp hdo]
  rfl
theorem B34(hl:m.length≤maxLen)(k:Int):∃b,A06 p m l k=G b:=by
 unfold A06
 obtain⟨w,n,b,e⟩:=D5d (p:=p) (m:=m) (l:=l) hl
 split
 ·exact⟨_,rfl⟩
 ·rw[e]; exact⟨_,rfl⟩
end
theorem C5n{c:XChart}{fl:List XShip}(hn:∀x∈c.Points,x.Name.length≤maxLen)(hf:∀x∈fl,x.Name.length≤maxLen)(hc:J3 c=F)(hfl:A6e fl=F){all:List XPassage}(hl:all.length≤maxLen) :
  ∃out ok,A4s c fl all=G (out,ok):=by
 have key:∀(k i n:Nat) (acc:List XDuty),i+k=all.length→k<n→acc.length≤12→∃out ok,K7 fl all c n (i:Int) acc=G (out,ok):=by
  intro k
  induction k with
  | zero=>
   intro i n acc hi hn2 ha
   obtain⟨n,rfl⟩:=sn (n:=n) (by omega)
   exact⟨acc,F,by rw[K7,if_neg (by simp; omega)]⟩
  | succ k ih=>
   intro i n acc hi hn2 ha
   obtain⟨n,rfl⟩:=sn (n:=n) (by omega)
   have hlt:i<all.length:=by omega
   simp only[K7,E1,hlt,decide_true,if_true,F2 hlt,N,B5y hn hf hc hfl]
   cases hp:A6p c fl all[i] with
   | false=>exact⟨[],E,rfl⟩
   | true=>
    obtain⟨f1,f2,f3,f4,f5⟩:=A5w hc hp
    obtain⟨s1,s2⟩:=A9x f1
    have hso:=(A8i hfl).2 _ s2
    have hT:0≤(Y9 fl all[i].Ship).Tugs∧(Y9 fl all[i].Ship).Tugs≤4:=by
     simp only[Z8,Q,decide_eq_true_eq] at hso
     omega
    obtain⟨T,hTe⟩:∃T:Nat,(Y9 fl all[i].Ship).Tugs=(T:Int):=⟨(Y9 fl all[i].Ship).Tugs.toNat,by omega⟩
    simp only[if_true,N,s1]
    have g2:=D4a (c:=c) (fl:=fl) (p:=all[i]) f2 all (i:Int) (K7 fl all c n) hTe (by omega) T 0 bigN acc (by omega) (by rw[T8]; omega) (by omega)
    have g2:O8 fl all (i:Int) (Y9 fl all[i].Ship) c all[i] (K7 fl all c n) bigN 0 acc=_:=g2
    rw[g2]
    by_cases h12:(12:Int)<((acc++List.replicate T (B4s c all[i] all[i])).length:Int)
    ·simp only[h12,decide_true,if_true]
     exact⟨[],E,rfl⟩
    ·simp only[h12,decide_false,P,if_false]
     rw[H8 hlt hl]
     exact ih (i+1) n _ (by omega) (by omega) (by omega)
 exact key all.length 0 bigN [] (by omega) (E9 hl) (by simp)
theorem C7c{c:XChart}{rg:XRegime}{p q:XPassage}:∃r,A3t c rg p q=G r:=by
 have c4:∀b,∃r,A0q p q b=G r:=fun b=>by
  unfold A0q
  repeat' split
  all_goals exact⟨_,rfl⟩
 have near:∀x y z,∃b,A6t x y z=G b:=fun _ _ _=>⟨_,rfl⟩
 have over:∃b,A3y p q=G b:=⟨_,rfl⟩
 obtain⟨o1,eo⟩:=over
 have c3:∀a b,∃r,Q4 rg p q a b=G r:=fun a b=>by
  obtain⟨b1,e1⟩:=near p.Start q.Start rg.Gap
  obtain⟨b2,e2⟩:=near p.End q.End rg.Gap
  unfold Q4
  simp only[e1,e2,N]
  repeat' split
  all_goals first | exact⟨_,rfl⟩ | exact c4 _
 have c1:(f:Bool)→idx p.Segment c.Segments.length=F∨f=F→∃r,A0r c rg p q f=G r:=fun f hf=>by
  cases f with
  | true=>exact⟨0,rfl⟩
  | false=>
   have hs:=hf.resolve_right (by simp)
   have c2:∀b,∃r,A0m c rg p q b=G r:=fun b=>by
    unfold A0m
    simp only[eo,N,(A3v hs).1]
    repeat' split
    all_goals first | exact⟨_,rfl⟩ | exact c3 _ _
   unfold A0r
   simp only[eo,N,P,if_false]
   split
   ·exact c2 _
   ·exact c2 _
 unfold A3t
 split
 ·exact c1 _ (Or.inr rfl)
 ·rw[A28,N]
  cases h:idx p.Segment c.Segments.length with
  | true=>exact c1 _ (Or.inl h)
  | false=>exact c1 _ (Or.inr rfl)
theorem D0a{c:XChart}{rg:XRegime}{a b:List XPassage}(ha:a.length≤maxLen)(hb:b.length≤maxLen):∃r,A55 c rg a b=G r:=by
 have key:∀(k i n:Nat),i+k=a.length→k<n→∃r,P1 b a c rg n (i:Int)=G r:=by
  intro k
  induction k with
  | zero=>
   intro i n hi hn
   obtain⟨q,rfl⟩:=sn (n:=n) (by omega)
   have:i=a.length:=by omega
   subst this
   exact⟨E,by simp[P1]⟩
  | succ k ih=>
   intro i n hi hn
   obtain⟨q,rfl⟩:=sn (n:=n) (by omega)
   have hlt:i<a.length:=by omega
   obtain⟨r0,e0⟩:=ih (i+1) q (by omega) (by omega)
   rw[← H8 hlt ha] at e0
   rw[P1]
   simp only[E1,hlt,decide_true,if_true,F2 hlt,N]
   have inner:∀(k j n:Nat),j+k=b.length→k<n→∃r,X2 b a (i:Int) c rg a[i] (P1 b a c rg q) n (j:Int)=G r:=by
    intro k
    induction k with
    | zero=>
     intro j n hj hn
     obtain⟨q',rfl⟩:=sn (n:=n) (by omega)
     have:j=b.length:=by omega
     subst this
     exact⟨r0,by simp only[X2,E1,W,decide_false,P,if_false]; exact e0⟩
    | succ k ihk=>
     intro j n hj hn
     obtain⟨q',rfl⟩:=sn (n:=n) (by omega)
     have hjl:j<b.length:=by omega
     obtain⟨r,e⟩:=C7c (c:=c) (rg:=rg) (p:=a[i]) (q:=b[j])
     rw[X2]
     simp only[E1,hjl,decide_true,if_true,F2 hjl,N,e,H8 hjl hb]
     split
     ·exact⟨F,rfl⟩
     ·exact ihk (j+1) q' (by omega) (by omega)
   exact inner b.length 0 bigN (by omega) (E9 hb)
 exact key a.length 0 bigN (by omega) (E9 ha)
def B5q(h:XHarbour)(o:XOption):Prop:=o.Passages.length≤100∧∀p∈o.Passages,A6p h.Chart h.Fleet p=F
theorem E7d{l:List XOption}(h:l.length≤1000):J4 l=G l:=by
 unfold J4 mkS
 rw[if_pos ⟨by omega,by omega,by omega,by omega⟩]
 simp only[N,Int.toNat_zero,List.replicate_zero,List.nil_append]
 rw[if_pos (by simp only[D4,List.length_nil,decide_eq_true_eq]; omega)]
theorem C6r{h:XHarbour}(s:HSmall h)(hh:U9 h=F){l:List XOption}(hl:l.length≤1000)(ho:∀o∈l,B5q h o):∃b,S5 h l=G b:=by
 have hh':=hh
 simp only[U9,Q] at hh'
 obtain⟨hf,hc,hfl,hreg,hcrew⟩:=hh'
 have key:∀(k i n:Nat) (all:List XPassage) (pil:List XDuty),i+k=l.length→k<n→all.length≤100*i→pil.length≤i→∃b,Q5 l h n (i:Int) all pil=G b:=by
  intro k
  induction k with
  | zero=>
   intro i n all pil hi hn ha hp
   obtain⟨q,rfl⟩:=sn (n:=n) (by omega)
   have:i=l.length:=by omega
   subst this
   obtain⟨out,ok,e⟩:=C5n s.pn s.fn hc hfl (all:=all) (smx (by omega))
   obtain⟨b1,e1⟩:=B34 (p:=0) (m:=h.Crew.Moves) (l:=out) s.mv h.Crew.Tugs
   obtain⟨b2,e2⟩:=B34 (p:=h.Crew.Rest) (m:=h.Crew.Moves) (l:=pil) s.mv h.Crew.Pilots
   rw[Q5]
   simp only[E1,W,decide_false,P,if_false,e,e1,e2,N]
   split
   ·split
    ·exact⟨_,rfl⟩
    ·exact⟨_,rfl⟩
   ·exact⟨_,rfl⟩
  | succ k ih=>
   intro i n all pil hi hn ha hp
   obtain⟨q,rfl⟩:=sn (n:=n) (by omega)
   have hlt:i<l.length:=by omega
   obtain⟨g1,g2⟩:=ho _ (O hlt)
   rw[Q5]
   simp only[E1,hlt,decide_true,if_true,F2 hlt,N,H8 hlt (smx (by omega))]
   rw[if_pos (apk (by omega) (by omega) (by omega))]
   by_cases h0:(0:Int)<(l[i].Passages.length:Int)
   ·have hz:0<l[i].Passages.length:=by omega
    have ep:IntKind.i64.wrap ((l[i].Passages.length:Int) - 1)=((l[i].Passages.length - 1:Nat):Int):=by rw[B1 (by omega) (by omega)]; omega
    have e0:ix l[i].Passages 0=G l[i].Passages[0]:=F2 hz
    have e9:ix l[i].Passages ((l[i].Passages.length - 1:Nat):Int)=G l[i].Passages[l[i].Passages.length - 1]:=F2 (by omega)
    have s1:=(A5w hc (g2 _ (O hz))).2.1
    have s2:=(A5w hc (g2 _ (O (show l[i].Passages.length - 1<l[i].Passages.length by omega)))).2.1
    simp only[h0,decide_true,if_true,e0,ep,e9,N,B3x s1 s2]
    rw[if_pos (apk (by omega) (by simp) (by omega))]
    exact ih (i+1) q _ _ (by omega) (by omega) (by simp; omega) (by simp; omega)
   ·simp only[h0,decide_false,P,if_false]
    exact ih (i+1) q _ _ (by omega) (by omega) (by simp; omega) (by omega)
 exact key l.length 0 bigN [] [] (by omega) (E9 (smx (by omega))) (by simp) (by simp)
theorem E2c{h:XHarbour}(s:HSmall h)(hh:U9 h=F){l:List XOption}{o:XOption}(hl:l.length≤100)(ho:∀o∈l,B5q h o)(h0:B5q h o):∃b,A6z h l o=G b:=by
 have key:∀(k i n:Nat),i+k=l.length→k<n→∃b,A0c l h o n (i:Int)=G b:=by
  intro k
  induction k with
  | zero=>
   intro i n hi hn
   obtain⟨q,rfl⟩:=sn (n:=n) (by omega)
   have:i=l.length:=by omega
   subst this
   obtain⟨b,e⟩:=C6r s hh (l:=l++ [o]) (by simp; omega) fun x hx=>by
    rcases X.1 hx with hx|hx
    ·exact ho x hx
    ·simp only[U] at hx; exact hx▸h0
   rw[A0c]
   simp only[E1,W,decide_false,P,if_false,E7d (show l.length≤1000 by omega),N]
   rw[if_pos (apk (by omega) (by simp) (by omega)),e]
   exact⟨b,rfl⟩
  | succ k ih=>
   intro i n hi hn
   obtain⟨q,rfl⟩:=sn (n:=n) (by omega)
   have hlt:i<l.length:=by omega
   obtain⟨r,e⟩:=D0a (c:=h.Chart) (rg:=h.Regime) (a:=l[i].Passages) (b:=o.Passages) (smx (by have:=(ho _ (O hlt)).1; omega)) (smx (by have:=h0.1; omega))
   rw[A0c]
   simp only[E1,hlt,decide_true,if_true,F2 hlt,N,e,H8 hlt (smx (by omega))]
   split
   ·exact⟨_,rfl⟩
   ·exact ih (i+1) q (by omega) (by omega)
 exact key l.length 0 bigN (by omega) (E9 (smx (by omega)))
def B0w(cs:List (List XOption))(pl:List XOption)(ch:List Int):Prop:=
 pl.length=ch.length∧pl.length≤cs.length∧∀i (h1:i<ch.length) (h2:i<pl.length) (h3:i<cs.length),0≤ch[i]∧(ch[i]<(cs[i].length:Int))∧cs[i][ch[i].toNat]?=G pl[i]
structure SearchOk (h:XHarbour) (cs:List (List XOption)) (x:Xplanner):Prop where
 hh:x.h=h
 hc:x.choices=cs
 cho:B0w cs x.plan x.choice
 best:x.found=F→∃pl,B0w cs pl x.best∧pl.length=cs.length
theorem D2o{h:XHarbour}(s:HSmall h)(hok:U9 h=F){cs:List (List XOption)}(hcs:cs.length≤50)(hl8:∀l∈cs,l.length≤8)(hgo:∀l∈cs,∀o∈l,B5q h o){w:List XOption→Option Xweight}
  (hw:∀l:List XOption,l.length≤100→∃r,w l=G r):∀(d n:Nat) (x:Xplanner),x.plan.length+d=cs.length→d<n→SearchOk h cs x→∃r,F9 w n x=G r∧SearchOk h cs r∧r.plan=x.plan∧r.choice=x.choice:=by
 intro d
 induction d with
 | zero=>
  intro n x hd hn hx
  obtain⟨q,rfl⟩:=sn (n:=n) (by omega)
  obtain⟨r1,e1⟩:=hw x.plan (by omega)
  rw[F9,V0,e1,N]
  have leaf:∀b,∃r,J8 w (F9 w q) x r1 b=G r∧SearchOk h cs r∧r.plan=x.plan∧r.choice=x.choice:=fun b=>by
   unfold J8
   rw[if_pos (by rw[hx.hc]; simp; omega),C4x (by have:=hx.cho.1; omega),N]
   exact⟨_,rfl,⟨hx.hh,hx.hc,hx.cho,fun _=>⟨x.plan,hx.cho,by omega⟩⟩,rfl,rfl⟩
  split
  ·rename_i hf
   have:∃b,T1 r1 x.least=G b:=by
    unfold T1
    repeat' split
    all_goals exact⟨_,rfl⟩
   obtain⟨b,eb⟩:=this
   rw[eb,N]
   split
   ·exact leaf _
   ·exact⟨_,rfl,⟨hx.hh,hx.hc,hx.cho,fun _=>hx.best hf⟩,rfl,rfl⟩
  ·exact leaf _
 | succ d ih=>
  intro n x hd hn hx
  obtain⟨q,rfl⟩:=sn (n:=n) (by omega)
  obtain⟨r1,e1⟩:=hw x.plan (by omega)
  have hlt:x.plan.length<cs.length:=by omega
  rw[F9,V0,e1,N]
  have key:∀(k i m:Nat) (y:Xplanner),i+k=cs[x.plan.length].length→k<m→SearchOk h cs y→y.plan=x.plan→y.choice=x.choice→
    ∃r,J9 w (F9 w q) x cs[x.plan.length] m (i:Int) y.h y.choices y.least.i0 y.least.i1 y.found y.plan y.choice y.best=G r∧
     SearchOk h cs r∧r.plan=x.plan∧r.choice=x.choice:=by
   intro k
   induction k with
   | zero=>
    intro i m y hi hm hy hp hc
    obtain⟨m,rfl⟩:=sn (n:=m) (by omega)
    have:i=cs[x.plan.length].length:=by omega
    subst this
    rw[J9]
    simp only[E1,W,decide_false,P,if_false]
    exact⟨y,rfl,hy,hp,hc⟩
   | succ k ihk=>
    intro i m y hi hm hy hp hc
    obtain⟨m,rfl⟩:=sn (n:=m) (by omega)
    have hil:i<cs[x.plan.length].length:=by omega
    have hmem:=O hlt
    have h8:=hl8 _ hmem
    have hgood:∀o∈x.plan,B5q h o:=fun o ho=>by
     obtain⟨j,hj,rfl⟩:=Y ho
     obtain⟨c1,c2,c3⟩:=hx.cho
     obtain⟨_,_,c6⟩:=c3 j (by omega) hj (by omega)
     exact hgo _ (O (show j<cs.length by omega)) _ (List.mem_of_getElem? c6)
    obtain⟨b,eb⟩:=E2c s hok (l:=x.plan) (o:=cs[x.plan.length][i]) (by omega) hgood (hgo _ hmem _ (O hil))
    rw[J9]
    simp only[E1,hil,decide_true,if_true,F2 hil,N,H8 hil (smx (by omega))]
    rw[hy.hh,hp,eb,N]
    cases b with
    | false=>
     simp only[P,if_false]
     have g:=ihk (i+1) m y (by omega) (by omega) hy hp hc
     rw[hp,hy.hh] at g
     exact g
    | true=>
     simp only[if_true]
     have hcl:x.choice.length≤1000:=by have:=hx.cho.1; omega
     rw[if_pos (apk (by omega) (by simp) (by omega)),hc,if_pos (apk (by omega) (by simp) (by omega))]
     have hcho:B0w cs (x.plan++ [cs[x.plan.length][i]]) (x.choice++ [(i:Int)]):=by
      obtain⟨c1,c2,c3⟩:=hx.cho
      refine⟨by simp; omega,by simp; omega,fun j h1 h2 h3=> ?_⟩
      simp only[List.length_append,List.length_singleton] at h1 h2
      by_cases hj:j<x.plan.length
      ·rw[V (show j<x.choice.length by omega),V hj]
       exact c3 j (by omega) hj h3
      ·have:j=x.plan.length:=by omega
       subst this
       rw[Z (by omega),Z (by omega)]
       simp only[Nat.sub_self,List.getElem_singleton,Int.toNat_natCast]
       exact⟨by omega,by omega,by rw[zA hil]⟩
     obtain⟨r,g1,g2,g3,g4⟩:=ih q ⟨h,y.choices,x.plan++ [cs[x.plan.length][i]],x.choice++ [(i:Int)],y.best,⟨y.least.i0,y.least.i1⟩,y.found⟩ (by simp; omega) (by omega) ⟨rfl,hy.hc,hcho,hy.best⟩
     rw[g1,N]
     have b1:bnd (r.plan.length:Int) (x.plan.length:Int) 0 r.plan.length=G (0,x.plan.length):=A5x (by rw[g3]; simp)
     have b2:bnd (r.choice.length:Int) (x.plan.length:Int) 0 r.choice.length=G (0,x.plan.length):=A5x (by rw[g4]; simp; have:=hx.cho.1; omega)
     have t1:r.plan.take x.plan.length=x.plan:=by rw[g3]; simp
     have t2:r.choice.take x.plan.length=x.choice:=by
      have hle:x.plan.length=x.choice.length:=hx.cho.1
      rw[g4]
      show(x.choice++ [(i:Int)]).take x.plan.length=x.choice
      generalize x.plan.length=z at hle
      subst hle
      simp
     rw[b1,N,b2,N]
     simp only[t1,t2]
     exact ihk (i+1) m ⟨r.h,r.choices,x.plan,x.choice,r.best,r.least,r.found⟩ (by omega) (by omega) ⟨g2.hh,g2.hc,hx.cho,g2.best⟩ rfl rfl
  have body:∀b,(b=F→x.found=F)→∃r,J8 w (F9 w q) x r1 b=G r∧SearchOk h cs r∧r.plan=x.plan∧r.choice=x.choice:=fun b hb=>by
   unfold J8
   rw[if_neg (by rw[hx.hc]; simp; omega),hx.hc,F2 hlt,N]
   exact key cs[x.plan.length].length 0 bigN ⟨x.h,cs,x.plan,x.choice,x.best,x.least,b⟩ (by omega) (E9 (smx (by have:=hl8 _ (O hlt); omega))) ⟨hx.hh,rfl,hx.cho,fun hf=>hx.best (hb hf)⟩ rfl rfl
  split
  ·rename_i hf
   have:∃b,T1 r1 x.least=G b:=by
    unfold T1
    repeat' split
    all_goals exact⟨_,rfl⟩
   obtain⟨b,eb⟩:=this
   rw[eb,N]
   split
   ·exact body F fun _=>hf
   ·exact⟨_,rfl,⟨hx.hh,hx.hc,hx.cho,fun _=>hx.best hf⟩,rfl,rfl⟩
  ·exact body E fun h=>by cases h
structure CallsGood (h:XHarbour) (cs:List XCall):Prop where
 ok:∀a∈cs,A6n h a=F
 ne:∀i j (hi:i<cs.length) (hj:j<cs.length),i<j→cs[i].Ship≠cs[j].Ship
 six:cs.length≤6
theorem B23{h:XHarbour}(s:HSmall h)(hh:U9 h=F){cs:List XCall}(hc:CallsGood h cs):A1b h cs=G F:=by
 have h6:=hc.six
 unfold A1b
 rw[A6j s,hh,N,if_pos rfl,if_neg (by simp; omega)]
 have key:∀(k i n:Nat),i+k=cs.length→k<n→P5 cs h n (i:Int)=G F:=by
  intro k
  induction k with
  | zero=>
   intro i n hi hn
   obtain⟨q,rfl⟩:=sn (n:=n) (by omega)
   have:i=cs.length:=by omega
   subst this
   simp[P5]
  | succ k ih=>
   intro i n hi hn
   obtain⟨q,rfl⟩:=sn (n:=n) (by omega)
   have hlt:i<cs.length:=by omega
   have e0:=ih (i+1) q (by omega) (by omega)
   rw[← H8 hlt (smx (by omega))] at e0
   rw[P5]
   simp only[E1,hlt,decide_true,if_true,F2 hlt,N,B2b,hc.ok _ (O hlt),A5x (Nat.le_of_lt hlt),List.drop_zero,Nat.sub_zero]
   have hlen:(cs.take i).length=i:=by simp; omega
   have inner:∀(k j n:Nat),j+k=i→k<n→X1 cs (i:Int) h cs[i] (cs.take i) ((cs.take i).length:Int) (P5 cs h q) n (j:Int)=G F:=by
    intro k
    induction k with
    | zero=>
     intro j n hj hn
     obtain⟨q',rfl⟩:=sn (n:=n) (by omega)
     have:j=i:=by omega
     subst this
     rw[X1]
     simp only[hlen,E1,W,decide_false,P,if_false]
     exact e0
    | succ k ihk=>
     intro j n hj hn
     obtain⟨q',rfl⟩:=sn (n:=n) (by omega)
     have hji:j<i:=by omega
     have hjl:j<(cs.take i).length:=by omega
     have hne:=hc.ne j i (by omega) hlt hji
     have hg:(cs.take i)[j]=cs[j]:=by simp
     rw[X1]
     simp only[E1,hjl,decide_true,if_true,F2 hjl,N,hg]
     rw[if_neg (by simpa using hne),H8 hji (smx (by omega))]
     exact ihk (j+1) q' (by omega) (by omega)
   exact inner i 0 bigN (by omega) (E9 (smx (by omega)))
 exact key cs.length 0 bigN (by omega) (E9 (smx (by omega)))
structure OptsOf (h:XHarbour) (cs:List XCall) (os:List (List XOption)):Prop where
 len:os.length=cs.length
 eq:∀i (h1:i<cs.length) (h2:i<os.length),U1 h cs[i]=G os[i]
 l8:∀l∈os,l.length≤8
 ok:∀i (h1:i<cs.length) (h2:i<os.length),∀o∈os[i],OptOk h cs[i] o
theorem OptsOf.good{h:XHarbour}{cs:List XCall}{os:List (List XOption)}(H:OptsOf h cs os):∀l∈os,∀o∈l,B5q h o:=fun l hl o ho=>by
 obtain⟨i,hi,rfl⟩:=Y hl
 have:=H.ok i (by have:=H.len; omega) hi o ho
 exact⟨this.len,fun p hp=>(this.pass p hp).2.1⟩
theorem C1z{h:XHarbour}(s:HSmall h)(hh:U9 h=F){cs:List XCall}(hc:CallsGood h cs):∃os,A14 h cs=G os∧OptsOf h cs os:=by
 have h6:=hc.six
 unfold A14
 have key:∀(k i n:Nat) (acc:List (List XOption)),i+k=cs.length→k<n→acc.length=i→(∀l∈acc,l.length≤8)→(∀j (h1:j<cs.length) (h2:j<acc.length),U1 h cs[j]=G acc[j])→
   (∀j (h1:j<cs.length) (h2:j<acc.length),∀o∈acc[j],OptOk h cs[j] o)→∃os,R9 cs h n (i:Int) acc=G os∧OptsOf h cs os:=by
  intro k
  induction k with
  | zero=>
   intro i n acc hi hn ha h8 he ho
   obtain⟨q,rfl⟩:=sn (n:=n) (by omega)
   have:i=cs.length:=by omega
   subst this
   exact⟨acc,by simp[R9],ha,he,h8,ho⟩
  | succ k ih=>
   intro i n acc hi hn ha h8 he ho
   obtain⟨q,rfl⟩:=sn (n:=n) (by omega)
   have hlt:i<cs.length:=by omega
   obtain⟨l,e1,e2,e3⟩:=D2b s hh (hc.ok _ (O hlt))
   rw[R9]
   simp only[E1,hlt,decide_true,if_true,F2 hlt,N,e1]
   rw[if_pos (apk (by omega) (by simp) (by omega)),H8 hlt (smx (by omega))]
   refine ih (i+1) q _ (by omega) (by omega) (by simp; omega) (fun x hx=> ?_) (fun j h1 h2=> ?_) fun j h1 h2=> ?_
   ·rcases X.1 hx with hx|hx
    ·exact h8 x hx
    ·simp only[U] at hx; exact hx▸e2
   ·by_cases hj:j<acc.length
    ·rw[V hj]; exact he j h1 hj
    ·have:j=acc.length:=by simp at h2; omega
     subst this
     subst ha
     simpa using e1
   ·by_cases hj:j<acc.length
    ·rw[V hj]; exact ho j h1 hj
    ·have:j=acc.length:=by simp at h2; omega
     subst this
     subst ha
     simpa using e3
 exact key cs.length 0 bigN [] (by omega) (E9 (smx (by omega))) rfl (fun l hl=>by cases hl) (fun j _ h=>by simp at h) fun j _ h=>by simp at h
theorem E2g{l:List XOption}(hl:l.length≤1000):∃r,A6y l=G r:=by
 have key:∀(k i n:Nat) (v:Int),i+k=l.length→k<n→∃r,Z6 l n v (i:Int)=G r:=by
  intro k
  induction k with
  | zero=>
   intro i n v hi hn
   obtain⟨q,rfl⟩:=sn (n:=n) (by omega)
   have:i=l.length:=by omega
   subst this
   exact⟨v,by simp[Z6]⟩
  | succ k ih=>
   intro i n v hi hn
   obtain⟨q,rfl⟩:=sn (n:=n) (by omega)
   have hlt:i<l.length:=by omega
   rw[Z6]
   simp only[E1,hlt,decide_true,if_true,F2 hlt,N,H8 hlt (smx (by omega))]
   exact ih (i+1) q _ (by omega) (by omega)
 exact key l.length 0 bigN 0 (by omega) (E9 (smx (by omega)))
theorem C5g{h:XHarbour}(s:HSmall h)(hh:U9 h=F){cs:List XCall}(hc:CallsGood h cs){os:List (List XOption)}(ho:OptsOf h cs os){w:List XOption→Option Xweight}
  (hw:∀l:List XOption,l.length≤100→∃r,w l=G r):∃ch lw f,A23 h os w=G (ch,lw,f)∧(f=F→∃pl,B0w os pl ch∧pl.length=os.length):=by
 have h6:=hc.six
 have hlen:=ho.len
 obtain⟨r,e,g,_,_⟩:=D2o s hh (cs:=os) (by omega) ho.l8 ho.good hw os.length bigN ⟨h,os,[],[],[],⟨0,0⟩,E⟩ (by simp) (by rw[T8]; omega) ⟨rfl,rfl,⟨rfl,by simp,fun i h1=>by simp at h1⟩,fun h=>by cases h⟩
 have e:A4i w ⟨h,os,[],[],[],⟨0,0⟩,E⟩=G r:=e
 exact⟨r.best,r.least,r.found,by simp only[A23,e,N],fun hf=>g.best hf⟩
theorem C65{h:XHarbour}(s:HSmall h)(hh:U9 h=F){cs:List XCall}(hc:CallsGood h cs):∃os ch cost f,OptsOf h cs os∧A1o h cs=G (ch,cost,f)∧(f=F→∃pl,B0w os pl ch∧pl.length=os.length):=by
 obtain⟨os,e1,ho⟩:=C1z s hh hc
 obtain⟨ch,lw,f,e2,e3⟩:=C5g s hh hc ho (w:=fun z0=>A47 z0) fun l hl=>by
  obtain⟨r,e⟩:=E2g (l:=l) (by omega)
  exact⟨_,by simp only[A47,e,N]; rfl⟩
 exact⟨os,ch,lw.i0,f,ho,by simp only[A1o,B23 s hh hc,N,if_true,e1,e2],e3⟩
theorem D4w{h:XHarbour}(s:HSmall h)(hh:U9 h=F){cs:List XCall}(hc:CallsGood h cs){os:List (List XOption)}(ho:OptsOf h cs os){pl:List XOption}{ch:List Int}(hch:B0w os pl ch)(hl:pl.length=os.length) :
  A48 h cs ch=G (pl,F):=by
 have h6:=hc.six
 have hlen:=ho.len
 obtain⟨c1,c2,c3⟩:=hch
 unfold A48
 rw[B23 s hh hc,N,if_pos rfl,show((ch.length:Int) !=(cs.length:Int))=E by simp; omega]
 unfold A3w
 rw[if_neg (by simp)]
 have key:∀(k i n:Nat) (acc:List XOption),i+k=cs.length→k<n→acc=pl.take i→Z7 ch cs h n (i:Int) acc=G (pl,F):=by
  intro k
  induction k with
  | zero=>
   intro i n acc hi hn ha
   obtain⟨q,rfl⟩:=sn (n:=n) (by omega)
   have:i=cs.length:=by omega
   subst this
   rw[List.take_of_length_le (by omega)] at ha
   subst ha
   simp[Z7]
  | succ k ih=>
   intro i n acc hi hn ha
   obtain⟨q,rfl⟩:=sn (n:=n) (by omega)
   have hlt:i<cs.length:=by omega
   have ho2:i<os.length:=by omega
   have hp2:i<pl.length:=by omega
   have hc2:i<ch.length:=by omega
   obtain⟨d1,d2,d3⟩:=c3 i hc2 hp2 ho2
   have hix:ix os[i] ch[i]=G pl[i]:=by unfold ix; rw[if_pos d1]; exact d3
   rw[Z7]
   simp only[E1,hlt,decide_true,if_true,F2 hlt,N,ho.eq i hlt ho2,F2 hc2,A28,A7i.2 ⟨d1,d2⟩,hix]
   rw[if_pos (apk (by rw[ha]; simp; omega) (by simp) (by omega)),H8 hlt (smx (by omega))]
   refine ih (i+1) q _ (by omega) (by omega) ?_
   rw[ha,C hp2]
 exact key cs.length 0 bigN [] (by omega) (E9 (smx (by omega))) (by simp)
theorem D0h{h:XHarbour}{cs:List XCall}{os:List (List XOption)}(ho:OptsOf h cs os){pl:List XOption}{ch:List Int}(hch:B0w os pl ch):∀o∈pl,∃a∈cs,OptOk h a o:=fun o hm=>by
 obtain⟨c1,c2,c3⟩:=hch
 obtain⟨i,hi,rfl⟩:=Y hm
 have hlen:=ho.len
 obtain⟨_,_,d3⟩:=c3 i (by omega) hi (by omega)
 exact⟨cs[i]'(by omega),O _,ho.ok i (by omega) (by omega) _ (List.mem_of_getElem? d3)⟩
theorem D1b{c:Xl01Cur}(hc:CurOk c){x:XHarbour}{cx:Xl01Cur}(h3:x.Fleet.length≤3)(h4:4≤x.Chart.Points.length)(h1:1≤x.Fleet.length) :
  ∃l c',I8 (x,cx) bigN 0 c.b c.i c.h []=G (x,l,c')∧CurOk c'∧CallsGood x l∧1≤l.length:=by
 have key:∀(k i n:Nat) (c:Xl01Cur) (l:List XCall),i+k=x.Fleet.length→k<n→CurOk c→l.length≤i→(0<i→1≤l.length)→(∀a∈l,A6n x a=F∧a.Ship<(i:Int))→
   (∀p q (hp:p<l.length) (hq:q<l.length),p<q→l[p].Ship≠l[q].Ship)→∃l' c',I8 (x,cx) n (i:Int) c.b c.i c.h l=G (x,l',c')∧CurOk c'∧CallsGood x l'∧1≤l'.length:=by
  intro k
  induction k with
  | zero=>
   intro i n c l hi hn hc hl h0 ha hne
   obtain⟨q,rfl⟩:=sn (n:=n) (by omega)
   have:i=x.Fleet.length:=by omega
   subst this
   exact⟨l,c,by simp[I8],hc,⟨fun a h=>(ha a h).1,hne,by omega⟩,h0 (by omega)⟩
  | succ k ih=>
   intro i n c l hi hn hc hl h0 ha hne
   obtain⟨q,rfl⟩:=sn (n:=n) (by omega)
   have hlt:i<x.Fleet.length:=by omega
   have hw:IntKind.i64.wrap ((i:Int)+1)=((i+1:Nat):Int):=H8 hlt (smx (by omega))
   have add:∀c:Xl01Cur,CurOk c→∃l' c',U2 (i:Int) (x,cx) l (I8 (x,cx) q) F c.b c.i c.h=G (x,l',c')∧CurOk c'∧CallsGood x l'∧1≤l'.length:=fun c hc=>by
    obtain⟨a,c',e,h',a1,a2⟩:=D23 hc (x:=x) (s:=(i:Int)) (A7i.2 ⟨by omega,by omega⟩) h4
    have e':A2f ⟨c.b,c.i,c.h⟩ (i:Int)=G (a,c'):=e
    simp only[U2,if_true,e',N,hw]
    rw[if_pos (apk (by omega) (by simp) (by omega))]
    refine ih (i+1) q c' _ (by omega) (by omega) h' (by simp; omega) (fun _=>by simp) (fun y hy=> ?_) fun p r hp hr hpr=> ?_
    ·rcases X.1 hy with hy|hy
     ·obtain⟨y1,y2⟩:=ha y hy; exact⟨y1,by omega⟩
     ·simp only[U] at hy; subst hy; exact⟨a1,by omega⟩
    ·simp only[List.length_append,List.length_singleton] at hp hr
     rw[V (show p<l.length by omega)]
     by_cases hrl:r<l.length
     ·rw[V hrl]; exact hne p r (by omega) hrl hpr
     ·rw[Z (by omega)]
      have:r=l.length:=by omega
      subst this
      simp only[Nat.sub_self,List.getElem_singleton,a2]
      have:=(ha _ (O (show p<l.length by omega))).2
      omega
   have skip:∀c:Xl01Cur,CurOk c→0<i→∃l' c',U2 (i:Int) (x,cx) l (I8 (x,cx) q) E c.b c.i c.h=G (x,l',c')∧CurOk c'∧CallsGood x l'∧1≤l'.length:=fun c hc hi0=>by
    simp only[U2,P,if_false,hw]
    exact ih (i+1) q c l (by omega) (by omega) hc (by omega) (fun _=>h0 hi0) (fun y hy=>by obtain⟨y1,y2⟩:=ha y hy; exact⟨y1,by omega⟩) hne
   rw[I8]
   simp only[E1,hlt,decide_true,if_true]
   by_cases hi0:((i:Int)==(0:Int))=F
   ·rw[if_pos hi0]; exact add c hc
   ·rw[if_neg hi0]
    obtain⟨b,c',e,h'⟩:=A6f (n:=4) hc (by omega)
    have e':I7 ⟨c.b,c.i,c.h⟩ 4=G (b,c'):=e
    rw[e',N]
    have hpos:0<i:=by
     rcases Nat.eq_zero_or_pos i with h|h
     ·subst h; simp at hi0
     ·exact h
    cases b with
    | true=>exact skip c' h' hpos
    | false=>exact add c' h'
 exact key x.Fleet.length 0 bigN c [] (by omega) (E9 (smx (by omega))) hc (by simp) (fun h=>by omega) (fun a h=>by cases h) fun p q hp=>by simp at hp
theorem C47{b:List Int}(hb:b.length≤maxLen):∃h cs,A21 b=G (h,cs)∧HSmall h∧U9 h=F∧CallsGood h cs∧1≤cs.length:=by
 obtain⟨c,e,hc⟩:=D2j hb
 obtain⟨x,c1,e1,h1,s1,s2,s3,s4,s5⟩:=C49 hc
 obtain⟨l,c2,e2,h2,g1,g2⟩:=D1b h1 (x:=x) (cx:=c1) s5 s4 s3
 exact⟨x,l,by simp only[A21,A6g,e,e1,e2,N],s1,s2,g1,g2⟩
theorem D02{b:List Int}(hb:b.length≤maxLen):∃xs,A2w b 90=G xs∧A0o xs=F∧xs.length≤maxLen:=by
 obtain⟨c,e,hc⟩:=E2q (k:=90) (by omega) hb
 have e:A3d b 90=G c:=e
 obtain⟨v1,c1,e1,h1,p1,q1,_⟩:=F4 (n:=6) hc (by omega)
 have q1:=q1 (by omega)
 have key:∀(k n:Nat) (c:Xl01Cur) (l:List Int),k<n→CurOk c→l.length+k≤6→1≤l.length+k→(∀x∈l,A8p x=F)→∃xs c',V7 n (k:Int) c.b c.i c.h l=G (xs,c')∧CurOk c'∧1≤xs.length∧xs.length≤6∧∀x∈xs,A8p x=F:=by
  intro k
  induction k with
  | zero=>
   intro n c l hn hc hl h1 hx
   obtain⟨q,rfl⟩:=sn (n:=n) (by omega)
   exact⟨l,c,by simp[V7],hc,by omega,by omega,hx⟩
  | succ k ih=>
   intro n c l hn hc hl h1 hx
   obtain⟨q,rfl⟩:=sn (n:=n) (by omega)
   obtain⟨v,c2,e2,h2,p2,q2,_⟩:=F4 (n:=1001) hc (by omega)
   obtain⟨y,c3,e3,h3,m3⟩:=C71 (l:= [0,1000,v]) h2 (by simp) (by simp)
   have q2:=q2 (by omega)
   have e2':A8 ⟨c.b,c.i,c.h⟩ 1001=G (v,c2):=e2
   have hk:(0:Int)<((k+1:Nat):Int):=by omega
   have hy:A8p y=F:=by
    have m3:y=0∨y=1000∨y=v:=by
     rcases List.mem_cons.1 m3 with h|h
     ·exact Or.inl h
     ·rcases List.mem_cons.1 h with h|h
      ·exact Or.inr (Or.inl h)
      ·exact Or.inr (Or.inr (U.1 h))
    have:0≤y∧y≤1000:=by omega
    simp only[A8p,Q,decide_eq_true_eq]
    exact this
   rw[V7]
   simp only[hk,decide_true,if_true,e2',e3,N]
   rw[if_pos (apk (by omega) (by simp) (by omega)),show IntKind.i64.wrap (((k+1:Nat):Int) - 1)=(k:Int) from by rw[B1 (by omega) (by omega)]; omega]
   refine ih q c3 _ (by omega) h3 (by simp; omega) (by simp; omega) fun z hz=> ?_
   rcases X.1 hz with hz|hz
   ·exact hx z hz
   ·simp only[U] at hz; exact hz▸hy
 obtain⟨xs,c2,e2,_,x1,x2,x3⟩:=key (1+v1).toNat bigN c1 [] (by rw[T8]; omega) h1 (by simp; omega) (by simp; omega) fun x hx=>by cases hx
 refine⟨xs,?_,?_,smx (by omega)⟩
 ·have e3:A3l c=G (xs,c2):=by
   unfold A3l
   rw[e1,N,B1 (by omega) (by omega),show(1:Int)+v1=((1+v1).toNat:Int) by omega]
   exact e2
  unfold A2w
  rw[e,N,e3,N]
 ·simp only[A0o,Q,decide_eq_true_eq,List.all_eq_true]
  exact⟨⟨by omega,by omega⟩,x3⟩
def lvV(f:XForecast)(xs:List Int)(m:Int):Int:=(L4 f xs m).getD 0
theorem B78{f:XForecast}{xs:List Int}{m:Int}(hf:A7a f=F)(hx:A0o xs=F)(h0:0≤m)(h1:m≤2880):L4 f xs m=G (lvV f xs m)∧A87 f m≤lvV f xs m∧lvV f xs m≤3000000000000∧ -3000000000000≤lvV f xs m:=by
 obtain⟨ht,s0,s6⟩:=C5j hf
 obtain⟨k1,k2⟩:=B6k hx
 obtain⟨t,e1,b1,b2⟩:=B8e ht h0 h1
 obtain⟨a,ha,e2⟩:=B89 (m:=m) s0 s6
 obtain⟨l1,_,l3,l4⟩:=B5f (m:=m) hf h0 h1
 have hs:=B6f hf a ha
 obtain⟨p,e5⟩:=C76 k1 k2 h0 h1
 have hp:=B9b hx e5
 unfold B85 at e5
 have e4:P3 f m=G (t+f.Surges[a].High):=by
  unfold P3
  rw[e1,N,e2,N,F2 ha,N,B1 (by omega) (by omega)]
 have e3:H5 f m=G (t+f.Surges[a].Low):=by
  unfold H5
  rw[e1,N,e2,N,F2 ha,N,B1 (by omega) (by omega)]
 have el:A87 f m=t+f.Surges[a].Low:=by simp[A87,e3]
 have mm:=A8o (a:=f.Surges[a].High - f.Surges[a].Low) (b:=p) (A:=1000) (B:=1000) (by omega) (by omega) (by omega) (by omega)
 have hnn:0≤(f.Surges[a].High - f.Surges[a].Low)*p:=Int.mul_nonneg (by omega) hp.1
 have e:L4 f xs m=G (t+f.Surges[a].Low+(f.Surges[a].High - f.Surges[a].Low)*p / 1000):=by
  unfold L4 P6
  rw[e3,N,e4,N,e5]
  simp only[N]
  rw[show t+f.Surges[a].High - (t+f.Surges[a].Low)=f.Surges[a].High - f.Surges[a].Low by omega,B1 (n:=f.Surges[a].High - f.Surges[a].Low) (by omega) (by omega)]
  generalize (f.Surges[a].High - f.Surges[a].Low)*p=z at mm hnn
  rw[B1 (n:=z) (by omega) (by omega),Int.tdiv_eq_ediv_of_nonneg hnn,B1 (n:=z / 1000) (by omega) (by omega),B1 (by omega) (by omega)]
 have ev:lvV f xs m=t+f.Surges[a].Low+(f.Surges[a].High - f.Surges[a].Low)*p / 1000:=by simp[lvV,e]
 rw[ev,el]
 refine⟨e,?_⟩
 generalize (f.Surges[a].High - f.Surges[a].Low)*p=z at mm hnn
 omega
theorem E0k{f:XForecast}{m:Int}(hf:A7a f=F)(h0:0≤m)(h1:m≤2880):lvV f [0] m=A87 f m:=by
 obtain⟨_,l2,_,_⟩:=B5f (m:=m) hf h0 h1
 simp[lvV,l2]
def clr(h:XHarbour)(xs:List Int)(p:XPassage):Int:=((F3 h p xs).getD (0,E)).1
theorem D3g{h:XHarbour}{p:XPassage}{xs:List Int}(s:HSmall h)(hh:U9 h=F)(hp:A6p h.Chart h.Fleet p=F)(hx:A0o xs=F)(hxl:xs.length≤maxLen) :
  F3 h p xs=G (clr h xs p,F)∧(∃m,p.Start≤m∧m≤p.End∧clr h xs p=lvV h.Forecast xs m - A62 h.Chart p.Segment (Y9 h.Fleet p.Ship))∧
   ∀m,p.Start≤m→m≤p.End→clr h xs p≤lvV h.Forecast xs m - A62 h.Chart p.Segment (Y9 h.Fleet p.Ship):=by
 have hh':=hh
 simp only[U9,Q] at hh'
 obtain⟨hf,hc,hfl,_,_⟩:=hh'
 obtain⟨i1,i2,p1,p2,p3⟩:=A5w hc hp
 have hsh:=A9x i1
 have hok:=(A8i hfl).2 _ hsh.2
 obtain⟨n1,n2⟩:=C9j hc hok i2
 have hlf:=B0s s.pn (A7d hok) hc hok i2
 have key:∀(k n:Nat) (v m:Int),m+(k:Int)=p.End+1→k<n→p.Start≤m→(∀j,p.Start≤j→j<m→v≤lvV h.Forecast xs j)→(∃j,p.Start≤j∧j≤p.End∧lvV h.Forecast xs j=v)→
   ∃L,(∀j,p.Start≤j→j≤p.End→L≤lvV h.Forecast xs j)∧(∃j,p.Start≤j∧j≤p.End∧lvV h.Forecast xs j=L)∧P4 xs h p n v m=G (L - A62 h.Chart p.Segment (Y9 h.Fleet p.Ship),F):=by
  intro k
  induction k with
  | zero=>
   intro n v m hk hn hm hall hex
   obtain⟨q,rfl⟩:=sn (n:=n) (by omega)
   have hlt:¬m≤p.End:=by omega
   refine⟨v,fun m' h1 h2=>hall m' h1 (by omega),hex,?_⟩
   obtain⟨j,j1,j2,j3⟩:=hex
   obtain⟨_,_,l3,l4⟩:=B78 (m:=j) hf hx (by omega) (by omega)
   rw[P4]
   simp only[hlt,decide_false,P,if_false,hsh.1,N,hlf]
   rw[B1 (by omega) (by omega)]
  | succ k ih=>
   intro n v m hk hn hm hall hex
   obtain⟨q,rfl⟩:=sn (n:=n) (by omega)
   have hle:m≤p.End:=by omega
   obtain⟨l2,_,l3,l4⟩:=B78 (m:=m) hf hx (by omega) (by omega)
   rw[P4]
   simp only[hle,decide_true,if_true,l2,N]
   rw[B1 (n:=m+1) (by omega) (by omega)]
   by_cases hlt:lvV h.Forecast xs m<v
   ·rw[if_pos hlt]
    exact ih q _ (m+1) (by omega) (by omega) (by omega) (fun j h1 h2=>by
     by_cases hj:j=m
     ·subst hj; exact I _
     ·have:=hall j h1 (by omega); omega) ⟨m,hm,hle,rfl⟩
   ·rw[if_neg hlt]
    exact ih q v (m+1) (by omega) (by omega) (by omega) (fun j h1 h2=>by
     by_cases hj:j=m
     ·subst hj; omega
     ·exact hall j h1 (by omega)) hex
 obtain⟨l2,_,_,_⟩:=B78 (m:=p.Start) hf hx (by omega) (by omega)
 obtain⟨L,L1,L2,L3⟩:=key (p.End+1 - p.Start).toNat bigN (lvV h.Forecast xs p.Start) p.Start (by omega) (by rw[T8]; omega) (I _) (fun j h1 h2=>by omega) ⟨p.Start,I _,p2,rfl⟩
 have e:F3 h p xs=G (L - A62 h.Chart p.Segment (Y9 h.Fleet p.Ship),F):=by
  unfold F3
  simp only[A6j s,hh,A5n hxl,hx,A9h,hp,N,if_true,U6,Bool.not_true,P,if_false,l2]
  exact L3
 have ec:clr h xs p=L - A62 h.Chart p.Segment (Y9 h.Fleet p.Ship):=by simp[clr,e]
 rw[ec]
 obtain⟨j,j1,j2,j3⟩:=L2
 exact⟨e,⟨j,j1,j2,by omega⟩,fun m h1 h2=>by have:=L1 m h1 h2; omega⟩
def Y4(l:List XOption):List XPassage:=l.flatMap XOption.Passages
section
variable {h : XHarbour} {xs : List Int} {l : List XOption}
theorem C6i(hl:l.length≤1000)(hp:∀o∈l,o.Passages.length≤100)(hc:∀p∈Y4 l,F3 h p xs=G (clr h xs p,F))(hne:Y4 l≠ []) :
  ∃x,Y1 h l xs=G (x,F)∧(∃p∈Y4 l,x=clr h xs p)∧∀p∈Y4 l,x≤clr h xs p:=by
 have key:∀(k i n:Nat) (v:Int) (b:Bool) (done:List XPassage),i+k=l.length→k<n→done++Y4 (l.drop i)=Y4 l→(b=E→done= [])→(b=F→(∃p∈done,v=clr h xs p)∧∀p∈done,v≤clr h xs p)→
   ∃x f,I4 xs l h n v b (i:Int)=G (x,f)∧(f=E→Y4 l= [])∧(f=F→(∃p∈Y4 l,x=clr h xs p)∧∀p∈Y4 l,x≤clr h xs p):=by
  intro k
  induction k with
  | zero=>
   intro i n v b done hi hn hd hF hT
   obtain⟨q,rfl⟩:=sn (n:=n) (by omega)
   have:i=l.length:=by omega
   subst this
   simp only[List.drop_length,Y4,List.flatMap_nil,List.append_nil] at hd
   have hd:done=Y4 l:=hd
   refine⟨v,b,by simp[I4],fun e=>hd▸hF e,fun e=>hd▸hT e⟩
  | succ k ih=>
   intro i n v b done hi hn hd hF hT
   obtain⟨q,rfl⟩:=sn (n:=n) (by omega)
   have hlt:i<l.length:=by omega
   have hpl:=hp _ (O hlt)
   rw[I4]
   simp only[E1,hlt,decide_true,if_true,F2 hlt,N]
   have hsplit:Y4 (l.drop i)=l[i].Passages++Y4 (l.drop (i+1)):=by
    rw[List.drop_eq_getElem_cons hlt]
    rfl
   have hin:∀p∈l[i].Passages,p∈Y4 l:=fun p h'=>zB.2 ⟨l[i],O hlt,h'⟩
   have inner:∀(k j n:Nat) (v:Int) (b:Bool) (dn:List XPassage),j+k=l[i].Passages.length→k<n→dn=done++l[i].Passages.take j→(b=E→dn= [])→(b=F→(∃p∈dn,v=clr h xs p)∧∀p∈dn,v≤clr h xs p)→
     ∃x f,H0 xs l (i:Int) l[i] h (I4 xs l h q) n v b (j:Int)=G (x,f)∧(f=E→Y4 l= [])∧(f=F→(∃p∈Y4 l,x=clr h xs p)∧∀p∈Y4 l,x≤clr h xs p):=by
    intro k
    induction k with
    | zero=>
     intro j n v b dn hj hn hdn hF hT
     obtain⟨q',rfl⟩:=sn (n:=n) (by omega)
     have:j=l[i].Passages.length:=by omega
     subst this
     rw[List.take_length] at hdn
     rw[H0]
     simp only[E1,W,decide_false,P,if_false,H8 hlt (smx (by omega))]
     exact ih (i+1) q v b dn (by omega) (by omega) (by rw[hdn,List.append_assoc,← hsplit,hd]) hF hT
    | succ k ihk=>
     intro j n v b dn hj hn hdn hF hT
     obtain⟨q',rfl⟩:=sn (n:=n) (by omega)
     have hjl:j<l[i].Passages.length:=by omega
     have hmem:=hin _ (O hjl)
     rw[H0]
     simp only[E1,hjl,decide_true,if_true,F2 hjl,N,hc _ hmem]
     have hdn2:dn++ [l[i].Passages[j]]=done++l[i].Passages.take (j+1):=by
      rw[hdn,List.append_assoc,C hjl]
     cases b with
     | false=>
      simp only[P,if_false,O9,if_true,H8 hjl (smx (by omega))]
      have hnil:=hF rfl
      refine ihk (j+1) q' _ F (dn++ [l[i].Passages[j]]) (by omega) (by omega) hdn2 (fun h=>by cases h) fun _=> ?_
      rw[hnil]
      exact⟨⟨_,by simp,rfl⟩,fun p hp'=>by simp only[List.nil_append,U] at hp'; subst hp'; exact I _⟩
     | true=>
      simp only[if_true,O9]
      obtain⟨⟨p0,t1,t2⟩,t3⟩:=hT rfl
      by_cases hlt2:clr h xs l[i].Passages[j]<v
      ·simp only[hlt2,decide_true,if_true,H8 hjl (smx (by omega))]
       refine ihk (j+1) q' _ F (dn++ [l[i].Passages[j]]) (by omega) (by omega) hdn2 (fun h=>by cases h) fun _=>⟨⟨_,by simp,rfl⟩,fun p hp'=> ?_⟩
       rcases X.1 hp' with hp' | hp'
       ·have:=t3 p hp'; omega
       ·simp only[U] at hp'; subst hp'; exact I _
      ·simp only[hlt2,decide_false,P,if_false,H8 hjl (smx (by omega))]
       refine ihk (j+1) q' _ F (dn++ [l[i].Passages[j]]) (by omega) (by omega) hdn2 (fun h=>by cases h) fun _=>⟨⟨p0,by simp[t1],t2⟩,fun p hp'=> ?_⟩
       rcases X.1 hp' with hp' | hp'
       ·exact t3 p hp'
       ·simp only[U] at hp'; subst hp'; omega
   exact inner l[i].Passages.length 0 bigN v b done (by omega) (E9 (smx (by omega))) (by simp) hF hT
 obtain⟨x,f,e,f1,f2⟩:=key l.length 0 bigN 0 E [] (by omega) (E9 (smx (by omega))) (by simp) (fun _=>rfl) fun h=>by cases h
 cases f with
 | false=>exact absurd (f1 rfl) hne
 | true=>exact⟨x,e,f2 rfl⟩
theorem C45(hl:l.length≤1000)(hp:∀o∈l,o.Passages.length≤100)(hc:∀o∈l,∀p∈o.Passages,F3 h p xs=G (clr h xs p,F)∧0≤clr h xs p):A4b h l xs=G F:=by
 have key:∀(k i n:Nat),i+k=l.length→k<n→P2 xs l h n (i:Int)=G F:=by
  intro k
  induction k with
  | zero=>
   intro i n hi hn
   obtain⟨q,rfl⟩:=sn (n:=n) (by omega)
   have:i=l.length:=by omega
   subst this
   simp[P2]
  | succ k ih=>
   intro i n hi hn
   obtain⟨q,rfl⟩:=sn (n:=n) (by omega)
   have hlt:i<l.length:=by omega
   have hpl:=hp _ (O hlt)
   rw[P2]
   simp only[E1,hlt,decide_true,if_true,F2 hlt,N]
   have inner:∀(k j n:Nat),j+k=l[i].Passages.length→k<n→X6 xs l (i:Int) l[i] h (P2 xs l h q) n (j:Int)=G F:=by
    intro k
    induction k with
    | zero=>
     intro j n hj hn
     obtain⟨q',rfl⟩:=sn (n:=n) (by omega)
     have:j=l[i].Passages.length:=by omega
     subst this
     rw[X6]
     simp only[E1,W,decide_false,P,if_false,H8 hlt (smx (by omega))]
     exact ih (i+1) q (by omega) (by omega)
    | succ k ihk=>
     intro j n hj hn
     obtain⟨q',rfl⟩:=sn (n:=n) (by omega)
     have hjl:j<l[i].Passages.length:=by omega
     obtain⟨c1,c2⟩:=hc _ (O hlt) _ (O hjl)
     have hnn:¬clr h xs l[i].Passages[j]<0:=by omega
     rw[X6]
     simp only[E1,hjl,decide_true,if_true,F2 hjl,N,c1,hnn,decide_false,P,if_false,H8 hjl (smx (by omega))]
     exact ihk (j+1) q' (by omega) (by omega)
   exact inner l[i].Passages.length 0 bigN (by omega) (E9 (smx (by omega)))
 exact key l.length 0 bigN (by omega) (E9 (smx (by omega)))
theorem D4b(hl:l.length≤1000)(hp:∀o∈l,o.Passages.length≤100)(hc:∀o∈l,∀p∈o.Passages,F3 h p xs=G (clr h xs p,F)∧0≤clr h xs p):A1w h l xs=G (-1,-1):=by
 have key:∀(k i n:Nat),i+k=l.length→k<n→I5 xs h l n (i:Int)=G (-1,-1):=by
  intro k
  induction k with
  | zero=>
   intro i n hi hn
   obtain⟨q,rfl⟩:=sn (n:=n) (by omega)
   have:i=l.length:=by omega
   subst this
   simp[I5]
  | succ k ih=>
   intro i n hi hn
   obtain⟨q,rfl⟩:=sn (n:=n) (by omega)
   have hlt:i<l.length:=by omega
   have hpl:=hp _ (O hlt)
   rw[I5]
   simp only[E1,hlt,decide_true,if_true,F2 hlt,N]
   have inner:∀(k j n:Nat),j+k=l[i].Passages.length→k<n→M6 xs h (i:Int) l l[i] (I5 xs h l q) n (j:Int)=G (-1,-1):=by
    intro k
    induction k with
    | zero=>
     intro j n hj hn
     obtain⟨q',rfl⟩:=sn (n:=n) (by omega)
     have:j=l[i].Passages.length:=by omega
     subst this
     rw[M6]
     simp only[E1,W,decide_false,P,if_false,H8 hlt (smx (by omega))]
     exact ih (i+1) q (by omega) (by omega)
    | succ k ihk=>
     intro j n hj hn
     obtain⟨q',rfl⟩:=sn (n:=n) (by omega)
     have hjl:j<l[i].Passages.length:=by omega
     obtain⟨c1,c2⟩:=hc _ (O hlt) _ (O hjl)
     have es:A42 h (i:Int) l[i].Passages[j] xs=G none:=by
      unfold A42
      simp only[c1,N,if_true,c2,decide_true]
     rw[M6]
     simp only[E1,hjl,decide_true,if_true,F2 hjl,N,es,Option.isSome_none,P,if_false,H8 hjl (smx (by omega))]
     exact ihk (j+1) q' (by omega) (by omega)
   exact inner l[i].Passages.length 0 bigN (by omega) (E9 (smx (by omega)))
 exact key l.length 0 bigN (by omega) (E9 (smx (by omega)))
end
theorem B4u:A0o [0]=F:=by decide
theorem B13:([0]:List Int).length≤maxLen:=smx (by simp)
theorem D2h{xs:List Int}(hx:A0o xs=F){i:Nat}(hi:i<48):∃v,P6 xs (i:Int)=G v∧0≤v∧v≤1000:=by
 obtain⟨k1,k2⟩:=B6k hx
 unfold P6
 rw[B1 (n:=(xs.length:Int) - 1) (by omega) (by omega)]
 have:∃j:Nat,(if(xs.length:Int) - 1<(i:Int) then(xs.length:Int) - 1 else(i:Int))=(j:Int)∧j<xs.length:=by
  split
  ·exact⟨xs.length - 1,by omega,by omega⟩
  ·exact⟨i,rfl,by omega⟩
 obtain⟨j,e1,hj⟩:=this
 rw[e1,F2 hj,N]
 have:=B9b hx (F2 hj)
 exact⟨_,rfl,this⟩
theorem D6q{xs:List Int}(hx:A0o xs=F)(hxl:xs.length≤maxLen):A11 xs [0]=G F:=by
 unfold A11
 rw[A5n hxl,hx,N,if_pos rfl,A5n B13,B4u,N,if_pos rfl]
 have key:∀(k i n:Nat),i+k=48→k<n→Q8 xs [0] n (i:Int)=G F:=by
  intro k
  induction k with
  | zero=>
   intro i n hi hn
   obtain⟨q,rfl⟩:=sn (n:=n) (by omega)
   have:i=48:=by omega
   subst this
   simp[Q8]
  | succ k ih=>
   intro i n hi hn
   obtain⟨q,rfl⟩:=sn (n:=n) (by omega)
   obtain⟨v,e1,v1,_⟩:=D2h hx (i:=i) (by omega)
   have e0:P6 [0] (i:Int)=G 0:=by
    unfold P6
    have:(if IntKind.i64.wrap ((([0]:List Int).length:Int) - 1)<(i:Int) then IntKind.i64.wrap ((([0]:List Int).length:Int) - 1) else(i:Int))=0:=by
     have:IntKind.i64.wrap ((([0]:List Int).length:Int) - 1)=0:=rfl
     rw[this]
     split<;>omega
    rw[this]
    rfl
   have hlt:(i:Int)<48:=by omega
   have hnv:¬v<0:=by omega
   rw[Q8]
   simp only[hlt,decide_true,if_true,e1,e0,N,hnv,decide_false,P,if_false]
   rw[H8 (i:=i) (n:=48) (by omega) (smx (by omega))]
   exact ih (i+1) q (by omega) (by omega)
 exact key 48 0 bigN rfl (by rw[T8]; omega)
theorem law_FnAdverse(a0:List Int)(ok:DsOk [.sc (.sl (List.map r8 a0))]):A4l a0=G F:=by
 unfold A4l
 by_cases hlen:(decide ((1048576:Int)<(a0.length:Int)))=F
 ·rw[if_pos hlen]
 rw[if_neg hlen]
 have hl:a0.length≤maxLen:=by
  simp only[decide_eq_true_eq] at hlen
  rw[F8]; omega
 obtain⟨h,cs,e1,s,hh,hc,hc1⟩:=C47 hl
 obtain⟨os,ch,cost,f,ho,e2,e3⟩:=C65 s hh hc
 have e4:=B23 s hh hc
 simp only[e1,e2,e4,N,if_true]
 cases f with
 | false=>
  simp only[P,if_false,A5p,e2,N]
  rfl
 | true=>
  obtain⟨pl,p1,p2⟩:=e3 rfl
  obtain⟨xs,x1,x2,x3⟩:=D02 hl
  have hlen:=ho.len
  have h6:=hc.six
  have hplan:=D4w s hh hc ho p1 p2
  have hopt:=D0h ho p1
  have hh':=hh
  simp only[U9,Q] at hh'
  obtain⟨hf,hch,hfl,_,_⟩:=hh'
  have hpl:pl.length≤1000:=by omega
  have hpp:∀o∈pl,o.Passages.length≤100:=fun o hm=>by obtain⟨a,_,g⟩:=hopt o hm; exact g.len
  have hin:∀p∈Y4 pl,∃o∈pl,p∈o.Passages:=fun p hp=>zB.1 hp
  have good:∀ys:List Int,A0o ys=F→ys.length≤maxLen→∀o∈pl,∀p∈o.Passages,F3 h p ys=G (clr h ys p,F)∧0≤clr h ys p∧clr h [0] p≤clr h ys p:=fun ys hy hyl o hm p hp=>by
   obtain⟨a,_,g⟩:=hopt o hm
   obtain⟨q1,q2,q3,q4⟩:=g.pass p hp
   obtain⟨_,_,i1,i2,i3⟩:=A5w hch q2
   obtain⟨c1,⟨m,m1,m2,m3⟩,c3⟩:=D3g s hh q2 hy hyl
   obtain⟨_,_,c4⟩:=D3g s hh q2 B4u B13
   obtain⟨_,l2,_,_⟩:=B78 (m:=m) hf hy (by omega) (by omega)
   have hz:=E0k (m:=m) hf (by omega) (by omega)
   have c4m:=c4 m m1 m2
   have hsafe:=q3.2.2 m m1 (by omega)
   simp only[A80,decide_eq_true_eq] at hsafe
   rw[← q1] at hsafe
   refine⟨c1,by omega,by omega⟩
  have hne:Y4 pl≠ []:=by
   have hpos:0<pl.length:=by omega
   obtain⟨a,_,g⟩:=hopt _ (O hpos)
   have hp0:0<pl[0].Passages.length:=g.pos
   exact List.ne_nil_of_mem (zB.2 ⟨pl[0],O hpos,O hp0⟩)
  have cl:∀ys:List Int,A0o ys=F→ys.length≤maxLen→∀p∈Y4 pl,F3 h p ys=G (clr h ys p,F):=fun ys hy hyl p hp=>by
   obtain⟨o,o1,o2⟩:=hin p hp
   exact(good ys hy hyl o o1 p o2).1
  obtain⟨x,y1,⟨px,y2,y3⟩,y4⟩:=C6i hpl hpp (cl xs x2 x3) hne
  obtain⟨z,z1,⟨pz,z2,z3⟩,z4⟩:=C6i hpl hpp (cl [0] B4u B13) hne
  obtain⟨ox,ox1,ox2⟩:=hin px y2
  obtain⟨oz,oz1,oz2⟩:=hin pz z2
  obtain⟨_,gx1,gx2⟩:=good xs x2 x3 ox ox1 px ox2
  obtain⟨_,gz1,_⟩:=good [0] B4u B13 oz oz1 pz oz2
  have hzx:=z4 px y2
  have k1:z≤x:=by omega
  have k2:(0:Int)≤z:=by omega
  have g2:∀ys:List Int,A0o ys=F→ys.length≤maxLen→∀o∈pl,∀p∈o.Passages,F3 h p ys=G (clr h ys p,F)∧0≤clr h ys p:=fun ys hy hyl o hm p hp=>⟨(good ys hy hyl o hm p hp).1,(good ys hy hyl o hm p hp).2.1⟩
  have hA:=C45 hpl hpp (g2 xs x2 x3)
  have hB:=C45 hpl hpp (g2 [0] B4u B13)
  have hG:=D4b hpl hpp (g2 xs x2 x3)
  have hP:Q0 xs=G F:=by rw[A5n x3,x2]
  have hS:=D6q x2 x3
  obtain⟨u1,u2,_,_⟩:=B78 (m:=100) hf x2 (by omega) (by omega)
  obtain⟨w1,_,_,_⟩:=B5f (m:=100) hf (by omega) (by omega)
  have hm:(decide ((0:Int)≤100)&&decide ((100:Int)≤2880))=F:=by decide
  have hL:A4e h.Forecast xs 100=G (lvV h.Forecast xs 100):=by
   unfold A4e
   simp only[A1n,hf,hP,Z4,hm,N,if_true,u1]
  have hW:A5u h.Forecast 100=G (A87 h.Forecast 100):=by
   unfold A5u
   simp only[A1n,hf,Z4,hm,N,if_true,w1]
  simp only[if_true,hplan,x1,y1,z1,hG,N,k1,k2,decide_true,hA,hB,hP,hS,hL,hW,u2]
  rfl
end Go.Vi
