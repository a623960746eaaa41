/-
Plain laws. No condition.
-/
import Derived.Test.YtmgfndipofbbaaaGreatKK8c
namespace Go.Vi
set_option linter.all false
open Option renaming bind_some → O, some → G
open List renaming take_succ_eq_append_getElem → P, getElem_mem → Q
open Bool renaming false_eq_true → U, true → T, false → E
open _root_ renaming List → L, Int → N
theorem C08{α:Type}{F:Nat→N→Option N}(l:L α)(p:α→Bool)(hl:l.length≤maxLen)
  (hs:∀(n i:Nat) (h:i<l.length),F (n+1) (i:N)=if p l[i]=T then G (i:N) else F n (IntKind.i64.wrap ((i:N)+1))) (he:∀n,F (n+1) (l.length:N)=G (-1)) :
  (F bigN 0=G (-1)∧∀x∈l,p x=E)∨∃(k:Nat) (h:k<l.length),F bigN 0=G (k:N)∧p l[k]=T∧∀j (hj:j<k),p l[j]=E:=by
 have key:∀(d i n:Nat),i+d=l.length→d<n→(∀j (hj:j<l.length),j<i→p l[j]=E)→(F n (i:N)=G (-1)∧∀x∈l,p x=E)∨∃(k:Nat) (h:k<l.length),F n (i:N)=G (k:N)∧p l[k]=T∧∀j (hj:j<k),p l[j]=E:=by
  intro d
  induction d with
  | zero=>
   intro i n hi hn H
   obtain⟨q,rfl⟩:=sn (n:=n) (by omega)
   have:i=l.length:=by omega
   subst this
   refine .inl ⟨he q,fun x hx=> ?_⟩
   obtain⟨j,hj,rfl⟩:=List.getElem_of_mem hx
   exact H j hj hj
  | succ d ih=>
   intro i n hi hn H
   obtain⟨q,rfl⟩:=sn (n:=n) (by omega)
   have hlt:i<l.length:=by omega
   rw[hs q i hlt]
   cases hp:p l[i] with
   | true=>exact .inr ⟨i,hlt,by simp,hp,fun j hj=>H j (by omega) hj⟩
   | false=>
    simp only[U,if_false]
    rw[E9 hlt hl]
    refine ih (i+1) q (by omega) (by omega) fun j hj hji=> ?_
    by_cases h:j=i
    ·subst h; exact hp
    ·exact H j hj (by omega)
 exact key l.length 0 bigN (by omega) (D4 hl) fun j _ hj=>absurd hj (by omega)
theorem B13{α:Type}{F:Nat→N→Option N}(l:L α)(p:α→Bool)(hl:l.length≤maxLen)
  (hs:∀(n i:Nat) (h:i<l.length),F (n+1) (i:N)=if p l[i]=T then G (i:N) else F n (IntKind.i64.wrap ((i:N)+1))) (he:∀n,F (n+1) (l.length:N)=G (-1)) :
  ((F bigN 0).bind fun r=>G (decide ((0:N)≤r)))=G (l.any p):=by
 rcases C08 l p hl hs he with ⟨e,h⟩|⟨k,hk,e,h,_⟩
 ·rw[e,O]
  have:l.any p=E:=by rw[List.any_eq_false]; intro x hx; simp[h x hx]
  rw[this]; rfl
 ·rw[e,O]
  have:l.any p=T:=List.any_eq_true.2 ⟨_,Q hk,h⟩
  rw[this]; simp
def D5k(p:X4)(c:Xa):Bool:=(c.Segment==p.Segment)&&decide ((if c.From<p.Start then p.Start else c.From)<(if p.End<c.To then p.End else c.To))
def C86(cl:L Xa)(p:X4):Bool:=cl.any (D5k p)
def B4r(cl:L Xa)(o:X0):Bool:=o.Passages.any (C86 cl)
theorem D0i{cl:L Xa}(hl:cl.length≤1000)(p:X4):A0p p cl=G (C86 cl p):=by
 have e:=B13 (F:=J0 (fun z0=>V9 z0 p) cl) cl (D5k p) (smx (by omega)) (fun n i h=>by
  rw[J0]
  have e1:V9 cl[i] p=G (D5k p cl[i]):=by
   unfold V9 D5k
   by_cases h1:(cl[i].Segment==p.Segment)=T<;>simp[h1]
  simp only[C6,h,decide_true,if_true,D9 h,O,e1]) fun n=>by simp[J0]
 unfold A0p U5 Z4
 rw[e]; rfl
theorem D0g{cl:L Xa}(hl:cl.length≤1000){o:X0}(ho:o.Passages.length≤1000):A3g o cl=G (B4r cl o):=by
 have e:=B13 (F:=J2 (fun z0=>A3v z0 cl) o.Passages) o.Passages (C86 cl) (smx (by omega)) (fun n i h=>by
  rw[J2]
  simp only[C6,h,decide_true,if_true,D9 h,O,A3v,D0i hl]) fun n=>by simp[J2]
 unfold A3g U3 Z5
 rw[e]; rfl
theorem B28{α:Type}{p:α→Bool}{l:L α}{j:Nat}(h:j<l.length):(l.take (j+1)).filter p=(l.take j).filter p++(if p l[j]=T then [l[j]] else []):=by
 rw[P h,List.filter_append]
 congr 1
 cases hp:p l[j]<;>simp[hp]
theorem D59{l:L X0}{a:X0→Option Bool}{p:X0→Bool}(hl:l.length≤1000)(ha:∀x∈l,a x=G (p x)):Q5 l a=G (l.filter fun x=> !p x):=by
 have e0:=C08 (F:=J4 a l) l p (smx (by omega)) (fun n i h=>by
  rw[J4]
  simp only[C6,h,decide_true,if_true,D9 h,O,ha _ (Q h)]) fun n=>by simp[J4]
 unfold Q5 A0s
 rcases e0 with ⟨e,h⟩|⟨k,hk,e,h,h0⟩
 ·rw[e,O]
  have:(l.filter fun x=> !p x)=l:=List.filter_eq_self.2 fun x hx=>by simp[h x hx]
  rw[this]; rfl
 ·rw[e,O]
  have hne:(((k:Nat):N)==(-1:N))=E:=by simp
  rw[hne]
  simp only[U,if_false]
  have key:∀(d j n i:Nat) (v:L X0),j+d=l.length→d<n→i≤j→v.length=l.length→v.take i=(l.take j).filter (fun x=> !p x)→v.drop j=l.drop j→
    E5 a n (i:N) (j:N) v=G (l.filter fun x=> !p x):=by
   intro d
   induction d with
   | zero=>
    intro j n i v hj hn hij hv h1 h2
    obtain⟨q,rfl⟩:=sn (n:=n) (by omega)
    have:j=l.length:=by omega
    subst this
    rw[List.take_length] at h1
    rw[E5]
    have b1:bnd (v.length:N) (v.length:N) (i:N) v.length=G (i,v.length):=by
     unfold bnd; rw[if_pos ⟨by omega,by omega,by omega,by omega⟩]; simp
    have hl2:(v.take i++List.replicate (v.length - i) (⟨(0:N),(0:N),(0:N),([]:L X4)⟩:X0)).length=v.length:=by simp; omega
    have b2:bnd (v.length:N) (i:N) 0 v.length=G (0,i):=A49 (by omega)
    simp only[hv,C6,Nat.lt_irrefl,decide_false,U,if_false]
    rw[← hv,b1,O,hl2,b2,O]
    rw[List.take_append_of_le_length (by simp; omega),List.take_take,Nat.min_self,h1]
   | succ d ih=>
    intro j n i v hj hn hij hv h1 h2
    obtain⟨q,rfl⟩:=sn (n:=n) (by omega)
    have hlt:j<l.length:=by omega
    have hlv:j<v.length:=by omega
    have hvj:v[j]=l[j]:=by
     have:=congrArg (fun z=>z[0]?) h2
     simpa[hlv,hlt] using this
    have hd1:v.drop (j+1)=l.drop (j+1):=by
     have:=congrArg (List.drop 1) h2
     simpa[List.drop_drop] using this
    rw[E5]
    simp only[hv,C6,hlt,decide_true,if_true,D9 hlv,hvj,O,ha _ (Q hlt)]
    cases hp:p l[j] with
    | true=>
     simp only[if_true,L7]
     rw[E9 hlt (smx (by omega))]
     exact ih (j+1) q i v (by omega) (by omega) (by omega) hv (by rw[B28 hlt,hp,h1]; simp) hd1
    | false=>
     have hiv:i<v.length:=by omega
     simp only[U,if_false,L7,D9 hiv,O,Int.toNat_natCast]
     rw[E9 hlt (smx (by omega)),E9 hiv (smx (by omega))]
     refine ih (j+1) q (i+1) _ (by omega) (by omega) (by omega) (by simpa using hv) ?_ ?_
     ·rw[B28 hlt,hp]
      have hset:i<(v.set i l[j]).length:=by simpa using hiv
      rw[P hset]
      rw[List.take_set_of_le (Nat.le_refl i),h1]
      simp
     ·rw[List.drop_set_of_lt (by omega)]
      exact hd1
  have hw:=E9 hk (smx (by omega))
  rw[hw]
  refine key (l.length - (k+1)) (k+1) bigN k l (by omega) (D4 (smx (by omega))) (by omega) rfl ?_ rfl
  rw[B28 hk,h]
  simp only[Bool.not_true,U,if_false,List.append_nil]
  refine(List.filter_eq_self.2 fun x hx=> ?_).symm
  obtain⟨j,hj,rfl⟩:=List.getElem_of_mem hx
  have hjk:j<k:=by simp at hj; omega
  simp[h0 j hjk]
structure ClosGood (c:X5) (cl:L Xa):Prop where
 four:cl.length≤4
 ok:∀x∈cl,idx x.Segment c.Segments.length=T∧0≤x.From∧x.From<x.To∧x.To≤2880
theorem B22{h:X6}(s:HSmall h)(hh:O3 h=T){cl:L Xa}(hc:ClosGood h.Chart cl):R9 h.Chart cl=G T:=by
 have h4:=hc.four
 have hch:I4 h.Chart=T:=by
  simp only[O3,Bool.and_eq_true] at hh
  exact hh.2.1
 unfold R9
 rw[M0 (A3m hch).2.2.1,hch,O,if_pos rfl,if_neg (by simp; omega)]
 have key:∀(k i n:Nat),i+k=cl.length→k<n→S8 cl h.Chart n (i:N)=G T:=by
  intro k
  induction k with
  | zero=>
   intro i n hi hn
   obtain⟨q,rfl⟩:=sn (n:=n) (by omega)
   have:i=cl.length:=by omega
   subst this
   simp[S8]
  | succ k ih=>
   intro i n hi hn
   obtain⟨q,rfl⟩:=sn (n:=n) (by omega)
   have hlt:i<cl.length:=by omega
   obtain⟨g1,g2,g3,g4⟩:=hc.ok _ (Q hlt)
   rw[S8]
   simp only[C6,hlt,decide_true,if_true,D9 hlt,O,A17,g1]
   rw[if_neg (by simp; omega),if_neg (by simp; omega),if_neg (by simp; omega),E9 hlt (smx (by omega))]
   exact ih (i+1) q (by omega) (by omega)
 exact key cl.length 0 bigN (by omega) (D4 (smx (by omega)))
def A5d(cl:L Xa)(l:L X0):L X0:=l.filter fun o=> !B4r cl o
theorem D0j{h:X6}(s:HSmall h)(hh:O3 h=T){cl:L Xa}(hc:ClosGood h.Chart cl){a:X8}(ha:A6j h a=T){l:L X0}(e:K0 h a=G l)(h8:l.length≤8)(hg:∀o∈l,B4d h o) :
  A0m h a cl=G (A5d cl l):=by
 have h4:=hc.four
 unfold A0m
 rw[A82 s,hh,ha,O]
 simp only[Bool.and_self,if_true,B22 s hh hc,O,e]
 rw[D59 (p:=B4r cl) (by omega) fun x hx=> ?_]
 ·rfl
 ·have:=(hg x hx).1
  simp only[A28,D0g (cl:=cl) (by omega) (o:=x) (by omega),O]
theorem D55{os:L (L X0)}(h6:os.length≤6){pl:L X0}{ch:L N}(hch:Chosen os pl ch)(hl:pl.length=os.length):A4j os ch=G pl:=by
 obtain⟨c1,c2,c3⟩:=hch
 unfold A4j
 have key:∀(k i n:Nat) (acc:L X0),i+k=ch.length→k<n→acc=pl.take i→A09 os ch n (i:N) acc=G pl:=by
  intro k
  induction k with
  | zero=>
   intro i n acc hi hn ha
   obtain⟨q,rfl⟩:=sn (n:=n) (by omega)
   have:i=ch.length:=by omega
   subst this
   rw[List.take_of_length_le (by omega)] at ha
   subst ha
   simp[A09]
  | succ k ih=>
   intro i n acc hi hn ha
   obtain⟨q,rfl⟩:=sn (n:=n) (by omega)
   have hc2:i<ch.length:=by omega
   have hp2:i<pl.length:=by omega
   have ho2:i<os.length:=by omega
   obtain⟨d1,d2,d3⟩:=c3 i hc2 hp2 ho2
   have hix:ix os[i] ch[i]=G pl[i]:=by unfold ix; rw[if_pos d1]; exact d3
   rw[A09]
   simp only[C6,hc2,decide_true,if_true,D9 hc2,D9 ho2,O,hix]
   rw[if_pos (apk (by rw[ha]; simp; omega) (by simp) (by omega)),E9 hc2 (smx (by omega))]
   refine ih (i+1) q _ (by omega) (by omega) ?_
   rw[ha,P hp2]
 exact key ch.length 0 bigN [] (by omega) (D4 (smx (by omega))) (by simp)
theorem OptsOf.open{h:X6}{cs:L X8}{os:L (L X0)}(ho:OptsOf h cs os)(cl:L Xa):OptsOf h cs (os.map (A5d cl)):=
 ⟨by simp[ho.len],fun l hl=>by
  obtain⟨m,hm,rfl⟩:=List.mem_map.1 hl
  exact Nat.le_trans (List.length_filter_le _ _) (ho.l8 m hm),fun i h1 h2 o hm=>by
  simp only[List.getElem_map] at hm
  exact ho.ok i h1 (by simpa using h2) o (List.mem_filter.1 hm).1⟩
theorem B54{h:X6}(s:HSmall h)(hh:O3 h=T){cl:L Xa}(hcl:ClosGood h.Chart cl){cs:L X8}(hc:CallsGood h cs){os:L (L X0)}(ho:OptsOf h cs os)
  (he:∀i (h1:i<cs.length) (h2:i<os.length),K0 h cs[i]=G os[i]) :
  ∃ch lw f pl,J3 h cs cl=G (pl,f)∧V4 h (os.map (A5d cl)) (fun z0=>A1i z0)=G (ch,lw,f)∧Best h (os.map (A5d cl)) D17 ch lw f∧
   (f=T→Chosen (os.map (A5d cl)) pl ch∧pl.length=os.length∧Fit h pl)∧(f=E→pl= []):=by
 have h6:=hc.six
 have hlen:=ho.len
 have ho':=ho.open cl
 obtain⟨ch,lw,f,e2,e3⟩:=C8f s hh hc ho' (w:=fun z0=>A1i z0) (wv:=D17) (fun pl ch hch=>by
  have:=hch.2.1
  simp only[List.length_map] at this
  simp only[A1i,E6b (l:=pl) (by omega) (B8s ho' hch),O]; rfl) fun pl ch o c h1 h2=>by
  have:=B8s ho' h2 o (by simp)
  simp only[wle,wlt,D17,C3v]
  omega
 have key:∀(k i n:Nat) (acc:L (L X0)),i+k=cs.length→k<n→acc=(os.map (A5d cl)).take i→O1 cl cs h n (i:N) acc=(V4 h (os.map (A5d cl)) (fun z0=>A1i z0)).bind fun r12=>if r12.2.2 then((A4j (os.map (A5d cl)) r12.1).bind fun r14=>G (r14,T)) else G (([]:L X0),E):=by
  intro k
  induction k with
  | zero=>
   intro i n acc hi hn ha
   obtain⟨q,rfl⟩:=sn (n:=n) (by omega)
   have:i=cs.length:=by omega
   subst this
   rw[List.take_of_length_le (by simp; omega)] at ha
   subst ha
   simp[O1]
  | succ k ih=>
   intro i n acc hi hn ha
   obtain⟨q,rfl⟩:=sn (n:=n) (by omega)
   have hlt:i<cs.length:=by omega
   have ho2:i<os.length:=by omega
   rw[O1]
   simp only[C6,hlt,decide_true,if_true,D9 hlt,O,D0j s hh hcl (hc.ok _ (Q hlt)) (he i hlt ho2) (ho.l8 _ (Q ho2)) (ho.good _ (Q ho2))]
   rw[if_pos (apk (by rw[ha]; simp; omega) (by simp) (by omega)),E9 hlt (smx (by omega))]
   refine ih (i+1) q _ (by omega) (by omega) ?_
   rw[ha,P (show i<(os.map (A5d cl)).length by simpa using ho2)]
   simp
 have e4:=key cs.length 0 bigN [] (by omega) (D4 (smx (by omega))) (by simp)
 have e5:J3 h cs cl=O1 cl cs h bigN 0 []:=by
  unfold J3
  rw[B08 s hh hc,O,if_pos rfl,B22 s hh hcl,O]
  rfl
 rw[e2,O] at e4
 cases hf:f with
 | false=>
  subst hf
  exact⟨ch,lw,E,[],by rw[e5]; exact e4,e2,e3,fun h=>(by cases h),fun _=>rfl⟩
 | true=>
  subst hf
  obtain⟨pl,p1,p2,p3,_⟩:=e3.plan rfl
  have hl2:pl.length=os.length:=by simpa using p2
  have e6:=D55 (os:=os.map (A5d cl)) (by simp; omega) p1 p2
  simp only[if_true,e6,O] at e4
  exact⟨ch,lw,T,pl,by rw[e5]; exact e4,e2,e3,fun _=>⟨p1,hl2,p3⟩,fun h=>(by cases h)⟩
end Go.Vi
