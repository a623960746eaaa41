/-
Plain law. No condition.
-/
import Derived.Test.YtmgfndipofbbaaaGreatKK8e
namespace Go.Vi
set_option linter.all false
open Option renaming bind_some → O, some → E
open List renaming contains_iff_mem → P, length_filter_le → Q, getElem_mem → V, filter_append → X, range → Y, length_map → Z, range_succ → A, mem_filter → C
open Bool renaming false_eq_true → U, true → T
open Nat renaming le_trans → W, lt_irrefl → I
open _root_ renaming List → G, Int → L, Nat → N
theorem C9o{l:G L}(hl:l.length≤1000)(a:L):A0l l a=E (l.contains a):=by
 have e:=B13 (F:=Q2 l a) l (fun x=>a==x) (smx (by omega)) (fun n i h=>by
  rw[Q2]
  simp only[C6,h,decide_true,if_true,D9 h,O]) fun n=>by simp[Q2]
 unfold A0l A42
 rw[e,List.contains_eq_any_beq]
theorem E45{l:G L}(hl:l.length≤1000)(a:L):B04 l a=E (l.contains a):=by
 have key:∀(k i n:N),i+k=l.length→k<n→(∀j (hj:j<l.length),j<i→l[j]≠a)→A3z a l n (i:L)=E (l.contains a):=by
  intro k
  induction k with
  | zero=>
   intro i n hi hn H
   obtain⟨q,rfl⟩:=sn (n:=n) (by omega)
   have:i=l.length:=by omega
   subst this
   have hc:l.contains a=false:=by
    cases hc:l.contains a with
    | false=>rfl
    | true=>
     obtain⟨j,hj,e⟩:=List.getElem_of_mem (P.1 hc)
     exact absurd e (H j hj hj)
   rw[hc]
   simp[A3z]
  | succ k ih=>
   intro i n hi hn H
   obtain⟨q,rfl⟩:=sn (n:=n) (by omega)
   have hlt:i<l.length:=by omega
   rw[A3z]
   simp only[C6,hlt,decide_true,if_true,D9 hlt,O]
   by_cases h:l[i]=a
   ·rw[if_pos (by simp[h])]
    have:l.contains a=T:=P.2 (h▸V hlt)
    rw[this]
   ·rw[if_neg (by simp[h]),E9 hlt (smx (by omega))]
    refine ih (i+1) q (by omega) (by omega) fun j hj hji=> ?_
    by_cases hij:j=i
    ·subst hij; exact h
    ·exact H j hj (by omega)
 exact key l.length 0 bigN (by omega) (D4 (smx (by omega))) fun j _ hj=>absurd hj (by omega)
def A48(n:N)(l:G L):G L:=((Y n).filter fun i:N=> !l.contains (i:L)).map fun i:N=>(i:L)
theorem E8x{n i:N}(l:G L)(hi:i<n):(A48 n l).contains (i:L)= !l.contains (i:L):=by
 rw[Bool.eq_iff_iff,P]
 unfold A48
 rw[List.mem_map]
 constructor
 ·rintro⟨j,hj,e⟩
  obtain rfl:j=i:=by omega
  exact(C.1 hj).2
 ·intro h
  exact⟨i,C.2 ⟨List.mem_range.2 hi,h⟩,rfl⟩
theorem E3r(n:N)(l:G L):(A48 n l).length≤n:=by
 unfold A48
 rw[Z]
 exact W (Q _ _) (by simp)
theorem E6m{n:N}{l:G L}:A48 n l= []↔inL n l=Y n:=by
 unfold A48 inL
 rw[List.map_eq_nil_iff,List.filter_eq_nil_iff,List.filter_eq_self]
 simp
def A7b(h:X6)(cs:G X8)(cl:G Xa)(l:G L):Bool:=(K2 l h cs cl).getD false
section
variable {h : X6} {cs : G X8} {cl : G Xa}
theorem C0e(s:HSmall h)(hh:O3 h=T)(hcl:ClosGood h.Chart cl){ds:G X8}(hc:CallsGood h ds):∃pl f,J3 h ds cl=E (pl,f)∧(ds= []→f=T):=by
 obtain⟨os,e0,ho,he⟩:=B5c s hh hc
 obtain⟨ch,lw,f,pl,e1,e2,B,b1,b2⟩:=B54 s hh hcl hc ho he
 refine⟨pl,f,e1,fun hd=> ?_⟩
 subst hd
 have hos:os= []:=List.length_eq_zero_iff.1 ho.len
 subst hos
 exact(B.least [] [] ⟨rfl,by simp,fun i h1=>by simp at h1⟩ rfl fun i hi=>by simp at hi).1
theorem B2u(s:HSmall h)(hh:O3 h=T)(hcl:ClosGood h.Chart cl)(hc:CallsGood h cs){l:G L}(ha:asc 0 (cs.length:L) l=T) :
  K2 l h cs cl=E (A7b h cs cl l)∧∃pl,J3 h (pick cs (inL cs.length l)) cl=E (pl,A7b h cs cl l):=by
 have h6:=hc.six
 have hl:l.length≤1000:=by
  have e:=congrArg List.length (B6z ha)
  have e2:(inL cs.length l).length≤cs.length:=by
   unfold inL
   exact W (Q _ _) (by simp)
  simp only[Z] at e
  omega
 obtain⟨pl,f,e,_⟩:=C0e s hh hcl (hc.pick fun i=>l.contains (i:L))
 have e1:K2 l h cs cl=E f:=by
  unfold K2
  rw[D7i h6 hl ha,O]
  show((J3 h (pick cs ((Y cs.length).filter fun i:N=>l.contains (i:L))) cl).bind fun r2=>E r2.2)=E f
  rw[e]; rfl
 have e2:A7b h cs cl l=f:=by unfold A7b; rw[e1]; rfl
 rw[e2]
 exact⟨e1,pl,e⟩
theorem C9u(s:HSmall h)(hh:O3 h=T)(hcl:ClosGood h.Chart cl)(hc:CallsGood h cs) :
  ∃l,A03 h cs cl=E (A48 cs.length l,T)∧asc 0 (cs.length:L) l=T∧A7b h cs cl l=T∧
   ((∀m,asc 0 (cs.length:L) m=T→m.length=cs.length→A7b h cs cl m=T)→l.length=cs.length):=by
 have h6:=hc.six
 obtain⟨l,e,h1,h2,h3⟩:=D3s h6 (a:=fun z0=>K2 z0 h cs cl) (acc:=A7b h cs cl) (fun l hl=>(B2u s hh hcl hc hl).1) (by
  obtain⟨e1,pl,e2⟩:=B2u s hh hcl hc (l:= []) rfl
  have hz:inL cs.length []= []:=by simp[inL]
  rw[hz] at e2
  obtain⟨pl',f,e3,e4⟩:=C0e s hh hcl (ds:= []) (hc.sub (List.nil_sublist _))
  have e5:pick cs []= []:=rfl
  rw[e5,e3,e4 rfl] at e2
  cases hs:A7b h cs cl [] with
  | true=>rfl
  | false=>rw[hs] at e2; cases e2)
 refine⟨l,?_,h1,h2,h3⟩
 have hl:l.length≤1000:=by
  have e:=congrArg List.length (B6z h1)
  have e2:(inL cs.length l).length≤cs.length:=by
   unfold inL
   exact W (Q _ _) (by simp)
  simp only[Z] at e
  omega
 have key:∀(k i n:N) (v:G L),i+k=cs.length→k<n→v=((Y i).filter fun i:N=> !l.contains (i:L)).map (fun i:N=>(i:L))→L5 l cs n (i:L) v=E (A48 cs.length l,T):=by
  intro k
  induction k with
  | zero=>
   intro i n v hi hn hv
   obtain⟨q,rfl⟩:=sn (n:=n) (by omega)
   have:i=cs.length:=by omega
   subst this
   subst hv
   simp[L5,A48]
  | succ k ih=>
   intro i n v hi hn hv
   obtain⟨q,rfl⟩:=sn (n:=n) (by omega)
   have hlt:i<cs.length:=by omega
   have hvl:v.length≤i:=by
    rw[hv,Z]
    exact W (Q _ _) (by simp)
   rw[L5]
   simp only[C6,hlt,decide_true,if_true,C9o hl,O]
   cases hp:l.contains (i:L) with
   | true=>
    have hm:(i:L)∈l:=P.1 hp
    simp only[if_true]
    rw[E9 hlt (smx (by omega))]
    refine ih (i+1) q _ (by omega) (by omega) ?_
    rw[hv,A,X]
    simp[hm]
   | false=>
    have hm:(i:L)∉l:=fun h=>by rw[P.2 h] at hp; cases hp
    simp only[U,if_false]
    rw[if_pos (apk (by omega) (by simp) (by omega)),E9 hlt (smx (by omega))]
    refine ih (i+1) q _ (by omega) (by omega) ?_
    rw[hv,A,X]
    simp[hm]
 unfold A03
 rw[B08 s hh hc,O,if_pos rfl,B22 s hh hcl,O]
 unfold Z3
 rw[if_neg (by simp),e,O]
 exact key cs.length 0 bigN [] (by omega) (D4 (smx (by omega))) (by simp)
end
theorem C4t{c:X1}(hc:CurOk c){x:X5}(h1:1≤x.Segments.length)(h10:x.Segments.length≤10):∃l c',A0i c x=E (l,c')∧ClosGood x l:=by
 unfold A0i
 obtain⟨v,c1,e1,g1,p1,q1,_⟩:=E6 (n:=3) hc (by omega)
 have q1:=q1 (by omega)
 have key:∀(k n:N) (c:X1) (l:G Xa),k<n→CurOk c→l.length+k≤2→ClosGood x l→∃l' c',A0e x n (k:L) c.b c.i c.h l=E (l',c')∧ClosGood x l':=by
  intro k
  induction k with
  | zero=>
   intro n c l hn _ _ hl
   obtain⟨q,rfl⟩:=sn (n:=n) (by omega)
   exact⟨l,c,by simp[A0e],hl⟩
  | succ k ih=>
   intro n c l hn hc hlk hl
   obtain⟨q,rfl⟩:=sn (n:=n) (by omega)
   obtain⟨v2,c2,e2,g2,p2,q2,_⟩:=E6 (n:=600) hc (by omega)
   have e2':A4 ⟨c.b,c.i,c.h⟩ 600=E (v2,c2):=by cases c; exact e2
   obtain⟨v3,c3,e3,g3,p3,q3,_⟩:=E6 (n:=if(1:L)<(x.Segments.length:L) then(x.Segments.length:L) else(1:L)) g2 (by split<;>omega)
   obtain⟨v4,c4,e4,g4,p4,q4,_⟩:=E6 (n:=300) g3 (by omega)
   have q2:=q2 (by omega)
   have q3:=q3 (by split<;>omega)
   have q4:=q4 (by omega)
   have q3':v3<(x.Segments.length:L):=by
    revert q3
    split<;>omega
   rw[A0e]
   simp only[show decide ((0:L)<((k+1:N):L))=T from decide_eq_true (by omega),if_true,e2',e3,e4,O]
   rw[if_pos (apk (by omega) (by simp) (by omega)),A9 (n:=v2+20) (by omega) (by omega),A9 (n:=v2+20+v4) (by omega) (by omega),show IntKind.i64.wrap (((k+1:N):L) - 1)=(k:L) by rw[A9 (by omega) (by omega)]; omega]
   refine ih q c4 _ (by omega) g4 (by simp; omega) ⟨by simp; omega,fun y hy=> ?_⟩
   rcases List.mem_append.1 hy with hy|hy
   ·exact hl.ok y hy
   ·obtain rfl:y=⟨v3,v2,v2+20+v4⟩:=by simpa using hy
    exact⟨A67.2 ⟨p3,q3'⟩,p2,by simp only; omega,by simp only; omega⟩
 obtain⟨k,rfl⟩:∃k:N,v=(k:L):=⟨v.toNat,by omega⟩
 rw[e1,O]
 have h0:k<bigN:=D4 (smx (by omega))
 have h2:([]:G Xa).length+k≤2:=by rw[List.length_nil]; omega
 have h3:ClosGood x []:=⟨by rw[List.length_nil]; omega,fun y hy=>absurd hy List.not_mem_nil⟩
 generalize bigN=b at h0 ⊢
 exact key k b c1 [] h0 g1 h2 h3
theorem law_FnClosures(a0:G L)(ok:DsOk [.sc (.sl (List.map r8 a0))]):A5k a0=E T:=by
 unfold A5k
 by_cases hlen:(decide ((1048576:L)<(a0.length:L)))=T
 ·rw[if_pos hlen]
 rw[if_neg hlen]
 have hl:a0.length≤maxLen:=by
  simp only[decide_eq_true_eq] at hlen
  rw[F4]; omega
 obtain⟨h,cs,e1,s,hh,hc,hc1,hsg⟩:=C76 hl
 have hch:I4 h.Chart=T:=by
  simp only[O3,Bool.and_eq_true] at hh
  exact hh.2.1
 obtain⟨c90,e9,g9⟩:=E31 (k:=90) (by omega) hl
 obtain⟨cl,cc,ed,hcl⟩:=C4t g9 hsg (A3m hch).2.1
 have ecl:A1v a0 90 h.Chart=E cl:=by
  unfold A1v
  rw[show Z6 a0 (90:L)=E c90 from e9,O,ed]; rfl
 have h6:=hc.six
 have hcl4:=hcl.four
 obtain⟨os,e0,ho,he⟩:=B5c s hh hc
 have hlo:=ho.len
 obtain⟨ch,lw,f,pl,e2,_,B,b1,b2⟩:=B54 s hh hcl hc ho he
 obtain⟨sv,e3,s1,s2,s3⟩:=C9u s hh hcl hc
 obtain⟨_,plS,eS⟩:=B2u s hh hcl hc s1
 rw[s2] at eS
 have hall:f=T↔A48 cs.length sv= []:=by
  rw[E6m]
  constructor
  ·intro hf
   refine C8i s1 (s3 fun m hm hml=> ?_)
   obtain⟨_,pm,em⟩:=B2u s hh hcl hc hm
   rw[C8i hm hml,C9b,e2,hf] at em
   cases hs:A7b h cs cl m with
   | true=>rfl
   | false=>rw[hs] at em; cases em
  ·intro hi
   rw[hi,C9b,e2] at eS
   cases eS
   rfl
 have hff:(f==(((A48 cs.length sv).length:L)==(0:L)))=T:=by
  cases f with
  | true=>simp[hall.1 rfl]
  | false=>
   have hne:A48 cs.length sv≠ []:=fun h=>by simpa using hall.2 h
   have:((((A48 cs.length sv).length:N):L)==(0:L))=false:=by
    have:=List.length_pos_iff.2 hne
    simp
    exact hne
   rw[this]; rfl
 have hopt:∀o∈pl,B4r cl o=false∧o.Passages.length≤100:=fun o hm=>by
  cases hf:f with
  | false=>rw[b2 hf] at hm; simp at hm
  | true=>
   obtain⟨c1,c2,c3⟩:=b1 hf
   obtain⟨i,hi,rfl⟩:=List.getElem_of_mem hm
   obtain⟨_,g⟩:=B4i (ho.open cl) c1 i hi
   obtain⟨d1,d2,d3⟩:=c1
   obtain⟨_,_,k3⟩:=d3 i (by omega) hi (by simp; omega)
   have:=List.mem_of_getElem? k3
   simp only[List.getElem_map,A5d] at this
   exact⟨by simpa using(C.1 this).2,g.len⟩
 have hpl:pl.length≤6:=by
  cases hf:f with
  | false=>rw[b2 hf]; simp
  | true=>have:=(b1 hf).2.1; omega
 have e4:=B08 s hh hc
 have e5:=B22 s hh hcl
 have hnil:ClosGood h.Chart []:=⟨by simp,fun y hy=>by simp at hy⟩
 have hid:os.map (A5d [])=os:=by
  have:∀l:G X0,A5d [] l=l:=fun l=>List.filter_eq_self.2 fun o _=>by simp[B4r,C86]
  rw[show A5d []=id from funext this,List.map_id]
 obtain⟨ch',lw',f',pl',n1,n2,_,_,_⟩:=B54 s hh hnil hc ho he
 rw[hid] at n2
 have ecs:A4q h cs=E f':=by
  unfold A4q A6u
  rw[e4,O,if_pos rfl,e0,O,n2]; rfl
 have fin:∀q,H4 (h,cs) cl (pl,f) (A48 cs.length sv,T) (q+1) (cs.length:L) (pick cs (inL cs.length sv))=E T:=fun q=>by
  rw[H4]
  simp only[C6,I,decide_false,U,if_false,eS,n1,O,if_true,ecs,beq_self_eq_true]
  cases hf:f with
  | false=>simp
  | true=>
   obtain⟨c1,c2,c3⟩:=b1 hf
   simp only[if_true,D67 s hh hc (ho.open cl) c1 (by simpa using c2) c3,O]
 have third:∀(k i n:N) (v:G X8),i+k=cs.length→k<n→v=pick cs ((Y i).filter fun i:N=>sv.contains (i:L))→H4 (h,cs) cl (pl,f) (A48 cs.length sv,T) n (i:L) v=E T:=by
  intro k
  induction k with
  | zero=>
   intro i n v hi hn hv
   obtain⟨q,rfl⟩:=sn (n:=n) (by omega)
   have:i=cs.length:=by omega
   subst this
   subst hv
   exact fin q
  | succ k ih=>
   intro i n v hi hn hv
   obtain⟨q,rfl⟩:=sn (n:=n) (by omega)
   have hlt:i<cs.length:=by omega
   have hio:i<os.length:=by omega
   have ha:=hc.ok _ (V hlt)
   have eo:=he i hlt hio
   have ep:=D0j s hh hcl ha eo (ho.l8 _ (V hio)) (ho.good _ (V hio))
   have hvl:v.length≤i:=by
    rw[hv]
    exact W (List.length_filterMap_le _ _) (W (Q _ _) (by simp))
   have step:∀w,w=pick cs ((Y (i+1)).filter fun i:N=>sv.contains (i:L))→Y9 (h,cs) cl (pl,f) (i:L) cs[i] (A48 cs.length sv,T) (H4 (h,cs) cl (pl,f) (A48 cs.length sv,T) q) w=E T:=fun w hw=>by
    unfold Y9
    simp only[ep,eo,O]
    have:=Q (fun o=> !B4r cl o) os[i]
    have hle:¬(decide ((os[i].length:L)<((A5d cl os[i]).length:L))=T):=by
     rw[decide_eq_true_eq]
     have:(A5d cl os[i]).length≤os[i].length:=Q _ _
     omega
    rw[if_neg hle,E9 hlt (smx (by omega))]
    exact ih (i+1) q w (by omega) (by omega) hw
   have hob:(A48 cs.length sv).length≤1000:=by have:=E3r cs.length sv; omega
   rw[H4]
   simp only[C6,hlt,decide_true,if_true,D9 hlt,O,E45 hob,E8x sv hlt]
   cases hp:sv.contains (i:L) with
   | false=>
    have hm:(i:L)∉sv:=fun h=>by rw[P.2 h] at hp; cases hp
    simp only[Bool.not_false,if_true]
    refine step v ?_
    rw[hv,A,X]
    simp[hm]
   | true=>
    have hm:(i:L)∈sv:=P.1 hp
    simp only[Bool.not_true,U,if_false]
    rw[if_pos (apk (by omega) (by simp) (by omega))]
    refine step _ ?_
    rw[hv,A,X]
    simp[hm,pick,List.filterMap_append,List.getElem?_eq_getElem hlt]
 have first:∀(k i n:N),i+k=pl.length→k<n→M5 (h,cs) cl (pl,f) (A48 cs.length sv,T) n (i:L)=E T:=by
  intro k
  induction k with
  | zero=>
   intro i n hi hn
   obtain⟨q,rfl⟩:=sn (n:=n) (by omega)
   have:i=pl.length:=by omega
   subst this
   rw[M5]
   simp only[C6,I,decide_false,U,if_false]
   exact third cs.length 0 bigN [] (by omega) (D4 (smx (by omega))) (by simp[pick])
  | succ k ih=>
   intro i n hi hn
   obtain⟨q,rfl⟩:=sn (n:=n) (by omega)
   have hlt:i<pl.length:=by omega
   obtain⟨g1,g2⟩:=hopt _ (V hlt)
   rw[M5]
   simp only[C6,hlt,decide_true,if_true,D9 hlt,O,D0g (cl:=cl) (by omega) (o:=pl[i]) (by omega),g1,U,if_false]
   have inner:∀(k j n:N),j+k=pl[i].Passages.length→k<n→T3 (h,cs) cl (pl,f) (i:L) pl[i] (A48 cs.length sv,T) (M5 (h,cs) cl (pl,f) (A48 cs.length sv,T) q) n (j:L)=E T:=by
    intro k
    induction k with
    | zero=>
     intro j n hj hn
     obtain⟨r,rfl⟩:=sn (n:=n) (by omega)
     have:j=pl[i].Passages.length:=by omega
     subst this
     rw[T3]
     simp only[C6,I,decide_false,U,if_false,E9 hlt (smx (by omega))]
     exact ih (i+1) q (by omega) (by omega)
    | succ k ihk=>
     intro j n hj hn
     obtain⟨r,rfl⟩:=sn (n:=n) (by omega)
     have hjl:j<pl[i].Passages.length:=by omega
     have hh2:C86 cl pl[i].Passages[j]=false:=by
      unfold B4r at g1
      rw[List.any_eq_false] at g1
      simpa using g1 _ (V hjl)
     rw[T3]
     simp only[C6,hjl,decide_true,if_true,D9 hjl,O,D0i (cl:=cl) (by omega),hh2,U,if_false,E9 hjl (smx (by omega))]
     exact ihk (j+1) r (by omega) (by omega)
   exact inner pl[i].Passages.length 0 bigN (by omega) (D4 (smx (by omega)))
 simp only[e1,ecl,e2,e3,e4,e5,O,if_true,hff]
 exact first pl.length 0 bigN (by omega) (D4 (smx (by omega)))
end Go.Vi
