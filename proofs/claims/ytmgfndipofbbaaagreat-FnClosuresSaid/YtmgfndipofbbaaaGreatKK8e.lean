/-
Plain laws. No condition.
-/
import Derived.Test.YtmgfndipofbbaaaGreatKK8d
namespace Go.Vi
set_option linter.all false
open Option renaming bind_some → N
open List renaming getElem?_eq_getElem → O, range → Q, take_succ_eq_append_getElem → U, getElem_mem → V, filterMap_append → W, exists_cons_of_ne_nil → X, pairwise_iff_getElem → Y, all_eq_true → Z
open Bool renaming and_eq_true → P, true → T
open _root_ renaming List → F, Int → E, Nat → G
def asc:E→E→F E→Bool
 | _,_,[]=>T
 | a,n,x::l=>decide (a≤x)&&(decide (x<n)&&asc (x+1) n l)
theorem C1a{n:E}:∀{l:F E} {a:E},asc a n l=T→∀x∈l,a≤x∧x<n
 | [],_,_,_,hx=>by simp at hx
 | y::l,a,h,x,hx=>by
  simp only[asc,P,decide_eq_true_eq] at h
  rcases List.mem_cons.1 hx with rfl|hx
  ·exact⟨h.1,h.2.1⟩
  ·have:=C1a h.2.2 x hx
   omega
theorem D50{n:E}:∀{l:F E} {a:E},asc a n l=T→∀i (h:i+1<l.length),l[i]<l[i+1]
 | [],_,_,i,h=>by simp at h
 | [y],_,_,i,h=>by simp at h
 | y::z::l,a,h,0,_=>by
  simp only[asc,P,decide_eq_true_eq] at h
  simp only[List.getElem_cons_zero,List.getElem_cons_succ]
  omega
 | y::z::l,a,h,i+1,hi=>by
  have h2:asc (y+1) n (z::l)=T:=by
   simp only[asc,P,decide_eq_true_eq] at h ⊢
   exact h.2.2
  have:=D50 h2 i (by simpa using hi)
  simpa using this
def inL(n:G)(l:F E):F G:=(Q n).filter fun i:G=>l.contains (i:E)
theorem D2t:∀(d:G) {l:F E} {a:G},asc a ((a+d:G):E) l=T→((List.range' a d).filter fun i:G=>l.contains (i:E)).map (fun i:G=>(i:E))=l:=by
 intro d
 induction d with
 | zero=>
  intro l a h
  cases l with
  | nil=>rfl
  | cons x l=>
   simp only[asc,P,decide_eq_true_eq] at h
   omega
 | succ d ih=>
  intro l a h
  cases l with
  | nil=>simp
  | cons x l=>
   have h0:=h
   simp only[asc,P,decide_eq_true_eq] at h
   have e:(((a+1+d:G)):E)=((a+(d+1):G):E):=by omega
   rw[List.range'_succ]
   by_cases hx:x=(a:E)
   ·subst hx
    have h2:=ih (l:=l) (a:=a+1) (by rw[e]; simpa using h.2.2)
    rw[List.filter_cons]
    simp only[List.contains_cons,beq_self_eq_true,Bool.true_or,if_true,List.map_cons]
    rw[List.filter_congr (q:=fun i:G=>l.contains (i:E)) fun i hi=> ?_,h2]
    have:=List.mem_range'_1.1 hi
    have hne:((i:E)==(a:E))=false:=by simp; omega
    simp[hne]
   ·have h2:=ih (l:=x::l) (a:=a+1) (by
     rw[e]
     simp only[asc,P,decide_eq_true_eq]
     exact⟨by omega,h.2⟩)
    have hna:(x::l).contains (a:E)=false:=by
     cases hc:(x::l).contains (a:E) with
     | false=>rfl
     | true=>
      have hm:(a:E)∈x::l:=by simpa using hc
      rcases List.mem_cons.1 hm with h3|h3
      ·exact absurd h3.symm hx
      ·have:=C1a h.2.2 _ h3
       omega
    rw[List.filter_cons,hna]
    simpa using h2
theorem B6z{n:G}{l:F E}(h:asc 0 (n:E) l=T):(inL n l).map (fun i:G=>(i:E))=l:=by
 have:=D2t n (l:=l) (a:=0) (by simpa using h)
 unfold inL
 rw[List.range_eq_range']
 exact this
theorem C8i{n:G}{l:F E}(h:asc 0 (n:E) l=T)(hl:l.length=n):inL n l=Q n:=by
 have e:=B6z h
 have h2:(inL n l).length=n:=by have:=congrArg List.length e; simpa[hl] using this
 unfold inL at h2 ⊢
 refine List.filter_eq_self.2 fun x hx=> ?_
 have h3:((Q n).filter fun i:G=>l.contains (i:E)).length=(Q n).length:=by simpa using h2
 rw[List.length_filter_eq_length_iff] at h3
 exact h3 x hx
def E2e(n k:G):Bool:=match A5m (n:E) (k:E) with
 | some L=>L.all (fun l=>asc 0 (n:E) l&&(l.length==k))&&(decide (L.length≤64)&& !L.isEmpty)
 | none=>false
theorem D7s:(Q 7).all (fun n=>(Q (n+1)).all (E2e n))=T:=by kernel_rfl
theorem D6p{n k:G}(hn:n≤6)(hk:k≤n):∃L,A5m (n:E) (k:E)=some L∧(∀l∈L,asc 0 (n:E) l=T∧l.length=k)∧L.length≤64∧L≠ []:=by
 have h:=Z.1 (Z.1 D7s n (List.mem_range.2 (by omega))) k (List.mem_range.2 (by omega))
 unfold E2e at h
 split at h
 ·rename_i L e
  simp only[P,Z,decide_eq_true_eq,beq_iff_eq,Bool.not_eq_true',List.isEmpty_eq_false_iff] at h
  exact⟨L,e,h.1,h.2.1,h.2.2⟩
 ·cases h
theorem D3s{cs:F X8}(h6:cs.length≤6){a:F E→Option Bool}{acc:F E→Bool}(ha:∀l,asc 0 (cs.length:E) l=T→a l=some (acc l))(h0:acc []=T) :
  ∃l,A1l cs a=some l∧asc 0 (cs.length:E) l=T∧acc l=T∧((∀m,asc 0 (cs.length:E) m=T→m.length=cs.length→acc m=T)→l.length=cs.length):=by
 have key:∀(k n:G),k≤cs.length→k<n→∃l,H0 a cs n (k:E)=some l∧asc 0 (cs.length:E) l=T∧acc l=T∧(k=cs.length→(∀m,asc 0 (cs.length:E) m=T→m.length=cs.length→acc m=T)→l.length=cs.length):=by
  intro k
  induction k with
  | zero=>
   intro n hk hn
   obtain⟨q,rfl⟩:=sn (n:=n) (by omega)
   obtain⟨L,e,hL,h64,hne⟩:=D6p h6 hk
   rw[H0]
   obtain⟨m,L',rfl⟩:=X hne
   obtain⟨g1,g2⟩:=hL m (by simp)
   obtain rfl:m= []:=List.length_eq_zero_iff.1 g2
   refine⟨[],?_,rfl,h0,fun hc _=>by simp[← hc]⟩
   have hp:0<([]::L').length:=by simp
   obtain⟨b,eb⟩:∃b,bigN=b+1:=sn (by rw[A0d]; omega)
   have e1:ix ([]::L') (0:E)=some ([]:F E):=D9 hp
   have e2:decide ((0:E)<(([]::L').length:E))=T:=by simp
   simp only[show decide ((0:E)≤((0:G):E))=T by simp,if_true,e,N,eb,I7,e2,e1,ha [] rfl,h0]
  | succ k ih=>
   intro n hk hn
   obtain⟨q,rfl⟩:=sn (n:=n) (by omega)
   obtain⟨L,e,hL,h64,hne⟩:=D6p h6 hk
   obtain⟨l',e',i1,i2,_⟩:=ih q (by omega) (by omega)
   rw[H0]
   simp only[show decide ((0:E)≤((k+1:G):E))=T by simp; omega,if_true,e,N]
   have hw:IntKind.i64.wrap (((k+1:G):E) - 1)=(k:E):=by rw[A9 (by omega) (by omega)]; omega
   have inner:∀(d i n:G),i+d=L.length→d<n→(∀j (hj:j<L.length),j<i→acc L[j]=false)→
     ∃l,I7 a cs ((k+1:G):E) L (H0 a cs q) n (i:E)=some l∧asc 0 (cs.length:E) l=T∧acc l=T∧(l∈L∨∀m∈L,acc m=false):=by
    intro d
    induction d with
    | zero=>
     intro i n hi hn H
     obtain⟨r,rfl⟩:=sn (n:=n) (by omega)
     have:i=L.length:=by omega
     subst this
     rw[I7]
     simp only[C6,Nat.lt_irrefl,decide_false,Bool.false_eq_true,if_false,hw]
     refine⟨l',e',i1,i2,.inr fun m hm=> ?_⟩
     obtain⟨j,hj,rfl⟩:=List.getElem_of_mem hm
     exact H j hj hj
    | succ d ihd=>
     intro i n hi hn H
     obtain⟨r,rfl⟩:=sn (n:=n) (by omega)
     have hlt:i<L.length:=by omega
     obtain⟨g1,g2⟩:=hL _ (V hlt)
     rw[I7]
     simp only[C6,hlt,decide_true,if_true,D9 hlt,N,ha _ g1]
     cases hp:acc L[i] with
     | true=>exact⟨_,rfl,g1,hp,.inl (V hlt)⟩
     | false=>
      simp only[Bool.false_eq_true,if_false]
      rw[E9 hlt (smx (by omega))]
      refine ihd (i+1) r (by omega) (by omega) fun j hj hji=> ?_
      by_cases h:j=i
      ·subst h; exact hp
      ·exact H j hj (by omega)
   obtain⟨l,e2,j1,j2,j3⟩:=inner L.length 0 bigN (by omega) (D4 (smx (by omega))) fun j _ hj=>absurd hj (by omega)
   refine⟨l,e2,j1,j2,fun hc H=> ?_⟩
   rcases j3 with j3|j3
   ·rw[(hL l j3).2,hc]
   ·obtain⟨m,L',rfl⟩:=X hne
    obtain⟨g1,g2⟩:=hL m (by simp)
    have:=H m g1 (by rw[g2,hc])
    rw[j3 m (by simp)] at this
    cases this
 obtain⟨l,e,h1,h2,h3⟩:=key cs.length bigN (Nat.le_refl _) (D4 (smx (by omega)))
 exact⟨l,e,h1,h2,h3 rfl⟩
def pick(cs:F X8)(is:F G):F X8:=is.filterMap fun i=>cs[i]?
theorem E1e(cs:F X8)(p:G→Bool):∀(k:G),k≤cs.length→(pick cs ((Q k).filter p)).Sublist (cs.take k):=by
 intro k
 induction k with
 | zero=>intro _; simp[pick]
 | succ k ih=>
  intro hk
  have h:=ih (by omega)
  rw[List.range_succ,List.filter_append,U (by omega)]
  unfold pick at h ⊢
  rw[W]
  refine h.append ?_
  cases hp:p k with
  | true=>simp[hp,O (show k<cs.length by omega)]
  | false=>simp[hp]
theorem C9b(cs:F X8):pick cs (Q cs.length)=cs:=by
 have key:∀k,k≤cs.length→pick cs (Q k)=cs.take k:=by
  intro k
  induction k with
  | zero=>intro _; simp[pick]
  | succ k ih=>
   intro hk
   have h:=ih (by omega)
   rw[List.range_succ,U (by omega)]
   unfold pick at h ⊢
   rw[W,h]
   simp[O (show k<cs.length by omega)]
 rw[key _ (Nat.le_refl _),List.take_length]
theorem CallsGood.sub{h:X6}{cs ds:F X8}(H:CallsGood h cs)(hs:ds.Sublist cs):CallsGood h ds:=
 ⟨fun a ha=>H.ok a (hs.subset ha),fun i j hi hj hij=>by
  have hp:cs.Pairwise fun a b:X8=>a.Ship≠b.Ship:=Y.2 fun i j hi hj hij=>H.ne i j hi hj hij
  exact Y.1 (hp.sublist hs) i j hi hj hij,Nat.le_trans hs.length_le H.six⟩
theorem CallsGood.pick{h:X6}{cs:F X8}(H:CallsGood h cs)(p:G→Bool):CallsGood h (pick cs ((Q cs.length).filter p)):=
 H.sub (by have:=E1e cs p cs.length (Nat.le_refl _); rwa [List.take_length] at this)
theorem E04{cs:F X8}(h6:cs.length≤6){l:F E}(hl:l.length≤1000)(ha:asc 0 (cs.length:E) l=T):A44 cs l=some T:=by
 have key:∀(k i n:G),i+k=l.length→k<n→N6 cs l n (i:E)=some T:=by
  intro k
  induction k with
  | zero=>
   intro i n hi hn
   obtain⟨q,rfl⟩:=sn (n:=n) (by omega)
   have:i=l.length:=by omega
   subst this
   simp[N6]
  | succ k ih=>
   intro i n hi hn
   obtain⟨q,rfl⟩:=sn (n:=n) (by omega)
   have hlt:i<l.length:=by omega
   have e0:=ih (i+1) q (by omega) (by omega)
   rw[← E9 hlt (smx (by omega))] at e0
   have g:=C1a ha _ (V hlt)
   rw[N6]
   simp only[C6,hlt,decide_true,if_true,D9 hlt,N,A17,A67.2 g]
   by_cases h0:i=0
   ·subst h0
    rw[if_neg (by simp)]
    exact e0
   ·rw[if_pos (by simp; omega)]
    obtain⟨j,rfl⟩:∃j,i=j+1:=⟨i - 1,by omega⟩
    have hw:IntKind.i64.wrap (((j+1:G):E) - 1)=(j:E):=by rw[A9 (by omega) (by omega)]; omega
    have hjl:j<l.length:=by omega
    rw[hw,D9 hjl,N]
    have:=D50 ha j hlt
    rw[if_neg (by simp; omega)]
    exact e0
 exact key l.length 0 bigN (by omega) (D4 (smx (by omega)))
theorem D7i{cs:F X8}(h6:cs.length≤6){l:F E}(hl:l.length≤1000)(ha:asc 0 (cs.length:E) l=T):A2e cs l=some (pick cs (inL cs.length l)):=by
 have hil:(inL cs.length l).length=l.length:=by have:=congrArg List.length (B6z ha); simpa using this
 have hat:∀i (h:i<l.length),∃(h2:i<(inL cs.length l).length) (h3:(inL cs.length l)[i]<cs.length),l[i]=(((inL cs.length l)[i]:G):E):=fun i h=>by
  have h2:i<(inL cs.length l).length:=by omega
  have e:=congrArg (fun z=>z[i]?) (B6z ha)
  simp only[List.getElem?_map,O h2,O h,Option.map_some,Option.some.injEq] at e
  have:=C1a ha _ (V h)
  exact⟨h2,by omega,e.symm⟩
 unfold A2e
 rw[E04 h6 hl ha,N,if_pos rfl]
 have key:∀(k i n:G) (v:F X8),i+k=l.length→k<n→v=pick cs ((inL cs.length l).take i)→v.length=i→P9 cs l n (i:E) v=some (pick cs (inL cs.length l)):=by
  intro k
  induction k with
  | zero=>
   intro i n v hi hn hv _
   obtain⟨q,rfl⟩:=sn (n:=n) (by omega)
   have:i=l.length:=by omega
   subst this
   rw[List.take_of_length_le (by omega)] at hv
   subst hv
   simp[P9]
  | succ k ih=>
   intro i n v hi hn hv hvl
   obtain⟨q,rfl⟩:=sn (n:=n) (by omega)
   have hlt:i<l.length:=by omega
   obtain⟨h2,h3,h4⟩:=hat i hlt
   rw[P9]
   simp only[C6,hlt,decide_true,if_true,D9 hlt,N]
   rw[h4,D9 h3,N,if_pos (apk (by omega) (by simp) (by omega)),E9 hlt (smx (by omega))]
   refine ih (i+1) q _ (by omega) (by omega) ?_ (by simp[hvl])
   rw[hv,U h2]
   unfold pick
   rw[W]
   simp only[List.filterMap_cons,O h3,List.filterMap_nil]
 exact key l.length 0 bigN [] (by omega) (D4 (smx (by omega))) (by simp[pick]) rfl
end Go.Vi
