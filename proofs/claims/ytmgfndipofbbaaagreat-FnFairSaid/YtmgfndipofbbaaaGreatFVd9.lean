/-
Plain laws. No condition.
-/
import Derived.Test.YtmgfndipofbbaaaGreatFVc9
namespace Go.Vi
set_option linter.all false
open Option renaming bind_some → N
open List renaming getElem?_eq_getElem → O, getElem_mem → P, take_succ_eq_append_getElem → Q
open Bool renaming and_eq_true → U, true → T
open _root_ renaming List → E, Int → G, Nat → H
def B9y(l:E G)(k:H × G):E G:=l.set k.1 (l[k.1]?.getD 0+k.2)
def tot(ks:E (H × G)):E G:=ks.foldl B9y [0,0,0,0]
theorem A9v(ks:E (H × G))(k:H × G):tot (ks++ [k])=B9y (tot ks) k:=by simp[tot]
theorem D70{α:Type}{p:E α→Prop}(h0:p [])(h1:∀l a,p l→p (l++ [a]))(l:E α):p l:=by
 have:∀l:E α,p l.reverse:=fun l=>by
  induction l with
  | nil=>exact h0
  | cons a l ih=>rw[List.reverse_cons]; exact h1 _ _ ih
 have g:=this l.reverse
 rwa [List.reverse_reverse] at g
theorem A7r(ks:E (H × G)):(tot ks).length=4:=by
 refine D70 (p:=fun ks=>(tot ks).length=4) rfl (fun l a h=> ?_) ks
 rw[A9v,B9y,List.length_set]
 exact h
theorem C6k(l:E G)(i j:H)(x:G):(l.set i x)[j]?.getD 0=if i=j∧i<l.length then x else l[j]?.getD 0:=by
 rw[List.getElem?_set]
 by_cases h:i=j
 ·subst h
  by_cases h2:i<l.length
  ·simp[h2]
  ·simp[h2]
 ·simp[h]
theorem D82(ks:E (H × G)){L:H}(hL:L<4):(tot ks)[L]?.getD 0=((ks.filter fun k=>k.1==L).map Prod.snd).sum:=by
 refine D70 (p:=fun ks=>(tot ks)[L]?.getD 0=((ks.filter fun k=>k.1==L).map Prod.snd).sum) ?_ (fun l a ih=> ?_) ks
 ·have:L=0∨L=1∨L=2∨L=3:=by omega
  rcases this with rfl|rfl|rfl|rfl<;>rfl
 ·rw[A9v,B9y,C6k,A7r]
  by_cases h:a.1=L
  ·rw[if_pos ⟨h,by omega⟩,h,ih]
   simp[h]
  ·rw[if_neg (by omega),ih]
   simp[h]
theorem E5z{l:E G}{M:G}(h:∀x∈l,0≤x∧x≤M):0≤l.sum∧l.sum≤M*(l.length:G):=by
 induction l with
 | nil=>simp
 | cons x l ih=>
  have h1:=h x (by simp)
  have h2:=ih fun y hy=>h y (by simp[hy])
  simp only[List.sum_cons,List.length_cons,Int.natCast_add,Int.mul_add]
  omega
theorem D2a{ks:E (H × G)}{M:G}(hM:0≤M)(h:∀k∈ks,0≤k.2∧k.2≤M){L:H}(hL:L<4):0≤(tot ks)[L]?.getD 0∧(tot ks)[L]?.getD 0≤M*(ks.length:G):=by
 rw[D82 ks hL]
 obtain⟨a,b⟩:=E5z (l:=(ks.filter fun k=>k.1==L).map Prod.snd) (M:=M) fun x hx=>by
  obtain⟨k,hk,rfl⟩:=List.mem_map.1 hx
  exact h k (List.mem_filter.1 hk).1
 refine⟨a,Int.le_trans b (Int.mul_le_mul_of_nonneg_left ?_ hM)⟩
 have:=List.length_filter_le (fun k:H × G=>k.1==L) ks
 simp only[List.length_map]
 omega
theorem D5w(ks:E (H × G)){k:H × G}(hk:0≤k.2){L:H}(hL:L<4):(tot ks)[L]?.getD 0≤(tot (ks++ [k]))[L]?.getD 0:=by
 rw[A9v,B9y,C6k]
 split
 ·rename_i h; rw[← h.1]; omega
 ·omega
def gr(l:E G):G:=l.foldl (fun v x=>if v<x then x else v) 0
theorem D8g(l:E G)(M:G):gr l≤M↔0≤M∧∀x∈l,x≤M:=by
 have:∀(l:E G) (v:G),l.foldl (fun v x=>if v<x then x else v) v≤M↔v≤M∧∀x∈l,x≤M:=fun l=>by
  induction l with
  | nil=>intro v; simp
  | cons a l ih=>
   intro v
   rw[List.foldl_cons,ih]
   constructor
   ·intro⟨h1,h2⟩
    split at h1
    ·exact⟨by omega,fun x hx=>(List.mem_cons.1 hx).elim (fun e=>e▸h1) (h2 x)⟩
    ·exact⟨h1,fun x hx=>(List.mem_cons.1 hx).elim (fun e=>by omega) (h2 x)⟩
   ·intro⟨h1,h2⟩
    refine⟨?_,fun x hx=>h2 x (by simp[hx])⟩
    have:=h2 a (by simp)
    split<;>omega
 exact this l 0
theorem D9p{l l':E G}(h4:l.length=4)(h4':l'.length=4)(h:∀L,L<4→l[L]?.getD 0≤l'[L]?.getD 0):gr l≤gr l':=by
 rw[D8g]
 obtain⟨a,b⟩:=(D8g l' (gr l')).1 (Int.le_refl _)
 refine⟨a,fun x hx=> ?_⟩
 obtain⟨i,hi,rfl⟩:=List.getElem_of_mem hx
 have g:=h i (by omega)
 rw[O hi,O (show i<l'.length by omega)] at g
 exact Int.le_trans g (b _ (P _))
theorem C6q{R:Type}(xs:E G)(hl:xs.length≤maxLen)(K:G→Option R){F:H→G→G→Option R}
  (hF:∀n (i:H) v,F (n+1) v (i:G)=if h:i<xs.length then F n (if v<xs[i] then xs[i] else v) ((i+1:H):G) else K v):F bigN 0 0=K (gr xs):=by
 have key:∀(k i n:H),i+k=xs.length→k<n→F n (gr (xs.take i)) (i:G)=K (gr xs):=by
  intro k
  induction k with
  | zero=>
   intro i n hi hn
   obtain⟨q,rfl⟩:=sn (n:=n) (by omega)
   rw[hF,dif_neg (by omega),List.take_of_length_le (by omega)]
  | succ k ih=>
   intro i n hi hn
   obtain⟨q,rfl⟩:=sn (n:=n) (by omega)
   have hlt:i<xs.length:=by omega
   have e:=ih (i+1) q (by omega) (by omega)
   have eg:gr (xs.take i++ [xs[i]])=if gr (xs.take i)<xs[i] then xs[i] else gr (xs.take i):=by
    unfold gr
    rw[List.foldl_append]
    rfl
   rw[Q hlt,eg] at e
   rw[hF,dif_pos hlt]
   exact e
 exact key xs.length 0 bigN (by omega) (E5 hl)
theorem C8h{l:E X5}(hl:l.length≤maxLen):V3 l l=some T:=by
 unfold V3
 rw[if_neg (by simp)]
 have key:∀(k i n:H),i+k=l.length→k<n→K7 l l n (i:G)=some T:=by
  intro k
  induction k with
  | zero=>
   intro i n hi hn
   obtain⟨q,rfl⟩:=sn (n:=n) (by omega)
   have:i=l.length:=by omega
   subst this
   simp[K7]
  | succ k ih=>
   intro i n hi hn
   obtain⟨q,rfl⟩:=sn (n:=n) (by omega)
   have hlt:i<l.length:=by omega
   rw[K7]
   simp only[D3,hlt,decide_true,if_true,F1 hlt,N,I1 hlt (by omega),beq_self_eq_true,Bool.and_self]
   exact ih (i+1) q (by omega) (by omega)
 exact key l.length 0 bigN (by omega) (E5 hl)
theorem C5r{h:X4}(s:HSmall h)(hh:N1 h=T){a:X9}{o:X0}(ha:A4e h a=T)(ho:OptOk h a o):A3m h a o=some T:=by
 have h100:=ho.len
 obtain⟨v,v1,v2⟩:=ho.again
 have fin:A3l h a (o.Passages.map X5.Segment) o.Start=some (o,T):=by
  have hw:(decide (a.Ready≤o.Start)&&decide (o.Start≤a.Due))=T:=by simp[ho.start.1,ho.start.2]
  unfold A3l
  rw[B1t s,hh,ha,N,U5,hw]
  simp only[Bool.and_self,if_true,N,A1s,Bool.not_true,Bool.false_eq_true,if_false,v1,v2,N,if_true]
 unfold A3m
 have key:∀(k i n:H),i+k=o.Passages.length→k<n→T4 o h a n (i:G) ((o.Passages.take i).map X5.Segment)=some T:=by
  intro k
  induction k with
  | zero=>
   intro i n hi hn
   obtain⟨q,rfl⟩:=sn (n:=n) (by omega)
   have:i=o.Passages.length:=by omega
   subst this
   have e:A03 o o=some T:=by
    simp only[A03,beq_self_eq_true,if_true,C8h (smx (n:=o.Passages.length) (by omega)),N]
   rw[List.take_length,T4]
   simp only[D3,Nat.lt_irrefl,decide_false,Bool.false_eq_true,if_false,fin,N,if_true,e]
  | succ k ih=>
   intro i n hi hn
   obtain⟨q,rfl⟩:=sn (n:=n) (by omega)
   have hlt:i<o.Passages.length:=by omega
   have e:=ih (i+1) q (by omega) (by omega)
   rw[Q hlt,List.map_append] at e
   rw[T4]
   simp only[D3,hlt,decide_true,if_true,F1 hlt,N,I1 hlt (smx (by omega))]
   rw[if_pos (apk (by simp; omega) (by simp) (by omega))]
   exact e
 exact key o.Passages.length 0 bigN (by omega) (E5 (smx (by omega)))
theorem D15{h:X4}(s:HSmall h)(hh:N1 h=T){cs:E X9}(hc:CallsGood h cs){os:E (E X0)}(ho:OptsOf h cs os){pl:E X0}{ch:E G}(hch:Chosen os pl ch)(hl:pl.length=os.length)(hf:Fit h pl) :
  A43 h cs pl=some T:=by
 have h6:=hc.six
 have hlen:=ho.len
 have hopt:=B8s ho hch
 unfold A43
 rw[A6w s hh hc,N,if_pos rfl,if_neg (by simp; omega)]
 have key:∀(k i n:H),i+k=cs.length→k<n→Z6 pl cs h n (i:G)=some T:=by
  intro k
  induction k with
  | zero=>
   intro i n hi hn
   obtain⟨q,rfl⟩:=sn (n:=n) (by omega)
   have:i=cs.length:=by omega
   subst this
   simp[Z6]
  | succ k ih=>
   intro i n hi hn
   obtain⟨q,rfl⟩:=sn (n:=n) (by omega)
   have hlt:i<cs.length:=by omega
   have hpl:i<pl.length:=by omega
   obtain⟨_,g⟩:=hopt i hpl
   rw[Z6]
   simp only[D3,hlt,decide_true,if_true,F1 hlt,F1 hpl,N,C5r s hh (hc.ok _ (P hlt)) g,A4k (Nat.le_of_lt hpl),List.drop_zero,Nat.sub_zero,hf i hpl,I1 hlt (smx (by omega))]
   exact ih (i+1) q (by omega) (by omega)
 exact key cs.length 0 bigN (by omega) (E5 (smx (by omega)))
def A5r(h:X4)(a:X9):H:=(A09 h.Fleet a.Ship).Line.toNat
def prs(h:X4)(cs:E X9)(pl:E X0):E (H × G):=List.zipWith (fun a o=>(A5r h a,o.Cost)) cs pl
def A6p(ks:E (H × G)):E (H × G):=ks.map fun k=>(k.1,1)
theorem C3y(h:X4){o:X0}:∀{cs:E X9} {pl:E X0} (hl:pl.length<cs.length),prs h cs (pl++ [o])=prs h cs pl++ [(A5r h cs[pl.length],o.Cost)]:=by
 intro cs
 induction cs with
 | nil=>intro pl hl; simp at hl
 | cons c cs ih=>
  intro pl hl
  cases pl with
  | nil=>simp[prs]
  | cons p pl=>
   have:=ih (pl:=pl) (by simpa using hl)
   simp only[prs,List.cons_append,List.zipWith_cons_cons,List.length_cons,List.getElem_cons_succ] at *
   rw[this]
theorem E5w{h:X4}:∀{cs:E X9} {pl:E X0},B1u pl→(∀a∈cs,A5r h a<4)→∀k∈prs h cs pl,k.1<4∧0≤k.2∧k.2≤2880:=by
 intro cs pl hc hl k hk
 simp only[prs,List.mem_iff_getElem,List.length_zipWith,List.getElem_zipWith] at hk
 obtain⟨i,hi,rfl⟩:=hk
 have:=hc pl[i] (P _)
 exact⟨hl _ (P _),this.1,this.2⟩
theorem D8x(h:X4)(cs:E X9)(pl:E X0):(prs h cs pl).length=min cs.length pl.length:=by simp[prs]
theorem C6m{h:X4}(hh:N1 h=T){a:X9}(ha:A4e h a=T):idx a.Ship h.Fleet.length=T∧(A09 h.Fleet a.Ship).Line=(A5r h a:G)∧A5r h a<4:=by
 simp only[N1,U] at hh
 simp only[A4e,U] at ha
 have hs:=(A7y hh.2.2.1).2 _ (A7u ha.1).2
 simp only[A0o,U,decide_eq_true_eq] at hs
 unfold A5r
 exact⟨ha.1,by omega,by omega⟩
theorem B78{h:X4}(hh:N1 h=T){cs:E X9}(hc:CallsGood h cs){pl:E X0}(hp:B1u pl)(hl:pl.length≤cs.length) :
  A17 h cs pl=some ⟨tot (prs h cs pl),tot (A6p (prs h cs pl))⟩:=by
 have h6:=hc.six
 have hln:∀a∈cs,A5r h a<4:=fun a ha=>(C6m hh (hc.ok a ha)).2.2
 unfold A17
 rw[show mkS 4 4 8=some 4 from B9x (n:=4) (bytes:=8) (by omega) (by omega),N,N]
 have key:∀(k i n:H),i+k=pl.length→k<n→V9 cs pl h n (i:G) (tot (prs h cs (pl.take i))) (tot (A6p (prs h cs (pl.take i))))=some ⟨tot (prs h cs pl),tot (A6p (prs h cs pl))⟩:=by
  intro k
  induction k with
  | zero=>
   intro i n hi hn
   obtain⟨q,rfl⟩:=sn (n:=n) (by omega)
   have:i=pl.length:=by omega
   subst this
   rw[List.take_length]
   simp[V9]
  | succ k ih=>
   intro i n hi hn
   obtain⟨q,rfl⟩:=sn (n:=n) (by omega)
   have hlt:i<pl.length:=by omega
   have hlc:i<cs.length:=by omega
   have htl:(pl.take i).length=i:=by simp; omega
   obtain⟨w1,w2,w3⟩:=C6m hh (hc.ok _ (P hlc))
   have e:=ih (i+1) q (by omega) (by omega)
   have es:=C3y h (o:=pl[i]) (cs:=cs) (pl:=pl.take i) (by omega)
   simp only[htl] at es
   rw[Q hlt,es] at e
   have hin:=E5w (h:=h) (cs:=cs) (pl:=pl.take i) (fun o ho=>hp o (List.mem_of_mem_take ho)) hln
   have hpl6:((prs h cs (pl.take i)).length:G)≤6:=by rw[D8x]; omega
   have hol:(A6p (prs h cs (pl.take i))).length=(prs h cs (pl.take i)).length:=by simp[A6p]
   have b1:=D2a (ks:=prs h cs (pl.take i)) (M:=2880) (by omega) (fun k hk=>(hin k hk).2) w3
   have b2:=D2a (ks:=A6p (prs h cs (pl.take i))) (M:=1) (by omega) (fun k hk=>by
    obtain⟨k',_,rfl⟩:=List.mem_map.1 hk
    exact⟨by simp,by simp⟩) w3
   have b3:=hp _ (P hlt)
   rw[A9v,show A6p (prs h cs (pl.take i)++ [(A5r h cs[i],pl[i].Cost)])=A6p (prs h cs (pl.take i))++ [(A5r h cs[i],1)] by simp[A6p],A9v] at e
   simp only[B9y] at e
   have l1:A5r h cs[i]<(tot (prs h cs (pl.take i))).length:=by rw[A7r]; exact w3
   have l2:A5r h cs[i]<(tot (A6p (prs h cs (pl.take i)))).length:=by rw[A7r]; exact w3
   rw[O l1,Option.getD_some] at b1 e
   rw[O l2,Option.getD_some] at b2 e
   rw[V9]
   simp only[D3,hlt,decide_true,if_true,F1 hlt,F1 hlc,(A7u w1).1,N,w2,F1 l1,F1 l2,I1 hlt (smx (by omega)),Int.toNat_natCast]
   rw[A9 (n:=(tot (prs h cs (pl.take i)))[A5r h cs[i]]+_) (by omega) (by omega),A9 (n:=(tot (A6p (prs h cs (pl.take i))))[A5r h cs[i]]+1) (by omega) (by omega)]
   exact e
 have e:=key pl.length 0 bigN (by omega) (E5 (smx (by omega)))
 simpa[prs,A6p,tot] using e
theorem B3o{h:X4}(s:HSmall h)(hh:N1 h=T){cs:E X9}(hc:CallsGood h cs){os:E (E X0)}(ho:OptsOf h cs os){pl:E X0}{ch:E G}(hch:Chosen os pl ch)(hl:pl.length=os.length)(hf:Fit h pl) :
  A0t h cs pl=some (⟨tot (prs h cs pl),tot (A6p (prs h cs pl))⟩,T):=by
 have hlen:=ho.len
 simp only[A0t,D15 s hh hc ho hch hl hf,N,if_true,B78 hh hc (A3q ho hch) (by omega)]
end Go.Vi
