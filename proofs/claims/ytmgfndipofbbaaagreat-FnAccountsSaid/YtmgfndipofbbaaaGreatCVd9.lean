/-
Plain laws. No condition.
-/
import Derived.Test.YtmgfndipofbbaaaGreatCVc9
namespace Go.Vi
set_option linter.all false
open Option renaming bind_some → H
open List renaming getElem_mem → N, take_succ_eq_append_getElem → O, getElem?_eq_getElem → Q
open Bool renaming and_eq_true → P, true → T
open Prod renaming snd → U
open _root_ renaming List → F, Int → E, Nat → G
def B96(l:F E)(k:G × E):F E:=l.set k.1 (l[k.1]?.getD 0+k.2)
def tot(ks:F (G × E)):F E:=ks.foldl B96 [0,0,0,0]
theorem A96(ks:F (G × E))(k:G × E):tot (ks++ [k])=B96 (tot ks) k:=by simp[tot]
theorem C8n{α:Type}{p:F α→Prop}(h0:p [])(h1:∀l a,p l→p (l++ [a]))(l:F α):p l:=by
 have:∀l:F α,p l.reverse:=fun l=>by
  induction l with
  | nil=>exact h0
  | cons a l ih=>rw[List.reverse_cons]; exact h1 _ _ ih
 have g:=this l.reverse
 rwa [List.reverse_reverse] at g
theorem A90(ks:F (G × E)):(tot ks).length=4:=by
 refine C8n (p:=fun ks=>(tot ks).length=4) rfl (fun l a h=> ?_) ks
 rw[A96,B96,List.length_set]
 exact h
theorem E2h{l:F E}:∀{i:G} (x:E),i<l.length→(l.set i x).sum=l.sum - l[i]?.getD 0+x:=by
 induction l with
 | nil=>intro i x h; simp at h
 | cons a l ih=>
  intro i x h
  cases i with
  | zero=>simp; omega
  | succ i=>
   have:=ih (i:=i) x (by simpa using h)
   simp only[List.set_cons_succ,List.sum_cons,this,List.getElem?_cons_succ]
   omega
theorem C70(ks:F (G × E))(h:∀k∈ks,k.1<4):(tot ks).sum=(ks.map U).sum:=by
 refine C8n (p:=fun ks=>(∀k∈ks,k.1<4)→(tot ks).sum=(ks.map U).sum) (fun _=>rfl) (fun l a ih h=> ?_) ks h
 rw[A96,B96,E2h _ (by rw[A90]; exact h a (by simp)),ih fun k hk=>h k (by simp[hk])]
 simp
 omega
theorem E00(l:F E)(i j:G)(x:E):(l.set i x)[j]?.getD 0=if i=j∧i<l.length then x else l[j]?.getD 0:=by
 rw[List.getElem?_set]
 by_cases h:i=j
 ·subst h
  by_cases h2:i<l.length
  ·simp[h2]
  ·simp[h2]
 ·simp[h]
theorem C8c(ks:F (G × E)){L:G}(hL:L<4):(tot ks)[L]?.getD 0=((ks.filter fun k=>k.1==L).map U).sum:=by
 refine C8n (p:=fun ks=>(tot ks)[L]?.getD 0=((ks.filter fun k=>k.1==L).map U).sum) ?_ (fun l a ih=> ?_) ks
 ·have:L=0∨L=1∨L=2∨L=3:=by omega
  rcases this with rfl|rfl|rfl|rfl<;>rfl
 ·rw[A96,B96,E00,A90]
  by_cases h:a.1=L
  ·rw[if_pos ⟨h,by omega⟩,h,ih]
   simp[h]
  ·rw[if_neg (by omega),ih]
   simp[h]
theorem C6a{l:F E}{M:E}(h:∀x∈l,0≤x∧x≤M):0≤l.sum∧l.sum≤M*(l.length:E):=by
 induction l with
 | nil=>simp
 | cons x l ih=>
  have h1:=h x (by simp)
  have h2:=ih fun y hy=>h y (by simp[hy])
  simp only[List.sum_cons,List.length_cons,Int.natCast_add,Int.mul_add]
  omega
theorem B7p{ks:F (G × E)}{M:E}(hM:0≤M)(h:∀k∈ks,0≤k.2∧k.2≤M){L:G}(hL:L<4):0≤(tot ks)[L]?.getD 0∧(tot ks)[L]?.getD 0≤M*(ks.length:E):=by
 rw[C8c ks hL]
 obtain⟨a,b⟩:=C6a (l:=(ks.filter fun k=>k.1==L).map U) (M:=M) fun x hx=>by
  obtain⟨k,hk,rfl⟩:=List.mem_map.1 hx
  exact h k (List.mem_filter.1 hk).1
 refine⟨a,Int.le_trans b (Int.mul_le_mul_of_nonneg_left ?_ hM)⟩
 have:=List.length_filter_le (fun k:G × E=>k.1==L) ks
 simp only[List.length_map]
 omega
theorem C46{α:Type}{l:F α}(h:l.length=4):∃a b c d,l= [a,b,c,d]:=by
 match l,h with
 | [a,b,c,d],_=>exact⟨a,b,c,d,rfl⟩
theorem D2a{l:F X5}(hl:l.length≤maxLen):W3 l l=some T:=by
 unfold W3
 rw[if_neg (by simp)]
 have key:∀(k i n:G),i+k=l.length→k<n→L1 l l n (i:E)=some T:=by
  intro k
  induction k with
  | zero=>
   intro i n hi hn
   obtain⟨q,rfl⟩:=sn (n:=n) (by omega)
   have:i=l.length:=by omega
   subst this
   simp[L1]
  | succ k ih=>
   intro i n hi hn
   obtain⟨q,rfl⟩:=sn (n:=n) (by omega)
   have hlt:i<l.length:=by omega
   rw[L1]
   simp only[D5,hlt,decide_true,if_true,E2 hlt,H,H6 hlt (by omega),beq_self_eq_true,Bool.and_self]
   exact ih (i+1) q (by omega) (by omega)
 exact key l.length 0 bigN (by omega) (E5 hl)
theorem C7c{h:X4}(s:HSmall h)(hh:O6 h=T){a:X9}{o:X0}(ha:A4t h a=T)(ho:OptOk h a o):A33 h a o=some T:=by
 have h100:=ho.len
 obtain⟨v,v1,v2⟩:=ho.again
 have fin:A3t h a (o.Passages.map X5.Segment) o.Start=some (o,T):=by
  have hw:(decide (a.Ready≤o.Start)&&decide (o.Start≤a.Due))=T:=by simp[ho.start.1,ho.start.2]
  unfold A3t
  rw[B12 s,hh,ha,H,U1,hw]
  simp only[Bool.and_self,if_true,H,A2b,Bool.not_true,Bool.false_eq_true,if_false,v1,v2,H,if_true]
 unfold A33
 have key:∀(k i n:G),i+k=o.Passages.length→k<n→V8 o h a n (i:E) ((o.Passages.take i).map X5.Segment)=some T:=by
  intro k
  induction k with
  | zero=>
   intro i n hi hn
   obtain⟨q,rfl⟩:=sn (n:=n) (by omega)
   have:i=o.Passages.length:=by omega
   subst this
   have e:A1n o o=some T:=by
    simp only[A1n,beq_self_eq_true,if_true,D2a (smx (n:=o.Passages.length) (by omega)),H]
   rw[List.take_length,V8]
   simp only[D5,Nat.lt_irrefl,decide_false,Bool.false_eq_true,if_false,fin,H,if_true,e]
  | succ k ih=>
   intro i n hi hn
   obtain⟨q,rfl⟩:=sn (n:=n) (by omega)
   have hlt:i<o.Passages.length:=by omega
   have e:=ih (i+1) q (by omega) (by omega)
   rw[O hlt,List.map_append] at e
   rw[V8]
   simp only[D5,hlt,decide_true,if_true,E2 hlt,H,H6 hlt (smx (by omega))]
   rw[if_pos (apk (by simp; omega) (by simp) (by omega))]
   exact e
 exact key o.Passages.length 0 bigN (by omega) (E5 (smx (by omega)))
theorem D4p{h:X4}(s:HSmall h)(hh:O6 h=T){cs:F X9}(hc:CallsGood h cs){os:F (F X0)}(ho:OptsOf h cs os){pl:F X0}{ch:F E}(hch:Chosen os pl ch)(hl:pl.length=os.length)(hf:Fit h pl) :
  A5k h cs pl=some T:=by
 have h6:=hc.six
 have hlen:=ho.len
 have hopt:=B82 ho hch
 unfold A5k
 rw[A9n s hh hc,H,if_pos rfl,if_neg (by simp; omega)]
 have key:∀(k i n:G),i+k=cs.length→k<n→A0i pl cs h n (i:E)=some T:=by
  intro k
  induction k with
  | zero=>
   intro i n hi hn
   obtain⟨q,rfl⟩:=sn (n:=n) (by omega)
   have:i=cs.length:=by omega
   subst this
   simp[A0i]
  | succ k ih=>
   intro i n hi hn
   obtain⟨q,rfl⟩:=sn (n:=n) (by omega)
   have hlt:i<cs.length:=by omega
   have hpl:i<pl.length:=by omega
   obtain⟨_,g⟩:=hopt i hpl
   rw[A0i]
   simp only[D5,hlt,decide_true,if_true,E2 hlt,E2 hpl,H,C7c s hh (hc.ok _ (N hlt)) g,A49 (Nat.le_of_lt hpl),List.drop_zero,Nat.sub_zero,hf i hpl,H6 hlt (smx (by omega))]
   exact ih (i+1) q (by omega) (by omega)
 exact key cs.length 0 bigN (by omega) (E5 (smx (by omega)))
def A1z(h:X4)(a:X9):G:=(A1i h.Fleet a.Ship).Line.toNat
def prs(h:X4)(cs:F X9)(pl:F X0):F (G × E):=List.zipWith (fun a o=>(A1z h a,o.Cost)) cs pl
def P8(ks:F (G × E)):F (G × E):=ks.map fun k=>(k.1,1)
theorem D66(h:X4){o:X0}:∀{cs:F X9} {pl:F X0} (hl:pl.length<cs.length),prs h cs (pl++ [o])=prs h cs pl++ [(A1z h cs[pl.length],o.Cost)]:=by
 intro cs
 induction cs with
 | nil=>intro pl hl; simp at hl
 | cons c cs ih=>
  intro pl hl
  cases pl with
  | nil=>simp[prs]
  | cons p pl=>
   have:=ih (pl:=pl) (by simpa using hl)
   simp only[prs,List.cons_append,List.zipWith_cons_cons,List.length_cons,List.getElem_cons_succ] at *
   rw[this]
theorem D3i{h:X4}:∀{cs:F X9} {pl:F X0},B3v pl→(∀a∈cs,A1z h a<4)→∀k∈prs h cs pl,k.1<4∧0≤k.2∧k.2≤2880:=by
 intro cs pl hc hl k hk
 simp only[prs,List.mem_iff_getElem,List.length_zipWith,List.getElem_zipWith] at hk
 obtain⟨i,hi,rfl⟩:=hk
 have:=hc pl[i] (N _)
 exact⟨hl _ (N _),this.1,this.2⟩
theorem C73(h:X4)(cs:F X9)(pl:F X0):(prs h cs pl).length=min cs.length pl.length:=by simp[prs]
theorem B5a{h:X4}(hh:O6 h=T){a:X9}(ha:A4t h a=T):idx a.Ship h.Fleet.length=T∧(A1i h.Fleet a.Ship).Line=(A1z h a:E)∧A1z h a<4:=by
 simp only[O6,P] at hh
 simp only[A4t,P] at ha
 have hs:=(A8i hh.2.2.1).2 _ (A7b ha.1).2
 simp only[A03,P,decide_eq_true_eq] at hs
 unfold A1z
 exact⟨ha.1,by omega,by omega⟩
theorem C95{h:X4}(hh:O6 h=T){cs:F X9}(hc:CallsGood h cs){pl:F X0}(hp:B3v pl)(hl:pl.length≤cs.length) :
  A4r h cs pl=some ⟨tot (prs h cs pl),tot (P8 (prs h cs pl))⟩:=by
 have h6:=hc.six
 have hln:∀a∈cs,A1z h a<4:=fun a ha=>(B5a hh (hc.ok a ha)).2.2
 unfold A4r
 rw[show mkS 4 4 8=some 4 from B9p (n:=4) (bytes:=8) (by omega) (by omega),H,H]
 have key:∀(k i n:G),i+k=pl.length→k<n→W9 cs pl h n (i:E) (tot (prs h cs (pl.take i))) (tot (P8 (prs h cs (pl.take i))))=some ⟨tot (prs h cs pl),tot (P8 (prs h cs pl))⟩:=by
  intro k
  induction k with
  | zero=>
   intro i n hi hn
   obtain⟨q,rfl⟩:=sn (n:=n) (by omega)
   have:i=pl.length:=by omega
   subst this
   rw[List.take_length]
   simp[W9]
  | succ k ih=>
   intro i n hi hn
   obtain⟨q,rfl⟩:=sn (n:=n) (by omega)
   have hlt:i<pl.length:=by omega
   have hlc:i<cs.length:=by omega
   have htl:(pl.take i).length=i:=by simp; omega
   obtain⟨w1,w2,w3⟩:=B5a hh (hc.ok _ (N hlc))
   have e:=ih (i+1) q (by omega) (by omega)
   have es:=D66 h (o:=pl[i]) (cs:=cs) (pl:=pl.take i) (by omega)
   simp only[htl] at es
   rw[O hlt,es] at e
   have hin:=D3i (h:=h) (cs:=cs) (pl:=pl.take i) (fun o ho=>hp o (List.mem_of_mem_take ho)) hln
   have hpl6:((prs h cs (pl.take i)).length:E)≤6:=by rw[C73]; omega
   have hol:(P8 (prs h cs (pl.take i))).length=(prs h cs (pl.take i)).length:=by simp[P8]
   have b1:=B7p (ks:=prs h cs (pl.take i)) (M:=2880) (by omega) (fun k hk=>(hin k hk).2) w3
   have b2:=B7p (ks:=P8 (prs h cs (pl.take i))) (M:=1) (by omega) (fun k hk=>by
    obtain⟨k',_,rfl⟩:=List.mem_map.1 hk
    exact⟨by simp,by simp⟩) w3
   have b3:=hp _ (N hlt)
   rw[A96,show P8 (prs h cs (pl.take i)++ [(A1z h cs[i],pl[i].Cost)])=P8 (prs h cs (pl.take i))++ [(A1z h cs[i],1)] by simp[P8],A96] at e
   simp only[B96] at e
   have l1:A1z h cs[i]<(tot (prs h cs (pl.take i))).length:=by rw[A90]; exact w3
   have l2:A1z h cs[i]<(tot (P8 (prs h cs (pl.take i)))).length:=by rw[A90]; exact w3
   rw[Q l1,Option.getD_some] at b1 e
   rw[Q l2,Option.getD_some] at b2 e
   rw[W9]
   simp only[D5,hlt,decide_true,if_true,E2 hlt,E2 hlc,(A7b w1).1,H,w2,E2 l1,E2 l2,H6 hlt (smx (by omega)),Int.toNat_natCast]
   rw[A7 (n:=(tot (prs h cs (pl.take i)))[A1z h cs[i]]+_) (by omega) (by omega),A7 (n:=(tot (P8 (prs h cs (pl.take i))))[A1z h cs[i]]+1) (by omega) (by omega)]
   exact e
 have e:=key pl.length 0 bigN (by omega) (E5 (smx (by omega)))
 simpa[prs,P8,tot] using e
theorem C6h{h:X4}(s:HSmall h)(hh:O6 h=T){cs:F X9}(hc:CallsGood h cs){os:F (F X0)}(ho:OptsOf h cs os){pl:F X0}{ch:F E}(hch:Chosen os pl ch)(hl:pl.length=os.length)(hf:Fit h pl) :
  A23 h cs pl=some (⟨tot (prs h cs pl),tot (P8 (prs h cs pl))⟩,T):=by
 have hlen:=ho.len
 simp only[A23,D4p s hh hc ho hch hl hf,H,if_true,C95 hh hc (A8h ho hch) (by omega)]
end Go.Vi
