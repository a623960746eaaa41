/-
Plain laws. No condition.
-/
import Derived.Test.YtmlmdigeblhaiaaGreatPX23a
namespace Go.Vi
set_option linter.all false
open Option renaming bind_some → P, some → T
open List renaming getElem_mem → Q, drop_eq_getElem_cons → V, zipWith_cons_cons → X, take_succ_eq_append_getElem → Y, getElem_zipWith → B, getElem_of_mem → C, length_zipWith → J, getElem?_eq_getElem → zA, map_cons → zB
open Bool renaming false_eq_true → W
open Int renaming ofNat_lt → Z
open Nat renaming zero_le → I
open _root_ renaming List → E, Int → N
def oj{ps:E X1}(h:ps.length<=1048576):ND ps=T ps:=by
 unfold ND BB;rw[if_pos ⟨a9,a9,a9,a9⟩];simp only[P,Int.toNat_zero,List.replicate_zero,List.nil_append];rw[if_pos (KQ d3 a9)]
def Da(h:X3)(a:X8)(x:X0):E X0:=(EL h a x).getD []
def Ip{h:X3}(s:HSmall h)(hh:B4 h=true){a:X8}(ha:BV h a=true){x:X0}(hl:x.Passages.length<=1048576)(h0:0<=x.Start)(h1:x.Start<=2880) :
  Hk h a x=T (Da h a x)/\EL h a x=T (Da h a x)/\(Da h a x).length<=9/\GoodC h (Da h a x):=by
 obtain⟨O,o1,o2,o3,o4⟩:=A2a s hh ha;have hs:∀y∈O,EY y x=T (decide (y=x))/\EN y x=T (decide (y=x)):=fun y hy=>VI (by have:=(o4 y hy).1.2; exact Ak a9)
 have kI:∀acc:E X0,acc.length<=1->Dp O x bigN 0 acc=T (acc++O.filter fun o=> !decide (o=x)):=fun acc ha=>by
  refine Bi (fun n i=>∀acc:E X0,acc.length<=i+1->Dp O x n (i:N) acc=T (acc++(O.drop i).filter fun o=> !decide (o=x))) (Ak (n:=O.length) a9) (fun n acc _=>by rw[Dp,if_neg d0]; simp) (fun n i hi ih acc ha=> ?_) (I _) acc a9;rw[Dp,if_pos (decide_eq_true (Z.2 hi)),Af hi,P,(hs _ (Q hi)).2,P,V hi,List.filter_cons,Au hi (Ak a9)];by_cases e:O[i]=x
  .simp only[e,decide_true,if_true,Bool.not_true,W,if_false];exact ih acc a9
  .simp only[e,decide_false,W,if_false,Bool.not_false,if_true];rw[if_pos (AT a9 d0 a9),ih _ d3];simp
 have kS:∀acc:E X0,acc.length<=1->G9 O x bigN 0 acc=T (acc++O.filter fun o=> !decide (o=x)):=fun acc ha=>by
  refine Bi (fun n i=>∀acc:E X0,acc.length<=i+1->G9 O x n (i:N) acc=T (acc++(O.drop i).filter fun o=> !decide (o=x))) (Ak (n:=O.length) a9) (fun n acc _=>by rw[G9,if_neg d0]; simp) (fun n i hi ih acc ha=> ?_) (I _) acc a9;rw[G9,if_pos (decide_eq_true (Z.2 hi)),Af hi,P,(hs _ (Q hi)).1,P,V hi,List.filter_cons,Au hi (Ak a9)];by_cases e:O[i]=x
  .simp only[e,decide_true,if_true,Bool.not_true,W,if_false];exact ih acc a9
  .simp only[e,decide_false,W,if_false,Bool.not_false,if_true];rw[if_pos (AT a9 d0 a9),ih _ d3];simp
 obtain⟨b1,b2,b3⟩:=A1v s a hl;have hf:(O.filter fun o=> !decide (o=x)).length<=8:=Nat.le_trans (List.length_filter_le ..) o3;have hg:∀o∈O.filter fun o=> !decide (o=x),EE h o:=fun o ho=>o4 o (List.mem_filter.1 ho).1
 have main:∃L,Hk h a x=T L/\EL h a x=T L/\L.length<=9/\GoodC h L:=by
  unfold Hk EL OK IC;simp only[Qt s,UV s,hh,ha,Bool.and_self,P,if_true,b1,b2,o1,o2];cases hb:MC h a x with
  | false=>
   simp only[W,if_false,kS [] d0,kI [] d0];exact⟨_,rfl,rfl,by simp only[List.nil_append]; omega,fun o ho=>hg o (by simpa using ho)⟩
  | true=>
   have hx:NI x=T x:=by unfold NI; rw[oj hl]; rfl
   have hy:Pp x=T x:=by unfold Pp; rw[if_pos (KQ d3 a9)]
   have hap:Ab ([]:E X0).length ([x]:E X0).length 48=true:=AT d0 d0 a9;simp only[if_true,hx,hy,P,hap,kS [x] d0,kI [x] d0];refine⟨_,rfl,rfl,by simp only[List.length_append,List.length_singleton]; omega,fun o ho=> ?_⟩;rcases List.mem_append.1 ho with ho|ho
   .rw[List.mem_singleton.1 ho];obtain⟨g1,g2,g3⟩:=b3 hb;exact⟨⟨g1,hl⟩,g2,a9,h0,h1⟩
   .exact hg o ho
 obtain⟨L,l1,l2,l3⟩:=main;have:Da h a x=L:=by unfold Da; rw[l2]; rfl
 rw[this];exact⟨l1,l2,l3⟩
def Kr(x o:X0):N:=if x=o then 0 else 60+((if x.Start<o.Start then o.Start else x.Start) - (if o.Start<x.Start then o.Start else x.Start))
def Vz{x o:X0}:0<=Kr x o:=by
 unfold Kr;split
 .omega
 .split<;>split<;>omega
def VA{x o:X0}(hx:x.Passages.length<=1048576)(a0:0<=x.Start)(a1:x.Start<=2880)(b0:0<=o.Start)(b1:o.Start<=2880):P6 x o=T (Kr x o)/\Nu x o=T (Kr x o)/\Kr x o<=2940:=by
 obtain⟨e1,e2⟩:=VI (x:=x) (o:=o) (Ak a9);unfold P6 Nu Kr;rw[e1,e2,P,P];by_cases e:x=o
 .simp[e]
 .simp only[e,decide_false,W,if_false]
  have key:∀μ m:N,0<=m->m<=2880->0<=μ->μ<=2880->IntKind.i64.wrap (IntKind.i64.wrap (60+μ) - m)=60+(μ - m)/\IntKind.i64.wrap (60+IntKind.i64.wrap (μ - m))=60+(μ - m):=fun μ m q1 q2 q3 q4=>by
   rw[Ai (n:=60+μ) a9 a9,Ai (n:=μ - m) a9 a9,Ai a9 a9,Ai a9 a9];exact⟨a9,rfl⟩
  obtain⟨k1,k2⟩:=key (if x.Start<o.Start then o.Start else x.Start) (if o.Start<x.Start then o.Start else x.Start) (by split<;>omega) (by split<;>omega) (by split<;>omega) (by split<;>omega);rw[k1,k2];exact⟨rfl,rfl,by split<;>split<;>omega⟩
def rp(x o:X0):X0:=⟨o.Start,o.Arrival,Kr x o,o.Passages⟩
def db{h:X3}{x o:X0}(hx:x.Passages.length<=1048576)(a0:0<=x.Start)(a1:x.Start<=2880)(G:EE h o):EE h (rp x o):=⟨G.1,Vz,(VA hx a0 a1 G.2.2.2.1 G.2.2.2.2).2.2,G.2.2.2⟩
structure OldOk (old:E X0):Prop where
 six:old.length<=6
 len:∀x∈old,x.Passages.length<=1048576
 lo:∀x∈old,0<=x.Start
 hi:∀x∈old,x.Start<=2880
def BX(h:X3)(cs:E X8)(old:E X0):E (E X0):=List.zipWith (Da h) cs old
def D5(h:X3)(cs:E X8)(old:E X0):E (E X0):=List.zipWith (fun a x=>(Da h a x).map (rp x)) cs old
section
variable {h : X3} {cs : E X8} {old : E X0}
def cr{l:E X0}(hl:l∈BX h cs old):∃a∈cs,∃x∈old,l=Da h a x:=by
 obtain⟨i,hi,rfl⟩:=C hl;unfold BX at hi ⊢
 simp only[J] at hi
 rw[B];exact⟨_,Q a9,_,Q a9,rfl⟩
def dP{l:E X0}(hl:l∈D5 h cs old):∃a∈cs,∃x∈old,l=(Da h a x).map (rp x):=by
 obtain⟨i,hi,rfl⟩:=C hl;unfold D5 at hi ⊢
 simp only[J] at hi
 rw[B];exact⟨_,Q a9,_,Q a9,rfl⟩
def A2s(s:HSmall h)(hh:B4 h=true)(hcs:∀a∈cs,BV h a=true)(K:OldOk old)(he:cs.length=old.length):M7 h cs old=T (D5 h cs old):=by
 have h6:=K.six;have hz:(D5 h cs old).length=cs.length:=by simp[D5,he]
 unfold M7;refine(Bi (fun n i=>∀acc:E (E X0),acc.length=i->K6 old cs h n (i:N) acc=T (acc++(D5 h cs old).drop i)) (Ak (n:=cs.length) a9) (fun n acc _=>by rw[K6,if_neg d0,<- hz,List.drop_length,List.append_nil]) (fun n i hi ih acc hacc=> ?_) (I _) [] rfl).trans d0;have hi':i<old.length:=by omega
 have hx:=Q hi';have c0:=K.lo _ hx;have c1:=K.hi _ hx;have c2:=K.len _ hx;obtain⟨l1,_,l3,l4⟩:=Ip s hh (hcs _ (Q hi)) c2 c0 c1;rw[K6,if_pos (decide_eq_true (Z.2 hi)),Af hi,P,Af hi',P,l1,P];generalize hL:Da h cs[i] old[i]=L at l3 l4
 have inner:∀K2:N->E (E X0)->Option (E (E X0)),Gl old (i:N) cs L h acc K2 bigN 0 L=if Ab acc.length 1 24=true then K2 (IntKind.i64.wrap ((i:N)+1)) (acc++ [L.map (rp old[i])]) else none:=fun K2=>by
  have:=Bi (fun n j=>Gl old (i:N) cs L h acc K2 n (j:N) ((L.take j).map (rp old[i])++L.drop j)=if Ab acc.length 1 24=true then K2 (IntKind.i64.wrap ((i:N)+1)) (acc++ [L.map (rp old[i])]) else none) (len:=L.length) (Ak a9) (fun n=>by
   rw[Gl,if_neg d0,List.take_length,List.drop_length,List.append_nil]; rfl) (fun n j hj ihj=>by
   have o4:=l4 _ (Q hj);have hlen:((L.take j).map (rp old[i])).length=j:=by simp; omega
   have e1:ix ((L.take j).map (rp old[i])++L.drop j) (j:N)=T L[j]:=by
    rw[Am,List.getElem?_append_right a9,hlen,Nat.sub_self,List.getElem?_drop,Nat.add_zero,zA hj]
   have e2:((L.take j).map (rp old[i])++L.drop j).set (Int.toNat (j:N)) (rp old[i] L[j])=(L.take (j+1)).map (rp old[i])++L.drop (j+1):=by
    rw[Int.toNat_natCast,List.set_append,if_neg a9,hlen,Nat.sub_self,V hj,List.set_cons_zero,Y hj,List.map_append,List.map_singleton,List.append_assoc,List.singleton_append]
   rw[Gl,if_pos (decide_eq_true (Z.2 hj)),Af hi',P,e1,P,(VA c2 c0 c1 o4.2.2.2.1 o4.2.2.2.2).1,P,Au hj (Ak a9)];show Gl old (i:N) cs L h acc K2 n _ (List.set _ _ (rp old[i] L[j]))=_
   rw[e2];exact ihj) (I _)
  simpa using this
 rw[inner,if_pos (AT a9 a9 a9),Au hi (Ak a9),ih _ d3,V (by omega:i<(D5 h cs old).length)];simp[D5,hL]
def Bf(old pl:E X0):E X0:=List.zipWith rp old pl
def de:∀{old pl:E X0} {x o:X0},old[pl.length]?=T x->Bf old (pl++ [o])=Bf old pl++ [rp x o]
 | [],_,_,_,h=>by simp at h
 | y::ys,[],x,o,h=>by simp at h; subst h; simp[Bf]
 | y::ys,p::ps,x,o,h=>by
  have:=de (old:=ys) (pl:=ps) (x:=x) (o:=o) (by simpa using h);simp only[Bf,List.cons_append,X] at this ⊢
  rw[this]
def VG:∀{old pl:E X0},pl.length<=old.length->B3 (Bf old pl)=B3 pl
 | _,[],_=>by simp[Bf,B3]
 | [],p::ps,h=>by simp at h
 | y::ys,p::ps,h=>by
  have:=VG (old:=ys) (pl:=ps) (by simpa using h);simp only[Bf,B3,X,zB] at this ⊢
  rw[this];rfl
def dE{c:X4}{pl:E X0}:BH c pl=(B3 pl).map fun ps=>Cw c (Eo ps) (Gw ps):=by simp[BH,B3]
def tY{pl pl':E X0}(e:B3 pl=B3 pl'):FitP h pl↔FitP h pl':=by
 unfold FitP BE;rw[dE,dE,e]
def dc(K:OldOk old):∀{pl:E X0},GoodC h pl->GoodC h (Bf old pl):=by
 intro pl G o ho;obtain⟨i,hi,rfl⟩:=C ho;unfold Bf at hi ⊢
 simp only[J] at hi
 rw[B];have hx:old[i]' a9∈old:=Q _;exact db (K.len _ hx) (K.lo _ hx) (K.hi _ hx) (G _ (Q _))
def tX(s:HSmall h)(hh:B4 h=true)(K:OldOk old){pl:E X0}(G:GoodC h pl)(hl:pl.length<=old.length):Cp h (Bf old pl)=Cp h pl:=by
 have h6:=K.six;rw[Bool.eq_iff_iff,(HM s hh (by simp[Bf]; omega) (dc K G).pl).2,(HM s hh a9 G.pl).2];exact tY (VG hl)
def A1q{pl pl':E X0}{o o':X0}(e:B3 pl=B3 pl')(eo:o.Passages=o'.Passages):CE h pl o=CE h pl' o':=by
 have key:∀l:E X0,(l.any fun x=>Bp h.Chart h.Regime x.Passages o'.Passages)=(B3 l).any fun ps=>Bp h.Chart h.Regime ps o'.Passages:=fun l=>by simp[B3,List.any_map]; rfl
 unfold CE;rw[eo,key,key,e]
def YO{F G:X0->N->Fnd->Fnd}{g:X0->X0}:∀{l:E X0} {n:Nat} {A:Fnd},(∀o∈l,∀n A,F o n A=G (g o) n A)->Ci F l n A=Ci G (l.map g) n A
 | [],_,_,_=>rfl
 | o::l,n,A,H=>by
  rw[Ci,zB,Ci,H o (List.mem_cons_self ..)];exact YO fun x hx=>H x (List.mem_cons_of_mem _ hx)
def wP(old pl:E X0):Xj:=D2 (Bf old pl)
def dz(s:HSmall h)(hh:B4 h=true)(K:OldOk old):∀(as:E X8) (xs pl:E X0) (ch:E N) (A:Fnd),as.length=xs.length->old.drop pl.length=xs->pl.length<=old.length->(∀l∈BX h as xs,GoodC h l)->GoodC h pl->
  AE h (wP old) (BX h as xs) pl ch A=AE h D2 (D5 h as xs) (Bf old pl) ch A
 | [],[],pl,ch,A,_,hd,hl,_,G=>by
  show AE h (wP old) [] pl ch A=AE h D2 [] (Bf old pl) ch A
  rw[AE,AE,tX s hh K G hl];rfl
 | a::as,x::xs,pl,ch,A,he,hd,hl,hg,G=>by
  have hlt:pl.length<old.length:=by
   have:=congrArg List.length hd;simp only[List.length_drop,List.length_cons] at this
   omega
  rw[V hlt,List.cons.injEq] at hd
  have hx:old[pl.length]?=T x:=by rw[zA hlt,hd.1]
  show AE h (wP old) (Da h a x::BX h as xs) pl ch A=AE h D2 ((Da h a x).map (rp x)::D5 h as xs) (Bf old pl) ch A
  rw[AE,AE];refine YO fun o ho n A=> ?_
  have Go:=G.snoc (hg _ (List.mem_cons_self ..) o ho);rw[A1q (h:=h) (o:=o) (o':=rp x o) (VG (Nat.le_of_lt hlt)).symm rfl,dz s hh K as xs (pl++ [o]) _ A (by simpa using he) (by simpa using hd.2) d3 (fun l hl=>hg l (List.mem_cons_of_mem _ hl)) Go,de hx]
def fY:∀(old pl:E X0) (o:X0),BZ (Bf old pl)<=BZ (Bf old (pl++ [o]))
 | [],_,_=>by simp[Bf]
 | y::ys,[],o=>by simp[Bf,BZ,rp]; exact Vz
 | y::ys,p::ps,o=>by
  have:=fY ys ps o;simp only[Bf,BZ,List.cons_append,X,zB,List.sum_cons] at this ⊢
  omega
def A2q(K:OldOk old){pl:E X0}(G:GoodC h pl)(hl:pl.length<=old.length):Le old pl=T (BZ (Bf old pl)):=by
 have h6:=K.six;have hm:(if(pl.length:N)<(old.length:N) then(pl.length:N) else(old.length:N))=(pl.length:N):=by split<;>omega
 unfold Le;rw[hm];have hrl:(Bf old pl).length=pl.length:=by simp[Bf]; omega
 have hat:∀i (hi:i<pl.length),(Bf old pl)[i]' a9=rp (old[i]' a9) pl[i]:=fun i hi=>by simp[Bf]
 refine(Bi (fun n i=>IN old pl (pl.length:N) n (BZ ((Bf old pl).take i)) (i:N)=T (BZ (Bf old pl))) (Ak (n:=pl.length) a9) (fun n=>by rw[IN,if_neg d0,<- hrl,List.take_length]) (fun n i hi ih=> ?_) (I _));have hi':i<old.length:=by omega
 have hx:=Q hi';have Gi:=G _ (Q hi);obtain⟨_,p2,p3⟩:=VA (K.len _ hx) (K.lo _ hx) (K.hi _ hx) Gi.2.2.2.1 Gi.2.2.2.2;have b1:=VQ (l:=(Bf old pl).take i) fun o ho=>(dc K G).cost o (List.mem_of_mem_take ho)
 have b3:(((Bf old pl).take i).length:N)<=6:=by simp only[List.length_take]; omega
 have b4:=Vz (x:=old[i]) (o:=pl[i]);rw[IN,if_pos (decide_eq_true (Z.2 hi)),Af hi',P,Af hi,P,p2,P,Au hi (Ak a9),Ai a9 a9];rw[Y a9,VR,hat i hi] at ih
 exact ih
def A43{wv:E X0->Xj}{m:Nat}:∀(ls:E (E X0)) (pl:E X0) (ch:E N) (A:Fnd),ch.length+ls.length=m->(A.f=true->A.b.length=m)->(AE h wv ls pl ch A).f=true->(AE h wv ls pl ch A).b.length=m:=by
 intro ls
 induction ls with
 | nil=>
  intro pl ch A hd hA;rw[AE];split
  .unfold I3;split
   .exact hA
   .exact fun _=>by simpa using hd
  .exact hA
 | cons l ls ih=>
  intro pl ch A hd hA;simp only[List.length_cons] at hd
  rw[AE];refine ri (fun A=>A.f=true->A.b.length=m) (fun o n A hA=> ?_) l 0 A hA;split
  .exact ih _ _ _ d3 hA
  .exact hA
end
end Go.Vi
