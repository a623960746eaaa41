/-
Plain laws. No condition.
-/
import Derived.Test.YtmlmdigeblhaiaaGreatPX23b
namespace Go.Vi
set_option linter.all false
open Option renaming bind_some → N, bind_eq_some_iff → P, some → E
open List renaming drop_eq_getElem_cons → O, getElem_mem → Q, getElem?_eq_getElem → V, drop_length → W
open Bool renaming false → T
open _root_ renaming List → H, Int → L
def Gx(x:X0):Bool:=decide (0<=x.Start)&&decide (x.Start<=2880)
section
variable {h : X3} {cs : H X8} {old : H X0}
def xx{α β γ:Type}{f:α->β->γ}{as:H α}{bs:H β}{v:L}{y:γ}(e:ix (List.zipWith f as bs) v=E y):∃a b,ix as v=E a/\ix bs v=E b/\y=f a b/\a∈as/\b∈bs:=by
 unfold ix at e ⊢
 split at e
 .rename_i hv
  obtain⟨hi,rfl⟩:=List.getElem?_eq_some_iff.1 e;simp only[List.length_zipWith] at hi
  rw[if_pos hv,if_pos hv];exact⟨as[v.toNat]' a9,bs[v.toNat]' a9,V _,V _,by rw[List.getElem_zipWith],Q _,Q _⟩
 .cases e
def A4w(s:HSmall h)(hh:B4 h=true)(hcs:∀a∈cs,BV h a=true)(K:OldOk old){q:H L × L × Bool}(hq:q.1.length=cs.length):∀(n:Nat) (v:L) (acc r:H X0),DE (BX h cs old) q.1 n v acc=E r->Jw old q cs h n v acc=E (r,q.2.1,true):=by
 intro n
 induction n with
 | zero=>intro v acc r h; cases h
 | succ n ih=>
  intro v acc r e;rw[DE,hq] at e
  rw[Jw];split
  .rename_i hd
   rw[if_pos hd] at e
   obtain⟨x,e1,g1⟩:=P.1 e;obtain⟨y,e2,g2⟩:=P.1 g1;obtain⟨z,e3,g3⟩:=P.1 g2;clear e g1 g2
   obtain⟨a,b,k1,k2,rfl,k3,k4⟩:=xx e2;rw[k1,N,k2,N,(Ip s hh (hcs a k3) (K.len b k4) (K.lo b k4) (K.hi b k4)).1,N,e1,N,e3,N];split
   .rename_i ha
    rw[if_pos ha] at g3
    exact ih _ _ _ g3
   .rename_i ha
    rw[if_neg ha] at g3
    cases g3
  .rename_i hd
   rw[if_neg hd] at e
   cases e;rfl
def Yv(s:HSmall h)(hl:∀x∈old,x.Passages.length<=1048576)(hol:old.length<=1048576):∃g,OH h cs old=E g/\GX h cs old=E g/\g.1.length<=12/\∀o∈g.1,o.Passages.length<=1048576:=by
 have fail:∃g:H X0 × L × Bool,(E (([]:H X0),(0:L),T))=E g/\(E (([]:H X0),(0:L),T))=E g/\g.1.length<=12/\∀o∈g.1,o.Passages.length<=1048576:=⟨_,rfl,rfl,d0,fun o ho=>by cases ho⟩;obtain⟨b,b1,b2,b3⟩:=oR s (cs:=cs);unfold OH GX;rw[b1,b2,N,N];cases b with
 | false=>exact fail
 | true=>
  obtain⟨hh,h6,hcs⟩:=b3 rfl;rw[if_pos rfl,if_pos rfl];by_cases hlen:old.length=cs.length
  case neg=>
   have:((old.length:L) !=(cs.length:L))=true:=by rw[bne_iff_ne]; omega
   rw[this];exact fail
  have hz:((old.length:L) !=(cs.length:L))=T:=by rw[hlen]; simp
  rw[hz];unfold OI Nb;rw[if_neg d0,if_neg d0];have hzl:(BX h cs old).length=cs.length:=by simp[BX,hlen]
  have hS:=Bi (fun n i=>Hj cs old h n (i:L)=if(old.drop i).all Gx then((M7 h cs old).bind fun r11=>(M6 h r11).bind fun r12=>if r12.2.2 then Jw old r12 cs h bigN (0:L) ([]:H X0) else E (([]:H X0),(0:L),T)) else E (([]:H X0),(0:L),T)) (len:=old.length) (Ak a9) (fun n=>by
   rw[Hj,if_neg d0,W,List.all_nil,if_pos rfl]) (fun n i hi ih=>by
   rw[Hj,if_pos (decide_eq_true (Int.ofNat_lt.2 hi)),Af hi,N,Bw,N,O hi,List.all_cons,Au hi (Ak a9)];show(if Gx old[i]=true then _ else _)=_
   cases hb:Gx old[i] with
   | false=>simp
   | true=>simp only[if_true,Bool.true_and]; exact ih) (Nat.zero_le _)
  have hI:=Bi (fun n i=>∀acc:H (H X0),acc.length=i->GY cs h old n (i:L) acc=if(old.drop i).all Gx then((NM h (acc++(BX h cs old).drop i) (fun z0=>L7 z0 old)).bind fun r14=>if r14.2.2 then(Lj (acc++(BX h cs old).drop i) r14.1).bind fun r16=>E (r16,r14.2.1.i0,true) else E (([]:H X0),(0:L),T)) else E (([]:H X0),(0:L),T)) (len:=cs.length) (Ak a9) (fun n acc hacc=>by
   rw[GY,if_neg d0,<- hlen,W,List.all_nil,if_pos rfl,hlen,<- hzl,W,List.append_nil]) (fun n i hi ih acc hacc=>by
   have hi':i<old.length:=by omega
   rw[GY,if_pos (decide_eq_true (Int.ofNat_lt.2 hi)),Af hi,N,Af hi',N,CP,D8,N,N,O hi',List.all_cons,Au hi (Ak a9)];show(if Gx old[i]=true then _ else _)=_
   cases hb:Gx old[i] with
   | false=>simp
   | true=>
    simp only[Gx,Bool.and_eq_true,decide_eq_true_eq] at hb
    simp only[if_true,Bool.true_and,(Ip s hh (hcs _ (Q hi)) (hl _ (Q hi')) hb.1 hb.2).2.1,N];rw[if_pos (AT a9 d0 a9),ih _ d3,O (by omega:i<(BX h cs old).length)];have e:(BX h cs old)[i]' a9=Da h cs[i] old[i]:=by simp[BX]
    rw[e,List.append_assoc,List.singleton_append]) (Nat.zero_le _) [] rfl
  have hS:Hj cs old h bigN (0:L)=_:=hS;have hI:GY cs h old bigN (0:L) []=_:=hI;rw[hS,hI];simp only[List.drop_zero,List.nil_append];cases hall:old.all Gx with
  | false=>simp only[Bool.false_eq_true,if_false]; exact fail
  | true=>
   have hm:∀x∈old,0<=x.Start/\x.Start<=2880:=fun x hx=>by
    have:=List.all_eq_true.1 hall x hx;simpa[Gx] using this
   have K:OldOk old:=⟨a9,hl,fun x hx=>(hm x hx).1,fun x hx=>(hm x hx).2⟩
   have og:∀l∈BX h cs old,GoodC h l:=fun l hm=>by
    obtain⟨a,ha,x,hx,rfl⟩:=cr hm;exact(Ip s hh (hcs a ha) (K.len x hx) (K.lo x hx) (K.hi x hx)).2.2.2
   have o9:∀l∈BX h cs old,l.length<=9:=fun l hm=>by
    obtain⟨a,ha,x,hx,rfl⟩:=cr hm;exact(Ip s hh (hcs a ha) (K.len x hx) (K.lo x hx) (K.hi x hx)).2.2.1
   have qg:∀l∈D5 h cs old,GoodC h l:=fun l hm=>by
    obtain⟨a,ha,x,hx,rfl⟩:=dP hm;intro o ho;obtain⟨o',ho',rfl⟩:=List.mem_map.1 ho;exact db (K.len x hx) (K.lo x hx) (K.hi x hx) ((Ip s hh (hcs a ha) (K.len x hx) (K.lo x hx) (K.hi x hx)).2.2.2 o' ho')
   have q9:∀l∈D5 h cs old,l.length<=9:=fun l hm=>by
    obtain⟨a,ha,x,hx,rfl⟩:=dP hm;rw[List.length_map];exact(Ip s hh (hcs a ha) (K.len x hx) (K.lo x hx) (K.hi x hx)).2.2.1
   have hql:(D5 h cs old).length=cs.length:=by simp[D5,hlen]
   have hfit:Cp h []=true:=(HM s hh d0 (fun o ho=>by cases ho)).2.2 (FitP.nil hh)
   have e:=xC (os:=BX h cs old) (wv:=wP old) (F:=fun z0=>L7 z0 old) (fun pl G hp=>by
    rw[hzl] at hp
    show(Le old pl).bind _=_
    rw[A2q K G a9]; rfl) (fun pl o ho=>by
    have:¬BZ (Bf old (pl++ [o]))<BZ (Bf old pl):=Int.not_lt.2 (fY old pl o);simp[wl,wP,D2,this]) s hh a9 o9 og (BX h cs old) [] [] ⟨T,[],⟨0,0⟩⟩ bigN (by rw[Cc]; omega) rfl d0 rfl (fun o ho=>by cases ho) hfit
   have e:Ub (fun z0=>L7 z0 old) ⟨h,BX h cs old,[],[],[],⟨0,0⟩,T⟩=_:=e;have hp:=A40 (h:=h) (wP old) (BX h cs old) (BX h cs old) [] [] ⟨T,[],⟨0,0⟩⟩ rfl (fun i hi=>by simp at hi) (fun h=>by cases h);have hb:=A43 (h:=h) (wv:=wP old) (m:=cs.length) (BX h cs old) [] [] ⟨T,[],⟨0,0⟩⟩ (by simp[hzl]) (fun h=>by cases h);have hr:=dz s hh K cs old [] [] ⟨T,[],⟨0,0⟩⟩ hlen.symm rfl (Nat.zero_le _) og (fun o ho=>by cases ho);have hr0:Bf old []= []:=by simp[Bf]
   rw[hr0] at hr
   obtain⟨b',c',f',eb,q1,q2⟩:=nl s hh (os:=D5 h cs old) a9 q9 qg;rw[<- hr] at q1 q2
   generalize AE h (wP old) (BX h cs old) [] [] ⟨T,[],⟨0,0⟩⟩=B at e hp hb q1 q2 hr
   rw[A2s s hh hcs K hlen.symm,N,eb,N];unfold NM;rw[e,N,N];simp only[if_true];rw[q1];cases f' with
   | false=>simp only[Bool.false_eq_true,if_false]; exact fail
   | true=>
    have hb:=hb q1;have hp:=hp q1;obtain⟨qb,qc⟩:=q2 rfl;rw[qb] at hp hb ⊢
    rw[qc];obtain⟨r,r1,r2,r3⟩:=od hp a9;simp only[if_true,r1,N];refine⟨(r,c',true),A4w s hh hcs K hb _ _ _ _ r1,rfl,by simp only at r2 ⊢; omega,fun o ho=> ?_⟩;obtain⟨l,l1,l2⟩:=r3 o ho;exact(og l l1 o l2).1.2
end
end Go.Vi
