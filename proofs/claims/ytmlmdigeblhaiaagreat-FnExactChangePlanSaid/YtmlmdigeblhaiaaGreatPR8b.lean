/-
Plain laws. No condition.
-/
import Derived.Test.YtmlmdigeblhaiaaGreatPR8a
namespace Go.Vi
set_option linter.all false
open Option renaming bind_some → L
open _root_ renaming List → T, Int → E
section
variable {h : X3} {cs : T X8} {os : T (T X0)}
def ex(h:X3):T (T X0)->T X0->Bool
 | [],pl=>Cp h pl
 | l::ls,pl=>l.any fun o=>CE h pl o&&ex h ls (pl++ [o])
def rh{F:X0->E->Fnd->Fnd}{p:X0->Bool}(H:∀o n A,(F o n A).f=(A.f || p o)):∀(l:T X0) (n:Nat) (A:Fnd),(Ci F l n A).f=(A.f || l.any p):=by
 intro l
 induction l with
 | nil=>intro n A; simp[Ci]
 | cons o l ih=>intro n A; rw[Ci,ih,H,List.any_cons,Bool.or_assoc]
def A42(wv:T X0->Xj):∀(ls:T (T X0)) (pl:T X0) (ch:T E) (A:Fnd),(AE h wv ls pl ch A).f=(A.f || ex h ls pl):=by
 intro ls
 induction ls with
 | nil=>
  intro pl ch A;rw[AE,ex];cases hf:Cp h pl with
  | false=>simp
  | true=>
   rw[if_pos rfl];unfold I3;split
   .rename_i e; simp only[Bool.and_eq_true] at e; simp[e.1]
   .simp
 | cons l ls ih=>
  intro pl ch A;rw[AE,ex];refine rh (fun o n A=> ?_) l 0 A;cases hn:CE h pl o with
  | false=>simp
  | true=>rw[if_pos rfl,ih]; simp
def sy:∀(ls:T (T X0)) (pl:T X0),[]∈ls->ex h ls pl=false:=by
 intro ls
 induction ls with
 | nil=>intro pl hm; cases hm
 | cons l ls ih=>
  intro pl hm;rw[ex];rcases List.mem_cons.1 hm with e|e
  .rw[<- e]; rfl
  .rw[List.any_eq_false];intro o _;rw[ih _ e]; simp
abbrev Px(h:X3)(os:T (T X0))(A:Fnd)(pl:T X0)(ch:T E):Xh:=⟨h,os,pl,ch,A.b,A.w,A.f⟩
def A45{wv:T X0->Xj}{m:Nat}(hm:∀(pl:T X0) (o:X0),0<=o.Cost->wl (wv (pl++ [o])) (wv pl)=false):∀(ls:T (T X0)) (pl:T X0) (ch:T E) (A:Fnd),(∀l∈ls,GoodC h l)->pl.length+ls.length=m->A.f=true->wl (wv pl) A.w=false->AE h (wv) ls pl ch A=A:=by
 intro ls
 induction ls with
 | nil=>
  intro pl ch A _ _ hf hw;rw[AE];split
  .unfold I3; rw[if_pos (by rw[hf,hw]; rfl)]
  .rfl
 | cons l ls ih=>
  intro pl ch A hg hl hf hw;simp only[List.length_cons] at hl
  rw[AE];refine U5 fun o ho n=> ?_
  split
  .exact ih _ _ _ (fun l hm=>hg l (List.mem_cons_of_mem _ hm)) d3 hf (A90 (hm _ _ (hg l (List.mem_cons_self ..) o ho).2.1) hw)
  .rfl
def xC{wv:T X0->Xj}{F:T X0->Option Xj}(hF:∀pl,GoodC h pl->pl.length<=os.length->F pl=some (wv pl))(hm:∀(pl:T X0) (o:X0),0<=o.Cost->wl (wv (pl++ [o])) (wv pl)=false)(s:HSmall h)(hh:B4 h=true)(h6:os.length<=6)(h8:∀l∈os,l.length<=9)(hg:∀l∈os,GoodC h l):∀(ls:T (T X0)) (pl:T X0) (ch:T E) (A:Fnd) (n:Nat),ls.length<n->os.drop pl.length=ls->pl.length+ls.length=os.length->pl.length=ch.length->GoodC h pl->Cp h pl=true->
  DF F n (Px h os A pl ch)=some (Px h os (AE h wv ls pl ch A) pl ch):=by
 intro ls
 induction ls with
 | nil=>
  intro pl ch A n hn hd hl hlen G hf;obtain⟨q,rfl⟩:=sn (n:=n) (by simpa using hn);simp only[List.length_nil,Nat.add_zero] at hl
  have hz:((pl.length:E)==(os.length:E))=true:=by rw[hl]; simp
  have hcl:Ee ch=some ch:=TQ a9;rw[DF,NP];simp only[hF pl G a9,L,cE,J0,hz,if_true,hcl,AE,hf,I3];obtain⟨f,b,w⟩:=A;cases f with
  | false=>simp
  | true=>cases hw:wl (wv pl) w<;>simp[hw]
 | cons l ls ih=>
  intro pl ch A n hn hd hl hlen G hf;obtain⟨q,rfl⟩:=sn (n:=n) a9;simp only[List.length_cons] at hl hn
  have hz:((pl.length:E)==(os.length:E))=false:=beq_eq_false_iff_ne.2 a9;have hpl:pl.length<os.length:=by omega
  have hol:os[pl.length]?=some l:=by
   have:=congrArg List.head? hd;rw[List.head?_drop] at this
   exact this
  have hd':os.drop (pl.length+1)=ls:=by rw[<- List.tail_drop,hd]; rfl
  have hlm:=List.mem_of_getElem? hol;have hl8:=h8 l hlm;have hgl:∀l'∈ls,GoodC h l':=fun l' h'=>hg l' (by rw[<- hd'] at h'; exact List.mem_of_mem_drop h')
  have key:=Bi (fun m i=>∀A:Fnd,Eh F (DF F q) (Px h os A pl ch) l m (i:E) h os A.w.i0 A.w.i1 A.f pl ch A.b=some (Px h os (Ci (fun o n A=>if CE h pl o=true then AE h wv ls (pl++ [o]) (ch++ [n]) A else A) (l.drop i) i A) pl ch)) (Ak (n:=l.length) a9)
   (fun m A=>by rw[Eh,if_neg d0,List.drop_length]; rfl) (fun m i hi ihm A=>by
    have ed:Ci (fun o n A=>if CE h pl o=true then AE h wv ls (pl++ [o]) (ch++ [n]) A else A) (l.drop i) i A=Ci (fun o n A=>if CE h pl o=true then AE h wv ls (pl++ [o]) (ch++ [n]) A else A) (l.drop (i+1)) (i+1) (if CE h pl l[i]=true then AE h wv ls (pl++ [l[i]]) (ch++ [(i:E)]) A else A):=by
     rw[List.drop_eq_getElem_cons hi]; rfl
    have ho:=hg l hlm _ (List.getElem_mem hi);obtain⟨b,b1,b2⟩:=tZ s hh a9 (G.snoc ho).pl
    have a0same:∀(A':Fnd) (m:Nat) (v:E),Eh F (DF F q) (Px h os A pl ch) l m v=Eh F (DF F q) (Px h os A' pl ch) l m v:=by
     intro A' m
     induction m with
     | zero=>intro v; funext a b c d e f g i; rfl
     | succ m ihh=>intro v; funext a b c d e f g i; simp only[Eh,ihh]
    rw[ed,Eh,if_pos (by simpa using hi),Af hi,L,b1,L,Au hi (Ak a9)];cases b with
    | true=>
     obtain⟨k1,k2⟩:=b2.1 rfl;have hfit:Cp h (pl++ [l[i]])=true:=(HM s hh d3 (G.snoc ho).pl).2.2 k2;have e:=ih (pl++ [l[i]]) (ch++ [(i:E)]) A q a9 (by simp[hd']) d3 d3 (G.snoc ho) hfit;rw[if_pos rfl,if_pos (AT a9 d0 a9),if_pos (AT a9 d0 a9),if_pos (cf.2 k1)];refine(congrArg (fun z=>Option.bind z _) e).trans ?_;have t1:bnd (((pl++ [l[i]]).length:Nat):E) (pl.length:E) (0:E) (pl++ [l[i]]).length=some (0,pl.length):=FE d0;have t2:bnd (((ch++ [(i:E)]).length:Nat):E) (pl.length:E) (0:E) (ch++ [(i:E)]).length=some (0,pl.length):=FE d3;have t3:(pl++ [l[i]]).take pl.length=pl:=by simp
     have t4:(ch++ [(i:E)]).take pl.length=ch:=by rw[hlen]; simp
     simp only[L,t1,t2,t3,t4];rw[a0same (AE h wv ls (pl++ [l[i]]) (ch++ [(i:E)]) A)];exact ihm _
    | false=>
     rw[if_neg d0]
     have:(if CE h pl l[i]=true then AE h wv ls (pl++ [l[i]]) (ch++ [(i:E)]) A else A)=A:=by
      split
      .rename_i hnc
       refine A41 s hh ls _ _ A hgl (G.snoc ho) d3 ?_;cases hft:Cp h (pl++ [l[i]]) with
       | false=>rfl
       | true=>
        have:=b2.2 ⟨cf.1 hnc,(HM s hh d3 (G.snoc ho).pl).2.1 hft⟩;cases this
      .rfl
     rw[this];exact ihm A) (Nat.zero_le _) A
  rw[DF,NP];have hw:=hF pl G a9
  have go:J0 F (DF F q) (Px h os A pl ch) (wv pl) A.f=some (Px h os (AE h wv (l::ls) pl ch A) pl ch):=by
   unfold J0;simp only[hz,Bool.false_eq_true,if_false,Am,hol,L,AE];exact key
  simp only[hw,L,cE];cases hAf:A.f with
  | false=>rw[hAf] at go; simpa using go
  | true=>
   rw[hAf] at go
   cases hwl:wl (wv pl) A.w with
   | true=>simpa using go
   | false=>
    rw[A45 hm (m:=os.length) (l::ls) pl ch A (fun l' h'=>hg l' (by rw[<- hd] at h'; exact List.mem_of_mem_drop h')) d3 hAf hwl];simp only[if_true,Bool.false_eq_true,if_false];rw[<- hAf]
abbrev Zx(h:X3)(os:T (T X0))(rest b:T E)(c:E)(f:Bool):Xe:=⟨h,os,EJ h os,rest,b,c,f⟩
def D2(pl:T X0):Xj:=⟨BZ pl,0⟩
end
end Go.Vi
