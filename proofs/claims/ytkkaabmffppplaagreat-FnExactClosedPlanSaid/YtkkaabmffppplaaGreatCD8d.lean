/-
Plain laws. No condition.
-/
import Derived.Test.YtkkaabmffppplaaGreatCD8x
namespace Go.Vi
set_option linter.all false
open Option renaming bind_some → E
open List renaming length_cons → G
open _root_ renaming List → T
section
variable {h : X6} {cs : T Xc}
variable {cl : T X7}
def BO(h:X6)(cl:T X7)(a:Xc):T X0:=(Ve h a).filter fun o=> !CO o cl
theorem SB(s:HSmall h)(hh:Bh h=true)(hc:Fu h.Chart cl=true){a:Xc}(ha:Cl h a=true):FX h a cl=some (BO h cl a)∧CX h a cl=some (BO h cl a)∧(BO h cl a).length≤8∧GoodC h (BO h cl a):=by
 obtain⟨L,l1,l2,l3,l4⟩:=cI s hh ha;have el:Ve h a=L:=by unfold Ve; rw[l2]; rfl
 have h4:cl.length≤4:=by
  simp only[Fu,Bool.and_eq_true,decide_eq_true_eq] at hc
  exact hc.2.1
 have hcm:cl.length≤maxLen:=Ah (by omega);have hp:∀o∈L,o.Passages.length≤maxLen:=fun o ho=>by rw[AA]; have:=(l4 o ho).1.2; omega
 refine⟨?_,?_,?_,fun o ho=> ?_⟩
 ·unfold FX;rw[SL s,hh,ha,Bool.and_true,E,if_pos rfl,Q8 s.pn,hc,E,if_pos rfl,l1,E];refine BE (fun n i=>Eg cl L n (i:Int) ((L.take i).filter fun o=> !CO o cl)=some (BO h cl a)) (Ah (n:=L.length) (by omega)) (fun n=> ?_) (fun n i hi ih=> ?_) (Nat.zero_le _)
  ·rw[Eg,if_neg (by simp),List.take_length];unfold BO;rw[el]
  ·rw[Eg,if_pos (decide_eq_true (Int.ofNat_lt.2 hi)),Af hi,E,dI (hp _ (List.getElem_mem hi)) hcm,E,An hi (Ah (by omega))];rw[I2 hi] at ih
   cases e:CO L[i] cl with
   | true=>
    rw[e] at ih
    simp only[Bool.not_true,Bool.false_eq_true,if_false,List.append_nil] at ih
    rw[if_pos rfl];exact ih
   | false=>
    rw[e] at ih
    rw[if_neg (by simp),if_pos (B0 (by
     have:=List.length_filter_le (fun o=> !CO o cl) (L.take i);simp only[List.length_take] at this
     omega) (by simp) (by omega))]
    exact ih
 ·unfold CX
  rw[UH s,hh,ha,Bool.and_true,E,if_pos rfl,M4 s.pn,hc,E,if_pos rfl,l2,E,Yn (p:=fun o=>CO o cl) (by omega) (fun o ho=>by
   show(GT o cl).bind _=_
   rw[UJ (hp o ho) hcm]; rfl)]
  unfold BO;rw[el];rfl
 ·unfold BO;rw[el];exact Nat.le_trans (List.length_filter_le _ _) l3
 ·unfold BO at ho
  rw[el] at ho
  exact l4 o ((List.mem_filter.1 ho).1)
theorem A0z(s:HSmall h)(hh:Bh h=true)(hc:Fu h.Chart cl=true)(h6:cs.length≤6)(hcs:∀a∈cs,Cl h a=true):RF h cs cl=some (cs.map (BO h cl))∧(∀l∈cs.map (BO h cl),l.length≤8)∧∀l∈cs.map (BO h cl),GoodC h l:=by
 refine⟨?_,fun l hl=> ?_,fun l hl=> ?_⟩
 ·refine Gr (L:=JT cl cs h) cs _ some (Ah (by omega)) (fun n i acc hi hacc=> ?_) fun n acc _=>by rw[JT,if_neg (by simp)]
  rw[JT];simp only[Ae,hi,decide_true,if_true,Af hi,E,(SB s hh hc (hcs _ (List.getElem_mem hi))).1];rw[if_pos (B0 (by omega) (by simp) (by omega))]
 ·obtain⟨a,ha,rfl⟩:=List.mem_map.1 hl;exact(SB s hh hc (hcs a ha)).2.2.1
 ·obtain⟨a,ha,rfl⟩:=List.mem_map.1 hl;exact(SB s hh hc (hcs a ha)).2.2.2
def MC(os:T (T X0))(ch:T Int):Prop:=∀i (hi:i<ch.length),∃(hj:i<os.length) (k:Nat),ch[i]=(k:Int)∧k<os[i].length
theorem qh{F:X0→Int→Fnd→Fnd}{p:Fnd→Prop}:∀(l:T X0) (n:Nat) (A:Fnd),(∀i (hi:i<l.length) A,p A→p (F l[i] ((n+i:Nat):Int) A))→p A→p (CW F l n A):=by
 intro l
 induction l with
 | nil=>intro n A _ h; exact h
 | cons o l ih=>
  intro n A H h;rw[CW];refine ih _ _ (fun i hi A hA=> ?_) (H 0 (by simp) A h);have:=H (i+1) (by simp; omega) A hA;simp only[List.getElem_cons_succ] at this
  rw[show n+(i+1)=n+1+i by omega] at this
  exact this
theorem A3v(wv:T X0→Xk)(os:T (T X0)):∀(ls:T (T X0)) (pl:T X0) (ch:T Int) (A:Fnd),os.drop ch.length=ls→MC os ch→(A.f=true→MC os A.b)→((AX h wv ls pl ch A).f=true→MC os (AX h wv ls pl ch A).b):=by
 intro ls
 induction ls with
 | nil=>
  intro pl ch A hd hc hA;rw[AX];split
  ·unfold HU;split
   ·exact hA
   ·exact fun _=>hc
  ·exact hA
 | cons l ls ih=>
  intro pl ch A hd hc hA
  have hlt:ch.length<os.length:=by
   have:=congrArg List.length hd;simp only[List.length_drop,G] at this
   omega
  rw[List.drop_eq_getElem_cons hlt,List.cons.injEq] at hd
  rw[AX];refine qh (p:=fun A=>A.f=true→MC os A.b) l 0 A (fun i hi A hA=> ?_) hA;split
  ·refine ih _ _ _ (by simpa using hd.2) (fun j hj=> ?_) hA;simp only[List.length_append,G,List.length_nil] at hj
   by_cases e:j=ch.length
   ·subst e;refine⟨hlt,i,by simp,?_⟩;rw[hd.1]; exact hi
   ·obtain⟨q1,k,q2,q3⟩:=hc j (by omega);exact⟨q1,k,by rw[List.getElem_append_left (by omega)]; exact q2,q3⟩
  ·exact hA
theorem A3u(wv:T X0→Xk):∀(ls:T (T X0)) (pl:T X0) (ch:T Int) (A:Fnd),ch.length+ls.length≤12→A.b.length≤12→(AX h wv ls pl ch A).b.length≤12:=by
 intro ls
 induction ls with
 | nil=>
  intro pl ch A h1 h2;rw[AX];split
  ·unfold HU;split
   ·exact h2
   ·simpa using h1
  ·exact h2
 | cons l ls ih=>
  intro pl ch A h1 h2;simp only[G] at h1
  rw[AX];refine qj (fun A=>A.b.length≤12) (fun o n A hA=> ?_) l 0 A h2;split
  ·exact ih _ _ _ (by simp; omega) hA
  ·exact hA
end
end Go.Vi
