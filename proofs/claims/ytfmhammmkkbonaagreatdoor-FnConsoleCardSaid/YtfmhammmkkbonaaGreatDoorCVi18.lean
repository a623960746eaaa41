/-
The value level. No condition.
-/
import Derived.Test.YtfmhammmkkbonaaGreatDoorCVi17
namespace Go.Vi
set_option linter.all false
open Option renaming some → T
section
variable {P : Program} {A : Ar} {B : Nat} {w0 : Base} {w : World} {nm : Ab} {σ : St} {a : Act}
theorem A5g(R:Rel A B w0 nm σ a.tmps w){ops:Array Oper}{j t:Nat}{b:Bool}(hj:(ops[j]?).bind (·.dst)=T t)(h:σ.get t= .v (.sc (.dat (.bool b)))):yielded ops a.tmps j=T b:=by
 have hx:=R.env t;rw[h] at hx
 have hv:a.tmps.getD t undef= .bool b:=by
  generalize a.tmps.getD t undef=v at hx
  cases hx with | v hx=>
  cases hx with | sc hx=>
  cases hx with | dat hr=>
  cases hr;rfl
 unfold yielded;rw[hj];simp only[Option.bind_some];by_cases ht:t<a.tmps.size
 ·have e:a.tmps[t]?=T (.bool b):=by
   rw[Array.getD_eq_getD_getElem?] at hv
   rw[Array.getElem?_eq_getElem ht] at hv ⊢
   simpa using hv
  rw[e]
 ·exfalso
  have e:a.tmps.getD t undef=undef:=by simp[Array.getD,ht]
  rw[e] at hv
  cases hv
theorem A5f(R:Rel A B w0 nm σ a.tmps w){ops:Array Oper}{j t:Nat}(hj:(ops[j]?).bind (·.dst)=T t)(h:σ.get t= .no):yielded ops a.tmps j=none:=by
 have hx:=R.env t;rw[h] at hx
 have hv:a.tmps.getD t undef=undef:=by
  generalize a.tmps.getD t undef=v at hx
  cases hx;rfl
 unfold yielded;rw[hj];simp only[Option.bind_some];by_cases ht:t<a.tmps.size
 ·have e:a.tmps[t]?=T undef:=by
   rw[Array.getD_eq_getD_getElem?] at hv
   rw[Array.getElem?_eq_getElem ht] at hv ⊢
   simpa using hv
  rw[e];rfl
 ·have e:a.tmps[t]?=none:=Array.getElem?_eq_none (by omega);rw[e]
theorem Mm(R:Rel A B w0 nm σ a.tmps w){ops:Array Oper}{o:Oper}{g:Option (Nat × Bool)}{yes no:Prop}(hg:E1 ops o.guard=T g)(h:AB g σ yes no) :
  (Region.wanted o (yielded ops a.tmps)=true∧yes)∨(Region.wanted o (yielded ops a.tmps)=false∧no):=by
 unfold Region.wanted;generalize o.guard=og at hg ⊢
 cases og with
 | none=>
  simp[E1] at hg
  subst hg;exact .inl ⟨rfl,h⟩
 | some p=>
  obtain⟨j,want⟩:=p;simp only[E1] at hg
  split at hg
  ·rename_i t ht
   cases hg;simp only[AB] at h;split at h
   ·rename_i b hb
    dsimp only
    rw[A5g R ht hb];split at h
    ·rename_i e
     subst e;exact .inl ⟨by simp,h⟩
    ·rename_i e
     exact .inr ⟨by simpa using e,h⟩
   ·rename_i hb
    dsimp only
    rw[A5f R ht hb];exact .inr ⟨by simp,h⟩
   ·exact h.elim
  ·cases hg
theorem Qp{nt:Nat}{o:Oper}{ao:AOp}(h:Cz P nt o=T ao):ao.dst=o.dst∧ao.idle=false∧∀d,o.dst=T d→d<nt:=by
 unfold Cz at h;split at h
 ·rename_i d hd
  split at h
  ·rename_i hlt
   obtain⟨h1,h2⟩:=KM h;exact⟨by rw[h1,hd],h2,fun d' hd'=>by rw[hd] at hd'; cases hd'; exact hlt⟩
  ·cases h
 ·rename_i hd
  split at h
  ·split at h
   ·cases h;exact⟨by rw[hd]; rfl,rfl,fun d' hd'=>by rw[hd] at hd'; cases hd'⟩
   ·cases h
  ·(repeat' split at h)<;>first
    | (cases h; done)
    | (cases h; exact⟨by rw[hd]; rfl,rfl,fun d' hd'=>by rw[hd] at hd'; cases hd'⟩)
  ·cases h
theorem TY{nt:Nat}{ops:Array Oper}{o:Oper}{g:Option (Nat × Bool)}{ao:AOp}(h:H6 P nt ops o=T (g,ao)):E1 ops o.guard=T g∧Cz P nt o=T ao:=by
 unfold H6 at h;split at h
 ·rename_i h1 h2
  cases h;exact⟨h1,h2⟩
 ·cases h
theorem Z1(R:Rel A B w0 nm σ a.tmps w){nt d:Nat}{o:Oper}{ao:AOp}(hnt:a.tmps.size=nt)(hc:Cz P nt o=T ao)(hd:ao.dst=T d) :
  Rel A B w0 nm (σ.set d .no) (a.put o.dst undef).tmps w∧(a.put o.dst undef).tmps.size=nt∧(a.put o.dst undef).defers=a.defers:=by
 obtain⟨h1,h2,h3⟩:=Qp hc;rw[hd] at h1
 rw[← h1];refine⟨R.put ?_ .no,by simp[Act.put,hnt],rfl⟩;rw[hnt];exact h3 d h1.symm
theorem P4{Q:Exit→Act→World→Prop}{K:Act→World→Prop}{K':St→Prop}{nt:Nat}{ops:Array Oper}{o:Oper}{g:Option (Nat × Bool)}{ao:AOp}(R:Rel A B w0 nm σ a.tmps w)(hnt:a.tmps.size=nt)
  (hc:H6 P nt ops o=T (g,ao)) (h:AB g σ (AO P ao K' σ) (match ao.dst with | some d=>K' (σ.set d .no) | none=>False))
  (hK:∀nm' σ' a' w',K' σ'→Rel A B w0 nm' σ' a'.tmps w'→a'.tmps.size=nt→a'.defers=a.defers→K a' w') :
  if Region.wanted o (yielded ops a.tmps) then o.wp P a w K Q∨(o.asks P a w∧LetsOut Q) else K (a.put o.dst undef) w:=by
 obtain⟨h1,h2⟩:=TY hc;rcases Mm R h1 h with ⟨hw,hy⟩|⟨hw,hn⟩
 ·rw[hw];exact .inl (Tp R hnt h2 hy hK)
 ·rw[hw];cases hd:ao.dst with
  | none=>simp[hd] at hn
  | some d=>
   simp only[hd] at hn
   obtain⟨r1,r2,r3⟩:=Z1 R hnt h2 hd;exact hK nm _ _ w hn r1 r2 r3
theorem Rl{K':St→Prop}{g:Option (Nat × Bool)}{ao:AOp}(hi:ao.idle=true)(h:AB g σ (AO P ao K' σ) (match ao.dst with | some d=>K' (σ.set d .no) | none=>False)):∃σ',σ.step ao=T σ'∧K' σ':=by
 have hno:ao.dst=none:=by cases ao<;>first | rfl | (simp[AOp.idle] at hi; done)
 have hyes:AO P ao K' σ→∃σ',σ.step ao=T σ'∧K' σ':=by
  intro h
  have h':(match σ.step ao with | some σ'=>K' σ' | none=>False):=by
   cases ao<;>first | exact h | (simp[AOp.idle] at hi; done)
  split at h'
  ·rename_i σ' hs
   exact⟨σ',hs,h'⟩
  ·exact h'.elim
 rw[hno] at h;unfold AB at h;split at h
 ·exact hyes h
 ·split at h
  ·split at h
   ·exact hyes h
   ·exact h.elim
  ·exact h.elim
  ·exact h.elim
theorem TZ{nt:Nat}{ops:Array Oper}{l:List Oper}{i:AItem}{is:List AItem}(h:Br P nt ops l=T (i::is)):∃o l',l=o::l'∧H6 P nt ops o=T i∧Br P nt ops l'=T is:=by
 cases l with
 | nil=>simp[Br] at h
 | cons o l'=>
  simp only[Br] at h;split at h
  ·rename_i h1 h2
   cases h;exact⟨o,l',rfl,h1,h2⟩
  ·cases h
theorem U0{nt:Nat}{ops:Array Oper}{l:List Oper}(h:Br P nt ops l=T []):l= []:=by
 cases l with
 | nil=>rfl
 | cons o l'=>
  simp only[Br] at h;split at h<;>cases h
theorem Qa{Q:Exit→Act→World→Prop}{K':St→Prop}{nt:Nat}{ops:Array Oper}:∀(its:List AItem) (l:List Oper) (σ:St) (a:Act) (w:World) (nm:Ab),Rel A B w0 nm σ a.tmps w→a.tmps.size=nt→
  Br P nt ops l=T (its.filter fun i=> !i.2.idle)→B6 P its K' σ→(∀nm' σ' a' w',K' σ'→Rel A B w0 nm' σ' a'.tmps w'→a'.tmps.size=nt→a'.defers=a.defers→Q .normal a' w')→wpList P ops Q l a w
 | [],l,σ,a,w,nm,R,hnt,hc,h,hK=>by
  obtain rfl:=U0 hc;exact hK nm σ a w h R hnt rfl
 | (g,ao)::its,l,σ,a,w,nm,R,hnt,hc,h,hK=>by
  cases hi:ao.idle with
  | true=>
   have hc':Br P nt ops l=T (its.filter fun i=> !i.2.idle):=by simpa[hi] using hc
   obtain⟨σ',hs,hk⟩:=Rl hi h;obtain⟨nm',R'⟩:=OZ R hi hs;exact Qa its l σ' a w nm' R' hnt hc' hk hK
  | false=>
   have hc':Br P nt ops l=T ((g,ao)::its.filter fun i=> !i.2.idle):=by simpa[hi] using hc
   obtain⟨o,l',rfl,h1,h2⟩:=TZ hc';have:=P4 (Q:=Q) (K:=wpList P ops Q l') R hnt h1 h (fun nm' σ' a' w' hk R' hs hd=>Qa its l' σ' a' w' nm' R' hs h2 hk (fun nm'' σ'' a'' w'' k1 k2 k3 k4=>hK nm'' σ'' a'' w'' k1 k2 k3 (k4.trans hd)));exact this
theorem Nz{Q:Exit→Act→World→Prop}{K':St→Prop}{nt:Nat}{ops:Array Oper}{l2:List Oper}:∀(its:List AItem) (l:List Oper) (σ:St) (a:Act) (w:World) (nm:Ab),Rel A B w0 nm σ a.tmps w→a.tmps.size=nt→
  Br P nt ops l=T (its.filter fun i=> !i.2.idle)→B6 P its K' σ→(∀nm' σ' a' w',K' σ'→Rel A B w0 nm' σ' a'.tmps w'→a'.tmps.size=nt→a'.defers=a.defers→wpList P ops Q l2 a' w')→wpList P ops Q (l++l2) a w
 | [],l,σ,a,w,nm,R,hnt,hc,h,hK=>by
  obtain rfl:=U0 hc;exact hK nm σ a w h R hnt rfl
 | (g,ao)::its,l,σ,a,w,nm,R,hnt,hc,h,hK=>by
  cases hi:ao.idle with
  | true=>
   have hc':Br P nt ops l=T (its.filter fun i=> !i.2.idle):=by simpa[hi] using hc
   obtain⟨σ',hs,hk⟩:=Rl hi h;obtain⟨nm',R'⟩:=OZ R hi hs;exact Nz its l σ' a w nm' R' hnt hc' hk hK
  | false=>
   have hc':Br P nt ops l=T ((g,ao)::its.filter fun i=> !i.2.idle):=by simpa[hi] using hc
   obtain⟨o,l',rfl,h1,h2⟩:=TZ hc';have:=P4 (Q:=Q) (K:=wpList P ops Q (l'++l2)) R hnt h1 h (fun nm' σ' a' w' hk R' hs hd=>Nz its l' σ' a' w' nm' R' hs h2 hk (fun nm'' σ'' a'' w'' k1 k2 k3 k4=>hK nm'' σ'' a'' w'' k1 k2 k3 (k4.trans hd)));exact this
end
end Go.Vi
