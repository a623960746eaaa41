/-
The value level. No condition.
-/
import Derived.Test.YtpigjggbnclpbaaGreatOVi17
namespace Go.Vi
set_option linter.all false
open Option renaming some → T
section
variable {P : Program} {A : Ar} {B : Nat} {w0 : Base} {w : World} {nm : Ad} {σ : St} {a : Act}
theorem uY(R:Rel A B w0 nm σ a.tmps w){ops:Array Oper}{j t:Nat}{b:Bool}(hj:(ops[j]?).bind (·.dst)=T t)(h:σ.get t= .v (.sc (.dat (.bool b)))):yielded ops a.tmps j=T b:=by
 have hx:=R.env t;rw[h] at hx
 have hv:a.tmps.getD t undef= .bool b:=by
  generalize a.tmps.getD t undef=v at hx
  cases hx with | v hx=>
  cases hx with | sc hx=>
  cases hx with | dat hr=>
  cases hr;rfl
 unfold yielded;rw[hj];simp only[Option.bind_some];by_cases ht:t<a.tmps.size
 ·have e:a.tmps[t]?=T (.bool b):=by
   rw[Array.getD_eq_getD_getElem?] at hv
   rw[Array.getElem?_eq_getElem ht] at hv ⊢
   simpa using hv
  rw[e]
 ·exfalso
  have e:a.tmps.getD t undef=undef:=by simp[Array.getD,ht]
  rw[e] at hv
  cases hv
theorem uX(R:Rel A B w0 nm σ a.tmps w){ops:Array Oper}{j t:Nat}(hj:(ops[j]?).bind (·.dst)=T t)(h:σ.get t= .no):yielded ops a.tmps j=none:=by
 have hx:=R.env t;rw[h] at hx
 have hv:a.tmps.getD t undef=undef:=by
  generalize a.tmps.getD t undef=v at hx
  cases hx;rfl
 unfold yielded;rw[hj];simp only[Option.bind_some];by_cases ht:t<a.tmps.size
 ·have e:a.tmps[t]?=T undef:=by
   rw[Array.getD_eq_getD_getElem?] at hv
   rw[Array.getElem?_eq_getElem ht] at hv ⊢
   simpa using hv
  rw[e];rfl
 ·have e:a.tmps[t]?=none:=Array.getElem?_eq_none (by omega);rw[e]
theorem OM(R:Rel A B w0 nm σ a.tmps w){ops:Array Oper}{o:Oper}{g:Option (Nat × Bool)}{yes no:Prop}(hg:FO ops o.guard=T g)(h:AA g σ yes no) :
  (Region.wanted o (yielded ops a.tmps)=true∧yes)∨(Region.wanted o (yielded ops a.tmps)=false∧no):=by
 unfold Region.wanted;generalize o.guard=og at hg ⊢
 cases og with
 | none=>
  simp[FO] at hg
  subst hg;exact .inl ⟨rfl,h⟩
 | some p=>
  obtain⟨j,want⟩:=p;simp only[FO] at hg
  split at hg
  ·rename_i t ht
   cases hg;simp only[AA] at h;split at h
   ·rename_i b hb
    dsimp only
    rw[uY R ht hb];split at h
    ·rename_i e
     subst e;exact .inl ⟨by simp,h⟩
    ·rename_i e
     exact .inr ⟨by simpa using e,h⟩
   ·rename_i hb
    dsimp only
    rw[uX R ht hb];exact .inr ⟨by simp,h⟩
   ·exact h.elim
  ·cases hg
theorem Ov{nt:Nat}{o:Oper}{ao:AOp}(h:C6 P nt o=T ao):ao.dst=o.dst∧ao.idle=false∧∀d,o.dst=T d→d<nt:=by
 unfold C6 at h;split at h
 ·rename_i d hd
  split at h
  ·rename_i hlt
   obtain⟨h1,h2⟩:=Jj h;exact⟨by rw[h1,hd],h2,fun d' hd'=>by rw[hd] at hd'; cases hd'; exact hlt⟩
  ·cases h
 ·rename_i hd
  split at h
  ·split at h
   ·cases h;exact⟨by rw[hd]; rfl,rfl,fun d' hd'=>by rw[hd] at hd'; cases hd'⟩
   ·cases h
  ·(repeat' split at h)<;>first
    | (cases h; done)
    | (cases h; exact⟨by rw[hd]; rfl,rfl,fun d' hd'=>by rw[hd] at hd'; cases hd'⟩)
  ·cases h
theorem Rj{nt:Nat}{ops:Array Oper}{o:Oper}{g:Option (Nat × Bool)}{ao:AOp}(h:FP P nt ops o=T (g,ao)):FO ops o.guard=T g∧C6 P nt o=T ao:=by
 unfold FP at h;split at h
 ·rename_i h1 h2
  cases h;exact⟨h1,h2⟩
 ·cases h
theorem Vx(R:Rel A B w0 nm σ a.tmps w){nt d:Nat}{o:Oper}{ao:AOp}(hnt:a.tmps.size=nt)(hc:C6 P nt o=T ao)(hd:ao.dst=T d) :
  Rel A B w0 nm (σ.set d .no) (a.put o.dst undef).tmps w∧(a.put o.dst undef).tmps.size=nt∧(a.put o.dst undef).defers=a.defers:=by
 obtain⟨h1,h2,h3⟩:=Ov hc;rw[hd] at h1
 rw[← h1];refine⟨R.put ?_ .no,by simp[Act.put,hnt],rfl⟩;rw[hnt];exact h3 d h1.symm
theorem Ng{Q:Exit→Act→World→Prop}{K:Act→World→Prop}{K':St→Prop}{nt:Nat}{ops:Array Oper}{o:Oper}{g:Option (Nat × Bool)}{ao:AOp}(R:Rel A B w0 nm σ a.tmps w)(hnt:a.tmps.size=nt)
  (hc:FP P nt ops o=T (g,ao)) (h:AA g σ (AN P ao K' σ) (match ao.dst with | some d=>K' (σ.set d .no) | none=>False))
  (hK:∀nm' σ' a' w',K' σ'→Rel A B w0 nm' σ' a'.tmps w'→a'.tmps.size=nt→a'.defers=a.defers→K a' w') :
  if Region.wanted o (yielded ops a.tmps) then o.wp P a w K Q∨(o.asks P a w∧LetsOut Q) else K (a.put o.dst undef) w:=by
 obtain⟨h1,h2⟩:=Rj hc;rcases OM R h1 h with ⟨hw,hy⟩|⟨hw,hn⟩
 ·rw[hw];exact .inl (QV R hnt h2 hy hK)
 ·rw[hw];cases hd:ao.dst with
  | none=>simp[hd] at hn
  | some d=>
   simp only[hd] at hn
   obtain⟨r1,r2,r3⟩:=Vx R hnt h2 hd;exact hK nm _ _ w hn r1 r2 r3
theorem Pa{K':St→Prop}{g:Option (Nat × Bool)}{ao:AOp}(hi:ao.idle=true)(h:AA g σ (AN P ao K' σ) (match ao.dst with | some d=>K' (σ.set d .no) | none=>False)):∃σ',σ.step ao=T σ'∧K' σ':=by
 have hno:ao.dst=none:=by cases ao<;>first | rfl | (simp[AOp.idle] at hi; done)
 have hyes:AN P ao K' σ→∃σ',σ.step ao=T σ'∧K' σ':=by
  intro h
  have h':(match σ.step ao with | some σ'=>K' σ' | none=>False):=by
   cases ao<;>first | exact h | (simp[AOp.idle] at hi; done)
  split at h'
  ·rename_i σ' hs
   exact⟨σ',hs,h'⟩
  ·exact h'.elim
 rw[hno] at h;unfold AA at h;split at h
 ·exact hyes h
 ·split at h
  ·split at h
   ·exact hyes h
   ·exact h.elim
  ·exact h.elim
  ·exact h.elim
theorem Rk{nt:Nat}{ops:Array Oper}{l:List Oper}{i:AItem}{is:List AItem}(h:Bl P nt ops l=T (i::is)):∃o l',l=o::l'∧FP P nt ops o=T i∧Bl P nt ops l'=T is:=by
 cases l with
 | nil=>simp[Bl] at h
 | cons o l'=>
  simp only[Bl] at h;split at h
  ·rename_i h1 h2
   cases h;exact⟨o,l',rfl,h1,h2⟩
  ·cases h
theorem Rl{nt:Nat}{ops:Array Oper}{l:List Oper}(h:Bl P nt ops l=T []):l= []:=by
 cases l with
 | nil=>rfl
 | cons o l'=>
  simp only[Bl] at h;split at h<;>cases h
theorem Og{Q:Exit→Act→World→Prop}{K':St→Prop}{nt:Nat}{ops:Array Oper}:∀(its:List AItem) (l:List Oper) (σ:St) (a:Act) (w:World) (nm:Ad),Rel A B w0 nm σ a.tmps w→a.tmps.size=nt→
  Bl P nt ops l=T (its.filter fun i=> !i.2.idle)→B8 P its K' σ→(∀nm' σ' a' w',K' σ'→Rel A B w0 nm' σ' a'.tmps w'→a'.tmps.size=nt→a'.defers=a.defers→Q .normal a' w')→wpList P ops Q l a w
 | [],l,σ,a,w,nm,R,hnt,hc,h,hK=>by
  obtain rfl:=Rl hc;exact hK nm σ a w h R hnt rfl
 | (g,ao)::its,l,σ,a,w,nm,R,hnt,hc,h,hK=>by
  cases hi:ao.idle with
  | true=>
   have hc':Bl P nt ops l=T (its.filter fun i=> !i.2.idle):=by simpa[hi] using hc
   obtain⟨σ',hs,hk⟩:=Pa hi h;obtain⟨nm',R'⟩:=Nb R hi hs;exact Og its l σ' a w nm' R' hnt hc' hk hK
  | false=>
   have hc':Bl P nt ops l=T ((g,ao)::its.filter fun i=> !i.2.idle):=by simpa[hi] using hc
   obtain⟨o,l',rfl,h1,h2⟩:=Rk hc';have:=Ng (Q:=Q) (K:=wpList P ops Q l') R hnt h1 h (fun nm' σ' a' w' hk R' hs hd=>Og its l' σ' a' w' nm' R' hs h2 hk (fun nm'' σ'' a'' w'' k1 k2 k3 k4=>hK nm'' σ'' a'' w'' k1 k2 k3 (k4.trans hd)));exact this
theorem M4{Q:Exit→Act→World→Prop}{K':St→Prop}{nt:Nat}{ops:Array Oper}{l2:List Oper}:∀(its:List AItem) (l:List Oper) (σ:St) (a:Act) (w:World) (nm:Ad),Rel A B w0 nm σ a.tmps w→a.tmps.size=nt→
  Bl P nt ops l=T (its.filter fun i=> !i.2.idle)→B8 P its K' σ→(∀nm' σ' a' w',K' σ'→Rel A B w0 nm' σ' a'.tmps w'→a'.tmps.size=nt→a'.defers=a.defers→wpList P ops Q l2 a' w')→wpList P ops Q (l++l2) a w
 | [],l,σ,a,w,nm,R,hnt,hc,h,hK=>by
  obtain rfl:=Rl hc;exact hK nm σ a w h R hnt rfl
 | (g,ao)::its,l,σ,a,w,nm,R,hnt,hc,h,hK=>by
  cases hi:ao.idle with
  | true=>
   have hc':Bl P nt ops l=T (its.filter fun i=> !i.2.idle):=by simpa[hi] using hc
   obtain⟨σ',hs,hk⟩:=Pa hi h;obtain⟨nm',R'⟩:=Nb R hi hs;exact M4 its l σ' a w nm' R' hnt hc' hk hK
  | false=>
   have hc':Bl P nt ops l=T ((g,ao)::its.filter fun i=> !i.2.idle):=by simpa[hi] using hc
   obtain⟨o,l',rfl,h1,h2⟩:=Rk hc';have:=Ng (Q:=Q) (K:=wpList P ops Q (l'++l2)) R hnt h1 h (fun nm' σ' a' w' hk R' hs hd=>M4 its l' σ' a' w' nm' R' hs h2 hk (fun nm'' σ'' a'' w'' k1 k2 k3 k4=>hK nm'' σ'' a'' w'' k1 k2 k3 (k4.trans hd)));exact this
end
end Go.Vi
