/-
The value level. No condition.
-/
import Derived.Test.YtpigjggbnclpbaaGreatOVi6
import Derived.Great.FillDense
namespace Go.Vi
set_option linter.all false
open List renaming getElem?_append_right → T, getElem?_append_left → F
section
variable {X : Cx}
theorem mH{v:Value}(h1:v.oneCell'=true):v.cells= #[v]:=by
 cases v<;>first | rfl | (cases h1; done)
theorem V1Rel.cells{x:V1}{v:Value}(H:V1Rel X x v):CRels X x.cells v.cells.toList:=by
 cases H with
 | sc H=>rw[mH H.one]; exact .cons H .nil
 | ag H=>simpa[Value.cells,V1.cells] using H
theorem CRels.append:∀{cs vs cs' vs'},CRels X cs vs→CRels X cs' vs'→CRels X (cs++cs') (vs++vs')
 | _,_,_,_,.nil,H=>H
 | _,_,_,_,.cons a b,H=> .cons a (b.append H)
theorem CRels.take:∀(n:Nat) {cs vs},CRels X cs vs→CRels X (cs.take n) (vs.take n)
 | 0,_,_,_=>by simpa using .nil
 | n+1,_,_,.nil=>by simpa using .nil
 | n+1,_,_,.cons a b=>by simpa using .cons a (b.take n)
theorem CRels.drop:∀(n:Nat) {cs vs},CRels X cs vs→CRels X (cs.drop n) (vs.drop n)
 | 0,_,_,H=>by simpa using H
 | n+1,_,_,.nil=>by simpa using .nil
 | n+1,_,_,.cons _ b=>by simpa using b.drop n
theorem RO(off:Nat)(vs:List Value)(cs:Array Value)(hle:off+vs.length≤cs.size) :
  ((vs.zipIdx 0).foldl (fun cs (x:Value × Nat)=>cs.setIfInBounds (off+x.2) x.1) cs).toList=cs.toList.take off++vs++cs.toList.drop (off+vs.length):=by
 obtain⟨h1,h2⟩:=Great.foldl_set off vs 0 cs;apply List.ext_getElem?
 intro k;rw[Array.getElem?_toList,h2 k];simp only[Nat.add_zero];by_cases hk1:k<off
 ·rw[if_neg (by omega),List.append_assoc,F (by simp; omega)];simp[hk1]
 ·by_cases hk2:k<off+vs.length
  ·rw[if_pos (by omega),List.append_assoc,T (by simp; omega)];have e:(cs.toList.take off).length=off:=by simp; omega
   rw[e,F (by omega)]
  ·rw[if_neg (by omega),T (by simp; omega)];have e:(cs.toList.take off++vs).length=off+vs.length:=by simp; omega
   rw[e,List.getElem?_drop];simp[show off+vs.length+(k - (off+vs.length))=k by omega]
inductive PartsRel (X:Cx) (pl:Nat→Option (Nat × Nat)):List (Nat × Nat × AV)→List (Nat × Value)→Prop
 | nil:PartsRel X pl [] []
 | cons {off n i av v r s}:pl i=some (off,n)→VRel X av v→PartsRel X pl r s→PartsRel X pl ((off,n,av)::r) ((i,v)::s)
theorem Rx{pl:Nat→Option (Nat × Nat)}:∀{aps:List (Nat × Nat × AV)} {ps:List (Nat × Value)} {cs:List AC} {cells:Array Value} {r:List AC},
  PartsRel X pl aps ps→CRels X cs cells.toList→Co cs aps=some r→
  ∃cells',Instr.fill pl cells ps=some cells'∧CRels X r cells'.toList:=by
 intro aps
 induction aps with
 | nil=>
  intro ps cs cells r hp hc hr;cases hp;simp only[Co,Option.some.injEq] at hr
  subst hr;exact⟨cells,rfl,hc⟩
 | cons p aps ih=>
  intro ps cs cells r hp hc hr;cases hp with
  | @cons off n i av v _ s hpl hv hps=>
   cases av with
   | undef=>simp[Co] at hr
   | no=>simp[Co] at hr
   | tup l=>simp[Co] at hr
   | ev c=>simp[Co] at hr
   | v x=>
    simp only[Co] at hr
    split at hr
    ·rename_i hx
     have hvx:V1Rel X x v:=by cases hv with | v H=>exact H
     have hlen:=hc.length;have hcx:=hvx.cells;have hvs:v.cells.size=n:=by have:=hcx.length; simp at this; omega
     have hfit:¬(off+v.cells.size > cells.size):=by
      have:cells.toList.length=cells.size:=by simp
      omega
     have hsp:=RO off v.cells.toList cells (by simp; omega)
     obtain⟨cells',h1,h2⟩:=ih (cells:=((v.cells.toList.zipIdx 0).foldl (fun cs (x:Value × Nat)=>cs.setIfInBounds (off+x.2) x.1) cells)) hps (by
       rw[hsp];have:=((hc.take off).append hcx).append (hc.drop (off+n));simpa[hvs] using this) hr
     refine⟨cells',?_,h2⟩;simp only[Instr.fill,hpl];rw[if_neg (by simp[hvs]; omega)];rw[← h1];congr 1
     rw[← Array.foldl_toList];simp[Array.toList_zipIdx]
    ·cases hr
end
end Go.Vi
