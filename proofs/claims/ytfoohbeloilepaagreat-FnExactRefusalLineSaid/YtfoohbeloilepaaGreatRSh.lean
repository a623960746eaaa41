/-
Contracts of functions of Go's library at the value level. No condition.
-/
import Derived.Test.YtfoohbeloilepaaGreatRVi33
import Derived.Test.YtfoohbeloilepaaGreatRLa
import Derived.Test.YtfoohbeloilepaaGreatProg
import Derived.KernelRfl
import Derived.Shelf.Strings.OnBuilder
import Derived.WalkKit
import Derived.BigCall
import Derived.Lib.AppendIntMem
namespace Go.Proofs
open Go.Shelf Go.RowKit
set_option maxRecDepth 100000
def Tryz.lays156_ren:Go.Shelf.Ren:=⟨fun | 156=>83 | 165=>125 | 166=>126 | 169=>127 | 240=>163 | 241=>164 | 276=>188 | 277=>189 | n=>n,fun | 31=>83 | 9=>9 | 3=>3 | 4=>4 | 0=>0 | 20=>20 | 72=>191 | 76=>195 | 70=>188 | 37=>189 | 75=>194 | 127=>233 | 164=>262 | 5=>5 | 80=>197 | n=>n,fun | n=>n⟩
theorem Tryz.lays156:Go.Proofs.Lays.n156 Tryz.prog Tryz.lays156_ren:={
 mixed:=by kernel_rfl
 f156:=Tryz.func83.trans (congrArg some (by kernel_rfl))
 f165:=Tryz.func125.trans (congrArg some (by kernel_rfl))
 f166:=Tryz.func126.trans (congrArg some (by kernel_rfl))
 f169:=Tryz.func127.trans (congrArg some (by kernel_rfl))
 f240:=Tryz.func163.trans (congrArg some (by kernel_rfl))
 f241:=Tryz.func164.trans (congrArg some (by kernel_rfl))
 f276:=Tryz.func188.trans (congrArg some (by kernel_rfl))
 f277:=Tryz.func189.trans (congrArg some (by kernel_rfl))
 t0:=Tryz.underlying0
 a0:=Tryz.isAgg0
 z0:=Tryz.sizeOf0
 v0:=Tryz.zeroValue0
 t3:=Tryz.underlying3
 a3:=Tryz.isAgg3
 z3:=Tryz.sizeOf3
 v3:=Tryz.zeroValue3
 t4:=Tryz.underlying4
 a4:=Tryz.isAgg4
 z4:=Tryz.sizeOf4
 v4:=Tryz.zeroValue4
 t9:=Tryz.underlying9
 a9:=Tryz.isAgg9
 z9:=Tryz.sizeOf9
 v9:=Tryz.zeroValue9
 t20:=Tryz.underlying20
 a20:=Tryz.isAgg20
 z20:=Tryz.sizeOf20
 v20:=Tryz.zeroValue20
 t31:=Tryz.underlying83
 a31:=Tryz.isAgg83
 z31:=Tryz.sizeOf83
 v31:=Tryz.zeroValue83
 t37:=Tryz.underlying189
 a37:=Tryz.isAgg189
 z37:=Tryz.sizeOf189
 v37:=Tryz.zeroValue189
 t70:=Tryz.underlying188
 a70:=Tryz.isAgg188
 z70:=Tryz.sizeOf188
 v70:=Tryz.zeroValue188
 t72:=Tryz.underlying191
 a72:=Tryz.isAgg191
 z72:=Tryz.sizeOf191
 v72:=Tryz.zeroValue191
 t75:=Tryz.underlying194
 a75:=Tryz.isAgg194
 z75:=Tryz.sizeOf194
 v75:=Tryz.zeroValue194
 t76:=Tryz.underlying195
 a76:=Tryz.isAgg195
 z76:=Tryz.sizeOf195
 v76:=Tryz.zeroValue195
 t127:=Tryz.underlying233
 a127:=Tryz.isAgg233
 z127:=Tryz.sizeOf233
 v127:=Tryz.zeroValue233
 t164:=Tryz.underlying262
 a164:=Tryz.isAgg262
 z164:=Tryz.sizeOf262
 v164:=Tryz.zeroValue262}
theorem Tryz.Builder_Extra_156:Builder.Extra Tryz.prog Tryz.lays156_ren:={
 sizeBuilder:=by kernel_rfl
 liesBuilder:=by kernel_rfl
 t5:=Tryz.underlying5
 a5:=Tryz.isAgg5
 z5:=Tryz.sizeOf5
 v5:=Tryz.zeroValue5
 infoByte:=by kernel_rfl
 cellsByte:=by kernel_rfl
 sizeByte:=by kernel_rfl
 neB5:=by decide}
theorem Tryz.strings_Join(bk o c:Nat)(xs:List ByteArray)(sep:ByteArray)(w:World)(hcells:∀(j:Nat) x,xs[j]?=some x→w.cell? ⟨bk,o+j,none⟩=some (.string x))(hbk:bk<w.heap.size)(hN:xs.length≤140737488355328)(hcap:xs.length≤c)(hlen:(Lib.join (xs.map (·.data.toList)) sep.data.toList).length≤140737488355328) :
  Calls Tryz.prog 83 #[.slice (some ⟨bk,o,none⟩) xs.length c,.string sep] w fun e w'=>e= .returned (.string ⟨(Lib.join (xs.map (·.data.toList)) sep.data.toList).toArray⟩)∧Below w.heap.size w w':=Any.strings_Join Tryz.lays156 Tryz.Builder_Extra_156 bk o c xs sep w hcells hbk hN hcap hlen
end Go.Proofs
namespace Go.Vi
open Go.Proofs Go.RowKit Go.Sort Go.Lib
set_option maxRecDepth 100000
set_option linter.all false
open _root_ renaming List → T
theorem tE{h:A9}{s:T UInt8}{v:Value}(H:Rep h (.str s) v):v= .string ⟨s.toArray⟩∧s.length≤maxLen:=by
 cases H with | str h=>exact⟨rfl,h⟩
theorem fJ{h:A9}{d:D}{vs:T Value}(H:DVRels h [.sc d] vs):∃v,vs= [v]∧Rep h d v:=by
 cases H with | cons a b=>
 cases b;cases a with | sc a=>exact⟨_,rfl,a⟩
theorem Um{h:A9}{d e:D}{vs:T Value}(H:DVRels h [.sc d,.sc e] vs):∃v u,vs= [v,u]∧Rep h d v∧Rep h e u:=by
 cases H with | cons a b=>
 obtain⟨u,rfl,hu⟩:=fJ b;cases a with | sc a=>exact⟨_,u,rfl,a,hu⟩
theorem lu{P:Program}{f:FuncId}{ds:T DV}{r:D}(H:∀(w:World) (A:Be) (vs:T Value),GoodW w→DVRels (Aw A w) ds vs→Calls P f vs.toArray w fun e w'=>∃v,e= .returned v∧Below w.heap.size w w'∧∀h,Rep h r v):FC P f ds [.sc (.v r)]:=by
 intro w A vs hG hvs;refine(H w A vs hG hvs).mono fun e w' h=> ?_
 obtain⟨v,he,hb,hr⟩:=h
 exact⟨v,[none],he,hb,.one (.sc (.v (hr _))),by simp,fun i j b hi=>by
  cases i with
  | zero=>simp at hi
  | succ i=>simp at hi⟩
theorem YC{h:A9}{sz:Nat}:∀{l:T (T UInt8)} {vs:T Value},RepRows h sz (List.map rS l) vs→∀(j:Nat) (x:T UInt8),l[j]?=some x→vs[j]?=some (.string ⟨x.toArray⟩)
 | [],_,_,j,x,hj=>by simp at hj
 | y::l,vs,.cons a b c,j,x,hj=>by
  obtain rfl:sz=1:=a.symm;cases b with | @cons d v ds vs h1 h2=>
  cases h1;cases j with
  | zero=>simp at hj; subst hj; rfl
  | succ j=>simp only[List.getElem?_cons_succ] at hj ⊢; exact YC c j x hj
theorem gN(l:T (T UInt8)):(l.map fun s=>(⟨s.toArray⟩:ByteArray)).map (·.data.toList)=l:=by
 induction l with
 | nil=>rfl
 | cons a r ih=>simp only[List.map_cons,ih]
theorem yr(a0:T (T UInt8))(a1 r:T UInt8)(h:PS a0 a1=some r):FC Tryz.prog 83 [.sc (.sl (List.map rS a0)),.sc (.str a1)] [.sc (.v (.str r))]:=by
 unfold PS at h;split at h
 ·rename_i hi
  cases h;refine lu fun w A vs hG hvs=> ?_
  obtain⟨v,u,rfl,hv,hu⟩:=Um hvs;obtain⟨rfl,hl⟩:=tE hu;have hm:(join a0 a1).length≤maxLen:=by unfold maxLen; omega
  have none_:∀a c,a0= []→Calls Tryz.prog 83 #[.slice a 0 c,.string ⟨a1.toArray⟩] w fun e w'=>∃v,e= .returned v∧Below w.heap.size w w'∧∀h,Rep h (.str (join a0 a1)) v:=by
   intro a c h0;subst h0;refine(Any.strings_Join_none Tryz.lays156 Tryz.Builder_Extra_156 a c ⟨a1.toArray⟩ w).mono fun e w' h=> ?_
   obtain⟨he,rfl⟩:=h;exact⟨_,he,Below.refl _ _,fun h=> .str (s:=join [] a1) hm⟩
  have key:∀es,List.map rS a0=es→Rep (Aw A w) (.sl es) v→Calls Tryz.prog 83 #[v,.string ⟨a1.toArray⟩] w fun e w'=>∃v,e= .returned v∧Below w.heap.size w w'∧∀h,Rep h (.str (join a0 a1)) v:=by
   intro es hes hv;cases hv with
   | nil=>exact none_ _ _ (List.map_eq_nil_iff.1 hes)
   | @sl _ b C sz off cap len hC hz hrows hlen hcap hcm=>
    subst hes;by_cases h0:a0= []
    ·obtain rfl:len=0:=by rw[hlen,h0]; rfl
     exact none_ _ _ h0
    ·have hl0:len=(a0.map fun s=>(⟨s.toArray⟩:ByteArray)).length:=by simpa using hlen
     obtain⟨_,cs,t,fr,hb,hcl⟩:=hC;have hbw:b<w.heap.size:=(Array.getElem?_eq_some_iff.1 hb).1;subst hl0;have hj:(a0.map fun s=>(⟨s.toArray⟩:ByteArray)).map (·.data.toList)=a0:=gN a0;have hN:(a0.map fun s=>(⟨s.toArray⟩:ByteArray)).length≤140737488355328:=by rw[List.length_map]; exact hi.1
     have hJ:(join ((a0.map fun s=>(⟨s.toArray⟩:ByteArray)).map (·.data.toList)) (⟨a1.toArray⟩:ByteArray).data.toList).length≤140737488355328:=by rw[hj]; exact hi.2
     have hcells:∀(j:Nat) x,(a0.map fun s=>(⟨s.toArray⟩:ByteArray))[j]?=some x→w.cell? ⟨b,off+j,none⟩=some (.string x):=by
      intro j x hx;simp only[List.getElem?_map,Option.map_eq_some_iff] at hx
      obtain⟨y,hy,rfl⟩:=hx;have:=YC hrows j y hy;rw[List.getElem?_drop,← hcl] at this
      unfold World.cell?;simpa[hb] using this
     have c:=Tryz.strings_Join b off cap (a0.map fun s=>(⟨s.toArray⟩:ByteArray)) ⟨a1.toArray⟩ w hcells hbw hN hcap hJ;refine c.mono fun e w' h=> ?_
     rw[hj] at h;obtain⟨he,hw⟩:=h;exact⟨_,he,hw,fun h=> .str hm⟩
  exact key _ rfl hv
 ·cases h
end Go.Vi
