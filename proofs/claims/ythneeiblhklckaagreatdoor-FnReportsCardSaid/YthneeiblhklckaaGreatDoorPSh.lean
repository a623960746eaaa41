/-
Contracts of functions of Go's library at the value level. No condition.
-/
import Derived.Test.YthneeiblhklckaaGreatDoorPVi33
import Derived.Test.YthneeiblhklckaaGreatDoorPLa
import Derived.Test.YthneeiblhklckaaGreatDoorProg
import Derived.KernelRfl
import Derived.Shelf.Strconv.Itoa3
import Derived.Shelf.LaysM
import Derived.Shelf.Strings.OnBuilder
import Derived.WalkKit
import Derived.BigCall
import Derived.Lib.AppendIntMem
namespace Go.Proofs
open Go.Shelf Go.RowKit
set_option maxRecDepth 100000
def Tryz.laysM171_ren:Go.Shelf.Ren:=⟨fun | 171=>78 | 243=>122 | 246=>145 | 283=>158 | 284=>159 | 285=>160 | 286=>161 | 129=>156 | 317=>163 | 318=>164 | 319=>165 | 320=>166 | 337=>167 | 338=>168 | n=>n,fun | 3=>3 | 9=>9 | 2=>2 | 4=>4 | 171=>243 | 0=>0 | 53=>241 | 37=>22 | 5=>5 | 173=>245 | 212=>249 | 51=>239 | 20=>20 | 213=>250 | 46=>228 | 232=>251 | 233=>252 | n=>n,fun | 17=>1 | 18=>2 | 19=>3 | n=>n⟩
theorem Tryz.laysM171:Go.Proofs.LaysM.n171 Tryz.prog Tryz.laysM171_ren:={
 mixed:=by kernel_rfl
 f129:=Tryz.func156.trans (congrArg some (by kernel_rfl))
 f171:=Tryz.func78.trans (congrArg some (by kernel_rfl))
 f243:=Tryz.func122.trans (congrArg some (by kernel_rfl))
 f246:=Tryz.func145.trans (congrArg some (by kernel_rfl))
 f283:=Tryz.func158.trans (congrArg some (by kernel_rfl))
 f284:=Tryz.func159.trans (congrArg some (by kernel_rfl))
 f285:=Tryz.func160.trans (congrArg some (by kernel_rfl))
 f286:=Tryz.func161.trans (congrArg some (by kernel_rfl))
 f317:=Tryz.func163.trans (congrArg some (by kernel_rfl))
 f318:=Tryz.func164.trans (congrArg some (by kernel_rfl))
 f319:=Tryz.func165.trans (congrArg some (by kernel_rfl))
 f320:=Tryz.func166.trans (congrArg some (by kernel_rfl))
 f337:=Tryz.func167.trans (congrArg some (by kernel_rfl))
 f338:=Tryz.func168.trans (congrArg some (by kernel_rfl))
 t0:=Tryz.underlying0
 a0:=Tryz.isAgg0
 z0:=Tryz.sizeOf0
 v0:=Tryz.zeroValue0
 t2:=Tryz.underlying2
 a2:=Tryz.isAgg2
 z2:=Tryz.sizeOf2
 v2:=Tryz.zeroValue2
 t3:=Tryz.underlying3
 a3:=Tryz.isAgg3
 z3:=Tryz.sizeOf3
 v3:=Tryz.zeroValue3
 t4:=Tryz.underlying4
 a4:=Tryz.isAgg4
 z4:=Tryz.sizeOf4
 v4:=Tryz.zeroValue4
 t5:=Tryz.underlying5
 a5:=Tryz.isAgg5
 z5:=Tryz.sizeOf5
 v5:=Tryz.zeroValue5
 t9:=Tryz.underlying9
 a9:=Tryz.isAgg9
 z9:=Tryz.sizeOf9
 v9:=Tryz.zeroValue9
 t20:=Tryz.underlying20
 a20:=Tryz.isAgg20
 z20:=Tryz.sizeOf20
 v20:=Tryz.zeroValue20
 t37:=Tryz.underlying22
 a37:=Tryz.isAgg22
 z37:=Tryz.sizeOf22
 v37:=Tryz.zeroValue22
 t46:=Tryz.underlying228
 a46:=Tryz.isAgg228
 z46:=Tryz.sizeOf228
 v46:=Tryz.zeroValue228
 t51:=Tryz.underlying239
 a51:=Tryz.isAgg239
 z51:=Tryz.sizeOf239
 v51:=Tryz.zeroValue239
 t53:=Tryz.underlying241
 a53:=Tryz.isAgg241
 z53:=Tryz.sizeOf241
 v53:=Tryz.zeroValue241
 t171:=Tryz.underlying243
 a171:=Tryz.isAgg243
 z171:=Tryz.sizeOf243
 v171:=Tryz.zeroValue243
 t173:=Tryz.underlying245
 a173:=Tryz.isAgg245
 z173:=Tryz.sizeOf245
 v173:=Tryz.zeroValue245
 t212:=Tryz.underlying249
 a212:=Tryz.isAgg249
 z212:=Tryz.sizeOf249
 v212:=Tryz.zeroValue249
 t213:=Tryz.underlying250
 a213:=Tryz.isAgg250
 z213:=Tryz.sizeOf250
 t232:=Tryz.underlying251
 a232:=Tryz.isAgg251
 z232:=Tryz.sizeOf251
 v232:=Tryz.zeroValue251
 t233:=Tryz.underlying252
 a233:=Tryz.isAgg252
 z233:=Tryz.sizeOf252
 v233:=Tryz.zeroValue252
 g17:=by kernel_rfl
 g18:=by kernel_rfl
 g19:=by kernel_rfl
 i0:=by kernel_rfl
 i2:=by kernel_rfl
 i3:=by kernel_rfl
 i4:=by kernel_rfl
 i5:=by kernel_rfl
 i9:=by kernel_rfl
 i20:=by kernel_rfl
 i37:=by kernel_rfl
 i46:=by kernel_rfl
 i51:=by kernel_rfl
 i53:=by kernel_rfl
 i171:=by kernel_rfl
 i173:=by kernel_rfl
 i212:=by kernel_rfl
 i232:=by kernel_rfl
 i233:=by kernel_rfl
 m17:=by kernel_rfl
 m18:=by kernel_rfl
 m19:=by kernel_rfl}
def Tryz.lays156_ren:Go.Shelf.Ren:=⟨fun | 156=>51 | 165=>93 | 166=>94 | 169=>95 | 240=>128 | 241=>129 | 276=>149 | 277=>150 | n=>n,fun | 31=>47 | 9=>9 | 3=>3 | 4=>4 | 0=>0 | 20=>20 | 72=>173 | 76=>177 | 70=>171 | 37=>22 | 75=>176 | 127=>215 | 164=>233 | 5=>5 | 80=>179 | n=>n,fun | n=>n⟩
theorem Tryz.lays156:Go.Proofs.Lays.n156 Tryz.prog Tryz.lays156_ren:={
 mixed:=by kernel_rfl
 f156:=Tryz.func51.trans (congrArg some (by kernel_rfl))
 f165:=Tryz.func93.trans (congrArg some (by kernel_rfl))
 f166:=Tryz.func94.trans (congrArg some (by kernel_rfl))
 f169:=Tryz.func95.trans (congrArg some (by kernel_rfl))
 f240:=Tryz.func128.trans (congrArg some (by kernel_rfl))
 f241:=Tryz.func129.trans (congrArg some (by kernel_rfl))
 f276:=Tryz.func149.trans (congrArg some (by kernel_rfl))
 f277:=Tryz.func150.trans (congrArg some (by kernel_rfl))
 t0:=Tryz.underlying0
 a0:=Tryz.isAgg0
 z0:=Tryz.sizeOf0
 v0:=Tryz.zeroValue0
 t3:=Tryz.underlying3
 a3:=Tryz.isAgg3
 z3:=Tryz.sizeOf3
 v3:=Tryz.zeroValue3
 t4:=Tryz.underlying4
 a4:=Tryz.isAgg4
 z4:=Tryz.sizeOf4
 v4:=Tryz.zeroValue4
 t9:=Tryz.underlying9
 a9:=Tryz.isAgg9
 z9:=Tryz.sizeOf9
 v9:=Tryz.zeroValue9
 t20:=Tryz.underlying20
 a20:=Tryz.isAgg20
 z20:=Tryz.sizeOf20
 v20:=Tryz.zeroValue20
 t31:=Tryz.underlying47
 a31:=Tryz.isAgg47
 z31:=Tryz.sizeOf47
 v31:=Tryz.zeroValue47
 t37:=Tryz.underlying22
 a37:=Tryz.isAgg22
 z37:=Tryz.sizeOf22
 v37:=Tryz.zeroValue22
 t70:=Tryz.underlying171
 a70:=Tryz.isAgg171
 z70:=Tryz.sizeOf171
 v70:=Tryz.zeroValue171
 t72:=Tryz.underlying173
 a72:=Tryz.isAgg173
 z72:=Tryz.sizeOf173
 v72:=Tryz.zeroValue173
 t75:=Tryz.underlying176
 a75:=Tryz.isAgg176
 z75:=Tryz.sizeOf176
 v75:=Tryz.zeroValue176
 t76:=Tryz.underlying177
 a76:=Tryz.isAgg177
 z76:=Tryz.sizeOf177
 v76:=Tryz.zeroValue177
 t127:=Tryz.underlying215
 a127:=Tryz.isAgg215
 z127:=Tryz.sizeOf215
 v127:=Tryz.zeroValue215
 t164:=Tryz.underlying233
 a164:=Tryz.isAgg233
 z164:=Tryz.sizeOf233
 v164:=Tryz.zeroValue233}
theorem Tryz.Builder_Extra_156:Builder.Extra Tryz.prog Tryz.lays156_ren:={
 sizeBuilder:=by kernel_rfl
 liesBuilder:=by kernel_rfl
 t5:=Tryz.underlying5
 a5:=Tryz.isAgg5
 z5:=Tryz.sizeOf5
 v5:=Tryz.zeroValue5
 infoByte:=by kernel_rfl
 cellsByte:=by kernel_rfl
 sizeByte:=by kernel_rfl
 neB5:=by decide}
theorem Tryz.strings_Join(bk o c:Nat)(xs:List ByteArray)(sep:ByteArray)(w:World)(hcells:∀(j:Nat) x,xs[j]?=some x→w.cell? ⟨bk,o+j,none⟩=some (.string x))(hbk:bk<w.heap.size)(hN:xs.length≤140737488355328)(hcap:xs.length≤c)(hlen:(Lib.join (xs.map (·.data.toList)) sep.data.toList).length≤140737488355328) :
  Calls Tryz.prog 51 #[.slice (some ⟨bk,o,none⟩) xs.length c,.string sep] w fun e w'=>e= .returned (.string ⟨(Lib.join (xs.map (·.data.toList)) sep.data.toList).toArray⟩)∧Below w.heap.size w w':=Any.strings_Join Tryz.lays156 Tryz.Builder_Extra_156 bk o c xs sep w hcells hbk hN hcap hlen
end Go.Proofs
namespace Go.Vi
open Go.Proofs Go.RowKit Go.Sort Go.Lib
set_option maxRecDepth 100000
set_option linter.all false
open _root_ renaming List → T
theorem Zi(w:World)(k:Nat)(os:Array Obj):Below w.heap.size w (grow (w.drewN k) os):=
 ⟨rfl,rfl,rfl,by show w.heap.size≤(w.heap++os).size; simp,fun g hg=>heap_grow_old w k os g hg⟩
theorem mc{h:A4}{s:T UInt8}{v:Value}(H:Rep h (.str s) v):v= .string ⟨s.toArray⟩∧s.length≤maxLen:=by
 cases H with | str h=>exact⟨rfl,h⟩
theorem mb{h:A4}{k:IntKind}{n:Int}{v:Value}(H:Rep h (.int k n) v):v= .int k n∧k.min≤n∧n≤k.max:=by
 cases H with | int a b=>exact⟨rfl,a,b⟩
theorem Rg{h:A4}{d:D}{vs:T Value}(H:DVRels h [.sc d] vs):∃v,vs= [v]∧Rep h d v:=by
 cases H with | cons a b=>
 cases b;cases a with | sc a=>exact⟨_,rfl,a⟩
theorem Rh{h:A4}{d e:D}{vs:T Value}(H:DVRels h [.sc d,.sc e] vs):∃v u,vs= [v,u]∧Rep h d v∧Rep h e u:=by
 cases H with | cons a b=>
 obtain⟨u,rfl,hu⟩:=Rg b;cases a with | sc a=>exact⟨_,u,rfl,a,hu⟩
theorem S5{P:Program}{f:FuncId}{ds:T DV}{r:D}(H:∀(w:World) (A:AY) (vs:T Value),GoodW w→DVRels (Ah A w) ds vs→Calls P f vs.toArray w fun e w'=>∃v,e= .returned v∧Below w.heap.size w w'∧∀h,Rep h r v):FC P f ds [.sc (.v r)]:=by
 intro w A vs hG hvs;refine(H w A vs hG hvs).mono fun e w' h=> ?_
 obtain⟨v,he,hb,hr⟩:=h
 exact⟨v,[none],he,hb,.one (.sc (.v (hr _))),by simp,fun i j b hi=>by
  cases i with
  | zero=>simp at hi
  | succ i=>simp at hi⟩
theorem sN(a0:Int)(r:T UInt8)(h:N4 a0=some r):FC Tryz.prog 78 [.sc (.int .i64 a0)] [.sc (.v (.str r))]:=by
 unfold N4 at h;split at h
 ·rename_i hi
  cases h;refine S5 fun w A vs hG hvs=> ?_
  obtain⟨v,rfl,hv⟩:=Rg hvs;obtain⟨rfl,_⟩:=mb hv;refine(Any.strconv_Itoa Tryz.laysM171 a0 hi.1 hi.2 w hG.1).mono fun e w' h=> ?_
  obtain⟨he,k,os,rfl⟩:=h;have:=IS hi;exact⟨_,he,Zi w k os,fun h=> .str (by unfold maxLen; omega)⟩
 ·cases h
theorem Uu{h:A4}{sz:Nat}:∀{l:T (T UInt8)} {vs:T Value},RepRows h sz (List.map rS l) vs→∀(j:Nat) (x:T UInt8),l[j]?=some x→vs[j]?=some (.string ⟨x.toArray⟩)
 | [],_,_,j,x,hj=>by simp at hj
 | y::l,vs,.cons a b c,j,x,hj=>by
  obtain rfl:sz=1:=a.symm;cases b with | @cons d v ds vs h1 h2=>
  cases h1;cases j with
  | zero=>simp at hj; subst hj; rfl
  | succ j=>simp only[List.getElem?_cons_succ] at hj ⊢; exact Uu c j x hj
theorem ZO(l:T (T UInt8)):(l.map fun s=>(⟨s.toArray⟩:ByteArray)).map (·.data.toList)=l:=by
 induction l with
 | nil=>rfl
 | cons a r ih=>simp only[List.map_cons,ih]
theorem sO(a0:T (T UInt8))(a1 r:T UInt8)(h:N5 a0 a1=some r):FC Tryz.prog 51 [.sc (.sl (List.map rS a0)),.sc (.str a1)] [.sc (.v (.str r))]:=by
 unfold N5 at h;split at h
 ·rename_i hi
  cases h;refine S5 fun w A vs hG hvs=> ?_
  obtain⟨v,u,rfl,hv,hu⟩:=Rh hvs;obtain⟨rfl,hl⟩:=mc hu;have hm:(join a0 a1).length≤maxLen:=by unfold maxLen; omega
  have none_:∀a c,a0= []→Calls Tryz.prog 51 #[.slice a 0 c,.string ⟨a1.toArray⟩] w fun e w'=>∃v,e= .returned v∧Below w.heap.size w w'∧∀h,Rep h (.str (join a0 a1)) v:=by
   intro a c h0;subst h0;refine(Any.strings_Join_none Tryz.lays156 Tryz.Builder_Extra_156 a c ⟨a1.toArray⟩ w).mono fun e w' h=> ?_
   obtain⟨he,rfl⟩:=h;exact⟨_,he,Below.refl _ _,fun h=> .str (s:=join [] a1) hm⟩
  have key:∀es,List.map rS a0=es→Rep (Ah A w) (.sl es) v→Calls Tryz.prog 51 #[v,.string ⟨a1.toArray⟩] w fun e w'=>∃v,e= .returned v∧Below w.heap.size w w'∧∀h,Rep h (.str (join a0 a1)) v:=by
   intro es hes hv;cases hv with
   | nil=>exact none_ _ _ (List.map_eq_nil_iff.1 hes)
   | @sl _ b C sz off cap len hC hz hrows hlen hcap hcm=>
    subst hes;by_cases h0:a0= []
    ·obtain rfl:len=0:=by rw[hlen,h0]; rfl
     exact none_ _ _ h0
    ·have hl0:len=(a0.map fun s=>(⟨s.toArray⟩:ByteArray)).length:=by simpa using hlen
     obtain⟨_,cs,t,fr,hb,hcl⟩:=hC;have hbw:b<w.heap.size:=(Array.getElem?_eq_some_iff.1 hb).1;subst hl0;have hj:(a0.map fun s=>(⟨s.toArray⟩:ByteArray)).map (·.data.toList)=a0:=ZO a0;have hN:(a0.map fun s=>(⟨s.toArray⟩:ByteArray)).length≤140737488355328:=by rw[List.length_map]; exact hi.1
     have hJ:(join ((a0.map fun s=>(⟨s.toArray⟩:ByteArray)).map (·.data.toList)) (⟨a1.toArray⟩:ByteArray).data.toList).length≤140737488355328:=by rw[hj]; exact hi.2
     have hcells:∀(j:Nat) x,(a0.map fun s=>(⟨s.toArray⟩:ByteArray))[j]?=some x→w.cell? ⟨b,off+j,none⟩=some (.string x):=by
      intro j x hx;simp only[List.getElem?_map,Option.map_eq_some_iff] at hx
      obtain⟨y,hy,rfl⟩:=hx;have:=Uu hrows j y hy;rw[List.getElem?_drop,← hcl] at this
      unfold World.cell?;simpa[hb] using this
     have c:=Tryz.strings_Join b off cap (a0.map fun s=>(⟨s.toArray⟩:ByteArray)) ⟨a1.toArray⟩ w hcells hbw hN hcap hJ;refine c.mono fun e w' h=> ?_
     rw[hj] at h;obtain⟨he,hw⟩:=h;exact⟨_,he,hw,fun h=> .str hm⟩
  exact key _ rfl hv
 ·cases h
end Go.Vi
