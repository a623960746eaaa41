/-
Contracts of functions of Go's library at the value level. No condition.
-/
import Derived.Test.YtfmhammmkkbonaaGreatDoorCVi33
import Derived.Test.YtfmhammmkkbonaaGreatDoorCLa
import Derived.Test.YtfmhammmkkbonaaGreatDoorProg
import Derived.KernelRfl
import Derived.Shelf.Strconv.Itoa3
import Derived.Shelf.LaysM
import Derived.Shelf.Strings.OnBuilder
import Derived.Shelf.Small.Strs
import Derived.Shelf.Strconv.ErrVarAll
import Derived.Shelf.Strconv.AtoiAll
import Derived.Shelf.LaysC
import Derived.WalkKit
import Derived.BigCall
import Derived.Lib.AppendIntMem
namespace Go.Proofs
open Go.Shelf Go.RowKit
set_option maxRecDepth 100000
def Tryz.laysM171_ren:Go.Shelf.Ren:=⟨fun | 171=>80 | 243=>115 | 246=>151 | 283=>184 | 284=>185 | 285=>186 | 286=>187 | 129=>207 | 317=>206 | 318=>208 | 319=>209 | 320=>210 | 337=>218 | 338=>219 | n=>n,fun | 3=>3 | 9=>9 | 2=>2 | 4=>4 | 171=>278 | 0=>0 | 53=>272 | 37=>22 | 5=>5 | 173=>281 | 212=>301 | 51=>302 | 20=>20 | 213=>303 | 46=>141 | 232=>310 | 233=>311 | n=>n,fun | 17=>3 | 18=>4 | 19=>5 | n=>n⟩
theorem Tryz.laysM171:Go.Proofs.LaysM.n171 Tryz.prog Tryz.laysM171_ren:={
 mixed:=by kernel_rfl
 f129:=Tryz.func207.trans (congrArg some (by kernel_rfl))
 f171:=Tryz.func80.trans (congrArg some (by kernel_rfl))
 f243:=Tryz.func115.trans (congrArg some (by kernel_rfl))
 f246:=Tryz.func151.trans (congrArg some (by kernel_rfl))
 f283:=Tryz.func184.trans (congrArg some (by kernel_rfl))
 f284:=Tryz.func185.trans (congrArg some (by kernel_rfl))
 f285:=Tryz.func186.trans (congrArg some (by kernel_rfl))
 f286:=Tryz.func187.trans (congrArg some (by kernel_rfl))
 f317:=Tryz.func206.trans (congrArg some (by kernel_rfl))
 f318:=Tryz.func208.trans (congrArg some (by kernel_rfl))
 f319:=Tryz.func209.trans (congrArg some (by kernel_rfl))
 f320:=Tryz.func210.trans (congrArg some (by kernel_rfl))
 f337:=Tryz.func218.trans (congrArg some (by kernel_rfl))
 f338:=Tryz.func219.trans (congrArg some (by kernel_rfl))
 t0:=Tryz.underlying0
 a0:=Tryz.isAgg0
 z0:=Tryz.sizeOf0
 v0:=Tryz.zeroValue0
 t2:=Tryz.underlying2
 a2:=Tryz.isAgg2
 z2:=Tryz.sizeOf2
 v2:=Tryz.zeroValue2
 t3:=Tryz.underlying3
 a3:=Tryz.isAgg3
 z3:=Tryz.sizeOf3
 v3:=Tryz.zeroValue3
 t4:=Tryz.underlying4
 a4:=Tryz.isAgg4
 z4:=Tryz.sizeOf4
 v4:=Tryz.zeroValue4
 t5:=Tryz.underlying5
 a5:=Tryz.isAgg5
 z5:=Tryz.sizeOf5
 v5:=Tryz.zeroValue5
 t9:=Tryz.underlying9
 a9:=Tryz.isAgg9
 z9:=Tryz.sizeOf9
 v9:=Tryz.zeroValue9
 t20:=Tryz.underlying20
 a20:=Tryz.isAgg20
 z20:=Tryz.sizeOf20
 v20:=Tryz.zeroValue20
 t37:=Tryz.underlying22
 a37:=Tryz.isAgg22
 z37:=Tryz.sizeOf22
 v37:=Tryz.zeroValue22
 t46:=Tryz.underlying141
 a46:=Tryz.isAgg141
 z46:=Tryz.sizeOf141
 v46:=Tryz.zeroValue141
 t51:=Tryz.underlying302
 a51:=Tryz.isAgg302
 z51:=Tryz.sizeOf302
 v51:=Tryz.zeroValue302
 t53:=Tryz.underlying272
 a53:=Tryz.isAgg272
 z53:=Tryz.sizeOf272
 v53:=Tryz.zeroValue272
 t171:=Tryz.underlying278
 a171:=Tryz.isAgg278
 z171:=Tryz.sizeOf278
 v171:=Tryz.zeroValue278
 t173:=Tryz.underlying281
 a173:=Tryz.isAgg281
 z173:=Tryz.sizeOf281
 v173:=Tryz.zeroValue281
 t212:=Tryz.underlying301
 a212:=Tryz.isAgg301
 z212:=Tryz.sizeOf301
 v212:=Tryz.zeroValue301
 t213:=Tryz.underlying303
 a213:=Tryz.isAgg303
 z213:=Tryz.sizeOf303
 t232:=Tryz.underlying310
 a232:=Tryz.isAgg310
 z232:=Tryz.sizeOf310
 v232:=Tryz.zeroValue310
 t233:=Tryz.underlying311
 a233:=Tryz.isAgg311
 z233:=Tryz.sizeOf311
 v233:=Tryz.zeroValue311
 g17:=by kernel_rfl
 g18:=by kernel_rfl
 g19:=by kernel_rfl
 i0:=by kernel_rfl
 i2:=by kernel_rfl
 i3:=by kernel_rfl
 i4:=by kernel_rfl
 i5:=by kernel_rfl
 i9:=by kernel_rfl
 i20:=by kernel_rfl
 i37:=by kernel_rfl
 i46:=by kernel_rfl
 i51:=by kernel_rfl
 i53:=by kernel_rfl
 i171:=by kernel_rfl
 i173:=by kernel_rfl
 i212:=by kernel_rfl
 i232:=by kernel_rfl
 i233:=by kernel_rfl
 m17:=by kernel_rfl
 m18:=by kernel_rfl
 m19:=by kernel_rfl}
def Tryz.lays156_ren:Go.Shelf.Ren:=⟨fun | 156=>15 | 165=>30 | 166=>31 | 169=>32 | 240=>69 | 241=>70 | 276=>103 | 277=>104 | n=>n,fun | 31=>23 | 9=>9 | 3=>3 | 4=>4 | 0=>0 | 20=>20 | 72=>81 | 76=>85 | 70=>79 | 37=>22 | 75=>84 | 127=>140 | 164=>176 | 5=>5 | 80=>87 | n=>n,fun | n=>n⟩
theorem Tryz.lays156:Go.Proofs.Lays.n156 Tryz.prog Tryz.lays156_ren:={
 mixed:=by kernel_rfl
 f156:=Tryz.func15.trans (congrArg some (by kernel_rfl))
 f165:=Tryz.func30.trans (congrArg some (by kernel_rfl))
 f166:=Tryz.func31.trans (congrArg some (by kernel_rfl))
 f169:=Tryz.func32.trans (congrArg some (by kernel_rfl))
 f240:=Tryz.func69.trans (congrArg some (by kernel_rfl))
 f241:=Tryz.func70.trans (congrArg some (by kernel_rfl))
 f276:=Tryz.func103.trans (congrArg some (by kernel_rfl))
 f277:=Tryz.func104.trans (congrArg some (by kernel_rfl))
 t0:=Tryz.underlying0
 a0:=Tryz.isAgg0
 z0:=Tryz.sizeOf0
 v0:=Tryz.zeroValue0
 t3:=Tryz.underlying3
 a3:=Tryz.isAgg3
 z3:=Tryz.sizeOf3
 v3:=Tryz.zeroValue3
 t4:=Tryz.underlying4
 a4:=Tryz.isAgg4
 z4:=Tryz.sizeOf4
 v4:=Tryz.zeroValue4
 t9:=Tryz.underlying9
 a9:=Tryz.isAgg9
 z9:=Tryz.sizeOf9
 v9:=Tryz.zeroValue9
 t20:=Tryz.underlying20
 a20:=Tryz.isAgg20
 z20:=Tryz.sizeOf20
 v20:=Tryz.zeroValue20
 t31:=Tryz.underlying23
 a31:=Tryz.isAgg23
 z31:=Tryz.sizeOf23
 v31:=Tryz.zeroValue23
 t37:=Tryz.underlying22
 a37:=Tryz.isAgg22
 z37:=Tryz.sizeOf22
 v37:=Tryz.zeroValue22
 t70:=Tryz.underlying79
 a70:=Tryz.isAgg79
 z70:=Tryz.sizeOf79
 v70:=Tryz.zeroValue79
 t72:=Tryz.underlying81
 a72:=Tryz.isAgg81
 z72:=Tryz.sizeOf81
 v72:=Tryz.zeroValue81
 t75:=Tryz.underlying84
 a75:=Tryz.isAgg84
 z75:=Tryz.sizeOf84
 v75:=Tryz.zeroValue84
 t76:=Tryz.underlying85
 a76:=Tryz.isAgg85
 z76:=Tryz.sizeOf85
 v76:=Tryz.zeroValue85
 t127:=Tryz.underlying140
 a127:=Tryz.isAgg140
 z127:=Tryz.sizeOf140
 v127:=Tryz.zeroValue140
 t164:=Tryz.underlying176
 a164:=Tryz.isAgg176
 z164:=Tryz.sizeOf176
 v164:=Tryz.zeroValue176}
theorem Tryz.Builder_Extra_156:Builder.Extra Tryz.prog Tryz.lays156_ren:={
 sizeBuilder:=by kernel_rfl
 liesBuilder:=by kernel_rfl
 t5:=Tryz.underlying5
 a5:=Tryz.isAgg5
 z5:=Tryz.sizeOf5
 v5:=Tryz.zeroValue5
 infoByte:=by kernel_rfl
 cellsByte:=by kernel_rfl
 sizeByte:=by kernel_rfl
 neB5:=by decide}
theorem Tryz.strings_Join(bk o c:Nat)(xs:List ByteArray)(sep:ByteArray)(w:World)(hcells:∀(j:Nat) x,xs[j]?=some x→w.cell? ⟨bk,o+j,none⟩=some (.string x))(hbk:bk<w.heap.size)(hN:xs.length≤140737488355328)(hcap:xs.length≤c)(hlen:(Lib.join (xs.map (·.data.toList)) sep.data.toList).length≤140737488355328) :
  Calls Tryz.prog 15 #[.slice (some ⟨bk,o,none⟩) xs.length c,.string sep] w fun e w'=>e= .returned (.string ⟨(Lib.join (xs.map (·.data.toList)) sep.data.toList).toArray⟩)∧Below w.heap.size w w':=Any.strings_Join Tryz.lays156 Tryz.Builder_Extra_156 bk o c xs sep w hcells hbk hN hcap hlen
def Tryz.lays137_ren:Go.Shelf.Ren:=⟨fun | 137=>41 | 217=>73 | 266=>106 | n=>n,fun | 9=>9 | 5=>5 | 3=>3 | n=>n,fun | n=>n⟩
theorem Tryz.lays137:Go.Proofs.Lays.n137 Tryz.prog Tryz.lays137_ren:={
 mixed:=by kernel_rfl
 f137:=Tryz.func41.trans (congrArg some (by kernel_rfl))
 f217:=Tryz.func73.trans (congrArg some (by kernel_rfl))
 f266:=Tryz.func106.trans (congrArg some (by kernel_rfl))
 t3:=Tryz.underlying3
 a3:=Tryz.isAgg3
 z3:=Tryz.sizeOf3
 v3:=Tryz.zeroValue3
 t5:=Tryz.underlying5
 a5:=Tryz.isAgg5
 z5:=Tryz.sizeOf5
 v5:=Tryz.zeroValue5
 t9:=Tryz.underlying9
 a9:=Tryz.isAgg9
 z9:=Tryz.sizeOf9
 v9:=Tryz.zeroValue9}
def Tryz.laysC172_ren:Go.Shelf.Ren:=⟨fun | 172=>79 | 244=>113 | 245=>114 | 247=>146 | 279=>147 | 280=>148 | 281=>149 | 282=>150 | 287=>181 | 316=>182 | 171=>80 | 205=>183 | 321=>204 | 322=>205 | 243=>115 | 246=>151 | 283=>184 | 284=>185 | 285=>186 | 286=>187 | 129=>207 | 317=>206 | 318=>208 | 319=>209 | 320=>210 | 337=>218 | 338=>219 | n=>n,fun | 9=>9 | 3=>3 | 75=>84 | 76=>85 | 4=>4 | 5=>5 | 167=>229 | 37=>22 | 0=>0 | 85=>230 | 2=>2 | 168=>232 | 53=>272 | 175=>273 | 46=>141 | 210=>276 | 127=>140 | 145=>299 | 143=>297 | 21=>21 | 171=>278 | 173=>281 | 212=>301 | 51=>302 | 20=>20 | 213=>303 | 232=>310 | 233=>311 | 80=>87 | n=>n,fun | 15=>1 | 16=>2 | 17=>3 | 18=>4 | 19=>5 | n=>n⟩
theorem Tryz.laysC172:Go.Proofs.LaysC.n172 Tryz.prog Tryz.laysC172_ren:={
 mixed:=by kernel_rfl
 f129:=Tryz.func207.trans (congrArg some (by kernel_rfl))
 f171:=Tryz.func80.trans (congrArg some (by kernel_rfl))
 f172:=Tryz.func79.trans (congrArg some (by kernel_rfl))
 f205:=Tryz.func183.trans (congrArg some (by kernel_rfl))
 f243:=Tryz.func115.trans (congrArg some (by kernel_rfl))
 f244:=Tryz.func113.trans (congrArg some (by kernel_rfl))
 f245:=Tryz.func114.trans (congrArg some (by kernel_rfl))
 f246:=Tryz.func151.trans (congrArg some (by kernel_rfl))
 f247:=Tryz.func146.trans (congrArg some (by kernel_rfl))
 f279:=Tryz.func147.trans (congrArg some (by kernel_rfl))
 f280:=Tryz.func148.trans (congrArg some (by kernel_rfl))
 f281:=Tryz.func149.trans (congrArg some (by kernel_rfl))
 f282:=Tryz.func150.trans (congrArg some (by kernel_rfl))
 f283:=Tryz.func184.trans (congrArg some (by kernel_rfl))
 f284:=Tryz.func185.trans (congrArg some (by kernel_rfl))
 f285:=Tryz.func186.trans (congrArg some (by kernel_rfl))
 f286:=Tryz.func187.trans (congrArg some (by kernel_rfl))
 f287:=Tryz.func181.trans (congrArg some (by kernel_rfl))
 f316:=Tryz.func182.trans (congrArg some (by kernel_rfl))
 f317:=Tryz.func206.trans (congrArg some (by kernel_rfl))
 f318:=Tryz.func208.trans (congrArg some (by kernel_rfl))
 f319:=Tryz.func209.trans (congrArg some (by kernel_rfl))
 f320:=Tryz.func210.trans (congrArg some (by kernel_rfl))
 f321:=Tryz.func204.trans (congrArg some (by kernel_rfl))
 f322:=Tryz.func205.trans (congrArg some (by kernel_rfl))
 f337:=Tryz.func218.trans (congrArg some (by kernel_rfl))
 f338:=Tryz.func219.trans (congrArg some (by kernel_rfl))
 t0:=Tryz.underlying0
 a0:=Tryz.isAgg0
 z0:=Tryz.sizeOf0
 v0:=Tryz.zeroValue0
 t2:=Tryz.underlying2
 a2:=Tryz.isAgg2
 z2:=Tryz.sizeOf2
 v2:=Tryz.zeroValue2
 t3:=Tryz.underlying3
 a3:=Tryz.isAgg3
 z3:=Tryz.sizeOf3
 v3:=Tryz.zeroValue3
 t4:=Tryz.underlying4
 a4:=Tryz.isAgg4
 z4:=Tryz.sizeOf4
 v4:=Tryz.zeroValue4
 t5:=Tryz.underlying5
 a5:=Tryz.isAgg5
 z5:=Tryz.sizeOf5
 v5:=Tryz.zeroValue5
 t9:=Tryz.underlying9
 a9:=Tryz.isAgg9
 z9:=Tryz.sizeOf9
 v9:=Tryz.zeroValue9
 t20:=Tryz.underlying20
 a20:=Tryz.isAgg20
 z20:=Tryz.sizeOf20
 v20:=Tryz.zeroValue20
 t21:=Tryz.underlying21
 a21:=Tryz.isAgg21
 z21:=Tryz.sizeOf21
 v21:=Tryz.zeroValue21
 t37:=Tryz.underlying22
 a37:=Tryz.isAgg22
 z37:=Tryz.sizeOf22
 v37:=Tryz.zeroValue22
 t46:=Tryz.underlying141
 a46:=Tryz.isAgg141
 z46:=Tryz.sizeOf141
 v46:=Tryz.zeroValue141
 t51:=Tryz.underlying302
 a51:=Tryz.isAgg302
 z51:=Tryz.sizeOf302
 v51:=Tryz.zeroValue302
 t53:=Tryz.underlying272
 a53:=Tryz.isAgg272
 z53:=Tryz.sizeOf272
 v53:=Tryz.zeroValue272
 t75:=Tryz.underlying84
 a75:=Tryz.isAgg84
 z75:=Tryz.sizeOf84
 v75:=Tryz.zeroValue84
 t76:=Tryz.underlying85
 a76:=Tryz.isAgg85
 z76:=Tryz.sizeOf85
 v76:=Tryz.zeroValue85
 t85:=Tryz.underlying230
 a85:=Tryz.isAgg230
 z85:=Tryz.sizeOf230
 v85:=Tryz.zeroValue230
 t127:=Tryz.underlying140
 a127:=Tryz.isAgg140
 z127:=Tryz.sizeOf140
 v127:=Tryz.zeroValue140
 t143:=Tryz.underlying297
 a143:=Tryz.isAgg297
 z143:=Tryz.sizeOf297
 v143:=Tryz.zeroValue297
 t145:=Tryz.underlying299
 a145:=Tryz.isAgg299
 z145:=Tryz.sizeOf299
 v145:=Tryz.zeroValue299
 t167:=Tryz.underlying229
 a167:=Tryz.isAgg229
 z167:=Tryz.sizeOf229
 v167:=Tryz.zeroValue229
 t168:=Tryz.underlying232
 a168:=Tryz.isAgg232
 z168:=Tryz.sizeOf232
 v168:=Tryz.zeroValue232
 t171:=Tryz.underlying278
 a171:=Tryz.isAgg278
 z171:=Tryz.sizeOf278
 v171:=Tryz.zeroValue278
 t173:=Tryz.underlying281
 a173:=Tryz.isAgg281
 z173:=Tryz.sizeOf281
 v173:=Tryz.zeroValue281
 t175:=Tryz.underlying273
 a175:=Tryz.isAgg273
 z175:=Tryz.sizeOf273
 v175:=Tryz.zeroValue273
 t210:=Tryz.underlying276
 a210:=Tryz.isAgg276
 z210:=Tryz.sizeOf276
 v210:=Tryz.zeroValue276
 t212:=Tryz.underlying301
 a212:=Tryz.isAgg301
 z212:=Tryz.sizeOf301
 v212:=Tryz.zeroValue301
 t213:=Tryz.underlying303
 a213:=Tryz.isAgg303
 z213:=Tryz.sizeOf303
 t232:=Tryz.underlying310
 a232:=Tryz.isAgg310
 z232:=Tryz.sizeOf310
 v232:=Tryz.zeroValue310
 t233:=Tryz.underlying311
 a233:=Tryz.isAgg311
 z233:=Tryz.sizeOf311
 v233:=Tryz.zeroValue311
 g15:=by kernel_rfl
 g16:=by kernel_rfl
 g17:=by kernel_rfl
 g18:=by kernel_rfl
 g19:=by kernel_rfl
 t80:=Tryz.underlying87
 a80:=Tryz.isAgg87
 z80:=Tryz.sizeOf87
 v80:=Tryz.zeroValue87
 i0:=by kernel_rfl
 i2:=by kernel_rfl
 i3:=by kernel_rfl
 i4:=by kernel_rfl
 i5:=by kernel_rfl
 i9:=by kernel_rfl
 i20:=by kernel_rfl
 i21:=by kernel_rfl
 i37:=by kernel_rfl
 i46:=by kernel_rfl
 i51:=by kernel_rfl
 i53:=by kernel_rfl
 i75:=by kernel_rfl
 i76:=by kernel_rfl
 i80:=by kernel_rfl
 i85:=by kernel_rfl
 i127:=by kernel_rfl
 i143:=by kernel_rfl
 i145:=by kernel_rfl
 i167:=by kernel_rfl
 i168:=by kernel_rfl
 i171:=by kernel_rfl
 i173:=by kernel_rfl
 i175:=by kernel_rfl
 i210:=by kernel_rfl
 i212:=by kernel_rfl
 i232:=by kernel_rfl
 i233:=by kernel_rfl
 m15:=by kernel_rfl
 m16:=by kernel_rfl
 m17:=by kernel_rfl
 m18:=by kernel_rfl
 m19:=by kernel_rfl
 c0:=by kernel_rfl
 c2:=by kernel_rfl
 c3:=by kernel_rfl
 c4:=by kernel_rfl
 c5:=by kernel_rfl
 c9:=by kernel_rfl
 c20:=by kernel_rfl
 c21:=by kernel_rfl
 c37:=by kernel_rfl
 c46:=by kernel_rfl
 c51:=by kernel_rfl
 c53:=by kernel_rfl
 c75:=by kernel_rfl
 c76:=by kernel_rfl
 c80:=by kernel_rfl
 c85:=by kernel_rfl
 c127:=by kernel_rfl
 c143:=by kernel_rfl
 c145:=by kernel_rfl
 c167:=by kernel_rfl
 c168:=by kernel_rfl
 c171:=by kernel_rfl
 c173:=by kernel_rfl
 c175:=by kernel_rfl
 c210:=by kernel_rfl
 c212:=by kernel_rfl
 c213:=by kernel_rfl
 c232:=by kernel_rfl
 c233:=by kernel_rfl}
end Go.Proofs
namespace Go.Vi
open Go.Proofs Go.RowKit Go.Sort Go.Lib
set_option maxRecDepth 100000
set_option linter.all false
open Tryz renaming prog → E
open _root_ renaming List → T, UInt8 → F
theorem TC(w:World)(k:Nat)(os:Array Obj):Below w.heap.size w (grow (w.drewN k) os):=
 ⟨rfl,rfl,rfl,by show w.heap.size≤(w.heap++os).size; simp,fun g hg=>heap_grow_old w k os g hg⟩
theorem RP{h:A3}{s:T F}{v:Value}(H:Rep h (.str s) v):v= .string ⟨s.toArray⟩∧s.length≤maxLen:=by
 cases H with | str h=>exact⟨rfl,h⟩
theorem WF{h:A3}{k:IntKind}{n:Int}{v:Value}(H:Rep h (.int k n) v):v= .int k n∧k.min≤n∧n≤k.max:=by
 cases H with | int a b=>exact⟨rfl,a,b⟩
theorem Qc{h:A3}{d:D}{vs:T Value}(H:DVRels h [.sc d] vs):∃v,vs= [v]∧Rep h d v:=by
 cases H with | cons a b=>
 cases b;cases a with | sc a=>exact⟨_,rfl,a⟩
theorem Qd{h:A3}{d e:D}{vs:T Value}(H:DVRels h [.sc d,.sc e] vs):∃v u,vs= [v,u]∧Rep h d v∧Rep h e u:=by
 cases H with | cons a b=>
 obtain⟨u,rfl,hu⟩:=Qc b;cases a with | sc a=>exact⟨_,u,rfl,a,hu⟩
theorem QS{P:Program}{f:FuncId}{ds:T DV}{r:D}(H:∀(w:World) (A:B5) (vs:T Value),GoodW w→DVRels (Al A w) ds vs→Calls P f vs.toArray w fun e w'=>∃v,e= .returned v∧Below w.heap.size w w'∧∀h,Rep h r v):FC P f ds [.sc (.v r)]:=by
 intro w A vs hG hvs;refine(H w A vs hG hvs).mono fun e w' h=> ?_
 obtain⟨v,he,hb,hr⟩:=h
 exact⟨v,[none],he,hb,.one (.sc (.v (hr _))),by simp,fun i j b hi=>by
  cases i with
  | zero=>simp at hi
  | succ i=>simp at hi⟩
theorem A0q(a0:Int)(r:T F)(h:Ow a0=some r):FC E 80 [.sc (.int .i64 a0)] [.sc (.v (.str r))]:=by
 unfold Ow at h;split at h
 ·rename_i hi
  cases h;refine QS fun w A vs hG hvs=> ?_
  obtain⟨v,rfl,hv⟩:=Qc hvs;obtain⟨rfl,_⟩:=WF hv;refine(Any.strconv_Itoa Tryz.laysM171 a0 hi.1 hi.2 w hG.1).mono fun e w' h=> ?_
  obtain⟨he,k,os,rfl⟩:=h;have:=GB hi;exact⟨_,he,TC w k os,fun h=> .str (by unfold maxLen; omega)⟩
 ·cases h
theorem XO{h:A3}{sz:Nat}:∀{l:T (T F)} {vs:T Value},RepRows h sz (List.map rS l) vs→∀(j:Nat) (x:T F),l[j]?=some x→vs[j]?=some (.string ⟨x.toArray⟩)
 | [],_,_,j,x,hj=>by simp at hj
 | y::l,vs,.cons a b c,j,x,hj=>by
  obtain rfl:sz=1:=a.symm;cases b with | @cons d v ds vs h1 h2=>
  cases h1;cases j with
  | zero=>simp at hj; subst hj; rfl
  | succ j=>simp only[List.getElem?_cons_succ] at hj ⊢; exact XO c j x hj
theorem fL(l:T (T F)):(l.map fun s=>(⟨s.toArray⟩:ByteArray)).map (·.data.toList)=l:=by
 induction l with
 | nil=>rfl
 | cons a r ih=>simp only[List.map_cons,ih]
theorem A0s(a0:T (T F))(a1 r:T F)(h:Oy a0 a1=some r):FC E 15 [.sc (.sl (List.map rS a0)),.sc (.str a1)] [.sc (.v (.str r))]:=by
 unfold Oy at h;split at h
 ·rename_i hi
  cases h;refine QS fun w A vs hG hvs=> ?_
  obtain⟨v,u,rfl,hv,hu⟩:=Qd hvs;obtain⟨rfl,hl⟩:=RP hu;have hm:(join a0 a1).length≤maxLen:=by unfold maxLen; omega
  have none_:∀a c,a0= []→Calls E 15 #[.slice a 0 c,.string ⟨a1.toArray⟩] w fun e w'=>∃v,e= .returned v∧Below w.heap.size w w'∧∀h,Rep h (.str (join a0 a1)) v:=by
   intro a c h0;subst h0;refine(Any.strings_Join_none Tryz.lays156 Tryz.Builder_Extra_156 a c ⟨a1.toArray⟩ w).mono fun e w' h=> ?_
   obtain⟨he,rfl⟩:=h;exact⟨_,he,Below.refl _ _,fun h=> .str (s:=join [] a1) hm⟩
  have key:∀es,List.map rS a0=es→Rep (Al A w) (.sl es) v→Calls E 15 #[v,.string ⟨a1.toArray⟩] w fun e w'=>∃v,e= .returned v∧Below w.heap.size w w'∧∀h,Rep h (.str (join a0 a1)) v:=by
   intro es hes hv;cases hv with
   | nil=>exact none_ _ _ (List.map_eq_nil_iff.1 hes)
   | @sl _ b C sz off cap len hC hz hrows hlen hcap hcm=>
    subst hes;by_cases h0:a0= []
    ·obtain rfl:len=0:=by rw[hlen,h0]; rfl
     exact none_ _ _ h0
    ·have hl0:len=(a0.map fun s=>(⟨s.toArray⟩:ByteArray)).length:=by simpa using hlen
     obtain⟨_,cs,t,fr,hb,hcl⟩:=hC;have hbw:b<w.heap.size:=(Array.getElem?_eq_some_iff.1 hb).1;subst hl0;have hj:(a0.map fun s=>(⟨s.toArray⟩:ByteArray)).map (·.data.toList)=a0:=fL a0;have hN:(a0.map fun s=>(⟨s.toArray⟩:ByteArray)).length≤140737488355328:=by rw[List.length_map]; exact hi.1
     have hJ:(join ((a0.map fun s=>(⟨s.toArray⟩:ByteArray)).map (·.data.toList)) (⟨a1.toArray⟩:ByteArray).data.toList).length≤140737488355328:=by rw[hj]; exact hi.2
     have hcells:∀(j:Nat) x,(a0.map fun s=>(⟨s.toArray⟩:ByteArray))[j]?=some x→w.cell? ⟨b,off+j,none⟩=some (.string x):=by
      intro j x hx;simp only[List.getElem?_map,Option.map_eq_some_iff] at hx
      obtain⟨y,hy,rfl⟩:=hx;have:=XO hrows j y hy;rw[List.getElem?_drop,← hcl] at this
      unfold World.cell?;simpa[hb] using this
     have c:=Tryz.strings_Join b off cap (a0.map fun s=>(⟨s.toArray⟩:ByteArray)) ⟨a1.toArray⟩ w hcells hbw hN hcap hJ;refine c.mono fun e w' h=> ?_
     rw[hj] at h;obtain⟨he,hw⟩:=h;exact⟨_,he,hw,fun h=> .str hm⟩
  exact key _ rfl hv
 ·cases h
theorem qx(l:T F)(c:F):indexByte l c≤l.length:=by
 induction l with
 | nil=>simp[indexByte]
 | cons b l ih=>
  unfold indexByte;simp only[List.length_cons];split
  ·omega
  ·split<;>omega
theorem A0r(a0:T F)(a1 r:Int)(h:Ox a0 a1=some r):FC E 41 [.sc (.str a0),.sc (.int .u8 a1)] [.sc (.v (.int .i64 r))]:=by
 unfold Ox at h;cases h;refine QS fun w A vs hG hvs=> ?_
 obtain⟨v,u,rfl,hv,hu⟩:=Qd hvs;obtain⟨rfl,hl⟩:=RP hv;obtain⟨rfl,_⟩:=WF hu;refine(Any.strings_IndexByte Tryz.lays137 ⟨a0.toArray⟩ a1 w).mono fun e w' h=> ?_
 obtain⟨he,rfl⟩:=h;have h1:=indexByte_ge a0 a1.toNat.toUInt8;have h2:=qx a0 a1.toNat.toUInt8;unfold maxLen at hl
 exact⟨_,he,Below.refl _ _,fun h=> .int (by show(-9223372036854775808:Int)≤_; omega) (by show _≤(9223372036854775807:Int); omega)⟩
theorem eO{w w1 w2:World}(h1:Below w.heap.size w w1)(h2:Below w1.heap.size w1 w2):Below w.heap.size w w2:=h1.trans (h2.mono h1.size)
theorem fO(s:ByteArray)(hmax:s.size≤9223372036854775806)(v:Int)(h:Lib.atoiAll s.data.toList= .ok v)(w:World) :
  Calls E 79 #[.string s] w fun e w'=>e= .returned (.tuple #[.int .i64 v,.nilIface])∧Below w.heap.size w w':=by
 refine(Any.strconv_Atoi_ok Tryz.laysC172 s hmax v h w).mono fun e w' h=> ?_
 obtain⟨he,rfl|⟨t,rfl⟩⟩:=h
 ·exact⟨he,Below.refl _ _⟩
 ·exact⟨he,Lib.bytesWorld_below _ _ _⟩
theorem fN(s:ByteArray)(hlim:s.size≤281474976710656)(h:∀v,Lib.atoiAll s.data.toList≠ .ok v)(w:World)(hG:GoodW w) :
  Calls E 79 #[.string s] w fun e w'=>∃n te p,e= .returned (.tuple #[.int .i64 n,.iface te p])∧Below w.heap.size w w':=by
 obtain⟨_,⟨tp,p,hv⟩,⟨tq,q,hu⟩⟩:=hG;cases hh:Lib.atoiAll s.data.toList with
 | ok v=>exact absurd hh (h v)
 | range=>
  refine(Any.strconv_Atoi_range_var Tryz.laysC172 s hlim hh tq q w hu).mono fun e w' h=> ?_
  obtain⟨N,he,_,_,hb⟩:=h;exact⟨_,_,_,he,hb⟩
 | _=>
  refine(Any.strconv_Atoi_syntax_var Tryz.laysC172 s hlim hh tp p w hv).mono fun e w' h=> ?_
  obtain⟨N,he,_,_,hb⟩:=h;exact⟨_,_,_,he,hb⟩
theorem fP(n:Int)(h0: -9223372036854775808≤n)(h1:n≤9223372036854775807)(w:World)(hG:GoodW w) :
  Calls E 80 #[.int .i64 n] w fun e w'=>e= .returned (.string ⟨(Lib.itoa n).toArray⟩)∧Below w.heap.size w w':=by
 refine(Any.strconv_Itoa Tryz.laysM171 n h0 h1 w hG.1).mono fun e w' h=> ?_
 obtain⟨he,k,os,rfl⟩:=h;exact⟨he,TC w k os⟩
theorem tx(s:ByteArray)(hlim:s.size≤281474976710656)(n:Int)(h0: -9223372036854775808≤n)(h1:n≤9223372036854775807)(h:Lib.atoiAll s.data.toList= .ok n)(w:World)(hG:GoodW w) :
  Calls E 52 #[.string s] w fun e w'=>e= .returned (.tuple #[.int .i64 (if(itoa n==s.toList)=true then n else 0),.bool (itoa n==s.toList)])∧Below w.heap.size w w':=by
 go_enter Tryz.func52,Tryz.ntmps52
 go_wp2_with (go_at_call 79; refine(fO s (by omega) n h _).mono ?_; rintro e w1 ⟨rfl,hb1⟩)
 go_wp2_with (go_at_call 80; refine(fP n h0 h1 _ (hG.below hb1)).mono ?_; rintro e w2 ⟨rfl,hb2⟩)
 all_goals
  rename_i hq
  go_ret2
  refine⟨?_,eO hb1 hb2⟩;simp_all
theorem tw(s:ByteArray)(hlim:s.size≤281474976710656)(h:∀v,Lib.atoiAll s.data.toList≠ .ok v)(w:World)(hG:GoodW w) :
  Calls E 52 #[.string s] w fun e w'=>e= .returned (.tuple #[.int .i64 0,.bool false])∧Below w.heap.size w w':=by
 go_enter Tryz.func52,Tryz.ntmps52
 go_wp2_with (go_at_call 79; refine(fN s hlim h _ hG).mono ?_; rintro e w1 ⟨n,te,p,rfl,hb1⟩)
 all_goals
  go_ret2
  exact⟨rfl,hb1⟩
theorem Sz(a0:T F)(r:Int × Bool)(h:Fi a0=some r):FC E 52 [.sc (.str a0)] [.sc (.v (.int .i64 r.1)),.sc (.v (.bool r.2))]:=by
 unfold Fi at h;split at h
 ·rename_i hl
  cases h;intro w A vs hG hvs;obtain⟨v,rfl,hv⟩:=Qc hvs;obtain⟨rfl,_⟩:=RP hv;have hsz:(⟨a0.toArray⟩:ByteArray).size≤281474976710656:=by simpa[ByteArray.size] using hl
  have Az:∀(e:Ending) (w':World),e= .returned (.tuple #[.int .i64 (D9 a0).1,.bool (D9 a0).2])→Below w.heap.size w w'→∃(v:Value) (bs:T (Option Nat)),e= .returned v∧Below w.heap.size w w'∧RRel (Al (fun b fr=>some b∉bs∧((w.heap.size≤b∧fr=(0,0))∨A b fr)) w') w' [.sc (.v (.int .i64 (D9 a0).1)),.sc (.v (.bool (D9 a0).2))] v bs∧
    (∀b,some b∈bs→w.heap.size≤b∧b<w'.heap.size)∧(∀(i j b:Nat),bs[i]?=some (some b)→bs[j]?=some (some b)→i=j):=by
   intro e w' he hb;have hi:=tn a0;refine⟨_,[none]++([none]++ []),he,hb,.many (by simp) (.cons (.sc (.v (.int hi.1 hi.2))) (.cons (.sc (.v .bool)) .nil)),by simp,fun i j b hi=> ?_⟩;rcases i with _|_|i<;>simp at hi
  cases hh:Lib.atoiAll a0 with
  | ok n=>
   obtain⟨h0,h1⟩:=Tx hh;refine(tx ⟨a0.toArray⟩ hsz n h0 h1 hh w hG).mono fun e w' h=> ?_
   refine Az e w' (h.1.trans ?_) h.2;have e2:(⟨a0.toArray⟩:ByteArray).toList=a0:=by simp
   rw[e2];simp only[D9,hh];by_cases hq:itoa n=a0<;>simp[hq]
  | _=>
   refine(tw ⟨a0.toArray⟩ hsz (fun v hv=>by rw[show(⟨a0.toArray⟩:ByteArray).data.toList=a0 from rfl,hh] at hv; cases hv) w hG).mono fun e w' h=> ?_
   refine Az e w' (h.1.trans ?_) h.2;simp only[D9,hh]
 ·cases h
end Go.Vi
