/-
  Contracts of functions of Go's library at the value level, out of the library's proved contracts. No condition.
-/
import Derived.Test.YtdgobmphhncomaaDoorTVi33
import Derived.Test.YtdgobmphhncomaaDoorTLa
import Derived.Test.YtdgobmphhncomaaDoorProg
import Derived.KernelRfl
import Derived.Shelf.Strings.OnBuilder
import Derived.Shelf.Strconv.Itoa3
import Derived.Shelf.LaysM
import Derived.Shelf.Small.Strs
import Derived.Shelf.Strconv.ErrVarAll
import Derived.Shelf.Strconv.AtoiAll
import Derived.Shelf.LaysC
import Derived.WalkKit
import Derived.BigCall
import Derived.Lib.AppendIntMem
namespace Go.Proofs
open Go.Shelf Go.RowKit
set_option maxRecDepth 100000
def Tryd.lays156_ren : Go.Shelf.Ren := ⟨fun | 156 => 70 | 165 => 89 | 166 => 90 | 169 => 91 | 240 => 106 | 241 => 107 | 276 => 117 | 277 => 118 | n => n, fun | 31 => 68 | 9 => 9 | 3 => 3 | 4 => 4 | 0 => 0 | 20 => 20 | 72 => 167 | 76 => 169 | 70 => 165 | 37 => 22 | 75 => 108 | 127 => 193 | 164 => 139 | 5 => 5 | 80 => 171 | n => n, fun | n => n⟩
theorem Tryd.lays156 : Go.Proofs.Lays.n156 Tryd.prog Tryd.lays156_ren := {
  mixed := by kernel_rfl
  f156 := Tryd.func70.trans (congrArg some (by kernel_rfl))
  f165 := Tryd.func89.trans (congrArg some (by kernel_rfl))
  f166 := Tryd.func90.trans (congrArg some (by kernel_rfl))
  f169 := Tryd.func91.trans (congrArg some (by kernel_rfl))
  f240 := Tryd.func106.trans (congrArg some (by kernel_rfl))
  f241 := Tryd.func107.trans (congrArg some (by kernel_rfl))
  f276 := Tryd.func117.trans (congrArg some (by kernel_rfl))
  f277 := Tryd.func118.trans (congrArg some (by kernel_rfl))
  t0 := Tryd.underlying0
  a0 := Tryd.isAgg0
  z0 := Tryd.sizeOf0
  v0 := Tryd.zeroValue0
  t3 := Tryd.underlying3
  a3 := Tryd.isAgg3
  z3 := Tryd.sizeOf3
  v3 := Tryd.zeroValue3
  t4 := Tryd.underlying4
  a4 := Tryd.isAgg4
  z4 := Tryd.sizeOf4
  v4 := Tryd.zeroValue4
  t9 := Tryd.underlying9
  a9 := Tryd.isAgg9
  z9 := Tryd.sizeOf9
  v9 := Tryd.zeroValue9
  t20 := Tryd.underlying20
  a20 := Tryd.isAgg20
  z20 := Tryd.sizeOf20
  v20 := Tryd.zeroValue20
  t31 := Tryd.underlying68
  a31 := Tryd.isAgg68
  z31 := Tryd.sizeOf68
  v31 := Tryd.zeroValue68
  t37 := Tryd.underlying22
  a37 := Tryd.isAgg22
  z37 := Tryd.sizeOf22
  v37 := Tryd.zeroValue22
  t70 := Tryd.underlying165
  a70 := Tryd.isAgg165
  z70 := Tryd.sizeOf165
  v70 := Tryd.zeroValue165
  t72 := Tryd.underlying167
  a72 := Tryd.isAgg167
  z72 := Tryd.sizeOf167
  v72 := Tryd.zeroValue167
  t75 := Tryd.underlying108
  a75 := Tryd.isAgg108
  z75 := Tryd.sizeOf108
  v75 := Tryd.zeroValue108
  t76 := Tryd.underlying169
  a76 := Tryd.isAgg169
  z76 := Tryd.sizeOf169
  v76 := Tryd.zeroValue169
  t127 := Tryd.underlying193
  a127 := Tryd.isAgg193
  z127 := Tryd.sizeOf193
  v127 := Tryd.zeroValue193
  t164 := Tryd.underlying139
  a164 := Tryd.isAgg139
  z164 := Tryd.sizeOf139
  v164 := Tryd.zeroValue139 }
theorem Tryd.Builder_Extra_156 : Builder.Extra Tryd.prog Tryd.lays156_ren := {
  sizeBuilder := by kernel_rfl
  liesBuilder := by kernel_rfl
  t5 := Tryd.underlying5
  a5 := Tryd.isAgg5
  z5 := Tryd.sizeOf5
  v5 := Tryd.zeroValue5
  infoByte := by kernel_rfl
  cellsByte := by kernel_rfl
  sizeByte := by kernel_rfl
  neB5 := by decide }
theorem Tryd.strings_Join (bk o c : Nat) (xs : List ByteArray) (sep : ByteArray) (w : World) (hcells : ∀ (j : Nat) x, xs[j]? = some x → w.cell? ⟨bk, o + j, none⟩ = some (.string x)) (hbk : bk < w.heap.size) (hN : xs.length ≤ 140737488355328) (hcap : xs.length ≤ c) (hlen : (Lib.join (xs.map (·.data.toList)) sep.data.toList).length ≤ 140737488355328) :
    Calls Tryd.prog 70 #[.slice (some ⟨bk, o, none⟩) xs.length c, .string sep] w fun e w' => e = .returned (.string ⟨(Lib.join (xs.map (·.data.toList)) sep.data.toList).toArray⟩) ∧ Below w.heap.size w w' := Any.strings_Join Tryd.lays156 Tryd.Builder_Extra_156 bk o c xs sep w hcells hbk hN hcap hlen
def Tryd.laysM171_ren : Go.Shelf.Ren := ⟨fun | 171 => 69 | 243 => 88 | 246 => 105 | 283 => 113 | 284 => 114 | 285 => 115 | 286 => 116 | 129 => 128 | 317 => 127 | 318 => 129 | 319 => 130 | 320 => 131 | 337 => 137 | 338 => 138 | n => n, fun | 3 => 3 | 9 => 9 | 2 => 2 | 4 => 4 | 171 => 203 | 0 => 0 | 53 => 204 | 37 => 22 | 5 => 5 | 173 => 207 | 212 => 222 | 51 => 223 | 20 => 20 | 213 => 224 | 46 => 152 | 232 => 240 | 233 => 241 | n => n, fun | 17 => 2 | 18 => 5 | 19 => 6 | n => n⟩
theorem Tryd.laysM171 : Go.Proofs.LaysM.n171 Tryd.prog Tryd.laysM171_ren := {
  mixed := by kernel_rfl
  f129 := Tryd.func128.trans (congrArg some (by kernel_rfl))
  f171 := Tryd.func69.trans (congrArg some (by kernel_rfl))
  f243 := Tryd.func88.trans (congrArg some (by kernel_rfl))
  f246 := Tryd.func105.trans (congrArg some (by kernel_rfl))
  f283 := Tryd.func113.trans (congrArg some (by kernel_rfl))
  f284 := Tryd.func114.trans (congrArg some (by kernel_rfl))
  f285 := Tryd.func115.trans (congrArg some (by kernel_rfl))
  f286 := Tryd.func116.trans (congrArg some (by kernel_rfl))
  f317 := Tryd.func127.trans (congrArg some (by kernel_rfl))
  f318 := Tryd.func129.trans (congrArg some (by kernel_rfl))
  f319 := Tryd.func130.trans (congrArg some (by kernel_rfl))
  f320 := Tryd.func131.trans (congrArg some (by kernel_rfl))
  f337 := Tryd.func137.trans (congrArg some (by kernel_rfl))
  f338 := Tryd.func138.trans (congrArg some (by kernel_rfl))
  t0 := Tryd.underlying0
  a0 := Tryd.isAgg0
  z0 := Tryd.sizeOf0
  v0 := Tryd.zeroValue0
  t2 := Tryd.underlying2
  a2 := Tryd.isAgg2
  z2 := Tryd.sizeOf2
  v2 := Tryd.zeroValue2
  t3 := Tryd.underlying3
  a3 := Tryd.isAgg3
  z3 := Tryd.sizeOf3
  v3 := Tryd.zeroValue3
  t4 := Tryd.underlying4
  a4 := Tryd.isAgg4
  z4 := Tryd.sizeOf4
  v4 := Tryd.zeroValue4
  t5 := Tryd.underlying5
  a5 := Tryd.isAgg5
  z5 := Tryd.sizeOf5
  v5 := Tryd.zeroValue5
  t9 := Tryd.underlying9
  a9 := Tryd.isAgg9
  z9 := Tryd.sizeOf9
  v9 := Tryd.zeroValue9
  t20 := Tryd.underlying20
  a20 := Tryd.isAgg20
  z20 := Tryd.sizeOf20
  v20 := Tryd.zeroValue20
  t37 := Tryd.underlying22
  a37 := Tryd.isAgg22
  z37 := Tryd.sizeOf22
  v37 := Tryd.zeroValue22
  t46 := Tryd.underlying152
  a46 := Tryd.isAgg152
  z46 := Tryd.sizeOf152
  v46 := Tryd.zeroValue152
  t51 := Tryd.underlying223
  a51 := Tryd.isAgg223
  z51 := Tryd.sizeOf223
  v51 := Tryd.zeroValue223
  t53 := Tryd.underlying204
  a53 := Tryd.isAgg204
  z53 := Tryd.sizeOf204
  v53 := Tryd.zeroValue204
  t171 := Tryd.underlying203
  a171 := Tryd.isAgg203
  z171 := Tryd.sizeOf203
  v171 := Tryd.zeroValue203
  t173 := Tryd.underlying207
  a173 := Tryd.isAgg207
  z173 := Tryd.sizeOf207
  v173 := Tryd.zeroValue207
  t212 := Tryd.underlying222
  a212 := Tryd.isAgg222
  z212 := Tryd.sizeOf222
  v212 := Tryd.zeroValue222
  t213 := Tryd.underlying224
  a213 := Tryd.isAgg224
  z213 := Tryd.sizeOf224
  t232 := Tryd.underlying240
  a232 := Tryd.isAgg240
  z232 := Tryd.sizeOf240
  v232 := Tryd.zeroValue240
  t233 := Tryd.underlying241
  a233 := Tryd.isAgg241
  z233 := Tryd.sizeOf241
  v233 := Tryd.zeroValue241
  g17 := by kernel_rfl
  g18 := by kernel_rfl
  g19 := by kernel_rfl
  i0 := by kernel_rfl
  i2 := by kernel_rfl
  i3 := by kernel_rfl
  i4 := by kernel_rfl
  i5 := by kernel_rfl
  i9 := by kernel_rfl
  i20 := by kernel_rfl
  i37 := by kernel_rfl
  i46 := by kernel_rfl
  i51 := by kernel_rfl
  i53 := by kernel_rfl
  i171 := by kernel_rfl
  i173 := by kernel_rfl
  i212 := by kernel_rfl
  i232 := by kernel_rfl
  i233 := by kernel_rfl
  m17 := by kernel_rfl
  m18 := by kernel_rfl
  m19 := by kernel_rfl }
def Tryd.lays137_ren : Go.Shelf.Ren := ⟨fun | 137 => 68 | 217 => 87 | 266 => 104 | n => n, fun | 9 => 9 | 5 => 5 | 3 => 3 | n => n, fun | n => n⟩
theorem Tryd.lays137 : Go.Proofs.Lays.n137 Tryd.prog Tryd.lays137_ren := {
  mixed := by kernel_rfl
  f137 := Tryd.func68.trans (congrArg some (by kernel_rfl))
  f217 := Tryd.func87.trans (congrArg some (by kernel_rfl))
  f266 := Tryd.func104.trans (congrArg some (by kernel_rfl))
  t3 := Tryd.underlying3
  a3 := Tryd.isAgg3
  z3 := Tryd.sizeOf3
  v3 := Tryd.zeroValue3
  t5 := Tryd.underlying5
  a5 := Tryd.isAgg5
  z5 := Tryd.sizeOf5
  v5 := Tryd.zeroValue5
  t9 := Tryd.underlying9
  a9 := Tryd.isAgg9
  z9 := Tryd.sizeOf9
  v9 := Tryd.zeroValue9 }
def Tryd.laysC172_ren : Go.Shelf.Ren := ⟨fun | 172 => 92 | 244 => 108 | 245 => 109 | 247 => 119 | 279 => 120 | 280 => 121 | 281 => 122 | 282 => 123 | 287 => 132 | 316 => 133 | 171 => 69 | 205 => 134 | 321 => 139 | 322 => 140 | 243 => 88 | 246 => 105 | 283 => 113 | 284 => 114 | 285 => 115 | 286 => 116 | 129 => 128 | 317 => 127 | 318 => 129 | 319 => 130 | 320 => 131 | 337 => 137 | 338 => 138 | n => n, fun | 9 => 9 | 3 => 3 | 75 => 108 | 76 => 169 | 4 => 4 | 5 => 5 | 167 => 211 | 37 => 22 | 0 => 0 | 85 => 212 | 2 => 2 | 168 => 214 | 53 => 204 | 175 => 226 | 46 => 152 | 210 => 230 | 127 => 193 | 145 => 239 | 143 => 237 | 21 => 21 | 171 => 203 | 173 => 207 | 212 => 222 | 51 => 223 | 20 => 20 | 213 => 224 | 232 => 240 | 233 => 241 | 80 => 171 | n => n, fun | 15 => 3 | 16 => 4 | 17 => 2 | 18 => 5 | 19 => 6 | n => n⟩
theorem Tryd.laysC172 : Go.Proofs.LaysC.n172 Tryd.prog Tryd.laysC172_ren := {
  mixed := by kernel_rfl
  f129 := Tryd.func128.trans (congrArg some (by kernel_rfl))
  f171 := Tryd.func69.trans (congrArg some (by kernel_rfl))
  f172 := Tryd.func92.trans (congrArg some (by kernel_rfl))
  f205 := Tryd.func134.trans (congrArg some (by kernel_rfl))
  f243 := Tryd.func88.trans (congrArg some (by kernel_rfl))
  f244 := Tryd.func108.trans (congrArg some (by kernel_rfl))
  f245 := Tryd.func109.trans (congrArg some (by kernel_rfl))
  f246 := Tryd.func105.trans (congrArg some (by kernel_rfl))
  f247 := Tryd.func119.trans (congrArg some (by kernel_rfl))
  f279 := Tryd.func120.trans (congrArg some (by kernel_rfl))
  f280 := Tryd.func121.trans (congrArg some (by kernel_rfl))
  f281 := Tryd.func122.trans (congrArg some (by kernel_rfl))
  f282 := Tryd.func123.trans (congrArg some (by kernel_rfl))
  f283 := Tryd.func113.trans (congrArg some (by kernel_rfl))
  f284 := Tryd.func114.trans (congrArg some (by kernel_rfl))
  f285 := Tryd.func115.trans (congrArg some (by kernel_rfl))
  f286 := Tryd.func116.trans (congrArg some (by kernel_rfl))
  f287 := Tryd.func132.trans (congrArg some (by kernel_rfl))
  f316 := Tryd.func133.trans (congrArg some (by kernel_rfl))
  f317 := Tryd.func127.trans (congrArg some (by kernel_rfl))
  f318 := Tryd.func129.trans (congrArg some (by kernel_rfl))
  f319 := Tryd.func130.trans (congrArg some (by kernel_rfl))
  f320 := Tryd.func131.trans (congrArg some (by kernel_rfl))
  f321 := Tryd.func139.trans (congrArg some (by kernel_rfl))
  f322 := Tryd.func140.trans (congrArg some (by kernel_rfl))
  f337 := Tryd.func137.trans (congrArg some (by kernel_rfl))
  f338 := Tryd.func138.trans (congrArg some (by kernel_rfl))
  t0 := Tryd.underlying0
  a0 := Tryd.isAgg0
  z0 := Tryd.sizeOf0
  v0 := Tryd.zeroValue0
  t2 := Tryd.underlying2
  a2 := Tryd.isAgg2
  z2 := Tryd.sizeOf2
  v2 := Tryd.zeroValue2
  t3 := Tryd.underlying3
  a3 := Tryd.isAgg3
  z3 := Tryd.sizeOf3
  v3 := Tryd.zeroValue3
  t4 := Tryd.underlying4
  a4 := Tryd.isAgg4
  z4 := Tryd.sizeOf4
  v4 := Tryd.zeroValue4
  t5 := Tryd.underlying5
  a5 := Tryd.isAgg5
  z5 := Tryd.sizeOf5
  v5 := Tryd.zeroValue5
  t9 := Tryd.underlying9
  a9 := Tryd.isAgg9
  z9 := Tryd.sizeOf9
  v9 := Tryd.zeroValue9
  t20 := Tryd.underlying20
  a20 := Tryd.isAgg20
  z20 := Tryd.sizeOf20
  v20 := Tryd.zeroValue20
  t21 := Tryd.underlying21
  a21 := Tryd.isAgg21
  z21 := Tryd.sizeOf21
  v21 := Tryd.zeroValue21
  t37 := Tryd.underlying22
  a37 := Tryd.isAgg22
  z37 := Tryd.sizeOf22
  v37 := Tryd.zeroValue22
  t46 := Tryd.underlying152
  a46 := Tryd.isAgg152
  z46 := Tryd.sizeOf152
  v46 := Tryd.zeroValue152
  t51 := Tryd.underlying223
  a51 := Tryd.isAgg223
  z51 := Tryd.sizeOf223
  v51 := Tryd.zeroValue223
  t53 := Tryd.underlying204
  a53 := Tryd.isAgg204
  z53 := Tryd.sizeOf204
  v53 := Tryd.zeroValue204
  t75 := Tryd.underlying108
  a75 := Tryd.isAgg108
  z75 := Tryd.sizeOf108
  v75 := Tryd.zeroValue108
  t76 := Tryd.underlying169
  a76 := Tryd.isAgg169
  z76 := Tryd.sizeOf169
  v76 := Tryd.zeroValue169
  t85 := Tryd.underlying212
  a85 := Tryd.isAgg212
  z85 := Tryd.sizeOf212
  v85 := Tryd.zeroValue212
  t127 := Tryd.underlying193
  a127 := Tryd.isAgg193
  z127 := Tryd.sizeOf193
  v127 := Tryd.zeroValue193
  t143 := Tryd.underlying237
  a143 := Tryd.isAgg237
  z143 := Tryd.sizeOf237
  v143 := Tryd.zeroValue237
  t145 := Tryd.underlying239
  a145 := Tryd.isAgg239
  z145 := Tryd.sizeOf239
  v145 := Tryd.zeroValue239
  t167 := Tryd.underlying211
  a167 := Tryd.isAgg211
  z167 := Tryd.sizeOf211
  v167 := Tryd.zeroValue211
  t168 := Tryd.underlying214
  a168 := Tryd.isAgg214
  z168 := Tryd.sizeOf214
  v168 := Tryd.zeroValue214
  t171 := Tryd.underlying203
  a171 := Tryd.isAgg203
  z171 := Tryd.sizeOf203
  v171 := Tryd.zeroValue203
  t173 := Tryd.underlying207
  a173 := Tryd.isAgg207
  z173 := Tryd.sizeOf207
  v173 := Tryd.zeroValue207
  t175 := Tryd.underlying226
  a175 := Tryd.isAgg226
  z175 := Tryd.sizeOf226
  v175 := Tryd.zeroValue226
  t210 := Tryd.underlying230
  a210 := Tryd.isAgg230
  z210 := Tryd.sizeOf230
  v210 := Tryd.zeroValue230
  t212 := Tryd.underlying222
  a212 := Tryd.isAgg222
  z212 := Tryd.sizeOf222
  v212 := Tryd.zeroValue222
  t213 := Tryd.underlying224
  a213 := Tryd.isAgg224
  z213 := Tryd.sizeOf224
  t232 := Tryd.underlying240
  a232 := Tryd.isAgg240
  z232 := Tryd.sizeOf240
  v232 := Tryd.zeroValue240
  t233 := Tryd.underlying241
  a233 := Tryd.isAgg241
  z233 := Tryd.sizeOf241
  v233 := Tryd.zeroValue241
  g15 := by kernel_rfl
  g16 := by kernel_rfl
  g17 := by kernel_rfl
  g18 := by kernel_rfl
  g19 := by kernel_rfl
  t80 := Tryd.underlying171
  a80 := Tryd.isAgg171
  z80 := Tryd.sizeOf171
  v80 := Tryd.zeroValue171
  i0 := by kernel_rfl
  i2 := by kernel_rfl
  i3 := by kernel_rfl
  i4 := by kernel_rfl
  i5 := by kernel_rfl
  i9 := by kernel_rfl
  i20 := by kernel_rfl
  i21 := by kernel_rfl
  i37 := by kernel_rfl
  i46 := by kernel_rfl
  i51 := by kernel_rfl
  i53 := by kernel_rfl
  i75 := by kernel_rfl
  i76 := by kernel_rfl
  i80 := by kernel_rfl
  i85 := by kernel_rfl
  i127 := by kernel_rfl
  i143 := by kernel_rfl
  i145 := by kernel_rfl
  i167 := by kernel_rfl
  i168 := by kernel_rfl
  i171 := by kernel_rfl
  i173 := by kernel_rfl
  i175 := by kernel_rfl
  i210 := by kernel_rfl
  i212 := by kernel_rfl
  i232 := by kernel_rfl
  i233 := by kernel_rfl
  m15 := by kernel_rfl
  m16 := by kernel_rfl
  m17 := by kernel_rfl
  m18 := by kernel_rfl
  m19 := by kernel_rfl
  c0 := by kernel_rfl
  c2 := by kernel_rfl
  c3 := by kernel_rfl
  c4 := by kernel_rfl
  c5 := by kernel_rfl
  c9 := by kernel_rfl
  c20 := by kernel_rfl
  c21 := by kernel_rfl
  c37 := by kernel_rfl
  c46 := by kernel_rfl
  c51 := by kernel_rfl
  c53 := by kernel_rfl
  c75 := by kernel_rfl
  c76 := by kernel_rfl
  c80 := by kernel_rfl
  c85 := by kernel_rfl
  c127 := by kernel_rfl
  c143 := by kernel_rfl
  c145 := by kernel_rfl
  c167 := by kernel_rfl
  c168 := by kernel_rfl
  c171 := by kernel_rfl
  c173 := by kernel_rfl
  c175 := by kernel_rfl
  c210 := by kernel_rfl
  c212 := by kernel_rfl
  c213 := by kernel_rfl
  c232 := by kernel_rfl
  c233 := by kernel_rfl }
end Go.Proofs
namespace Go.Vi
open Go.Proofs Go.RowKit Go.Sort Go.Lib
set_option maxRecDepth 100000
set_option linter.unusedSimpArgs false
set_option linter.unusedVariables false
theorem below_grow (w : World) (k : Nat) (os : Array Obj) : Below w.heap.size w (grow (w.drewN k) os) :=
  ⟨rfl, rfl, rfl, by show w.heap.size ≤ (w.heap ++ os).size; simp, fun g hg => heap_grow_old w k os g hg⟩
theorem one_str {h : View} {s : List UInt8} {v : Value} (H : Rep h (.str s) v) : v = .string ⟨s.toArray⟩ ∧ s.length ≤ maxLen := by
  cases H with | str h => exact ⟨rfl, h⟩
theorem one_int {h : View} {k : IntKind} {n : Int} {v : Value} (H : Rep h (.int k n) v) : v = .int k n ∧ k.min ≤ n ∧ n ≤ k.max := by
  cases H with | int a b => exact ⟨rfl, a, b⟩
theorem args1 {h : View} {d : D} {vs : List Value} (H : DVRels h [.sc d] vs) : ∃ v, vs = [v] ∧ Rep h d v := by
  cases H with | cons a b =>
  cases b
  cases a with | sc a => exact ⟨_, rfl, a⟩
theorem args2 {h : View} {d e : D} {vs : List Value} (H : DVRels h [.sc d, .sc e] vs) : ∃ v u, vs = [v, u] ∧ Rep h d v ∧ Rep h e u := by
  cases H with | cons a b =>
  obtain ⟨u, rfl, hu⟩ := args1 b
  cases a with | sc a => exact ⟨_, u, rfl, a, hu⟩
/-- A function that returns flat data and leaves old memory alone. -/
theorem fc_flat {P : Program} {f : FuncId} {ds : List DV} {r : D} (H : ∀ (w : World) (A : Nat → Prop) (vs : List Value), GoodW w → DVRels (viewIn A w) ds vs → Calls P f vs.toArray w fun e w' => ∃ v, e = .returned v ∧ Below w.heap.size w w' ∧ ∀ h, Rep h r v) : FC P f ds [.sc (.v r)] := by
  intro w A vs hG hvs
  refine (H w A vs hG hvs).mono fun e w' h => ?_
  obtain ⟨v, he, hb, hr⟩ := h
  exact ⟨v, [none], he, hb, .one (.sc (.v (hr _))), by simp, fun i j b hi => by
    cases i with
    | zero => simp at hi
    | succ i => simp at hi⟩
theorem rows_str {h : View} {sz : Nat} : ∀ {l : List (List UInt8)} {vs : List Value}, RepRows h sz (List.map rS l) vs → ∀ (j : Nat) (x : List UInt8), l[j]? = some x → vs[j]? = some (.string ⟨x.toArray⟩)
  | [], _, _, j, x, hj => by simp at hj
  | y :: l, vs, .cons a b c, j, x, hj => by
    obtain rfl : sz = 1 := a.symm
    cases b with | @cons d v ds vs h1 h2 =>
    cases h1
    cases j with
    | zero => simp at hj; subst hj; rfl
    | succ j => simp only [List.getElem?_cons_succ] at hj ⊢; exact rows_str c j x hj
theorem bytes_back (l : List (List UInt8)) : (l.map fun s => (⟨s.toArray⟩ : ByteArray)).map (·.data.toList) = l := by
  induction l with
  | nil => rfl
  | cons a r ih => simp only [List.map_cons, ih]
theorem w_strings_Join (a0 : List (List UInt8)) (a1 : List UInt8) (r : List UInt8) (h : f_strings_Join a0 a1 = some r) : FC Tryd.prog 70 [.sc (.sl (List.map rS a0)), .sc (.str a1)] [.sc (.v (.str r))] := by
  unfold f_strings_Join at h
  split at h
  · rename_i hi
    cases h
    refine fc_flat fun w A vs hG hvs => ?_
    obtain ⟨v, u, rfl, hv, hu⟩ := args2 hvs
    obtain ⟨rfl, hl⟩ := one_str hu
    have hm : (join a0 a1).length ≤ maxLen := by unfold maxLen; omega
    have none_ : ∀ a c, a0 = [] → Calls Tryd.prog 70 #[.slice a 0 c, .string ⟨a1.toArray⟩] w fun e w' => ∃ v, e = .returned v ∧ Below w.heap.size w w' ∧ ∀ h, Rep h (.str (join a0 a1)) v := by
      intro a c h0
      subst h0
      refine (Any.strings_Join_none Tryd.lays156 Tryd.Builder_Extra_156 a c ⟨a1.toArray⟩ w).mono fun e w' h => ?_
      obtain ⟨he, rfl⟩ := h
      exact ⟨_, he, Below.refl _ _, fun h => .str (s := join [] a1) hm⟩
    have key : ∀ es, List.map rS a0 = es → Rep (viewIn A w) (.sl es) v → Calls Tryd.prog 70 #[v, .string ⟨a1.toArray⟩] w fun e w' => ∃ v, e = .returned v ∧ Below w.heap.size w w' ∧ ∀ h, Rep h (.str (join a0 a1)) v := by
      intro es hes hv
      cases hv with
      | nil => exact none_ _ _ (List.map_eq_nil_iff.1 hes)
      | @sl _ b C sz off cap len hC hz hrows hlen hcap hcm =>
        subst hes
        by_cases h0 : a0 = []
        · obtain rfl : len = 0 := by rw [hlen, h0]; rfl
          exact none_ _ _ h0
        · have hl0 : len = (a0.map fun s => (⟨s.toArray⟩ : ByteArray)).length := by simpa using hlen
          obtain ⟨_, cs, t, fr, hb, hcl⟩ := hC
          have hbw : b < w.heap.size := (Array.getElem?_eq_some_iff.1 hb).1
          subst hl0
          have hj : (a0.map fun s => (⟨s.toArray⟩ : ByteArray)).map (·.data.toList) = a0 := bytes_back a0
          have hN : (a0.map fun s => (⟨s.toArray⟩ : ByteArray)).length ≤ 140737488355328 := by rw [List.length_map]; exact hi.1
          have hJ : (join ((a0.map fun s => (⟨s.toArray⟩ : ByteArray)).map (·.data.toList)) (⟨a1.toArray⟩ : ByteArray).data.toList).length ≤ 140737488355328 := by rw [hj]; exact hi.2
          have hcells : ∀ (j : Nat) x, (a0.map fun s => (⟨s.toArray⟩ : ByteArray))[j]? = some x → w.cell? ⟨b, off + j, none⟩ = some (.string x) := by
            intro j x hx
            simp only [List.getElem?_map, Option.map_eq_some_iff] at hx
            obtain ⟨y, hy, rfl⟩ := hx
            have := rows_str hrows j y hy
            rw [List.getElem?_drop, ← hcl] at this
            unfold World.cell?
            simpa [hb] using this
          have c := Tryd.strings_Join b off cap (a0.map fun s => (⟨s.toArray⟩ : ByteArray)) ⟨a1.toArray⟩ w hcells hbw hN hcap hJ
          refine c.mono fun e w' h => ?_
          rw [hj] at h
          obtain ⟨he, hw⟩ := h
          exact ⟨_, he, hw, fun h => .str hm⟩
    exact key _ rfl hv
  · cases h
theorem w_strconv_Itoa (a0 : Int) (r : List UInt8) (h : f_strconv_Itoa a0 = some r) : FC Tryd.prog 69 [.sc (.int .i64 a0)] [.sc (.v (.str r))] := by
  unfold f_strconv_Itoa at h
  split at h
  · rename_i hi
    cases h
    refine fc_flat fun w A vs hG hvs => ?_
    obtain ⟨v, rfl, hv⟩ := args1 hvs
    obtain ⟨rfl, _⟩ := one_int hv
    refine (Any.strconv_Itoa Tryd.laysM171 a0 hi.1 hi.2 w hG.1).mono fun e w' h => ?_
    obtain ⟨he, k, os, rfl⟩ := h
    have := itoa_len hi
    exact ⟨_, he, below_grow w k os, fun h => .str (by unfold maxLen; omega)⟩
  · cases h
theorem ix_le (l : List UInt8) (c : UInt8) : indexByte l c ≤ l.length := by
  induction l with
  | nil => simp [indexByte]
  | cons b l ih =>
    unfold indexByte
    simp only [List.length_cons]
    split
    · omega
    · split <;> omega
theorem w_strings_IndexByte (a0 : List UInt8) (a1 : Int) (r : Int) (h : f_strings_IndexByte a0 a1 = some r) : FC Tryd.prog 68 [.sc (.str a0), .sc (.int .u8 a1)] [.sc (.v (.int .i64 r))] := by
  unfold f_strings_IndexByte at h
  cases h
  refine fc_flat fun w A vs hG hvs => ?_
  obtain ⟨v, u, rfl, hv, hu⟩ := args2 hvs
  obtain ⟨rfl, hl⟩ := one_str hv
  obtain ⟨rfl, _⟩ := one_int hu
  refine (Any.strings_IndexByte Tryd.lays137 ⟨a0.toArray⟩ a1 w).mono fun e w' h => ?_
  obtain ⟨he, rfl⟩ := h
  have h1 := indexByte_ge a0 a1.toNat.toUInt8
  have h2 := ix_le a0 a1.toNat.toUInt8
  unfold maxLen at hl
  exact ⟨_, he, Below.refl _ _, fun h => .int (by show (-9223372036854775808 : Int) ≤ _; omega) (by show _ ≤ (9223372036854775807 : Int); omega)⟩
theorem below_two {w w1 w2 : World} (h1 : Below w.heap.size w w1) (h2 : Below w1.heap.size w1 w2) : Below w.heap.size w w2 := h1.trans (h2.mono h1.size)
theorem c_Atoi_ok (s : ByteArray) (hmax : s.size ≤ 9223372036854775806) (v : Int) (h : Lib.atoiAll s.data.toList = .ok v) (w : World) :
    Calls Tryd.prog 92 #[.string s] w fun e w' => e = .returned (.tuple #[.int .i64 v, .nilIface]) ∧ Below w.heap.size w w' := by
  refine (Any.strconv_Atoi_ok Tryd.laysC172 s hmax v h w).mono fun e w' h => ?_
  obtain ⟨he, rfl | ⟨t, rfl⟩⟩ := h
  · exact ⟨he, Below.refl _ _⟩
  · exact ⟨he, Lib.bytesWorld_below _ _ _⟩
theorem c_Atoi_bad (s : ByteArray) (hlim : s.size ≤ 281474976710656) (h : ∀ v, Lib.atoiAll s.data.toList ≠ .ok v) (w : World) (hG : GoodW w) :
    Calls Tryd.prog 92 #[.string s] w fun e w' => ∃ n te p, e = .returned (.tuple #[.int .i64 n, .iface te p]) ∧ Below w.heap.size w w' := by
  obtain ⟨_, ⟨tp, p, hv⟩, ⟨tq, q, hu⟩⟩ := hG
  cases hh : Lib.atoiAll s.data.toList with
  | ok v => exact absurd hh (h v)
  | range =>
    refine (Any.strconv_Atoi_range_var Tryd.laysC172 s hlim hh tq q w hu).mono fun e w' h => ?_
    obtain ⟨N, he, _, _, hb⟩ := h
    exact ⟨_, _, _, he, hb⟩
  | _ =>
    refine (Any.strconv_Atoi_syntax_var Tryd.laysC172 s hlim hh tp p w hv).mono fun e w' h => ?_
    obtain ⟨N, he, _, _, hb⟩ := h
    exact ⟨_, _, _, he, hb⟩
theorem c_Itoa (n : Int) (h0 : -9223372036854775808 ≤ n) (h1 : n ≤ 9223372036854775807) (w : World) (hG : GoodW w) :
    Calls Tryd.prog 69 #[.int .i64 n] w fun e w' => e = .returned (.string ⟨(Lib.itoa n).toArray⟩) ∧ Below w.heap.size w w' := by
  refine (Any.strconv_Itoa Tryd.laysM171 n h0 h1 w hG.1).mono fun e w' h => ?_
  obtain ⟨he, k, os, rfl⟩ := h
  exact ⟨he, below_grow w k os⟩
theorem parse_ok (s : ByteArray) (hlim : s.size ≤ 281474976710656) (n : Int) (h0 : -9223372036854775808 ≤ n) (h1 : n ≤ 9223372036854775807) (h : Lib.atoiAll s.data.toList = .ok n) (w : World) (hG : GoodW w) :
    Calls Tryd.prog 71 #[.string s] w fun e w' => e = .returned (.tuple #[.int .i64 (if (itoa n == s.toList) = true then n else 0), .bool (itoa n == s.toList)]) ∧ Below w.heap.size w w' := by
  go_enter Tryd.func71, Tryd.ntmps71
  go_wp2_with (go_at_call 92; refine (c_Atoi_ok s (by omega) n h _).mono ?_; rintro e w1 ⟨rfl, hb1⟩)
  go_wp2_with (go_at_call 69; refine (c_Itoa n h0 h1 _ (hG.below hb1)).mono ?_; rintro e w2 ⟨rfl, hb2⟩)
  all_goals
    rename_i hq
    go_ret2
    refine ⟨?_, below_two hb1 hb2⟩
    simp_all
theorem parse_bad (s : ByteArray) (hlim : s.size ≤ 281474976710656) (h : ∀ v, Lib.atoiAll s.data.toList ≠ .ok v) (w : World) (hG : GoodW w) :
    Calls Tryd.prog 71 #[.string s] w fun e w' => e = .returned (.tuple #[.int .i64 0, .bool false]) ∧ Below w.heap.size w w' := by
  go_enter Tryd.func71, Tryd.ntmps71
  go_wp2_with (go_at_call 92; refine (c_Atoi_bad s hlim h _ hG).mono ?_; rintro e w1 ⟨n, te, p, rfl, hb1⟩)
  all_goals
    go_ret2
    exact ⟨rfl, hb1⟩
theorem w_impl_ParseInt (a0 : List UInt8) (r : Int × Bool) (h : f_impl_ParseInt a0 = some r) : FC Tryd.prog 71 [.sc (.str a0)] [.sc (.v (.int .i64 r.1)), .sc (.v (.bool r.2))] := by
  unfold f_impl_ParseInt at h
  split at h
  · rename_i hl
    cases h
    intro w A vs hG hvs
    obtain ⟨v, rfl, hv⟩ := args1 hvs
    obtain ⟨rfl, _⟩ := one_str hv
    have hsz : (⟨a0.toArray⟩ : ByteArray).size ≤ 281474976710656 := by simpa [ByteArray.size] using hl
    have fin : ∀ (e : Ending) (w' : World), e = .returned (.tuple #[.int .i64 (parseN a0).1, .bool (parseN a0).2]) → Below w.heap.size w w' → ∃ (v : Value) (bs : List (Option Nat)), e = .returned v ∧ Below w.heap.size w w' ∧ RRel (viewIn (fun b => some b ∉ bs ∧ (w.heap.size ≤ b ∨ A b)) w') w' [.sc (.v (.int .i64 (parseN a0).1)), .sc (.v (.bool (parseN a0).2))] v bs ∧
        (∀ b, some b ∈ bs → w.heap.size ≤ b ∧ b < w'.heap.size) ∧ (∀ (i j b : Nat), bs[i]? = some (some b) → bs[j]? = some (some b) → i = j) := by
      intro e w' he hb
      have hi := parseN_i64 a0
      refine ⟨_, [none] ++ ([none] ++ []), he, hb, .many (by simp) (.cons (.sc (.v (.int hi.1 hi.2))) (.cons (.sc (.v .bool)) .nil)), by simp, fun i j b hi => ?_⟩
      rcases i with _ | _ | i <;> simp at hi
    cases hh : Lib.atoiAll a0 with
    | ok n =>
      obtain ⟨h0, h1⟩ := atoiAll_i64 hh
      refine (parse_ok ⟨a0.toArray⟩ hsz n h0 h1 hh w hG).mono fun e w' h => ?_
      refine fin e w' (h.1.trans ?_) h.2
      have e2 : (⟨a0.toArray⟩ : ByteArray).toList = a0 := by simp
      rw [e2]
      simp only [parseN, hh]
      by_cases hq : itoa n = a0 <;> simp [hq]
    | _ =>
      refine (parse_bad ⟨a0.toArray⟩ hsz (fun v hv => by rw [show (⟨a0.toArray⟩ : ByteArray).data.toList = a0 from rfl, hh] at hv; cases hv) w hG).mono fun e w' h => ?_
      refine fin e w' (h.1.trans ?_) h.2
      simp only [parseN, hh]
  · cases h
end Go.Vi
