/-
  Contracts of functions of Go's library at the value level, out of the library's proved contracts. No condition.
-/
import Derived.Test.YtdgobmphhncomaaGreatDoorKVi33
import Derived.Test.YtdgobmphhncomaaGreatDoorKLa
import Derived.Test.YtdgobmphhncomaaGreatDoorProg
import Derived.KernelRfl
import Derived.Shelf.Strings.OnBuilder
import Derived.Shelf.Strconv.Itoa3
import Derived.Shelf.LaysM
import Derived.Shelf.Small.Strs
import Derived.Shelf.Strconv.ErrVarAll
import Derived.Shelf.Strconv.AtoiAll
import Derived.Shelf.LaysC
import Derived.WalkKit
import Derived.BigCall
import Derived.Lib.AppendIntMem
namespace Go.Proofs
open Go.Shelf Go.RowKit
set_option maxRecDepth 100000
def Tryz.lays156_ren : Go.Shelf.Ren := ⟨fun | 156 => 41 | 165 => 52 | 166 => 53 | 169 => 54 | 240 => 63 | 241 => 64 | 276 => 74 | 277 => 75 | n => n, fun | 31 => 55 | 9 => 9 | 3 => 3 | 4 => 4 | 0 => 0 | 20 => 20 | 72 => 92 | 76 => 88 | 70 => 90 | 37 => 22 | 75 => 80 | 127 => 109 | 164 => 95 | 5 => 5 | 80 => 94 | n => n, fun | n => n⟩
theorem Tryz.lays156 : Go.Proofs.Lays.n156 Tryz.prog Tryz.lays156_ren := {
  mixed := by kernel_rfl
  f156 := Tryz.func41.trans (congrArg some (by kernel_rfl))
  f165 := Tryz.func52.trans (congrArg some (by kernel_rfl))
  f166 := Tryz.func53.trans (congrArg some (by kernel_rfl))
  f169 := Tryz.func54.trans (congrArg some (by kernel_rfl))
  f240 := Tryz.func63.trans (congrArg some (by kernel_rfl))
  f241 := Tryz.func64.trans (congrArg some (by kernel_rfl))
  f276 := Tryz.func74.trans (congrArg some (by kernel_rfl))
  f277 := Tryz.func75.trans (congrArg some (by kernel_rfl))
  t0 := Tryz.underlying0
  a0 := Tryz.isAgg0
  z0 := Tryz.sizeOf0
  v0 := Tryz.zeroValue0
  t3 := Tryz.underlying3
  a3 := Tryz.isAgg3
  z3 := Tryz.sizeOf3
  v3 := Tryz.zeroValue3
  t4 := Tryz.underlying4
  a4 := Tryz.isAgg4
  z4 := Tryz.sizeOf4
  v4 := Tryz.zeroValue4
  t9 := Tryz.underlying9
  a9 := Tryz.isAgg9
  z9 := Tryz.sizeOf9
  v9 := Tryz.zeroValue9
  t20 := Tryz.underlying20
  a20 := Tryz.isAgg20
  z20 := Tryz.sizeOf20
  v20 := Tryz.zeroValue20
  t31 := Tryz.underlying55
  a31 := Tryz.isAgg55
  z31 := Tryz.sizeOf55
  v31 := Tryz.zeroValue55
  t37 := Tryz.underlying22
  a37 := Tryz.isAgg22
  z37 := Tryz.sizeOf22
  v37 := Tryz.zeroValue22
  t70 := Tryz.underlying90
  a70 := Tryz.isAgg90
  z70 := Tryz.sizeOf90
  v70 := Tryz.zeroValue90
  t72 := Tryz.underlying92
  a72 := Tryz.isAgg92
  z72 := Tryz.sizeOf92
  v72 := Tryz.zeroValue92
  t75 := Tryz.underlying80
  a75 := Tryz.isAgg80
  z75 := Tryz.sizeOf80
  v75 := Tryz.zeroValue80
  t76 := Tryz.underlying88
  a76 := Tryz.isAgg88
  z76 := Tryz.sizeOf88
  v76 := Tryz.zeroValue88
  t127 := Tryz.underlying109
  a127 := Tryz.isAgg109
  z127 := Tryz.sizeOf109
  v127 := Tryz.zeroValue109
  t164 := Tryz.underlying95
  a164 := Tryz.isAgg95
  z164 := Tryz.sizeOf95
  v164 := Tryz.zeroValue95 }
theorem Tryz.Builder_Extra_156 : Builder.Extra Tryz.prog Tryz.lays156_ren := {
  sizeBuilder := by kernel_rfl
  liesBuilder := by kernel_rfl
  t5 := Tryz.underlying5
  a5 := Tryz.isAgg5
  z5 := Tryz.sizeOf5
  v5 := Tryz.zeroValue5
  infoByte := by kernel_rfl
  cellsByte := by kernel_rfl
  sizeByte := by kernel_rfl
  neB5 := by decide }
theorem Tryz.strings_Join (bk o c : Nat) (xs : List ByteArray) (sep : ByteArray) (w : World) (hcells : ∀ (j : Nat) x, xs[j]? = some x → w.cell? ⟨bk, o + j, none⟩ = some (.string x)) (hbk : bk < w.heap.size) (hN : xs.length ≤ 140737488355328) (hcap : xs.length ≤ c) (hlen : (Lib.join (xs.map (·.data.toList)) sep.data.toList).length ≤ 140737488355328) :
    Calls Tryz.prog 41 #[.slice (some ⟨bk, o, none⟩) xs.length c, .string sep] w fun e w' => e = .returned (.string ⟨(Lib.join (xs.map (·.data.toList)) sep.data.toList).toArray⟩) ∧ Below w.heap.size w w' := Any.strings_Join Tryz.lays156 Tryz.Builder_Extra_156 bk o c xs sep w hcells hbk hN hcap hlen
def Tryz.laysM171_ren : Go.Shelf.Ren := ⟨fun | 171 => 42 | 243 => 55 | 246 => 65 | 283 => 76 | 284 => 77 | 285 => 78 | 286 => 79 | 129 => 84 | 317 => 83 | 318 => 85 | 319 => 86 | 320 => 87 | 337 => 90 | 338 => 91 | n => n, fun | 3 => 3 | 9 => 9 | 2 => 2 | 4 => 4 | 171 => 133 | 0 => 0 | 53 => 134 | 37 => 22 | 5 => 5 | 173 => 137 | 212 => 147 | 51 => 148 | 20 => 20 | 213 => 149 | 46 => 71 | 232 => 157 | 233 => 158 | n => n, fun | 17 => 4 | 18 => 5 | 19 => 6 | n => n⟩
theorem Tryz.laysM171 : Go.Proofs.LaysM.n171 Tryz.prog Tryz.laysM171_ren := {
  mixed := by kernel_rfl
  f129 := Tryz.func84.trans (congrArg some (by kernel_rfl))
  f171 := Tryz.func42.trans (congrArg some (by kernel_rfl))
  f243 := Tryz.func55.trans (congrArg some (by kernel_rfl))
  f246 := Tryz.func65.trans (congrArg some (by kernel_rfl))
  f283 := Tryz.func76.trans (congrArg some (by kernel_rfl))
  f284 := Tryz.func77.trans (congrArg some (by kernel_rfl))
  f285 := Tryz.func78.trans (congrArg some (by kernel_rfl))
  f286 := Tryz.func79.trans (congrArg some (by kernel_rfl))
  f317 := Tryz.func83.trans (congrArg some (by kernel_rfl))
  f318 := Tryz.func85.trans (congrArg some (by kernel_rfl))
  f319 := Tryz.func86.trans (congrArg some (by kernel_rfl))
  f320 := Tryz.func87.trans (congrArg some (by kernel_rfl))
  f337 := Tryz.func90.trans (congrArg some (by kernel_rfl))
  f338 := Tryz.func91.trans (congrArg some (by kernel_rfl))
  t0 := Tryz.underlying0
  a0 := Tryz.isAgg0
  z0 := Tryz.sizeOf0
  v0 := Tryz.zeroValue0
  t2 := Tryz.underlying2
  a2 := Tryz.isAgg2
  z2 := Tryz.sizeOf2
  v2 := Tryz.zeroValue2
  t3 := Tryz.underlying3
  a3 := Tryz.isAgg3
  z3 := Tryz.sizeOf3
  v3 := Tryz.zeroValue3
  t4 := Tryz.underlying4
  a4 := Tryz.isAgg4
  z4 := Tryz.sizeOf4
  v4 := Tryz.zeroValue4
  t5 := Tryz.underlying5
  a5 := Tryz.isAgg5
  z5 := Tryz.sizeOf5
  v5 := Tryz.zeroValue5
  t9 := Tryz.underlying9
  a9 := Tryz.isAgg9
  z9 := Tryz.sizeOf9
  v9 := Tryz.zeroValue9
  t20 := Tryz.underlying20
  a20 := Tryz.isAgg20
  z20 := Tryz.sizeOf20
  v20 := Tryz.zeroValue20
  t37 := Tryz.underlying22
  a37 := Tryz.isAgg22
  z37 := Tryz.sizeOf22
  v37 := Tryz.zeroValue22
  t46 := Tryz.underlying71
  a46 := Tryz.isAgg71
  z46 := Tryz.sizeOf71
  v46 := Tryz.zeroValue71
  t51 := Tryz.underlying148
  a51 := Tryz.isAgg148
  z51 := Tryz.sizeOf148
  v51 := Tryz.zeroValue148
  t53 := Tryz.underlying134
  a53 := Tryz.isAgg134
  z53 := Tryz.sizeOf134
  v53 := Tryz.zeroValue134
  t171 := Tryz.underlying133
  a171 := Tryz.isAgg133
  z171 := Tryz.sizeOf133
  v171 := Tryz.zeroValue133
  t173 := Tryz.underlying137
  a173 := Tryz.isAgg137
  z173 := Tryz.sizeOf137
  v173 := Tryz.zeroValue137
  t212 := Tryz.underlying147
  a212 := Tryz.isAgg147
  z212 := Tryz.sizeOf147
  v212 := Tryz.zeroValue147
  t213 := Tryz.underlying149
  a213 := Tryz.isAgg149
  z213 := Tryz.sizeOf149
  t232 := Tryz.underlying157
  a232 := Tryz.isAgg157
  z232 := Tryz.sizeOf157
  v232 := Tryz.zeroValue157
  t233 := Tryz.underlying158
  a233 := Tryz.isAgg158
  z233 := Tryz.sizeOf158
  v233 := Tryz.zeroValue158
  g17 := by kernel_rfl
  g18 := by kernel_rfl
  g19 := by kernel_rfl
  i0 := by kernel_rfl
  i2 := by kernel_rfl
  i3 := by kernel_rfl
  i4 := by kernel_rfl
  i5 := by kernel_rfl
  i9 := by kernel_rfl
  i20 := by kernel_rfl
  i37 := by kernel_rfl
  i46 := by kernel_rfl
  i51 := by kernel_rfl
  i53 := by kernel_rfl
  i171 := by kernel_rfl
  i173 := by kernel_rfl
  i212 := by kernel_rfl
  i232 := by kernel_rfl
  i233 := by kernel_rfl
  m17 := by kernel_rfl
  m18 := by kernel_rfl
  m19 := by kernel_rfl }
def Tryz.lays137_ren : Go.Shelf.Ren := ⟨fun | 137 => 39 | 217 => 50 | 266 => 60 | n => n, fun | 9 => 9 | 5 => 5 | 3 => 3 | n => n, fun | n => n⟩
theorem Tryz.lays137 : Go.Proofs.Lays.n137 Tryz.prog Tryz.lays137_ren := {
  mixed := by kernel_rfl
  f137 := Tryz.func39.trans (congrArg some (by kernel_rfl))
  f217 := Tryz.func50.trans (congrArg some (by kernel_rfl))
  f266 := Tryz.func60.trans (congrArg some (by kernel_rfl))
  t3 := Tryz.underlying3
  a3 := Tryz.isAgg3
  z3 := Tryz.sizeOf3
  v3 := Tryz.zeroValue3
  t5 := Tryz.underlying5
  a5 := Tryz.isAgg5
  z5 := Tryz.sizeOf5
  v5 := Tryz.zeroValue5
  t9 := Tryz.underlying9
  a9 := Tryz.isAgg9
  z9 := Tryz.sizeOf9
  v9 := Tryz.zeroValue9 }
def Tryz.laysC172_ren : Go.Shelf.Ren := ⟨fun | 172 => 51 | 244 => 61 | 245 => 62 | 247 => 69 | 279 => 70 | 280 => 71 | 281 => 72 | 282 => 73 | 287 => 80 | 316 => 81 | 171 => 42 | 205 => 82 | 321 => 88 | 322 => 89 | 243 => 55 | 246 => 65 | 283 => 76 | 284 => 77 | 285 => 78 | 286 => 79 | 129 => 84 | 317 => 83 | 318 => 85 | 319 => 86 | 320 => 87 | 337 => 90 | 338 => 91 | n => n, fun | 9 => 9 | 3 => 3 | 75 => 80 | 76 => 88 | 4 => 4 | 5 => 5 | 167 => 125 | 37 => 22 | 0 => 0 | 85 => 126 | 2 => 2 | 168 => 128 | 53 => 134 | 175 => 139 | 46 => 71 | 210 => 143 | 127 => 109 | 145 => 155 | 143 => 153 | 21 => 21 | 171 => 133 | 173 => 137 | 212 => 147 | 51 => 148 | 20 => 20 | 213 => 149 | 232 => 157 | 233 => 158 | 80 => 94 | n => n, fun | 15 => 2 | 16 => 3 | 17 => 4 | 18 => 5 | 19 => 6 | n => n⟩
theorem Tryz.laysC172 : Go.Proofs.LaysC.n172 Tryz.prog Tryz.laysC172_ren := {
  mixed := by kernel_rfl
  f129 := Tryz.func84.trans (congrArg some (by kernel_rfl))
  f171 := Tryz.func42.trans (congrArg some (by kernel_rfl))
  f172 := Tryz.func51.trans (congrArg some (by kernel_rfl))
  f205 := Tryz.func82.trans (congrArg some (by kernel_rfl))
  f243 := Tryz.func55.trans (congrArg some (by kernel_rfl))
  f244 := Tryz.func61.trans (congrArg some (by kernel_rfl))
  f245 := Tryz.func62.trans (congrArg some (by kernel_rfl))
  f246 := Tryz.func65.trans (congrArg some (by kernel_rfl))
  f247 := Tryz.func69.trans (congrArg some (by kernel_rfl))
  f279 := Tryz.func70.trans (congrArg some (by kernel_rfl))
  f280 := Tryz.func71.trans (congrArg some (by kernel_rfl))
  f281 := Tryz.func72.trans (congrArg some (by kernel_rfl))
  f282 := Tryz.func73.trans (congrArg some (by kernel_rfl))
  f283 := Tryz.func76.trans (congrArg some (by kernel_rfl))
  f284 := Tryz.func77.trans (congrArg some (by kernel_rfl))
  f285 := Tryz.func78.trans (congrArg some (by kernel_rfl))
  f286 := Tryz.func79.trans (congrArg some (by kernel_rfl))
  f287 := Tryz.func80.trans (congrArg some (by kernel_rfl))
  f316 := Tryz.func81.trans (congrArg some (by kernel_rfl))
  f317 := Tryz.func83.trans (congrArg some (by kernel_rfl))
  f318 := Tryz.func85.trans (congrArg some (by kernel_rfl))
  f319 := Tryz.func86.trans (congrArg some (by kernel_rfl))
  f320 := Tryz.func87.trans (congrArg some (by kernel_rfl))
  f321 := Tryz.func88.trans (congrArg some (by kernel_rfl))
  f322 := Tryz.func89.trans (congrArg some (by kernel_rfl))
  f337 := Tryz.func90.trans (congrArg some (by kernel_rfl))
  f338 := Tryz.func91.trans (congrArg some (by kernel_rfl))
  t0 := Tryz.underlying0
  a0 := Tryz.isAgg0
  z0 := Tryz.sizeOf0
  v0 := Tryz.zeroValue0
  t2 := Tryz.underlying2
  a2 := Tryz.isAgg2
  z2 := Tryz.sizeOf2
  v2 := Tryz.zeroValue2
  t3 := Tryz.underlying3
  a3 := Tryz.isAgg3
  z3 := Tryz.sizeOf3
  v3 := Tryz.zeroValue3
  t4 := Tryz.underlying4
  a4 := Tryz.isAgg4
  z4 := Tryz.sizeOf4
  v4 := Tryz.zeroValue4
  t5 := Tryz.underlying5
  a5 := Tryz.isAgg5
  z5 := Tryz.sizeOf5
  v5 := Tryz.zeroValue5
  t9 := Tryz.underlying9
  a9 := Tryz.isAgg9
  z9 := Tryz.sizeOf9
  v9 := Tryz.zeroValue9
  t20 := Tryz.underlying20
  a20 := Tryz.isAgg20
  z20 := Tryz.sizeOf20
  v20 := Tryz.zeroValue20
  t21 := Tryz.underlying21
  a21 := Tryz.isAgg21
  z21 := Tryz.sizeOf21
  v21 := Tryz.zeroValue21
  t37 := Tryz.underlying22
  a37 := Tryz.isAgg22
  z37 := Tryz.sizeOf22
  v37 := Tryz.zeroValue22
  t46 := Tryz.underlying71
  a46 := Tryz.isAgg71
  z46 := Tryz.sizeOf71
  v46 := Tryz.zeroValue71
  t51 := Tryz.underlying148
  a51 := Tryz.isAgg148
  z51 := Tryz.sizeOf148
  v51 := Tryz.zeroValue148
  t53 := Tryz.underlying134
  a53 := Tryz.isAgg134
  z53 := Tryz.sizeOf134
  v53 := Tryz.zeroValue134
  t75 := Tryz.underlying80
  a75 := Tryz.isAgg80
  z75 := Tryz.sizeOf80
  v75 := Tryz.zeroValue80
  t76 := Tryz.underlying88
  a76 := Tryz.isAgg88
  z76 := Tryz.sizeOf88
  v76 := Tryz.zeroValue88
  t85 := Tryz.underlying126
  a85 := Tryz.isAgg126
  z85 := Tryz.sizeOf126
  v85 := Tryz.zeroValue126
  t127 := Tryz.underlying109
  a127 := Tryz.isAgg109
  z127 := Tryz.sizeOf109
  v127 := Tryz.zeroValue109
  t143 := Tryz.underlying153
  a143 := Tryz.isAgg153
  z143 := Tryz.sizeOf153
  v143 := Tryz.zeroValue153
  t145 := Tryz.underlying155
  a145 := Tryz.isAgg155
  z145 := Tryz.sizeOf155
  v145 := Tryz.zeroValue155
  t167 := Tryz.underlying125
  a167 := Tryz.isAgg125
  z167 := Tryz.sizeOf125
  v167 := Tryz.zeroValue125
  t168 := Tryz.underlying128
  a168 := Tryz.isAgg128
  z168 := Tryz.sizeOf128
  v168 := Tryz.zeroValue128
  t171 := Tryz.underlying133
  a171 := Tryz.isAgg133
  z171 := Tryz.sizeOf133
  v171 := Tryz.zeroValue133
  t173 := Tryz.underlying137
  a173 := Tryz.isAgg137
  z173 := Tryz.sizeOf137
  v173 := Tryz.zeroValue137
  t175 := Tryz.underlying139
  a175 := Tryz.isAgg139
  z175 := Tryz.sizeOf139
  v175 := Tryz.zeroValue139
  t210 := Tryz.underlying143
  a210 := Tryz.isAgg143
  z210 := Tryz.sizeOf143
  v210 := Tryz.zeroValue143
  t212 := Tryz.underlying147
  a212 := Tryz.isAgg147
  z212 := Tryz.sizeOf147
  v212 := Tryz.zeroValue147
  t213 := Tryz.underlying149
  a213 := Tryz.isAgg149
  z213 := Tryz.sizeOf149
  t232 := Tryz.underlying157
  a232 := Tryz.isAgg157
  z232 := Tryz.sizeOf157
  v232 := Tryz.zeroValue157
  t233 := Tryz.underlying158
  a233 := Tryz.isAgg158
  z233 := Tryz.sizeOf158
  v233 := Tryz.zeroValue158
  g15 := by kernel_rfl
  g16 := by kernel_rfl
  g17 := by kernel_rfl
  g18 := by kernel_rfl
  g19 := by kernel_rfl
  t80 := Tryz.underlying94
  a80 := Tryz.isAgg94
  z80 := Tryz.sizeOf94
  v80 := Tryz.zeroValue94
  i0 := by kernel_rfl
  i2 := by kernel_rfl
  i3 := by kernel_rfl
  i4 := by kernel_rfl
  i5 := by kernel_rfl
  i9 := by kernel_rfl
  i20 := by kernel_rfl
  i21 := by kernel_rfl
  i37 := by kernel_rfl
  i46 := by kernel_rfl
  i51 := by kernel_rfl
  i53 := by kernel_rfl
  i75 := by kernel_rfl
  i76 := by kernel_rfl
  i80 := by kernel_rfl
  i85 := by kernel_rfl
  i127 := by kernel_rfl
  i143 := by kernel_rfl
  i145 := by kernel_rfl
  i167 := by kernel_rfl
  i168 := by kernel_rfl
  i171 := by kernel_rfl
  i173 := by kernel_rfl
  i175 := by kernel_rfl
  i210 := by kernel_rfl
  i212 := by kernel_rfl
  i232 := by kernel_rfl
  i233 := by kernel_rfl
  m15 := by kernel_rfl
  m16 := by kernel_rfl
  m17 := by kernel_rfl
  m18 := by kernel_rfl
  m19 := by kernel_rfl
  c0 := by kernel_rfl
  c2 := by kernel_rfl
  c3 := by kernel_rfl
  c4 := by kernel_rfl
  c5 := by kernel_rfl
  c9 := by kernel_rfl
  c20 := by kernel_rfl
  c21 := by kernel_rfl
  c37 := by kernel_rfl
  c46 := by kernel_rfl
  c51 := by kernel_rfl
  c53 := by kernel_rfl
  c75 := by kernel_rfl
  c76 := by kernel_rfl
  c80 := by kernel_rfl
  c85 := by kernel_rfl
  c127 := by kernel_rfl
  c143 := by kernel_rfl
  c145 := by kernel_rfl
  c167 := by kernel_rfl
  c168 := by kernel_rfl
  c171 := by kernel_rfl
  c173 := by kernel_rfl
  c175 := by kernel_rfl
  c210 := by kernel_rfl
  c212 := by kernel_rfl
  c213 := by kernel_rfl
  c232 := by kernel_rfl
  c233 := by kernel_rfl }
end Go.Proofs
namespace Go.Vi
open Go.Proofs Go.RowKit Go.Sort Go.Lib
set_option maxRecDepth 100000
set_option linter.unusedSimpArgs false
set_option linter.unusedVariables false
theorem below_grow (w : World) (k : Nat) (os : Array Obj) : Below w.heap.size w (grow (w.drewN k) os) :=
  ⟨rfl, rfl, rfl, by show w.heap.size ≤ (w.heap ++ os).size; simp, fun g hg => heap_grow_old w k os g hg⟩
theorem one_str {h : View} {s : List UInt8} {v : Value} (H : Rep h (.str s) v) : v = .string ⟨s.toArray⟩ ∧ s.length ≤ maxLen := by
  cases H with | str h => exact ⟨rfl, h⟩
theorem one_int {h : View} {k : IntKind} {n : Int} {v : Value} (H : Rep h (.int k n) v) : v = .int k n ∧ k.min ≤ n ∧ n ≤ k.max := by
  cases H with | int a b => exact ⟨rfl, a, b⟩
theorem args1 {h : View} {d : D} {vs : List Value} (H : DVRels h [.sc d] vs) : ∃ v, vs = [v] ∧ Rep h d v := by
  cases H with | cons a b =>
  cases b
  cases a with | sc a => exact ⟨_, rfl, a⟩
theorem args2 {h : View} {d e : D} {vs : List Value} (H : DVRels h [.sc d, .sc e] vs) : ∃ v u, vs = [v, u] ∧ Rep h d v ∧ Rep h e u := by
  cases H with | cons a b =>
  obtain ⟨u, rfl, hu⟩ := args1 b
  cases a with | sc a => exact ⟨_, u, rfl, a, hu⟩
/-- A function that returns flat data and leaves old memory alone. -/
theorem fc_flat {P : Program} {f : FuncId} {ds : List DV} {r : D} (H : ∀ (w : World) (A : Nat → Prop) (vs : List Value), GoodW w → DVRels (viewIn A w) ds vs → Calls P f vs.toArray w fun e w' => ∃ v, e = .returned v ∧ Below w.heap.size w w' ∧ ∀ h, Rep h r v) : FC P f ds [.sc (.v r)] := by
  intro w A vs hG hvs
  refine (H w A vs hG hvs).mono fun e w' h => ?_
  obtain ⟨v, he, hb, hr⟩ := h
  exact ⟨v, [none], he, hb, .one (.sc (.v (hr _))), by simp, fun i j b hi => by
    cases i with
    | zero => simp at hi
    | succ i => simp at hi⟩
theorem rows_str {h : View} {sz : Nat} : ∀ {l : List (List UInt8)} {vs : List Value}, RepRows h sz (List.map rS l) vs → ∀ (j : Nat) (x : List UInt8), l[j]? = some x → vs[j]? = some (.string ⟨x.toArray⟩)
  | [], _, _, j, x, hj => by simp at hj
  | y :: l, vs, .cons a b c, j, x, hj => by
    obtain rfl : sz = 1 := a.symm
    cases b with | @cons d v ds vs h1 h2 =>
    cases h1
    cases j with
    | zero => simp at hj; subst hj; rfl
    | succ j => simp only [List.getElem?_cons_succ] at hj ⊢; exact rows_str c j x hj
theorem bytes_back (l : List (List UInt8)) : (l.map fun s => (⟨s.toArray⟩ : ByteArray)).map (·.data.toList) = l := by
  induction l with
  | nil => rfl
  | cons a r ih => simp only [List.map_cons, ih]
theorem w_strings_Join (a0 : List (List UInt8)) (a1 : List UInt8) (r : List UInt8) (h : f_strings_Join a0 a1 = some r) : FC Tryz.prog 41 [.sc (.sl (List.map rS a0)), .sc (.str a1)] [.sc (.v (.str r))] := by
  unfold f_strings_Join at h
  split at h
  · rename_i hi
    cases h
    refine fc_flat fun w A vs hG hvs => ?_
    obtain ⟨v, u, rfl, hv, hu⟩ := args2 hvs
    obtain ⟨rfl, hl⟩ := one_str hu
    have hm : (join a0 a1).length ≤ maxLen := by unfold maxLen; omega
    have none_ : ∀ a c, a0 = [] → Calls Tryz.prog 41 #[.slice a 0 c, .string ⟨a1.toArray⟩] w fun e w' => ∃ v, e = .returned v ∧ Below w.heap.size w w' ∧ ∀ h, Rep h (.str (join a0 a1)) v := by
      intro a c h0
      subst h0
      refine (Any.strings_Join_none Tryz.lays156 Tryz.Builder_Extra_156 a c ⟨a1.toArray⟩ w).mono fun e w' h => ?_
      obtain ⟨he, rfl⟩ := h
      exact ⟨_, he, Below.refl _ _, fun h => .str (s := join [] a1) hm⟩
    have key : ∀ es, List.map rS a0 = es → Rep (viewIn A w) (.sl es) v → Calls Tryz.prog 41 #[v, .string ⟨a1.toArray⟩] w fun e w' => ∃ v, e = .returned v ∧ Below w.heap.size w w' ∧ ∀ h, Rep h (.str (join a0 a1)) v := by
      intro es hes hv
      cases hv with
      | nil => exact none_ _ _ (List.map_eq_nil_iff.1 hes)
      | @sl _ b C sz off cap len hC hz hrows hlen hcap hcm =>
        subst hes
        by_cases h0 : a0 = []
        · obtain rfl : len = 0 := by rw [hlen, h0]; rfl
          exact none_ _ _ h0
        · have hl0 : len = (a0.map fun s => (⟨s.toArray⟩ : ByteArray)).length := by simpa using hlen
          obtain ⟨_, cs, t, fr, hb, hcl⟩ := hC
          have hbw : b < w.heap.size := (Array.getElem?_eq_some_iff.1 hb).1
          subst hl0
          have hj : (a0.map fun s => (⟨s.toArray⟩ : ByteArray)).map (·.data.toList) = a0 := bytes_back a0
          have hN : (a0.map fun s => (⟨s.toArray⟩ : ByteArray)).length ≤ 140737488355328 := by rw [List.length_map]; exact hi.1
          have hJ : (join ((a0.map fun s => (⟨s.toArray⟩ : ByteArray)).map (·.data.toList)) (⟨a1.toArray⟩ : ByteArray).data.toList).length ≤ 140737488355328 := by rw [hj]; exact hi.2
          have hcells : ∀ (j : Nat) x, (a0.map fun s => (⟨s.toArray⟩ : ByteArray))[j]? = some x → w.cell? ⟨b, off + j, none⟩ = some (.string x) := by
            intro j x hx
            simp only [List.getElem?_map, Option.map_eq_some_iff] at hx
            obtain ⟨y, hy, rfl⟩ := hx
            have := rows_str hrows j y hy
            rw [List.getElem?_drop, ← hcl] at this
            unfold World.cell?
            simpa [hb] using this
          have c := Tryz.strings_Join b off cap (a0.map fun s => (⟨s.toArray⟩ : ByteArray)) ⟨a1.toArray⟩ w hcells hbw hN hcap hJ
          refine c.mono fun e w' h => ?_
          rw [hj] at h
          obtain ⟨he, hw⟩ := h
          exact ⟨_, he, hw, fun h => .str hm⟩
    exact key _ rfl hv
  · cases h
theorem w_strconv_Itoa (a0 : Int) (r : List UInt8) (h : f_strconv_Itoa a0 = some r) : FC Tryz.prog 42 [.sc (.int .i64 a0)] [.sc (.v (.str r))] := by
  unfold f_strconv_Itoa at h
  split at h
  · rename_i hi
    cases h
    refine fc_flat fun w A vs hG hvs => ?_
    obtain ⟨v, rfl, hv⟩ := args1 hvs
    obtain ⟨rfl, _⟩ := one_int hv
    refine (Any.strconv_Itoa Tryz.laysM171 a0 hi.1 hi.2 w hG.1).mono fun e w' h => ?_
    obtain ⟨he, k, os, rfl⟩ := h
    have := itoa_len hi
    exact ⟨_, he, below_grow w k os, fun h => .str (by unfold maxLen; omega)⟩
  · cases h
theorem ix_le (l : List UInt8) (c : UInt8) : indexByte l c ≤ l.length := by
  induction l with
  | nil => simp [indexByte]
  | cons b l ih =>
    unfold indexByte
    simp only [List.length_cons]
    split
    · omega
    · split <;> omega
theorem w_strings_IndexByte (a0 : List UInt8) (a1 : Int) (r : Int) (h : f_strings_IndexByte a0 a1 = some r) : FC Tryz.prog 39 [.sc (.str a0), .sc (.int .u8 a1)] [.sc (.v (.int .i64 r))] := by
  unfold f_strings_IndexByte at h
  cases h
  refine fc_flat fun w A vs hG hvs => ?_
  obtain ⟨v, u, rfl, hv, hu⟩ := args2 hvs
  obtain ⟨rfl, hl⟩ := one_str hv
  obtain ⟨rfl, _⟩ := one_int hu
  refine (Any.strings_IndexByte Tryz.lays137 ⟨a0.toArray⟩ a1 w).mono fun e w' h => ?_
  obtain ⟨he, rfl⟩ := h
  have h1 := indexByte_ge a0 a1.toNat.toUInt8
  have h2 := ix_le a0 a1.toNat.toUInt8
  unfold maxLen at hl
  exact ⟨_, he, Below.refl _ _, fun h => .int (by show (-9223372036854775808 : Int) ≤ _; omega) (by show _ ≤ (9223372036854775807 : Int); omega)⟩
theorem below_two {w w1 w2 : World} (h1 : Below w.heap.size w w1) (h2 : Below w1.heap.size w1 w2) : Below w.heap.size w w2 := h1.trans (h2.mono h1.size)
theorem c_Atoi_ok (s : ByteArray) (hmax : s.size ≤ 9223372036854775806) (v : Int) (h : Lib.atoiAll s.data.toList = .ok v) (w : World) :
    Calls Tryz.prog 51 #[.string s] w fun e w' => e = .returned (.tuple #[.int .i64 v, .nilIface]) ∧ Below w.heap.size w w' := by
  refine (Any.strconv_Atoi_ok Tryz.laysC172 s hmax v h w).mono fun e w' h => ?_
  obtain ⟨he, rfl | ⟨t, rfl⟩⟩ := h
  · exact ⟨he, Below.refl _ _⟩
  · exact ⟨he, Lib.bytesWorld_below _ _ _⟩
theorem c_Atoi_bad (s : ByteArray) (hlim : s.size ≤ 281474976710656) (h : ∀ v, Lib.atoiAll s.data.toList ≠ .ok v) (w : World) (hG : GoodW w) :
    Calls Tryz.prog 51 #[.string s] w fun e w' => ∃ n te p, e = .returned (.tuple #[.int .i64 n, .iface te p]) ∧ Below w.heap.size w w' := by
  obtain ⟨_, ⟨⟨tp, p, hv⟩, ⟨tq, q, hu⟩⟩, _⟩ := hG
  cases hh : Lib.atoiAll s.data.toList with
  | ok v => exact absurd hh (h v)
  | range =>
    refine (Any.strconv_Atoi_range_var Tryz.laysC172 s hlim hh tq q w hu).mono fun e w' h => ?_
    obtain ⟨N, he, _, _, hb⟩ := h
    exact ⟨_, _, _, he, hb⟩
  | _ =>
    refine (Any.strconv_Atoi_syntax_var Tryz.laysC172 s hlim hh tp p w hv).mono fun e w' h => ?_
    obtain ⟨N, he, _, _, hb⟩ := h
    exact ⟨_, _, _, he, hb⟩
theorem c_Itoa (n : Int) (h0 : -9223372036854775808 ≤ n) (h1 : n ≤ 9223372036854775807) (w : World) (hG : GoodW w) :
    Calls Tryz.prog 42 #[.int .i64 n] w fun e w' => e = .returned (.string ⟨(Lib.itoa n).toArray⟩) ∧ Below w.heap.size w w' := by
  refine (Any.strconv_Itoa Tryz.laysM171 n h0 h1 w hG.1).mono fun e w' h => ?_
  obtain ⟨he, k, os, rfl⟩ := h
  exact ⟨he, below_grow w k os⟩
theorem parse_ok (s : ByteArray) (hlim : s.size ≤ 281474976710656) (n : Int) (h0 : -9223372036854775808 ≤ n) (h1 : n ≤ 9223372036854775807) (h : Lib.atoiAll s.data.toList = .ok n) (w : World) (hG : GoodW w) :
    Calls Tryz.prog 40 #[.string s] w fun e w' => e = .returned (.tuple #[.int .i64 (if (itoa n == s.toList) = true then n else 0), .bool (itoa n == s.toList)]) ∧ Below w.heap.size w w' := by
  go_enter Tryz.func40, Tryz.ntmps40
  go_wp2_with (go_at_call 51; refine (c_Atoi_ok s (by omega) n h _).mono ?_; rintro e w1 ⟨rfl, hb1⟩)
  go_wp2_with (go_at_call 42; refine (c_Itoa n h0 h1 _ (hG.below hb1)).mono ?_; rintro e w2 ⟨rfl, hb2⟩)
  all_goals
    rename_i hq
    go_ret2
    refine ⟨?_, below_two hb1 hb2⟩
    simp_all
theorem parse_bad (s : ByteArray) (hlim : s.size ≤ 281474976710656) (h : ∀ v, Lib.atoiAll s.data.toList ≠ .ok v) (w : World) (hG : GoodW w) :
    Calls Tryz.prog 40 #[.string s] w fun e w' => e = .returned (.tuple #[.int .i64 0, .bool false]) ∧ Below w.heap.size w w' := by
  go_enter Tryz.func40, Tryz.ntmps40
  go_wp2_with (go_at_call 51; refine (c_Atoi_bad s hlim h _ hG).mono ?_; rintro e w1 ⟨n, te, p, rfl, hb1⟩)
  all_goals
    go_ret2
    exact ⟨rfl, hb1⟩
theorem w_impl_ParseInt (a0 : List UInt8) (r : Int × Bool) (h : f_impl_ParseInt a0 = some r) : FC Tryz.prog 40 [.sc (.str a0)] [.sc (.v (.int .i64 r.1)), .sc (.v (.bool r.2))] := by
  unfold f_impl_ParseInt at h
  split at h
  · rename_i hl
    cases h
    intro w A vs hG hvs
    obtain ⟨v, rfl, hv⟩ := args1 hvs
    obtain ⟨rfl, _⟩ := one_str hv
    have hsz : (⟨a0.toArray⟩ : ByteArray).size ≤ 281474976710656 := by simpa [ByteArray.size] using hl
    have fin : ∀ (e : Ending) (w' : World), e = .returned (.tuple #[.int .i64 (parseN a0).1, .bool (parseN a0).2]) → Below w.heap.size w w' → ∃ (v : Value) (bs : List (Option Nat)), e = .returned v ∧ Below w.heap.size w w' ∧ RRel (viewIn (fun b => some b ∉ bs ∧ (w.heap.size ≤ b ∨ A b)) w') w' [.sc (.v (.int .i64 (parseN a0).1)), .sc (.v (.bool (parseN a0).2))] v bs ∧
        (∀ b, some b ∈ bs → w.heap.size ≤ b ∧ b < w'.heap.size) ∧ (∀ (i j b : Nat), bs[i]? = some (some b) → bs[j]? = some (some b) → i = j) := by
      intro e w' he hb
      have hi := parseN_i64 a0
      refine ⟨_, [none] ++ ([none] ++ []), he, hb, .many (by simp) (.cons (.sc (.v (.int hi.1 hi.2))) (.cons (.sc (.v .bool)) .nil)), by simp, fun i j b hi => ?_⟩
      rcases i with _ | _ | i <;> simp at hi
    cases hh : Lib.atoiAll a0 with
    | ok n =>
      obtain ⟨h0, h1⟩ := atoiAll_i64 hh
      refine (parse_ok ⟨a0.toArray⟩ hsz n h0 h1 hh w hG).mono fun e w' h => ?_
      refine fin e w' (h.1.trans ?_) h.2
      have e2 : (⟨a0.toArray⟩ : ByteArray).toList = a0 := by simp
      rw [e2]
      simp only [parseN, hh]
      by_cases hq : itoa n = a0 <;> simp [hq]
    | _ =>
      refine (parse_bad ⟨a0.toArray⟩ hsz (fun v hv => by rw [show (⟨a0.toArray⟩ : ByteArray).data.toList = a0 from rfl, hh] at hv; cases hv) w hG).mono fun e w' h => ?_
      refine fin e w' (h.1.trans ?_) h.2
      simp only [parseN, hh]
  · cases h
end Go.Vi
