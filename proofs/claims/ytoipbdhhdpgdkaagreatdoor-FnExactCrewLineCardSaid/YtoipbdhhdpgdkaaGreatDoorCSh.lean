/-
  Contracts of functions of Go's library at the value level, out of the library's proved contracts. No condition.
-/
import Derived.Test.YtoipbdhhdpgdkaaGreatDoorCVi33
import Derived.Test.YtoipbdhhdpgdkaaGreatDoorCLa
import Derived.Test.YtoipbdhhdpgdkaaGreatDoorProg
import Derived.KernelRfl
import Derived.Shelf.Strconv.Itoa3
import Derived.Shelf.LaysM
import Derived.Shelf.Strings.OnBuilder
import Derived.WalkKit
import Derived.BigCall
import Derived.Lib.AppendIntMem
namespace Go.Proofs
open Go.Shelf Go.RowKit
set_option maxRecDepth 100000
def Tryz.laysM171_ren : Go.Shelf.Ren := ⟨fun | 171 => 132 | 243 => 145 | 246 => 152 | 283 => 155 | 284 => 156 | 285 => 157 | 286 => 158 | 129 => 151 | 317 => 159 | 318 => 160 | 319 => 161 | 320 => 162 | 337 => 163 | 338 => 164 | n => n,fun | 3 => 3 | 9 => 9 | 2 => 2 | 4 => 4 | 171 => 228 | 0 => 0 | 53 => 223 | 37 => 109 | 5 => 5 | 173 => 230 | 212 => 234 | 51 => 221 | 20 => 20 | 213 => 235 | 46 => 212 | 232 => 236 | 233 => 237 | n => n,fun | 17 => 1 | 18 => 2 | 19 => 3 | n => n⟩
theorem Tryz.laysM171 : Go.Proofs.LaysM.n171 Tryz.prog Tryz.laysM171_ren := {
 mixed := by kernel_rfl
 f129 := Tryz.func151.trans (congrArg some (by kernel_rfl))
 f171 := Tryz.func132.trans (congrArg some (by kernel_rfl))
 f243 := Tryz.func145.trans (congrArg some (by kernel_rfl))
 f246 := Tryz.func152.trans (congrArg some (by kernel_rfl))
 f283 := Tryz.func155.trans (congrArg some (by kernel_rfl))
 f284 := Tryz.func156.trans (congrArg some (by kernel_rfl))
 f285 := Tryz.func157.trans (congrArg some (by kernel_rfl))
 f286 := Tryz.func158.trans (congrArg some (by kernel_rfl))
 f317 := Tryz.func159.trans (congrArg some (by kernel_rfl))
 f318 := Tryz.func160.trans (congrArg some (by kernel_rfl))
 f319 := Tryz.func161.trans (congrArg some (by kernel_rfl))
 f320 := Tryz.func162.trans (congrArg some (by kernel_rfl))
 f337 := Tryz.func163.trans (congrArg some (by kernel_rfl))
 f338 := Tryz.func164.trans (congrArg some (by kernel_rfl))
 t0 := Tryz.underlying0
 a0 := Tryz.isAgg0
 z0 := Tryz.sizeOf0
 v0 := Tryz.zeroValue0
 t2 := Tryz.underlying2
 a2 := Tryz.isAgg2
 z2 := Tryz.sizeOf2
 v2 := Tryz.zeroValue2
 t3 := Tryz.underlying3
 a3 := Tryz.isAgg3
 z3 := Tryz.sizeOf3
 v3 := Tryz.zeroValue3
 t4 := Tryz.underlying4
 a4 := Tryz.isAgg4
 z4 := Tryz.sizeOf4
 v4 := Tryz.zeroValue4
 t5 := Tryz.underlying5
 a5 := Tryz.isAgg5
 z5 := Tryz.sizeOf5
 v5 := Tryz.zeroValue5
 t9 := Tryz.underlying9
 a9 := Tryz.isAgg9
 z9 := Tryz.sizeOf9
 v9 := Tryz.zeroValue9
 t20 := Tryz.underlying20
 a20 := Tryz.isAgg20
 z20 := Tryz.sizeOf20
 v20 := Tryz.zeroValue20
 t37 := Tryz.underlying109
 a37 := Tryz.isAgg109
 z37 := Tryz.sizeOf109
 v37 := Tryz.zeroValue109
 t46 := Tryz.underlying212
 a46 := Tryz.isAgg212
 z46 := Tryz.sizeOf212
 v46 := Tryz.zeroValue212
 t51 := Tryz.underlying221
 a51 := Tryz.isAgg221
 z51 := Tryz.sizeOf221
 v51 := Tryz.zeroValue221
 t53 := Tryz.underlying223
 a53 := Tryz.isAgg223
 z53 := Tryz.sizeOf223
 v53 := Tryz.zeroValue223
 t171 := Tryz.underlying228
 a171 := Tryz.isAgg228
 z171 := Tryz.sizeOf228
 v171 := Tryz.zeroValue228
 t173 := Tryz.underlying230
 a173 := Tryz.isAgg230
 z173 := Tryz.sizeOf230
 v173 := Tryz.zeroValue230
 t212 := Tryz.underlying234
 a212 := Tryz.isAgg234
 z212 := Tryz.sizeOf234
 v212 := Tryz.zeroValue234
 t213 := Tryz.underlying235
 a213 := Tryz.isAgg235
 z213 := Tryz.sizeOf235
 t232 := Tryz.underlying236
 a232 := Tryz.isAgg236
 z232 := Tryz.sizeOf236
 v232 := Tryz.zeroValue236
 t233 := Tryz.underlying237
 a233 := Tryz.isAgg237
 z233 := Tryz.sizeOf237
 v233 := Tryz.zeroValue237
 g17 := by kernel_rfl
 g18 := by kernel_rfl
 g19 := by kernel_rfl
 i0 := by kernel_rfl
 i2 := by kernel_rfl
 i3 := by kernel_rfl
 i4 := by kernel_rfl
 i5 := by kernel_rfl
 i9 := by kernel_rfl
 i20 := by kernel_rfl
 i37 := by kernel_rfl
 i46 := by kernel_rfl
 i51 := by kernel_rfl
 i53 := by kernel_rfl
 i171 := by kernel_rfl
 i173 := by kernel_rfl
 i212 := by kernel_rfl
 i232 := by kernel_rfl
 i233 := by kernel_rfl
 m17 := by kernel_rfl
 m18 := by kernel_rfl
 m19 := by kernel_rfl }
def Tryz.lays156_ren : Go.Shelf.Ren := ⟨fun | 156 => 113 | 165 => 133 | 166 => 134 | 169 => 135 | 240 => 146 | 241 => 147 | 276 => 153 | 277 => 154 | n => n,fun | 31 => 131 | 9 => 9 | 3 => 3 | 4 => 4 | 0 => 0 | 20 => 20 | 72 => 204 | 76 => 208 | 70 => 202 | 37 => 109 | 75 => 207 | 127 => 218 | 164 => 225 | 5 => 5 | 80 => 210 | n => n,fun | n => n⟩
theorem Tryz.lays156 : Go.Proofs.Lays.n156 Tryz.prog Tryz.lays156_ren := {
 mixed := by kernel_rfl
 f156 := Tryz.func113.trans (congrArg some (by kernel_rfl))
 f165 := Tryz.func133.trans (congrArg some (by kernel_rfl))
 f166 := Tryz.func134.trans (congrArg some (by kernel_rfl))
 f169 := Tryz.func135.trans (congrArg some (by kernel_rfl))
 f240 := Tryz.func146.trans (congrArg some (by kernel_rfl))
 f241 := Tryz.func147.trans (congrArg some (by kernel_rfl))
 f276 := Tryz.func153.trans (congrArg some (by kernel_rfl))
 f277 := Tryz.func154.trans (congrArg some (by kernel_rfl))
 t0 := Tryz.underlying0
 a0 := Tryz.isAgg0
 z0 := Tryz.sizeOf0
 v0 := Tryz.zeroValue0
 t3 := Tryz.underlying3
 a3 := Tryz.isAgg3
 z3 := Tryz.sizeOf3
 v3 := Tryz.zeroValue3
 t4 := Tryz.underlying4
 a4 := Tryz.isAgg4
 z4 := Tryz.sizeOf4
 v4 := Tryz.zeroValue4
 t9 := Tryz.underlying9
 a9 := Tryz.isAgg9
 z9 := Tryz.sizeOf9
 v9 := Tryz.zeroValue9
 t20 := Tryz.underlying20
 a20 := Tryz.isAgg20
 z20 := Tryz.sizeOf20
 v20 := Tryz.zeroValue20
 t31 := Tryz.underlying131
 a31 := Tryz.isAgg131
 z31 := Tryz.sizeOf131
 v31 := Tryz.zeroValue131
 t37 := Tryz.underlying109
 a37 := Tryz.isAgg109
 z37 := Tryz.sizeOf109
 v37 := Tryz.zeroValue109
 t70 := Tryz.underlying202
 a70 := Tryz.isAgg202
 z70 := Tryz.sizeOf202
 v70 := Tryz.zeroValue202
 t72 := Tryz.underlying204
 a72 := Tryz.isAgg204
 z72 := Tryz.sizeOf204
 v72 := Tryz.zeroValue204
 t75 := Tryz.underlying207
 a75 := Tryz.isAgg207
 z75 := Tryz.sizeOf207
 v75 := Tryz.zeroValue207
 t76 := Tryz.underlying208
 a76 := Tryz.isAgg208
 z76 := Tryz.sizeOf208
 v76 := Tryz.zeroValue208
 t127 := Tryz.underlying218
 a127 := Tryz.isAgg218
 z127 := Tryz.sizeOf218
 v127 := Tryz.zeroValue218
 t164 := Tryz.underlying225
 a164 := Tryz.isAgg225
 z164 := Tryz.sizeOf225
 v164 := Tryz.zeroValue225 }
theorem Tryz.Builder_Extra_156 : Builder.Extra Tryz.prog Tryz.lays156_ren := {
 sizeBuilder := by kernel_rfl
 liesBuilder := by kernel_rfl
 t5 := Tryz.underlying5
 a5 := Tryz.isAgg5
 z5 := Tryz.sizeOf5
 v5 := Tryz.zeroValue5
 infoByte := by kernel_rfl
 cellsByte := by kernel_rfl
 sizeByte := by kernel_rfl
 neB5 := by decide }
theorem Tryz.strings_Join (bk o c : Nat) (xs : List ByteArray) (sep : ByteArray) (w : World) (hcells : ∀ (j : Nat) x,xs[j]? = some x → w.cell? ⟨bk,o + j,none⟩ = some (.string x)) (hbk : bk < w.heap.size) (hN : xs.length ≤ 140737488355328) (hcap : xs.length ≤ c) (hlen : (Lib.join (xs.map (·.data.toList)) sep.data.toList).length ≤ 140737488355328) :
  Calls Tryz.prog 113 #[.slice (some ⟨bk,o,none⟩) xs.length c,.string sep] w fun e w' => e = .returned (.string ⟨(Lib.join (xs.map (·.data.toList)) sep.data.toList).toArray⟩) ∧ Below w.heap.size w w' := Any.strings_Join Tryz.lays156 Tryz.Builder_Extra_156 bk o c xs sep w hcells hbk hN hcap hlen
end Go.Proofs
namespace Go.Vi
open Go.Proofs Go.RowKit Go.Sort Go.Lib
set_option maxRecDepth 100000
set_option linter.unusedSimpArgs false
set_option linter.unusedVariables false
theorem below_grow (w : World) (k : Nat) (os : Array Obj) : Below w.heap.size w (grow (w.drewN k) os) :=
 ⟨rfl,rfl,rfl,by show w.heap.size ≤ (w.heap ++ os).size; simp,fun g hg => heap_grow_old w k os g hg⟩
theorem one_str {h : View} {s : List UInt8} {v : Value} (H : Rep h (.str s) v) : v = .string ⟨s.toArray⟩ ∧ s.length ≤ maxLen := by
 cases H with | str h => exact ⟨rfl,h⟩
theorem one_int {h : View} {k : IntKind} {n : Int} {v : Value} (H : Rep h (.int k n) v) : v = .int k n ∧ k.min ≤ n ∧ n ≤ k.max := by
 cases H with | int a b => exact ⟨rfl,a,b⟩
theorem args1 {h : View} {d : D} {vs : List Value} (H : DVRels h [.sc d] vs) : ∃ v,vs = [v] ∧ Rep h d v := by
 cases H with | cons a b =>
 cases b
 cases a with | sc a => exact ⟨_,rfl,a⟩
theorem args2 {h : View} {d e : D} {vs : List Value} (H : DVRels h [.sc d,.sc e] vs) : ∃ v u,vs = [v,u] ∧ Rep h d v ∧ Rep h e u := by
 cases H with | cons a b =>
 obtain ⟨u,rfl,hu⟩ := args1 b
 cases a with | sc a => exact ⟨_,u,rfl,a,hu⟩
theorem fc_flat {P : Program} {f : FuncId} {ds : List DV} {r : D} (H : ∀ (w : World) (A : Nat → Prop) (vs : List Value),GoodW w → DVRels (viewIn A w) ds vs → Calls P f vs.toArray w fun e w' => ∃ v,e = .returned v ∧ Below w.heap.size w w' ∧ ∀ h,Rep h r v) : FC P f ds [.sc (.v r)] := by
 intro w A vs hG hvs
 refine (H w A vs hG hvs).mono fun e w' h => ?_
 obtain ⟨v,he,hb,hr⟩ := h
 exact ⟨v,[none],he,hb,.one (.sc (.v (hr _))),by simp,fun i j b hi => by
  cases i with
  | zero => simp at hi
  | succ i => simp at hi⟩
theorem w_strconv_Itoa (a0 : Int) (r : List UInt8) (h : f_strconv_Itoa a0 = some r) : FC Tryz.prog 132 [.sc (.int .i64 a0)] [.sc (.v (.str r))] := by
 unfold f_strconv_Itoa at h
 split at h
 ·rename_i hi
  cases h
  refine fc_flat fun w A vs hG hvs => ?_
  obtain ⟨v,rfl,hv⟩ := args1 hvs
  obtain ⟨rfl,_⟩ := one_int hv
  refine (Any.strconv_Itoa Tryz.laysM171 a0 hi.1 hi.2 w hG.1).mono fun e w' h => ?_
  obtain ⟨he,k,os,rfl⟩ := h
  have := itoa_len hi
  exact ⟨_,he,below_grow w k os,fun h => .str (by unfold maxLen; omega)⟩
 ·cases h
theorem rows_str {h : View} {sz : Nat} : ∀ {l : List (List UInt8)} {vs : List Value},RepRows h sz (List.map rS l) vs → ∀ (j : Nat) (x : List UInt8),l[j]? = some x → vs[j]? = some (.string ⟨x.toArray⟩)
 | [],_,_,j,x,hj => by simp at hj
 | y :: l,vs,.cons a b c,j,x,hj => by
  obtain rfl : sz = 1 := a.symm
  cases b with | @cons d v ds vs h1 h2 =>
  cases h1
  cases j with
  | zero => simp at hj; subst hj; rfl
  | succ j => simp only [List.getElem?_cons_succ] at hj ⊢; exact rows_str c j x hj
theorem bytes_back (l : List (List UInt8)) : (l.map fun s => (⟨s.toArray⟩ : ByteArray)).map (·.data.toList) = l := by
 induction l with
 | nil => rfl
 | cons a r ih => simp only [List.map_cons,ih]
theorem w_strings_Join (a0 : List (List UInt8)) (a1 : List UInt8) (r : List UInt8) (h : f_strings_Join a0 a1 = some r) : FC Tryz.prog 113 [.sc (.sl (List.map rS a0)),.sc (.str a1)] [.sc (.v (.str r))] := by
 unfold f_strings_Join at h
 split at h
 ·rename_i hi
  cases h
  refine fc_flat fun w A vs hG hvs => ?_
  obtain ⟨v,u,rfl,hv,hu⟩ := args2 hvs
  obtain ⟨rfl,hl⟩ := one_str hu
  have hm : (join a0 a1).length ≤ maxLen := by unfold maxLen; omega
  have none_ : ∀ a c,a0 = [] → Calls Tryz.prog 113 #[.slice a 0 c,.string ⟨a1.toArray⟩] w fun e w' => ∃ v,e = .returned v ∧ Below w.heap.size w w' ∧ ∀ h,Rep h (.str (join a0 a1)) v := by
   intro a c h0
   subst h0
   refine (Any.strings_Join_none Tryz.lays156 Tryz.Builder_Extra_156 a c ⟨a1.toArray⟩ w).mono fun e w' h => ?_
   obtain ⟨he,rfl⟩ := h
   exact ⟨_,he,Below.refl _ _,fun h => .str (s := join [] a1) hm⟩
  have key : ∀ es,List.map rS a0 = es → Rep (viewIn A w) (.sl es) v → Calls Tryz.prog 113 #[v,.string ⟨a1.toArray⟩] w fun e w' => ∃ v,e = .returned v ∧ Below w.heap.size w w' ∧ ∀ h,Rep h (.str (join a0 a1)) v := by
   intro es hes hv
   cases hv with
   | nil => exact none_ _ _ (List.map_eq_nil_iff.1 hes)
   | @sl _ b C sz off cap len hC hz hrows hlen hcap hcm =>
    subst hes
    by_cases h0 : a0 = []
    ·obtain rfl : len = 0 := by rw [hlen,h0]; rfl
     exact none_ _ _ h0
    ·have hl0 : len = (a0.map fun s => (⟨s.toArray⟩ : ByteArray)).length := by simpa using hlen
     obtain ⟨_,cs,t,fr,hb,hcl⟩ := hC
     have hbw : b < w.heap.size := (Array.getElem?_eq_some_iff.1 hb).1
     subst hl0
     have hj : (a0.map fun s => (⟨s.toArray⟩ : ByteArray)).map (·.data.toList) = a0 := bytes_back a0
     have hN : (a0.map fun s => (⟨s.toArray⟩ : ByteArray)).length ≤ 140737488355328 := by rw [List.length_map]; exact hi.1
     have hJ : (join ((a0.map fun s => (⟨s.toArray⟩ : ByteArray)).map (·.data.toList)) (⟨a1.toArray⟩ : ByteArray).data.toList).length ≤ 140737488355328 := by rw [hj]; exact hi.2
     have hcells : ∀ (j : Nat) x,(a0.map fun s => (⟨s.toArray⟩ : ByteArray))[j]? = some x → w.cell? ⟨b,off + j,none⟩ = some (.string x) := by
      intro j x hx
      simp only [List.getElem?_map,Option.map_eq_some_iff] at hx
      obtain ⟨y,hy,rfl⟩ := hx
      have := rows_str hrows j y hy
      rw [List.getElem?_drop,← hcl] at this
      unfold World.cell?
      simpa [hb] using this
     have c := Tryz.strings_Join b off cap (a0.map fun s => (⟨s.toArray⟩ : ByteArray)) ⟨a1.toArray⟩ w hcells hbw hN hcap hJ
     refine c.mono fun e w' h => ?_
     rw [hj] at h
     obtain ⟨he,hw⟩ := h
     exact ⟨_,he,hw,fun h => .str hm⟩
  exact key _ rfl hv
 ·cases h
end Go.Vi
