/-
  Contracts of functions of Go's library at the value level, out of the library's proved contracts. No condition.
-/
import Derived.Test.YtahienmgcfgclaaDoorSVi33
import Derived.Test.YtahienmgcfgclaaDoorSLa
import Derived.Test.YtahienmgcfgclaaDoorProg
import Derived.KernelRfl
import Derived.Shelf.Strconv.Itoa3
import Derived.Shelf.LaysM
import Derived.Shelf.Strings.OnBuilder
import Derived.WalkKit
import Derived.BigCall
import Derived.Lib.AppendIntMem
namespace Go.Proofs
open Go.Shelf Go.RowKit
set_option maxRecDepth 100000
def Tryd.laysM171_ren : Go.Shelf.Ren := ⟨fun | 171 => 27 | 243 => 33 | 246 => 41 | 283 => 47 | 284 => 48 | 285 => 49 | 286 => 50 | 129 => 56 | 317 => 55 | 318 => 57 | 319 => 58 | 320 => 59 | 337 => 61 | 338 => 62 | n => n,fun | 3 => 3 | 9 => 9 | 2 => 2 | 4 => 4 | 171 => 86 | 0 => 0 | 53 => 87 | 37 => 51 | 5 => 5 | 173 => 90 | 212 => 100 | 51 => 101 | 20 => 20 | 213 => 102 | 46 => 104 | 232 => 108 | 233 => 109 | n => n,fun | 17 => 0 | 18 => 2 | 19 => 3 | n => n⟩
theorem Tryd.laysM171 : Go.Proofs.LaysM.n171 Tryd.prog Tryd.laysM171_ren := {
 mixed := by kernel_rfl
 f129 := Tryd.func56.trans (congrArg some (by kernel_rfl))
 f171 := Tryd.func27.trans (congrArg some (by kernel_rfl))
 f243 := Tryd.func33.trans (congrArg some (by kernel_rfl))
 f246 := Tryd.func41.trans (congrArg some (by kernel_rfl))
 f283 := Tryd.func47.trans (congrArg some (by kernel_rfl))
 f284 := Tryd.func48.trans (congrArg some (by kernel_rfl))
 f285 := Tryd.func49.trans (congrArg some (by kernel_rfl))
 f286 := Tryd.func50.trans (congrArg some (by kernel_rfl))
 f317 := Tryd.func55.trans (congrArg some (by kernel_rfl))
 f318 := Tryd.func57.trans (congrArg some (by kernel_rfl))
 f319 := Tryd.func58.trans (congrArg some (by kernel_rfl))
 f320 := Tryd.func59.trans (congrArg some (by kernel_rfl))
 f337 := Tryd.func61.trans (congrArg some (by kernel_rfl))
 f338 := Tryd.func62.trans (congrArg some (by kernel_rfl))
 t0 := Tryd.underlying0
 a0 := Tryd.isAgg0
 z0 := Tryd.sizeOf0
 v0 := Tryd.zeroValue0
 t2 := Tryd.underlying2
 a2 := Tryd.isAgg2
 z2 := Tryd.sizeOf2
 v2 := Tryd.zeroValue2
 t3 := Tryd.underlying3
 a3 := Tryd.isAgg3
 z3 := Tryd.sizeOf3
 v3 := Tryd.zeroValue3
 t4 := Tryd.underlying4
 a4 := Tryd.isAgg4
 z4 := Tryd.sizeOf4
 v4 := Tryd.zeroValue4
 t5 := Tryd.underlying5
 a5 := Tryd.isAgg5
 z5 := Tryd.sizeOf5
 v5 := Tryd.zeroValue5
 t9 := Tryd.underlying9
 a9 := Tryd.isAgg9
 z9 := Tryd.sizeOf9
 v9 := Tryd.zeroValue9
 t20 := Tryd.underlying20
 a20 := Tryd.isAgg20
 z20 := Tryd.sizeOf20
 v20 := Tryd.zeroValue20
 t37 := Tryd.underlying51
 a37 := Tryd.isAgg51
 z37 := Tryd.sizeOf51
 v37 := Tryd.zeroValue51
 t46 := Tryd.underlying104
 a46 := Tryd.isAgg104
 z46 := Tryd.sizeOf104
 v46 := Tryd.zeroValue104
 t51 := Tryd.underlying101
 a51 := Tryd.isAgg101
 z51 := Tryd.sizeOf101
 v51 := Tryd.zeroValue101
 t53 := Tryd.underlying87
 a53 := Tryd.isAgg87
 z53 := Tryd.sizeOf87
 v53 := Tryd.zeroValue87
 t171 := Tryd.underlying86
 a171 := Tryd.isAgg86
 z171 := Tryd.sizeOf86
 v171 := Tryd.zeroValue86
 t173 := Tryd.underlying90
 a173 := Tryd.isAgg90
 z173 := Tryd.sizeOf90
 v173 := Tryd.zeroValue90
 t212 := Tryd.underlying100
 a212 := Tryd.isAgg100
 z212 := Tryd.sizeOf100
 v212 := Tryd.zeroValue100
 t213 := Tryd.underlying102
 a213 := Tryd.isAgg102
 z213 := Tryd.sizeOf102
 t232 := Tryd.underlying108
 a232 := Tryd.isAgg108
 z232 := Tryd.sizeOf108
 v232 := Tryd.zeroValue108
 t233 := Tryd.underlying109
 a233 := Tryd.isAgg109
 z233 := Tryd.sizeOf109
 v233 := Tryd.zeroValue109
 g17 := by kernel_rfl
 g18 := by kernel_rfl
 g19 := by kernel_rfl
 i0 := by kernel_rfl
 i2 := by kernel_rfl
 i3 := by kernel_rfl
 i4 := by kernel_rfl
 i5 := by kernel_rfl
 i9 := by kernel_rfl
 i20 := by kernel_rfl
 i37 := by kernel_rfl
 i46 := by kernel_rfl
 i51 := by kernel_rfl
 i53 := by kernel_rfl
 i171 := by kernel_rfl
 i173 := by kernel_rfl
 i212 := by kernel_rfl
 i232 := by kernel_rfl
 i233 := by kernel_rfl
 m17 := by kernel_rfl
 m18 := by kernel_rfl
 m19 := by kernel_rfl }
def Tryd.lays156_ren : Go.Shelf.Ren := ⟨fun | 156 => 32 | 165 => 38 | 166 => 39 | 169 => 40 | 240 => 45 | 241 => 46 | 276 => 53 | 277 => 54 | n => n,fun | 31 => 26 | 9 => 9 | 3 => 3 | 4 => 4 | 0 => 0 | 20 => 20 | 72 => 72 | 76 => 76 | 70 => 70 | 37 => 51 | 75 => 75 | 127 => 85 | 164 => 95 | 5 => 5 | 80 => 78 | n => n,fun | n => n⟩
theorem Tryd.lays156 : Go.Proofs.Lays.n156 Tryd.prog Tryd.lays156_ren := {
 mixed := by kernel_rfl
 f156 := Tryd.func32.trans (congrArg some (by kernel_rfl))
 f165 := Tryd.func38.trans (congrArg some (by kernel_rfl))
 f166 := Tryd.func39.trans (congrArg some (by kernel_rfl))
 f169 := Tryd.func40.trans (congrArg some (by kernel_rfl))
 f240 := Tryd.func45.trans (congrArg some (by kernel_rfl))
 f241 := Tryd.func46.trans (congrArg some (by kernel_rfl))
 f276 := Tryd.func53.trans (congrArg some (by kernel_rfl))
 f277 := Tryd.func54.trans (congrArg some (by kernel_rfl))
 t0 := Tryd.underlying0
 a0 := Tryd.isAgg0
 z0 := Tryd.sizeOf0
 v0 := Tryd.zeroValue0
 t3 := Tryd.underlying3
 a3 := Tryd.isAgg3
 z3 := Tryd.sizeOf3
 v3 := Tryd.zeroValue3
 t4 := Tryd.underlying4
 a4 := Tryd.isAgg4
 z4 := Tryd.sizeOf4
 v4 := Tryd.zeroValue4
 t9 := Tryd.underlying9
 a9 := Tryd.isAgg9
 z9 := Tryd.sizeOf9
 v9 := Tryd.zeroValue9
 t20 := Tryd.underlying20
 a20 := Tryd.isAgg20
 z20 := Tryd.sizeOf20
 v20 := Tryd.zeroValue20
 t31 := Tryd.underlying26
 a31 := Tryd.isAgg26
 z31 := Tryd.sizeOf26
 v31 := Tryd.zeroValue26
 t37 := Tryd.underlying51
 a37 := Tryd.isAgg51
 z37 := Tryd.sizeOf51
 v37 := Tryd.zeroValue51
 t70 := Tryd.underlying70
 a70 := Tryd.isAgg70
 z70 := Tryd.sizeOf70
 v70 := Tryd.zeroValue70
 t72 := Tryd.underlying72
 a72 := Tryd.isAgg72
 z72 := Tryd.sizeOf72
 v72 := Tryd.zeroValue72
 t75 := Tryd.underlying75
 a75 := Tryd.isAgg75
 z75 := Tryd.sizeOf75
 v75 := Tryd.zeroValue75
 t76 := Tryd.underlying76
 a76 := Tryd.isAgg76
 z76 := Tryd.sizeOf76
 v76 := Tryd.zeroValue76
 t127 := Tryd.underlying85
 a127 := Tryd.isAgg85
 z127 := Tryd.sizeOf85
 v127 := Tryd.zeroValue85
 t164 := Tryd.underlying95
 a164 := Tryd.isAgg95
 z164 := Tryd.sizeOf95
 v164 := Tryd.zeroValue95 }
theorem Tryd.Builder_Extra_156 : Builder.Extra Tryd.prog Tryd.lays156_ren := {
 sizeBuilder := by kernel_rfl
 liesBuilder := by kernel_rfl
 t5 := Tryd.underlying5
 a5 := Tryd.isAgg5
 z5 := Tryd.sizeOf5
 v5 := Tryd.zeroValue5
 infoByte := by kernel_rfl
 cellsByte := by kernel_rfl
 sizeByte := by kernel_rfl
 neB5 := by decide }
theorem Tryd.strings_Join (bk o c : Nat) (xs : List ByteArray) (sep : ByteArray) (w : World) (hcells : ∀ (j : Nat) x,xs[j]? = some x → w.cell? ⟨bk,o + j,none⟩ = some (.string x)) (hbk : bk < w.heap.size) (hN : xs.length ≤ 140737488355328) (hcap : xs.length ≤ c) (hlen : (Lib.join (xs.map (·.data.toList)) sep.data.toList).length ≤ 140737488355328) :
  Calls Tryd.prog 32 #[.slice (some ⟨bk,o,none⟩) xs.length c,.string sep] w fun e w' => e = .returned (.string ⟨(Lib.join (xs.map (·.data.toList)) sep.data.toList).toArray⟩) ∧ Below w.heap.size w w' := Any.strings_Join Tryd.lays156 Tryd.Builder_Extra_156 bk o c xs sep w hcells hbk hN hcap hlen
end Go.Proofs
namespace Go.Vi
open Go.Proofs Go.RowKit Go.Sort Go.Lib
set_option maxRecDepth 100000
set_option linter.unusedSimpArgs false
set_option linter.unusedVariables false
theorem below_grow (w : World) (k : Nat) (os : Array Obj) : Below w.heap.size w (grow (w.drewN k) os) :=
 ⟨rfl,rfl,rfl,by show w.heap.size ≤ (w.heap ++ os).size; simp,fun g hg => heap_grow_old w k os g hg⟩
theorem one_str {h : View} {s : List UInt8} {v : Value} (H : Rep h (.str s) v) : v = .string ⟨s.toArray⟩ ∧ s.length ≤ maxLen := by
 cases H with | str h => exact ⟨rfl,h⟩
theorem one_int {h : View} {k : IntKind} {n : Int} {v : Value} (H : Rep h (.int k n) v) : v = .int k n ∧ k.min ≤ n ∧ n ≤ k.max := by
 cases H with | int a b => exact ⟨rfl,a,b⟩
theorem args1 {h : View} {d : D} {vs : List Value} (H : DVRels h [.sc d] vs) : ∃ v,vs = [v] ∧ Rep h d v := by
 cases H with | cons a b =>
 cases b
 cases a with | sc a => exact ⟨_,rfl,a⟩
theorem args2 {h : View} {d e : D} {vs : List Value} (H : DVRels h [.sc d,.sc e] vs) : ∃ v u,vs = [v,u] ∧ Rep h d v ∧ Rep h e u := by
 cases H with | cons a b =>
 obtain ⟨u,rfl,hu⟩ := args1 b
 cases a with | sc a => exact ⟨_,u,rfl,a,hu⟩
theorem fc_flat {P : Program} {f : FuncId} {ds : List DV} {r : D} (H : ∀ (w : World) (A : Reg) (vs : List Value),GoodW w → DVRels (viewIn A w) ds vs → Calls P f vs.toArray w fun e w' => ∃ v,e = .returned v ∧ Below w.heap.size w w' ∧ ∀ h,Rep h r v) : FC P f ds [.sc (.v r)] := by
 intro w A vs hG hvs
 refine (H w A vs hG hvs).mono fun e w' h => ?_
 obtain ⟨v,he,hb,hr⟩ := h
 exact ⟨v,[none],he,hb,.one (.sc (.v (hr _))),by simp,fun i j b hi => by
  cases i with
  | zero => simp at hi
  | succ i => simp at hi⟩
theorem w_strconv_Itoa (a0 : Int) (r : List UInt8) (h : f_strconv_Itoa a0 = some r) : FC Tryd.prog 27 [.sc (.int .i64 a0)] [.sc (.v (.str r))] := by
 unfold f_strconv_Itoa at h
 split at h
 ·rename_i hi
  cases h
  refine fc_flat fun w A vs hG hvs => ?_
  obtain ⟨v,rfl,hv⟩ := args1 hvs
  obtain ⟨rfl,_⟩ := one_int hv
  refine (Any.strconv_Itoa Tryd.laysM171 a0 hi.1 hi.2 w hG.1).mono fun e w' h => ?_
  obtain ⟨he,k,os,rfl⟩ := h
  have := itoa_len hi
  exact ⟨_,he,below_grow w k os,fun h => .str (by unfold maxLen; omega)⟩
 ·cases h
theorem rows_str {h : View} {sz : Nat} : ∀ {l : List (List UInt8)} {vs : List Value},RepRows h sz (List.map rS l) vs → ∀ (j : Nat) (x : List UInt8),l[j]? = some x → vs[j]? = some (.string ⟨x.toArray⟩)
 | [],_,_,j,x,hj => by simp at hj
 | y :: l,vs,.cons a b c,j,x,hj => by
  obtain rfl : sz = 1 := a.symm
  cases b with | @cons d v ds vs h1 h2 =>
  cases h1
  cases j with
  | zero => simp at hj; subst hj; rfl
  | succ j => simp only [List.getElem?_cons_succ] at hj ⊢; exact rows_str c j x hj
theorem bytes_back (l : List (List UInt8)) : (l.map fun s => (⟨s.toArray⟩ : ByteArray)).map (·.data.toList) = l := by
 induction l with
 | nil => rfl
 | cons a r ih => simp only [List.map_cons,ih]
theorem w_strings_Join (a0 : List (List UInt8)) (a1 : List UInt8) (r : List UInt8) (h : f_strings_Join a0 a1 = some r) : FC Tryd.prog 32 [.sc (.sl (List.map rS a0)),.sc (.str a1)] [.sc (.v (.str r))] := by
 unfold f_strings_Join at h
 split at h
 ·rename_i hi
  cases h
  refine fc_flat fun w A vs hG hvs => ?_
  obtain ⟨v,u,rfl,hv,hu⟩ := args2 hvs
  obtain ⟨rfl,hl⟩ := one_str hu
  have hm : (join a0 a1).length ≤ maxLen := by unfold maxLen; omega
  have none_ : ∀ a c,a0 = [] → Calls Tryd.prog 32 #[.slice a 0 c,.string ⟨a1.toArray⟩] w fun e w' => ∃ v,e = .returned v ∧ Below w.heap.size w w' ∧ ∀ h,Rep h (.str (join a0 a1)) v := by
   intro a c h0
   subst h0
   refine (Any.strings_Join_none Tryd.lays156 Tryd.Builder_Extra_156 a c ⟨a1.toArray⟩ w).mono fun e w' h => ?_
   obtain ⟨he,rfl⟩ := h
   exact ⟨_,he,Below.refl _ _,fun h => .str (s := join [] a1) hm⟩
  have key : ∀ es,List.map rS a0 = es → Rep (viewIn A w) (.sl es) v → Calls Tryd.prog 32 #[v,.string ⟨a1.toArray⟩] w fun e w' => ∃ v,e = .returned v ∧ Below w.heap.size w w' ∧ ∀ h,Rep h (.str (join a0 a1)) v := by
   intro es hes hv
   cases hv with
   | nil => exact none_ _ _ (List.map_eq_nil_iff.1 hes)
   | @sl _ b C sz off cap len hC hz hrows hlen hcap hcm =>
    subst hes
    by_cases h0 : a0 = []
    ·obtain rfl : len = 0 := by rw [hlen,h0]; rfl
     exact none_ _ _ h0
    ·have hl0 : len = (a0.map fun s => (⟨s.toArray⟩ : ByteArray)).length := by simpa using hlen
     obtain ⟨_,cs,t,fr,hb,hcl⟩ := hC
     have hbw : b < w.heap.size := (Array.getElem?_eq_some_iff.1 hb).1
     subst hl0
     have hj : (a0.map fun s => (⟨s.toArray⟩ : ByteArray)).map (·.data.toList) = a0 := bytes_back a0
     have hN : (a0.map fun s => (⟨s.toArray⟩ : ByteArray)).length ≤ 140737488355328 := by rw [List.length_map]; exact hi.1
     have hJ : (join ((a0.map fun s => (⟨s.toArray⟩ : ByteArray)).map (·.data.toList)) (⟨a1.toArray⟩ : ByteArray).data.toList).length ≤ 140737488355328 := by rw [hj]; exact hi.2
     have hcells : ∀ (j : Nat) x,(a0.map fun s => (⟨s.toArray⟩ : ByteArray))[j]? = some x → w.cell? ⟨b,off + j,none⟩ = some (.string x) := by
      intro j x hx
      simp only [List.getElem?_map,Option.map_eq_some_iff] at hx
      obtain ⟨y,hy,rfl⟩ := hx
      have := rows_str hrows j y hy
      rw [List.getElem?_drop,← hcl] at this
      unfold World.cell?
      simpa [hb] using this
     have c := Tryd.strings_Join b off cap (a0.map fun s => (⟨s.toArray⟩ : ByteArray)) ⟨a1.toArray⟩ w hcells hbw hN hcap hJ
     refine c.mono fun e w' h => ?_
     rw [hj] at h
     obtain ⟨he,hw⟩ := h
     exact ⟨_,he,hw,fun h => .str hm⟩
  exact key _ rfl hv
 ·cases h
end Go.Vi
