/-
  Plain definitions of functions, by program. No condition.
-/
import Derived.Test.YtahienmgcfgclaaDoorSVi37
import Derived.Test.YtahienmgcfgclaaDoorSLa
namespace Go.Vi
set_option linter.unusedSimpArgs false
set_option linter.unusedVariables false
set_option linter.defProp false
structure XAny where
 isS : Bool
 s : List UInt8
 n : Int
 deriving DecidableEq
def anyD (x : XAny) : D := .ifc (bif x.isS then 9 else 3) (bif x.isS then .str x.s else .int .i64 x.n)
theorem any_t {t : TypeId} {zc : AC} {x : XAny} : tassV t zc (.v (.sc (.dat (anyD x)))) = tassV t zc (.v (.sc (.dat (.ifc (bif x.isS then 9 else 3) (bif x.isS then .str x.s else .int .i64 x.n))))) := rfl
def rA (x : XAny) : List D := [anyD x]
theorem rA_eq (x : XAny) : rA x = [anyD x] := rfl
instance : Row rA 1 := ⟨fun _ => rfl,Nat.le_of_ble_eq_true rfl⟩
structure XPassage where
 Ship : Int
 Segment : Int
 Toward : Bool
 Start : Int
 End : Int
 deriving DecidableEq
def XPassage.row (x : XPassage) : List D := [.int .i64 x.Ship,.int .i64 x.Segment,.bool x.Toward,.int .i64 x.Start,.int .i64 x.End]
theorem XPassage.row_eq (x : XPassage) : XPassage.row x = [.int .i64 x.Ship,.int .i64 x.Segment,.bool x.Toward,.int .i64 x.Start,.int .i64 x.End] := rfl
instance : Row XPassage.row 5 := ⟨fun _ => rfl,Nat.le_of_ble_eq_true rfl⟩
instance : FlatRow XPassage.row := ⟨fun x d hd => by simp only [XPassage.row_eq,List.mem_cons,List.not_mem_nil,or_false] at hd; rcases hd with rfl | rfl | rfl | rfl | rfl <;> rfl⟩
instance : OfTy (.st [(.int .i64),(.int .i64),.bool,(.int .i64),(.int .i64)]) XPassage.row := ⟨fun ds h => by
 obtain ⟨a0,b0,h0,t0,rfl⟩ := h
 obtain ⟨a1,b1,h1,t1,rfl⟩ := t0
 obtain ⟨a2,b2,h2,t2,rfl⟩ := t1
 obtain ⟨a3,b3,h3,t3,rfl⟩ := t2
 obtain ⟨a4,b4,h4,t4,rfl⟩ := t3
 obtain rfl := t4
 obtain ⟨x0,rfl⟩ := OfTy.of (row := rI) _ h0
 obtain ⟨x1,rfl⟩ := OfTy.of (row := rI) _ h1
 obtain ⟨x2,rfl⟩ := OfTy.of (row := rB) _ h2
 obtain ⟨x3,rfl⟩ := OfTy.of (row := rI) _ h3
 obtain ⟨x4,rfl⟩ := OfTy.of (row := rI) _ h4
 exact ⟨⟨x0,x1,x2,x3,x4⟩,rfl⟩⟩
structure XOption where
 Start : Int
 Arrival : Int
 Cost : Int
 Passages : List XPassage
 deriving DecidableEq
def XOption.row (x : XOption) : List D := [.int .i64 x.Start,.int .i64 x.Arrival,.int .i64 x.Cost,.sl (List.map XPassage.row x.Passages)]
theorem XOption.row_eq (x : XOption) : XOption.row x = [.int .i64 x.Start,.int .i64 x.Arrival,.int .i64 x.Cost,.sl (List.map XPassage.row x.Passages)] := rfl
instance : Row XOption.row 4 := ⟨fun _ => rfl,Nat.le_of_ble_eq_true rfl⟩
instance : OfTy (.st [(.int .i64),(.int .i64),(.int .i64),(.sl (.st [(.int .i64),(.int .i64),.bool,(.int .i64),(.int .i64)]))]) XOption.row := ⟨fun ds h => by
 obtain ⟨a0,b0,h0,t0,rfl⟩ := h
 obtain ⟨a1,b1,h1,t1,rfl⟩ := t0
 obtain ⟨a2,b2,h2,t2,rfl⟩ := t1
 obtain ⟨a3,b3,h3,t3,rfl⟩ := t2
 obtain rfl := t3
 obtain ⟨x0,rfl⟩ := OfTy.of (row := rI) _ h0
 obtain ⟨x1,rfl⟩ := OfTy.of (row := rI) _ h1
 obtain ⟨x2,rfl⟩ := OfTy.of (row := rI) _ h2
 obtain ⟨x3,rfl⟩ := OfTy.of (row := (rL XPassage.row)) _ h3
 exact ⟨⟨x0,x1,x2,x3⟩,rfl⟩⟩
structure XBranch where
 Low : Int
 High : Int
 Plan : List XOption
 deriving DecidableEq
def XBranch.row (x : XBranch) : List D := [.int .i64 x.Low,.int .i64 x.High,.sl (List.map XOption.row x.Plan)]
theorem XBranch.row_eq (x : XBranch) : XBranch.row x = [.int .i64 x.Low,.int .i64 x.High,.sl (List.map XOption.row x.Plan)] := rfl
instance : Row XBranch.row 3 := ⟨fun _ => rfl,Nat.le_of_ble_eq_true rfl⟩
instance : OfTy (.st [(.int .i64),(.int .i64),(.sl (.st [(.int .i64),(.int .i64),(.int .i64),(.sl (.st [(.int .i64),(.int .i64),.bool,(.int .i64),(.int .i64)]))]))]) XBranch.row := ⟨fun ds h => by
 obtain ⟨a0,b0,h0,t0,rfl⟩ := h
 obtain ⟨a1,b1,h1,t1,rfl⟩ := t0
 obtain ⟨a2,b2,h2,t2,rfl⟩ := t1
 obtain rfl := t2
 obtain ⟨x0,rfl⟩ := OfTy.of (row := rI) _ h0
 obtain ⟨x1,rfl⟩ := OfTy.of (row := rI) _ h1
 obtain ⟨x2,rfl⟩ := OfTy.of (row := (rL XOption.row)) _ h2
 exact ⟨⟨x0,x1,x2⟩,rfl⟩⟩
structure XStrategy where
 Minute : Int
 Branches : List XBranch
 deriving DecidableEq
def XStrategy.row (x : XStrategy) : List D := [.int .i64 x.Minute,.sl (List.map XBranch.row x.Branches)]
theorem XStrategy.row_eq (x : XStrategy) : XStrategy.row x = [.int .i64 x.Minute,.sl (List.map XBranch.row x.Branches)] := rfl
instance : Row XStrategy.row 2 := ⟨fun _ => rfl,Nat.le_of_ble_eq_true rfl⟩
instance : OfTy (.st [(.int .i64),(.sl (.st [(.int .i64),(.int .i64),(.sl (.st [(.int .i64),(.int .i64),(.int .i64),(.sl (.st [(.int .i64),(.int .i64),.bool,(.int .i64),(.int .i64)]))]))]))]) XStrategy.row := ⟨fun ds h => by
 obtain ⟨a0,b0,h0,t0,rfl⟩ := h
 obtain ⟨a1,b1,h1,t1,rfl⟩ := t0
 obtain rfl := t1
 obtain ⟨x0,rfl⟩ := OfTy.of (row := rI) _ h0
 obtain ⟨x1,rfl⟩ := OfTy.of (row := (rL XBranch.row)) _ h1
 exact ⟨⟨x0,x1⟩,rfl⟩⟩
def rowsX := And.intro @rI_eq (And.intro @any_t (And.intro @rA_eq (And.intro @XPassage.row_eq (And.intro @XOption.row_eq (And.intro @XBranch.row_eq (@XStrategy.row_eq))))))
def RR := And.intro rules2 (And.intro rulesX (And.intro rulesZ (And.intro rulesW rowsX)))
/- laws_szPassageS -/
def f_laws_szPassageS (a0 : List XPassage) (a1 : Int) : Option Int :=
if (decide ((IntKind.i64.wrap (a1 - (a0.length : Int))) < (0 : Int))) then (
 some (-1 : Int))
else (
 some (IntKind.i64.wrap (a1 - (a0.length : Int))))
/- laws_szOption -/
def f_laws_szOption (a0 : XOption) (a1 : Int) : Option Int :=
(f_laws_szPassageS a0.Passages a1).bind fun r1 =>
if (decide (r1 < (0 : Int))) then (
 some (-1 : Int))
else (
 some r1)
/- laws_szOptionS -/
def f_laws_szOptionS_1 (a0 : List XOption) : Nat → Int → Int → Option Int
| 0,_,_ => none
| n + 1,v2,v3 =>
 if (decide (v3 < (a0.length : Int))) then (
 (ix a0 v3).bind fun x5 =>
 (f_laws_szOption x5 v2).bind fun r6 =>
 if (decide (r6 < (0 : Int))) then (
  some (-1 : Int))
 else (
  f_laws_szOptionS_1 a0 n r6 (IntKind.i64.wrap (v3 + (1 : Int)))))
 else (
 some v2)
def f_laws_szOptionS (a0 : List XOption) (a1 : Int) : Option Int :=
if (decide ((IntKind.i64.wrap (a1 - (a0.length : Int))) < (0 : Int))) then (
 some (-1 : Int))
else (
 f_laws_szOptionS_1 a0 bigN (IntKind.i64.wrap (a1 - (a0.length : Int))) (0 : Int))
/- laws_szBranch -/
def f_laws_szBranch (a0 : XBranch) (a1 : Int) : Option Int :=
(f_laws_szOptionS a0.Plan a1).bind fun r1 =>
if (decide (r1 < (0 : Int))) then (
 some (-1 : Int))
else (
 some r1)
/- laws_szBranchS -/
def f_laws_szBranchS_1 (a0 : List XBranch) : Nat → Int → Int → Option Int
| 0,_,_ => none
| n + 1,v2,v3 =>
 if (decide (v3 < (a0.length : Int))) then (
 (ix a0 v3).bind fun x5 =>
 (f_laws_szBranch x5 v2).bind fun r6 =>
 if (decide (r6 < (0 : Int))) then (
  some (-1 : Int))
 else (
  f_laws_szBranchS_1 a0 n r6 (IntKind.i64.wrap (v3 + (1 : Int)))))
 else (
 some v2)
def f_laws_szBranchS (a0 : List XBranch) (a1 : Int) : Option Int :=
if (decide ((IntKind.i64.wrap (a1 - (a0.length : Int))) < (0 : Int))) then (
 some (-1 : Int))
else (
 f_laws_szBranchS_1 a0 bigN (IntKind.i64.wrap (a1 - (a0.length : Int))) (0 : Int))
/- laws_szStrategy -/
def f_laws_szStrategy (a0 : XStrategy) (a1 : Int) : Option Int :=
(f_laws_szBranchS a0.Branches a1).bind fun r1 =>
if (decide (r1 < (0 : Int))) then (
 some (-1 : Int))
else (
 some r1)
/- laws_toPassage -/
def f_laws_toPassage (a0 : XPassage) : Option XPassage :=
some a0
/- laws_toPassageS -/
def f_laws_toPassageS_1 (a0 : List XPassage) : Nat → Int → (List XPassage) → Option (List XPassage)
| 0,_,_ => none
| n + 1,v2,v3 =>
 if (decide (v2 < (a0.length : Int))) then (
 (ix a0 v2).bind fun x5 =>
 (f_laws_toPassage x5).bind fun r6 =>
 (ix v3 v2).bind fun x7 =>
 f_laws_toPassageS_1 a0 n (IntKind.i64.wrap (v2 + (1 : Int))) (v3.set (Int.toNat v2) r6))
 else (
 some v3)
def f_laws_toPassageS (a0 : List XPassage) : Option (List XPassage) :=
(mkS (a0.length : Int) (a0.length : Int) 40).bind fun n1 =>
f_laws_toPassageS_1 a0 bigN (0 : Int) (List.replicate n1 (⟨(0 : Int),(0 : Int),false,(0 : Int),(0 : Int)⟩ : XPassage))
/- laws_toOption -/
def f_laws_toOption (a0 : XOption) : Option XOption :=
(f_laws_toPassageS a0.Passages).bind fun r1 =>
some (⟨a0.Start,a0.Arrival,a0.Cost,r1⟩ : XOption)
/- laws_toOptionS -/
def f_laws_toOptionS_1 (a0 : List XOption) : Nat → Int → (List XOption) → Option (List XOption)
| 0,_,_ => none
| n + 1,v2,v3 =>
 if (decide (v2 < (a0.length : Int))) then (
 (ix a0 v2).bind fun x5 =>
 (f_laws_toOption x5).bind fun r6 =>
 (ix v3 v2).bind fun x7 =>
 f_laws_toOptionS_1 a0 n (IntKind.i64.wrap (v2 + (1 : Int))) (v3.set (Int.toNat v2) r6))
 else (
 some v3)
def f_laws_toOptionS (a0 : List XOption) : Option (List XOption) :=
(mkS (a0.length : Int) (a0.length : Int) 48).bind fun n1 =>
f_laws_toOptionS_1 a0 bigN (0 : Int) (List.replicate n1 (⟨(0 : Int),(0 : Int),(0 : Int),([] : List XPassage)⟩ : XOption))
/- laws_toBranch -/
def f_laws_toBranch (a0 : XBranch) : Option XBranch :=
(f_laws_toOptionS a0.Plan).bind fun r1 =>
some (⟨a0.Low,a0.High,r1⟩ : XBranch)
/- laws_toBranchS -/
def f_laws_toBranchS_1 (a0 : List XBranch) : Nat → Int → (List XBranch) → Option (List XBranch)
| 0,_,_ => none
| n + 1,v2,v3 =>
 if (decide (v2 < (a0.length : Int))) then (
 (ix a0 v2).bind fun x5 =>
 (f_laws_toBranch x5).bind fun r6 =>
 (ix v3 v2).bind fun x7 =>
 f_laws_toBranchS_1 a0 n (IntKind.i64.wrap (v2 + (1 : Int))) (v3.set (Int.toNat v2) r6))
 else (
 some v3)
def f_laws_toBranchS (a0 : List XBranch) : Option (List XBranch) :=
(mkS (a0.length : Int) (a0.length : Int) 40).bind fun n1 =>
f_laws_toBranchS_1 a0 bigN (0 : Int) (List.replicate n1 (⟨(0 : Int),(0 : Int),([] : List XOption)⟩ : XBranch))
/- laws_toStrategy -/
def f_laws_toStrategy (a0 : XStrategy) : Option XStrategy :=
(f_laws_toBranchS a0.Branches).bind fun r1 =>
some (⟨a0.Minute,r1⟩ : XStrategy)
/- spec_FormatInt -/
def f_spec_FormatInt_1 (rec_ : Int → Option (List UInt8)) : Nat → Int → (List UInt8) → Option (List UInt8)
| 0,_,_ => none
| n + 1,v6,v7 =>
 if (decide ((9 : Int) < v6)) then (
 if catB ([(IntKind.u8.wrap (IntKind.i64.wrap ((48 : Int) + (IntKind.i64.wrap (Int.tmod v6 (10 : Int))))))] : List Int).length v7.length then (
  f_spec_FormatInt_1 rec_ n (IntKind.i64.wrap (Int.tdiv v6 (10 : Int))) ((List.map toU8 ([(IntKind.u8.wrap (IntKind.i64.wrap ((48 : Int) + (IntKind.i64.wrap (Int.tmod v6 (10 : Int))))))] : List Int)) ++ v7))
 else none)
 else (
 if catB ([(IntKind.u8.wrap (IntKind.i64.wrap ((48 : Int) + v6)))] : List Int).length v7.length then (
  some ((List.map toU8 ([(IntKind.u8.wrap (IntKind.i64.wrap ((48 : Int) + v6)))] : List Int)) ++ v7))
 else none)
def f_spec_FormatInt_b (rec_ : Int → Option (List UInt8)) (a0 : Int) : Option (List UInt8) :=
if (decide (a0 < (0 : Int))) then (
 if ((IntKind.i64.wrap (Int.tdiv a0 (10 : Int))) == (0 : Int)) then (
 if catB ([45] : List UInt8).length ([(IntKind.u8.wrap (IntKind.i64.wrap ((48 : Int) - a0)))] : List Int).length then (
  some (([45] : List UInt8) ++ (List.map toU8 ([(IntKind.u8.wrap (IntKind.i64.wrap ((48 : Int) - a0)))] : List Int))))
 else none)
 else (
 (rec_ (IntKind.i64.wrap (Int.tdiv a0 (10 : Int)))).bind fun r4 =>
 if catB r4.length ([(IntKind.u8.wrap (IntKind.i64.wrap ((48 : Int) - (IntKind.i64.wrap (Int.tmod a0 (10 : Int))))))] : List Int).length then (
  some (r4 ++ (List.map toU8 ([(IntKind.u8.wrap (IntKind.i64.wrap ((48 : Int) - (IntKind.i64.wrap (Int.tmod a0 (10 : Int))))))] : List Int))))
 else none))
else (
 f_spec_FormatInt_1 rec_ bigN a0 ([] : List UInt8))
def f_spec_FormatInt_r : Nat → Int → Option (List UInt8)
| 0,_ => none
| n + 1,a0 => f_spec_FormatInt_b (f_spec_FormatInt_r n) a0
def f_spec_FormatInt (a0 : Int) : Option (List UInt8) := f_spec_FormatInt_r bigN a0
/- spec_CostOf -/
def f_spec_CostOf_1 (a0 : List XOption) : Nat → Int → Int → Option Int
| 0,_,_ => none
| n + 1,v1,v2 =>
 if (decide (v2 < (a0.length : Int))) then (
 (ix a0 v2).bind fun x4 =>
 f_spec_CostOf_1 a0 n (IntKind.i64.wrap (v1 + x4.Cost)) (IntKind.i64.wrap (v2 + (1 : Int))))
 else (
 some v1)
def f_spec_CostOf (a0 : List XOption) : Option Int :=
f_spec_CostOf_1 a0 bigN (0 : Int) (0 : Int)
/- spec_StrategyLines -/
def f_spec_StrategyLines_1 (a0 : XStrategy) : Nat → Int → (List (List UInt8)) → Option (List (List UInt8))
| 0,_,_ => none
| n + 1,v1,v2 =>
 if (decide (v1 < (a0.Branches.length : Int))) then (
 (ix a0.Branches v1).bind fun x4 =>
 (f_spec_FormatInt x4.Low).bind fun r5 =>
 if catB r5.length ([46,46] : List UInt8).length then (
  (f_spec_FormatInt x4.High).bind fun r7 =>
  if catB (r5 ++ ([46,46] : List UInt8)).length r7.length then (
  if catB ((r5 ++ ([46,46] : List UInt8)) ++ r7).length ([32] : List UInt8).length then (
   (f_spec_CostOf x4.Plan).bind fun r10 =>
   (f_spec_FormatInt r10).bind fun r11 =>
   if catB (((r5 ++ ([46,46] : List UInt8)) ++ r7) ++ ([32] : List UInt8)).length r11.length then (
   if appB v2.length ([((((r5 ++ ([46,46] : List UInt8)) ++ r7) ++ ([32] : List UInt8)) ++ r11)] : List (List UInt8)).length 16 then (
    f_spec_StrategyLines_1 a0 n (IntKind.i64.wrap (v1 + (1 : Int))) (v2 ++ ([((((r5 ++ ([46,46] : List UInt8)) ++ r7) ++ ([32] : List UInt8)) ++ r11)] : List (List UInt8))))
   else none)
   else none)
  else none)
  else none)
 else none)
 else (
 some v2)
def f_spec_StrategyLines (a0 : XStrategy) : Option (List (List UInt8)) :=
f_spec_StrategyLines_1 a0 bigN (0 : Int) ([] : List (List UInt8))
/- impl_FormatInt -/
def f_impl_FormatInt (a0 : Int) : Option (List UInt8) :=
(f_strconv_Itoa a0).bind fun r1 =>
some r1
/- impl_CostOf -/
def f_impl_CostOf_1 (a0 : List XOption) : Nat → Int → Int → Option Int
| 0,_,_ => none
| n + 1,v1,v2 =>
 if (decide (v2 < (a0.length : Int))) then (
 (ix a0 v2).bind fun x4 =>
 f_impl_CostOf_1 a0 n (IntKind.i64.wrap (v1 + x4.Cost)) (IntKind.i64.wrap (v2 + (1 : Int))))
 else (
 some v1)
def f_impl_CostOf (a0 : List XOption) : Option Int :=
f_impl_CostOf_1 a0 bigN (0 : Int) (0 : Int)
/- impl_word -/
def f_impl_word (a0 : XAny) : Option (List UInt8) :=
if a0.isS then (
 some a0.s)
else (
 (f_impl_FormatInt a0.n).bind fun r2 =>
 some r2)
/- impl_Join -/
def f_impl_Join (a0 : List (List UInt8)) (a1 : List UInt8) : Option (List UInt8) :=
(f_strings_Join a0 a1).bind fun r1 =>
some r1
/- impl_words -/
def f_impl_words_1 (a0 : List XAny) : Nat → Int → (List (List UInt8)) → Option (List UInt8)
| 0,_,_ => none
| n + 1,v1,v2 =>
 if (decide (v1 < (a0.length : Int))) then (
 (ix a0 v1).bind fun x4 =>
 (f_impl_word x4).bind fun r5 =>
 if appB v2.length ([r5] : List (List UInt8)).length 16 then (
  f_impl_words_1 a0 n (IntKind.i64.wrap (v1 + (1 : Int))) (v2 ++ ([r5] : List (List UInt8))))
 else none)
 else (
 (f_impl_Join v2 ([32] : List UInt8)).bind fun r7 =>
 some r7)
def f_impl_words (a0 : List XAny) : Option (List UInt8) :=
f_impl_words_1 a0 bigN (0 : Int) ([] : List (List UInt8))
/- impl_StrategyLines -/
def f_impl_StrategyLines_1 (a0 : XStrategy) : Nat → Int → (List (List UInt8)) → Option (List (List UInt8))
| 0,_,_ => none
| n + 1,v1,v2 =>
 if (decide (v1 < (a0.Branches.length : Int))) then (
 (ix a0.Branches v1).bind fun x4 =>
 (f_impl_FormatInt x4.Low).bind fun r5 =>
 if catB r5.length ([46,46] : List UInt8).length then (
  (f_impl_FormatInt x4.High).bind fun r7 =>
  if catB (r5 ++ ([46,46] : List UInt8)).length r7.length then (
  (f_impl_CostOf x4.Plan).bind fun r9 =>
  (f_impl_words ([(⟨true,((r5 ++ ([46,46] : List UInt8)) ++ r7),0⟩ : XAny),(⟨false,[],r9⟩ : XAny)] : List XAny)).bind fun r10 =>
  if appB v2.length ([r10] : List (List UInt8)).length 16 then (
   f_impl_StrategyLines_1 a0 n (IntKind.i64.wrap (v1 + (1 : Int))) (v2 ++ ([r10] : List (List UInt8))))
  else none)
  else none)
 else none)
 else (
 some v2)
def f_impl_StrategyLines (a0 : XStrategy) : Option (List (List UInt8)) :=
f_impl_StrategyLines_1 a0 bigN (0 : Int) ([] : List (List UInt8))
/- laws_eqStringS -/
def f_laws_eqStringS_1 (a0 : List (List UInt8)) (a1 : List (List UInt8)) : Nat → Int → Option Bool
| 0,_ => none
| n + 1,v2 =>
 if (decide (v2 < (a0.length : Int))) then (
 (ix a0 v2).bind fun x4 =>
 (ix a1 v2).bind fun x5 =>
 if (x4 == x5) then (
  f_laws_eqStringS_1 a0 a1 n (IntKind.i64.wrap (v2 + (1 : Int))))
 else (
  some false))
 else (
 some true)
def f_laws_eqStringS (a0 : List (List UInt8)) (a1 : List (List UInt8)) : Option Bool :=
if ((a0.length : Int) != (a1.length : Int)) then (
 some false)
else (
 f_laws_eqStringS_1 a0 a1 bigN (0 : Int))
/- laws_eqPassage -/
def f_laws_eqPassage (a0 : XPassage) (a1 : XPassage) : Option Bool :=
if (a0.Ship != a1.Ship) then (
 some false)
else (
 if (a0.Segment != a1.Segment) then (
 some false)
 else (
 if (a0.Toward == a1.Toward) then (
  if (a0.Start != a1.Start) then (
  some false)
  else (
  if (a0.End != a1.End) then (
   some false)
  else (
   some true)))
 else (
  some false)))
/- laws_eqPassageS -/
def f_laws_eqPassageS_1 (a0 : List XPassage) (a1 : List XPassage) : Nat → Int → Option Bool
| 0,_ => none
| n + 1,v2 =>
 if (decide (v2 < (a0.length : Int))) then (
 (ix a0 v2).bind fun x4 =>
 (ix a1 v2).bind fun x5 =>
 (f_laws_eqPassage x4 x5).bind fun r6 =>
 if r6 then (
  f_laws_eqPassageS_1 a0 a1 n (IntKind.i64.wrap (v2 + (1 : Int))))
 else (
  some false))
 else (
 some true)
def f_laws_eqPassageS (a0 : List XPassage) (a1 : List XPassage) : Option Bool :=
if ((a0.length : Int) != (a1.length : Int)) then (
 some false)
else (
 f_laws_eqPassageS_1 a0 a1 bigN (0 : Int))
/- laws_eqOption -/
def f_laws_eqOption (a0 : XOption) (a1 : XOption) : Option Bool :=
if (a0.Start != a1.Start) then (
 some false)
else (
 if (a0.Arrival != a1.Arrival) then (
 some false)
 else (
 if (a0.Cost != a1.Cost) then (
  some false)
 else (
  (f_laws_eqPassageS a0.Passages a1.Passages).bind fun r4 =>
  if r4 then (
  some true)
  else (
  some false))))
/- laws_eqOptionS -/
def f_laws_eqOptionS_1 (a0 : List XOption) (a1 : List XOption) : Nat → Int → Option Bool
| 0,_ => none
| n + 1,v2 =>
 if (decide (v2 < (a0.length : Int))) then (
 (ix a0 v2).bind fun x4 =>
 (ix a1 v2).bind fun x5 =>
 (f_laws_eqOption x4 x5).bind fun r6 =>
 if r6 then (
  f_laws_eqOptionS_1 a0 a1 n (IntKind.i64.wrap (v2 + (1 : Int))))
 else (
  some false))
 else (
 some true)
def f_laws_eqOptionS (a0 : List XOption) (a1 : List XOption) : Option Bool :=
if ((a0.length : Int) != (a1.length : Int)) then (
 some false)
else (
 f_laws_eqOptionS_1 a0 a1 bigN (0 : Int))
/- laws_eqBranch -/
def f_laws_eqBranch (a0 : XBranch) (a1 : XBranch) : Option Bool :=
if (a0.Low != a1.Low) then (
 some false)
else (
 if (a0.High != a1.High) then (
 some false)
 else (
 (f_laws_eqOptionS a0.Plan a1.Plan).bind fun r3 =>
 if r3 then (
  some true)
 else (
  some false)))
/- laws_eqBranchS -/
def f_laws_eqBranchS_1 (a0 : List XBranch) (a1 : List XBranch) : Nat → Int → Option Bool
| 0,_ => none
| n + 1,v2 =>
 if (decide (v2 < (a0.length : Int))) then (
 (ix a0 v2).bind fun x4 =>
 (ix a1 v2).bind fun x5 =>
 (f_laws_eqBranch x4 x5).bind fun r6 =>
 if r6 then (
  f_laws_eqBranchS_1 a0 a1 n (IntKind.i64.wrap (v2 + (1 : Int))))
 else (
  some false))
 else (
 some true)
def f_laws_eqBranchS (a0 : List XBranch) (a1 : List XBranch) : Option Bool :=
if ((a0.length : Int) != (a1.length : Int)) then (
 some false)
else (
 f_laws_eqBranchS_1 a0 a1 bigN (0 : Int))
/- laws_eqStrategy -/
def f_laws_eqStrategy (a0 : XStrategy) (a1 : XStrategy) : Option Bool :=
if (a0.Minute != a1.Minute) then (
 some false)
else (
 (f_laws_eqBranchS a0.Branches a1.Branches).bind fun r2 =>
 if r2 then (
 some true)
 else (
 some false))
/- laws_markPassageS_d -/
def f_laws_markPassageS_d_1 (a0 : List XPassage) : Nat → Int → Int → Option Int
| 0,_,_ => none
| n + 1,v1,v2 =>
 if (decide (v2 < (a0.length : Int))) then (
 (ix a0 v2).bind fun x4 =>
 f_laws_markPassageS_d_1 a0 n (IntKind.i64.wrap ((IntKind.i64.wrap ((IntKind.i64.wrap ((IntKind.i64.wrap ((IntKind.i64.wrap (v1 + (1 : Int))) + (1 : Int))) + (1 : Int))) + (1 : Int))) + (1 : Int))) (IntKind.i64.wrap (v2 + (1 : Int))))
 else (
 some v1)
def f_laws_markPassageS_d (a0 : List XPassage) (a1 : Int) : Option Int :=
f_laws_markPassageS_d_1 a0 bigN a1 (0 : Int)
/- laws_markOptionS_d -/
def f_laws_markOptionS_d_1 (a0 : List XOption) : Nat → Int → Int → Option Int
| 0,_,_ => none
| n + 1,v1,v2 =>
 if (decide (v2 < (a0.length : Int))) then (
 (ix a0 v2).bind fun x4 =>
 (f_laws_markPassageS_d x4.Passages (IntKind.i64.wrap ((IntKind.i64.wrap ((IntKind.i64.wrap (v1 + (1 : Int))) + (1 : Int))) + (1 : Int)))).bind fun r5 =>
 f_laws_markOptionS_d_1 a0 n r5 (IntKind.i64.wrap (v2 + (1 : Int))))
 else (
 some v1)
def f_laws_markOptionS_d (a0 : List XOption) (a1 : Int) : Option Int :=
f_laws_markOptionS_d_1 a0 bigN a1 (0 : Int)
/- laws_markBranchS_d -/
def f_laws_markBranchS_d_1 (a0 : List XBranch) : Nat → Int → Int → Option Int
| 0,_,_ => none
| n + 1,v1,v2 =>
 if (decide (v2 < (a0.length : Int))) then (
 (ix a0 v2).bind fun x4 =>
 (f_laws_markOptionS_d x4.Plan (IntKind.i64.wrap ((IntKind.i64.wrap (v1 + (1 : Int))) + (1 : Int)))).bind fun r5 =>
 f_laws_markBranchS_d_1 a0 n r5 (IntKind.i64.wrap (v2 + (1 : Int))))
 else (
 some v1)
def f_laws_markBranchS_d (a0 : List XBranch) (a1 : Int) : Option Int :=
f_laws_markBranchS_d_1 a0 bigN a1 (0 : Int)
/- laws_markStrategy_d -/
def f_laws_markStrategy_d (a0 : XStrategy) (a1 : Int) : Option Int :=
(f_laws_markBranchS_d a0.Branches a1).bind fun r1 =>
some r1
/- laws_markText -/
def f_laws_markText_1 : Nat → Int → (List UInt8) → Option (List UInt8)
| 0,_,_ => none
| n + 1,v2,v3 =>
 if (decide ((0 : Int) < v2)) then (
 if catB ([(IntKind.u8.wrap (IntKind.i64.wrap ((48 : Int) + (IntKind.i64.wrap (Int.tmod v2 (10 : Int))))))] : List Int).length v3.length then (
  f_laws_markText_1 n (IntKind.i64.wrap (Int.tdiv v2 (10 : Int))) ((List.map toU8 ([(IntKind.u8.wrap (IntKind.i64.wrap ((48 : Int) + (IntKind.i64.wrap (Int.tmod v2 (10 : Int))))))] : List Int)) ++ v3))
 else none)
 else (
 if catB ([109] : List UInt8).length v3.length then (
  some (([109] : List UInt8) ++ v3))
 else none)
def f_laws_markText (a0 : Int) : Option (List UInt8) :=
if (decide (a0 ≤ (0 : Int))) then (
 some ([109,48] : List UInt8))
else (
 f_laws_markText_1 bigN a0 ([] : List UInt8))
/- laws_markStringS -/
def f_laws_markStringS_1 : Nat → Int → Int → (List (List UInt8)) → Option (Int × List (List UInt8))
| 0,_,_,_ => none
| n + 1,v1,v2,v3 =>
 if (decide (v2 < (v3.length : Int))) then (
 (f_laws_markText v1).bind fun r5 =>
 (ix v3 v2).bind fun x6 =>
 f_laws_markStringS_1 n (IntKind.i64.wrap (v1 + (1 : Int))) (IntKind.i64.wrap (v2 + (1 : Int))) (v3.set (Int.toNat v2) r5))
 else (
 some (v1,v3))
def f_laws_markStringS (a0 : List (List UInt8)) (a1 : Int) : Option (Int × List (List UInt8)) :=
f_laws_markStringS_1 bigN a1 (0 : Int) a0
/- laws_heldStringS -/
def f_laws_heldStringS_1 (a0 : List (List UInt8)) : Nat → Int → Int → Option Int
| 0,_,_ => none
| n + 1,v1,v2 =>
 if (decide (v2 < (a0.length : Int))) then (
 (ix a0 v2).bind fun x4 =>
 (f_laws_markText v1).bind fun r5 =>
 if (x4 == r5) then (
  f_laws_heldStringS_1 a0 n (IntKind.i64.wrap (v1 + (1 : Int))) (IntKind.i64.wrap (v2 + (1 : Int))))
 else (
  some (-1 : Int)))
 else (
 some v1)
def f_laws_heldStringS (a0 : List (List UInt8)) (a1 : Int) : Option Int :=
f_laws_heldStringS_1 a0 bigN a1 (0 : Int)
/- laws_FnExactStrategyLines -/
def f_laws_FnExactStrategyLines (a0 : XStrategy) : Option Bool :=
(f_laws_szStrategy a0 (1048576 : Int)).bind fun r1 =>
if (decide (r1 < (0 : Int))) then (
 some true)
else (
 (f_laws_toStrategy a0).bind fun r3 =>
 (f_spec_StrategyLines r3).bind fun r4 =>
 (f_laws_toStrategy a0).bind fun r5 =>
 (f_impl_StrategyLines r5).bind fun r6 =>
 (f_laws_eqStringS r6 r4).bind fun r7 =>
 if r7 then (
 (f_laws_toStrategy a0).bind fun r9 =>
 (f_laws_eqStrategy r5 r9).bind fun r10 =>
 if r10 then (
  (f_laws_markStrategy_d r5 (1 : Int)).bind fun r12 =>
  if (decide (r12 < (0 : Int))) then (
  some false)
  else (
  (f_laws_eqStringS r6 r4).bind fun r14 =>
  if r14 then (
   (f_laws_markStringS r6 (1 : Int)).bind fun r16 =>
   (f_laws_heldStringS r16.2 (1 : Int)).bind fun r17 =>
   if (decide (r17 < (0 : Int))) then (
   some false)
   else (
   if (r17 != r16.1) then (
    some false)
   else (
    (f_laws_toStrategy a0).bind fun r20 =>
    (f_impl_StrategyLines r20).bind fun r21 =>
    (f_laws_eqStringS r21 r4).bind fun r22 =>
    if r22 then (
    (f_laws_heldStringS r16.2 (1 : Int)).bind fun r24 =>
    if (decide (r24 < (0 : Int))) then (
     some false)
    else (
     if (r24 != r16.1) then (
     some false)
     else (
     some true)))
    else (
    some false))))
  else (
   some false)))
 else (
  some false))
 else (
 some false))
end Go.Vi
