/-
  Plain definitions of functions, by program. No condition.
-/
import Derived.Test.YtldjoojbhbbhdaaDoorJVi32
import Derived.Test.YtldjoojbhbbhdaaDoorJLa
namespace Go.Vi
set_option linter.unusedSimpArgs false
set_option linter.unusedVariables false
def errD : Option Int → D
  | none => .noi
  | some n => .ifc 62 (.pd [.int .i64 n])
theorem errD_none : errD none = .noi := rfl
theorem errD_some (n : Int) : errD (some n) = .ifc 62 (.pd [.int .i64 n]) := rfl
theorem of_noerr {x : Option Int} (h : x.isSome = false) : x = none := by cases x with | none => rfl | some _ => cases h
structure XWindow where
  From : Int
  To : Int
  deriving DecidableEq
def XWindow.row (x : XWindow) : List D := [.int .i64 x.From, .int .i64 x.To]
theorem XWindow.row_eq (x : XWindow) : XWindow.row x = [.int .i64 x.From, .int .i64 x.To] := rfl
instance : Row XWindow.row 2 := ⟨fun _ => rfl, Nat.le_of_ble_eq_true rfl⟩
instance : FlatRow XWindow.row := ⟨fun x d hd => by simp only [XWindow.row_eq, List.mem_cons, List.not_mem_nil, or_false] at hd; rcases hd with rfl | rfl <;> rfl⟩
instance : OfTy (.st [(.int .i64), (.int .i64)]) XWindow.row := ⟨fun ds h => by
  obtain ⟨a0, b0, h0, t0, rfl⟩ := h
  obtain ⟨a1, b1, h1, t1, rfl⟩ := t0
  obtain rfl := t1
  obtain ⟨x0, rfl⟩ := OfTy.of (row := rI) _ h0
  obtain ⟨x1, rfl⟩ := OfTy.of (row := rI) _ h1
  exact ⟨⟨x0, x1⟩, rfl⟩⟩
structure XEntry where
  Kind : Int
  At : Int
  Call : Int
  Value : Int
  deriving DecidableEq
def XEntry.row (x : XEntry) : List D := [.int .i64 x.Kind, .int .i64 x.At, .int .i64 x.Call, .int .i64 x.Value]
theorem XEntry.row_eq (x : XEntry) : XEntry.row x = [.int .i64 x.Kind, .int .i64 x.At, .int .i64 x.Call, .int .i64 x.Value] := rfl
instance : Row XEntry.row 4 := ⟨fun _ => rfl, Nat.le_of_ble_eq_true rfl⟩
instance : FlatRow XEntry.row := ⟨fun x d hd => by simp only [XEntry.row_eq, List.mem_cons, List.not_mem_nil, or_false] at hd; rcases hd with rfl | rfl | rfl | rfl <;> rfl⟩
instance : OfTy (.st [(.int .i64), (.int .i64), (.int .i64), (.int .i64)]) XEntry.row := ⟨fun ds h => by
  obtain ⟨a0, b0, h0, t0, rfl⟩ := h
  obtain ⟨a1, b1, h1, t1, rfl⟩ := t0
  obtain ⟨a2, b2, h2, t2, rfl⟩ := t1
  obtain ⟨a3, b3, h3, t3, rfl⟩ := t2
  obtain rfl := t3
  obtain ⟨x0, rfl⟩ := OfTy.of (row := rI) _ h0
  obtain ⟨x1, rfl⟩ := OfTy.of (row := rI) _ h1
  obtain ⟨x2, rfl⟩ := OfTy.of (row := rI) _ h2
  obtain ⟨x3, rfl⟩ := OfTy.of (row := rI) _ h3
  exact ⟨⟨x0, x1, x2, x3⟩, rfl⟩⟩
structure XPoint where
  Name : List UInt8
  Wait : Bool
  deriving DecidableEq
def XPoint.row (x : XPoint) : List D := [.str x.Name, .bool x.Wait]
theorem XPoint.row_eq (x : XPoint) : XPoint.row x = [.str x.Name, .bool x.Wait] := rfl
instance : Row XPoint.row 2 := ⟨fun _ => rfl, Nat.le_of_ble_eq_true rfl⟩
instance : FlatRow XPoint.row := ⟨fun x d hd => by simp only [XPoint.row_eq, List.mem_cons, List.not_mem_nil, or_false] at hd; rcases hd with rfl | rfl <;> rfl⟩
instance : OfTy (.st [.str, .bool]) XPoint.row := ⟨fun ds h => by
  obtain ⟨a0, b0, h0, t0, rfl⟩ := h
  obtain ⟨a1, b1, h1, t1, rfl⟩ := t0
  obtain rfl := t1
  obtain ⟨x0, rfl⟩ := OfTy.of (row := rS) _ h0
  obtain ⟨x1, rfl⟩ := OfTy.of (row := rB) _ h1
  exact ⟨⟨x0, x1⟩, rfl⟩⟩
structure XSegment where
  A : Int
  B : Int
  Depth : Int
  Minutes : Int
  Meet : Bool
  deriving DecidableEq
def XSegment.row (x : XSegment) : List D := [.int .i64 x.A, .int .i64 x.B, .int .i64 x.Depth, .int .i64 x.Minutes, .bool x.Meet]
theorem XSegment.row_eq (x : XSegment) : XSegment.row x = [.int .i64 x.A, .int .i64 x.B, .int .i64 x.Depth, .int .i64 x.Minutes, .bool x.Meet] := rfl
instance : Row XSegment.row 5 := ⟨fun _ => rfl, Nat.le_of_ble_eq_true rfl⟩
instance : FlatRow XSegment.row := ⟨fun x d hd => by simp only [XSegment.row_eq, List.mem_cons, List.not_mem_nil, or_false] at hd; rcases hd with rfl | rfl | rfl | rfl | rfl <;> rfl⟩
instance : OfTy (.st [(.int .i64), (.int .i64), (.int .i64), (.int .i64), .bool]) XSegment.row := ⟨fun ds h => by
  obtain ⟨a0, b0, h0, t0, rfl⟩ := h
  obtain ⟨a1, b1, h1, t1, rfl⟩ := t0
  obtain ⟨a2, b2, h2, t2, rfl⟩ := t1
  obtain ⟨a3, b3, h3, t3, rfl⟩ := t2
  obtain ⟨a4, b4, h4, t4, rfl⟩ := t3
  obtain rfl := t4
  obtain ⟨x0, rfl⟩ := OfTy.of (row := rI) _ h0
  obtain ⟨x1, rfl⟩ := OfTy.of (row := rI) _ h1
  obtain ⟨x2, rfl⟩ := OfTy.of (row := rI) _ h2
  obtain ⟨x3, rfl⟩ := OfTy.of (row := rI) _ h3
  obtain ⟨x4, rfl⟩ := OfTy.of (row := rB) _ h4
  exact ⟨⟨x0, x1, x2, x3, x4⟩, rfl⟩⟩
structure XChart where
  Points : List XPoint
  Segments : List XSegment
  deriving DecidableEq
def XChart.row (x : XChart) : List D := [.sl (List.map XPoint.row x.Points), .sl (List.map XSegment.row x.Segments)]
theorem XChart.row_eq (x : XChart) : XChart.row x = [.sl (List.map XPoint.row x.Points), .sl (List.map XSegment.row x.Segments)] := rfl
instance : Row XChart.row 2 := ⟨fun _ => rfl, Nat.le_of_ble_eq_true rfl⟩
instance : OfTy (.st [(.sl (.st [.str, .bool])), (.sl (.st [(.int .i64), (.int .i64), (.int .i64), (.int .i64), .bool]))]) XChart.row := ⟨fun ds h => by
  obtain ⟨a0, b0, h0, t0, rfl⟩ := h
  obtain ⟨a1, b1, h1, t1, rfl⟩ := t0
  obtain rfl := t1
  obtain ⟨x0, rfl⟩ := OfTy.of (row := (rL XPoint.row)) _ h0
  obtain ⟨x1, rfl⟩ := OfTy.of (row := (rL XSegment.row)) _ h1
  exact ⟨⟨x0, x1⟩, rfl⟩⟩
theorem rowsX : type_of% (And.intro @rI_eq (And.intro @errD_none (And.intro @errD_some (And.intro @XWindow.row_eq (And.intro @XEntry.row_eq (And.intro @XPoint.row_eq (And.intro @XSegment.row_eq (@XChart.row_eq)))))))) := And.intro @rI_eq (And.intro @errD_none (And.intro @errD_some (And.intro @XWindow.row_eq (And.intro @XEntry.row_eq (And.intro @XPoint.row_eq (And.intro @XSegment.row_eq (@XChart.row_eq)))))))
/- spec_SplitAny -/
def f_spec_SplitAny_3 (a0 : List UInt8) (a1 : List UInt8) (v2 : Int) (k_spec_SplitAny_1 : Int → Int → (List (List UInt8)) → Option (List (List UInt8))) (v12 : Int) (v13 : List (List UInt8)) : Option (List (List UInt8)) :=
 k_spec_SplitAny_1 v12 (IntKind.i64.wrap (v2 + (1 : Int))) v13
def f_spec_SplitAny_2 (a0 : List UInt8) (a1 : List UInt8) (v1 : Int) (v2 : Int) (v3 : List (List UInt8)) (k_spec_SplitAny_1 : Int → Int → (List (List UInt8)) → Option (List (List UInt8))) : Nat → Int → Option (List (List UInt8))
 | 0, _ => none
 | n + 1, v5 =>
  if (decide (v5 < (a1.length : Int))) then (
   (ix a0 v2).bind fun b7 =>
   (ix a1 v5).bind fun b8 =>
   if ((b7.toNat : Int) == (b8.toNat : Int)) then (
    (bnd (a0.length : Int) v2 v1 a0.length).bind fun p10 =>
    if appB v3.length ([((a0.drop p10.1).take (p10.2 - p10.1))] : List (List UInt8)).length 16 then (
     f_spec_SplitAny_3 a0 a1 v2 k_spec_SplitAny_1 (IntKind.i64.wrap (v2 + (1 : Int))) (v3 ++ ([((a0.drop p10.1).take (p10.2 - p10.1))] : List (List UInt8))))
    else none)
   else (
    f_spec_SplitAny_2 a0 a1 v1 v2 v3 k_spec_SplitAny_1 n (IntKind.i64.wrap (v5 + (1 : Int)))))
  else (
   f_spec_SplitAny_3 a0 a1 v2 k_spec_SplitAny_1 v1 v3)
def f_spec_SplitAny_1 (a0 : List UInt8) (a1 : List UInt8) : Nat → Int → Int → (List (List UInt8)) → Option (List (List UInt8))
 | 0, _, _, _ => none
 | n + 1, v1, v2, v3 =>
  if (decide (v2 < (a0.length : Int))) then (
   f_spec_SplitAny_2 a0 a1 v1 v2 v3 (f_spec_SplitAny_1 a0 a1 n) bigN (0 : Int))
  else (
   (bnd (a0.length : Int) (a0.length : Int) v1 a0.length).bind fun p14 =>
   if appB v3.length ([((a0.drop p14.1).take (p14.2 - p14.1))] : List (List UInt8)).length 16 then (
    some (v3 ++ ([((a0.drop p14.1).take (p14.2 - p14.1))] : List (List UInt8))))
   else none)
def f_spec_SplitAny (a0 : List UInt8) (a1 : List UInt8) : Option (List (List UInt8)) :=
 f_spec_SplitAny_1 a0 a1 bigN (0 : Int) (0 : Int) ([] : List (List UInt8))
/- spec_IsDigits -/
def f_spec_IsDigits_1 (a0 : List UInt8) : Nat → Int → Option Bool
 | 0, _ => none
 | n + 1, v1 =>
  if (decide (v1 < (a0.length : Int))) then (
   (ix a0 v1).bind fun b3 =>
   if (decide ((b3.toNat : Int) < (48 : Int))) then (
    some false)
   else (
    if (decide ((57 : Int) < (b3.toNat : Int))) then (
     some false)
    else (
     f_spec_IsDigits_1 a0 n (IntKind.i64.wrap (v1 + (1 : Int))))))
  else (
   some (decide ((0 : Int) < (a0.length : Int))))
def f_spec_IsDigits (a0 : List UInt8) : Option Bool :=
 f_spec_IsDigits_1 a0 bigN (0 : Int)
/- spec_FormatInt -/
def f_spec_FormatInt_1 (rec_ : Int → Option (List UInt8)) : Nat → Int → (List UInt8) → Option (List UInt8)
 | 0, _, _ => none
 | n + 1, v6, v7 =>
  if (decide ((9 : Int) < v6)) then (
   if catB ([(IntKind.u8.wrap (IntKind.i64.wrap ((48 : Int) + (IntKind.i64.wrap (Int.tmod v6 (10 : Int))))))] : List Int).length v7.length then (
    f_spec_FormatInt_1 rec_ n (IntKind.i64.wrap (Int.tdiv v6 (10 : Int))) ((List.map toU8 ([(IntKind.u8.wrap (IntKind.i64.wrap ((48 : Int) + (IntKind.i64.wrap (Int.tmod v6 (10 : Int))))))] : List Int)) ++ v7))
   else none)
  else (
   if catB ([(IntKind.u8.wrap (IntKind.i64.wrap ((48 : Int) + v6)))] : List Int).length v7.length then (
    some ((List.map toU8 ([(IntKind.u8.wrap (IntKind.i64.wrap ((48 : Int) + v6)))] : List Int)) ++ v7))
   else none)
def f_spec_FormatInt_b (rec_ : Int → Option (List UInt8)) (a0 : Int) : Option (List UInt8) :=
 if (decide (a0 < (0 : Int))) then (
  if ((IntKind.i64.wrap (Int.tdiv a0 (10 : Int))) == (0 : Int)) then (
   if catB ([45] : List UInt8).length ([(IntKind.u8.wrap (IntKind.i64.wrap ((48 : Int) - a0)))] : List Int).length then (
    some (([45] : List UInt8) ++ (List.map toU8 ([(IntKind.u8.wrap (IntKind.i64.wrap ((48 : Int) - a0)))] : List Int))))
   else none)
  else (
   (rec_ (IntKind.i64.wrap (Int.tdiv a0 (10 : Int)))).bind fun r4 =>
   if catB r4.length ([(IntKind.u8.wrap (IntKind.i64.wrap ((48 : Int) - (IntKind.i64.wrap (Int.tmod a0 (10 : Int))))))] : List Int).length then (
    some (r4 ++ (List.map toU8 ([(IntKind.u8.wrap (IntKind.i64.wrap ((48 : Int) - (IntKind.i64.wrap (Int.tmod a0 (10 : Int))))))] : List Int))))
   else none))
 else (
  f_spec_FormatInt_1 rec_ bigN a0 ([] : List UInt8))
def f_spec_FormatInt_r : Nat → Int → Option (List UInt8)
 | 0, _ => none
 | n + 1, a0 => f_spec_FormatInt_b (f_spec_FormatInt_r n) a0
def f_spec_FormatInt (a0 : Int) : Option (List UInt8) := f_spec_FormatInt_r bigN a0
/- spec_ParseInt -/
def f_spec_ParseInt_5 (a0 : List UInt8) (v19 : Int) : Option (Int × Bool) :=
 (f_spec_FormatInt v19).bind fun r20 =>
 if (r20 == a0) then (
  some (v19, true))
 else (
  some ((0 : Int), false))
def f_spec_ParseInt_4 (a0 : List UInt8) (v6 : Bool) (v7 : List UInt8) : Nat → Int → Int → Option (Int × Bool)
 | 0, _, _ => none
 | n + 1, v12, v13 =>
  if (decide (v13 < (v7.length : Int))) then (
   (ix v7 v13).bind fun b15 =>
   if (decide (v12 < (IntKind.i64.wrap (Int.tdiv (IntKind.i64.wrap ((-9223372036854775808 : Int) + (IntKind.i64.wrap ((IntKind.i64.wrap (b15.toNat : Int)) - (48 : Int))))) (10 : Int))))) then (
    some ((0 : Int), false))
   else (
    f_spec_ParseInt_4 a0 v6 v7 n (IntKind.i64.wrap ((IntKind.i64.wrap (v12 * (10 : Int))) - (IntKind.i64.wrap ((IntKind.i64.wrap (b15.toNat : Int)) - (48 : Int))))) (IntKind.i64.wrap (v13 + (1 : Int)))))
  else (
   if v6 then (
    f_spec_ParseInt_5 a0 v12)
   else (
    if (v12 == (-9223372036854775808 : Int)) then (
     some ((0 : Int), false))
    else (
     f_spec_ParseInt_5 a0 (IntKind.i64.wrap (0 - v12)))))
def f_spec_ParseInt_3 (a0 : List UInt8) (v6 : Bool) (v7 : List UInt8) (v10 : Bool) : Option (Int × Bool) :=
 if v10 then (
  some ((0 : Int), false))
 else (
  f_spec_ParseInt_4 a0 v6 v7 bigN (0 : Int) (0 : Int))
def f_spec_ParseInt_2 (a0 : List UInt8) (v6 : Bool) (v7 : List UInt8) : Option (Int × Bool) :=
 (f_spec_IsDigits v7).bind fun r8 =>
 if r8 then (
  f_spec_ParseInt_3 a0 v6 v7 (decide ((19 : Int) < (v7.length : Int))))
 else (
  f_spec_ParseInt_3 a0 v6 v7 true)
def f_spec_ParseInt_1 (a0 : List UInt8) (v3 : Bool) : Option (Int × Bool) :=
 if v3 then (
  (bnd (a0.length : Int) (a0.length : Int) (1 : Int) a0.length).bind fun p5 =>
  f_spec_ParseInt_2 a0 true ((a0.drop p5.1).take (p5.2 - p5.1)))
 else (
  f_spec_ParseInt_2 a0 false a0)
def f_spec_ParseInt (a0 : List UInt8) : Option (Int × Bool) :=
 if (decide ((0 : Int) < (a0.length : Int))) then (
  (ix a0 (0 : Int)).bind fun b2 =>
  f_spec_ParseInt_1 a0 ((b2.toNat : Int) == (45 : Int)))
 else (
  f_spec_ParseInt_1 a0 false)
/- spec_l01In -/
def f_spec_l01In (a0 : Int) (a1 : Int) (a2 : Int) : Option Bool :=
 if (decide (a1 ≤ a0)) then (
  some (decide (a0 ≤ a2)))
 else (
  some false)
/- spec_WindowsOk -/
def f_spec_WindowsOk_1 (a0 : List XWindow) : Nat → Int → Option Bool
 | 0, _ => none
 | n + 1, v1 =>
  if (decide (v1 < (a0.length : Int))) then (
   (ix a0 v1).bind fun x3 =>
   (f_spec_l01In x3.From (0 : Int) (2880 : Int)).bind fun r4 =>
   if r4 then (
    (f_spec_l01In x3.To x3.From (2880 : Int)).bind fun r6 =>
    if r6 then (
     if (decide ((0 : Int) < v1)) then (
      (ix a0 (IntKind.i64.wrap (v1 - (1 : Int)))).bind fun x9 =>
      if (decide (x3.From ≤ (IntKind.i64.wrap (x9.To + (1 : Int))))) then (
       some false)
      else (
       f_spec_WindowsOk_1 a0 n (IntKind.i64.wrap (v1 + (1 : Int)))))
     else (
      f_spec_WindowsOk_1 a0 n (IntKind.i64.wrap (v1 + (1 : Int)))))
    else (
     some false))
   else (
    some false))
  else (
   some true)
def f_spec_WindowsOk (a0 : List XWindow) : Option Bool :=
 f_spec_WindowsOk_1 a0 bigN (0 : Int)
/- spec_Join -/
def f_spec_Join_2 (a1 : List UInt8) (x4 : List UInt8) (a0 : List (List UInt8)) (v2 : Int) (k_spec_Join_1 : (List UInt8) → Int → Option (List UInt8)) (v7 : List UInt8) : Option (List UInt8) :=
 if catB v7.length x4.length then (
  k_spec_Join_1 (v7 ++ x4) (IntKind.i64.wrap (v2 + (1 : Int))))
 else none
def f_spec_Join_1 (a1 : List UInt8) (a0 : List (List UInt8)) : Nat → (List UInt8) → Int → Option (List UInt8)
 | 0, _, _ => none
 | n + 1, v1, v2 =>
  if (decide (v2 < (a0.length : Int))) then (
   (ix a0 v2).bind fun x4 =>
   if (decide ((0 : Int) < v2)) then (
    if catB v1.length a1.length then (
     f_spec_Join_2 a1 x4 a0 v2 (f_spec_Join_1 a1 a0 n) (v1 ++ a1))
    else none)
   else (
    f_spec_Join_2 a1 x4 a0 v2 (f_spec_Join_1 a1 a0 n) v1))
  else (
   some v1)
def f_spec_Join (a0 : List (List UInt8)) (a1 : List UInt8) : Option (List UInt8) :=
 f_spec_Join_1 a1 a0 bigN ([] : List UInt8) (0 : Int)
/- spec_FormatWindows -/
def f_spec_FormatWindows_1 (a0 : List XWindow) : Nat → Int → (List (List UInt8)) → Option (List UInt8)
 | 0, _, _ => none
 | n + 1, v3, v4 =>
  if (decide (v3 < (a0.length : Int))) then (
   (ix a0 v3).bind fun x6 =>
   (f_spec_FormatInt x6.From).bind fun r7 =>
   if catB r7.length ([45] : List UInt8).length then (
    (f_spec_FormatInt x6.To).bind fun r9 =>
    if catB (r7 ++ ([45] : List UInt8)).length r9.length then (
     if appB v4.length ([((r7 ++ ([45] : List UInt8)) ++ r9)] : List (List UInt8)).length 16 then (
      f_spec_FormatWindows_1 a0 n (IntKind.i64.wrap (v3 + (1 : Int))) (v4 ++ ([((r7 ++ ([45] : List UInt8)) ++ r9)] : List (List UInt8))))
     else none)
    else none)
   else none)
  else (
   if ((v4.length : Int) == (0 : Int)) then (
    some ([110, 111, 110, 101] : List UInt8))
   else (
    (f_spec_Join v4 ([32] : List UInt8)).bind fun r13 =>
    some r13))
def f_spec_FormatWindows (a0 : List XWindow) : Option (List UInt8) :=
 (f_spec_WindowsOk a0).bind fun r1 =>
 if r1 then (
  f_spec_FormatWindows_1 a0 bigN (0 : Int) ([] : List (List UInt8)))
 else (
  some ([] : List UInt8))
/- spec_ParseWindows -/
def f_spec_ParseWindows_2 (a0 : List UInt8) (r10 : Int × Bool) (r12 : Int × Bool) (r2 : (List (List UInt8))) (v3 : Int) (v4 : List XWindow) (k_spec_ParseWindows_1 : Int → (List XWindow) → Option ((List XWindow) × Bool)) (v14 : Bool) : Option ((List XWindow) × Bool) :=
 if v14 then (
  some (([] : List XWindow), false))
 else (
  if appB v4.length ([(⟨r10.1, r12.1⟩ : XWindow)] : List XWindow).length 16 then (
   k_spec_ParseWindows_1 (IntKind.i64.wrap (v3 + (1 : Int))) (v4 ++ ([(⟨r10.1, r12.1⟩ : XWindow)] : List XWindow)))
  else none)
def f_spec_ParseWindows_3 (v4 : List XWindow) (v20 : Bool) : Option ((List XWindow) × Bool) :=
 if v20 then (
  some (([] : List XWindow), false))
 else (
  some (v4, true))
def f_spec_ParseWindows_1 (a0 : List UInt8) (r2 : (List (List UInt8))) : Nat → Int → (List XWindow) → Option ((List XWindow) × Bool)
 | 0, _, _ => none
 | n + 1, v3, v4 =>
  if (decide (v3 < (r2.length : Int))) then (
   (ix r2 v3).bind fun x6 =>
   (f_spec_SplitAny x6 ([45] : List UInt8)).bind fun r7 =>
   if ((r7.length : Int) != (2 : Int)) then (
    some (([] : List XWindow), false))
   else (
    (ix r7 (0 : Int)).bind fun x9 =>
    (f_spec_ParseInt x9).bind fun r10 =>
    (ix r7 (1 : Int)).bind fun x11 =>
    (f_spec_ParseInt x11).bind fun r12 =>
    if r10.2 then (
     f_spec_ParseWindows_2 a0 r10 r12 r2 v3 v4 (f_spec_ParseWindows_1 a0 r2 n) (!r12.2))
    else (
     f_spec_ParseWindows_2 a0 r10 r12 r2 v3 v4 (f_spec_ParseWindows_1 a0 r2 n) true)))
  else (
   (f_spec_WindowsOk v4).bind fun r17 =>
   if r17 then (
    (f_spec_FormatWindows v4).bind fun r19 =>
    f_spec_ParseWindows_3 v4 (!(r19 == a0)))
   else (
    f_spec_ParseWindows_3 v4 true))
def f_spec_ParseWindows (a0 : List UInt8) : Option ((List XWindow) × Bool) :=
 if (a0 == ([110, 111, 110, 101] : List UInt8)) then (
  some (([] : List XWindow), true))
 else (
  (f_spec_SplitAny a0 ([32] : List UInt8)).bind fun r2 =>
  f_spec_ParseWindows_1 a0 r2 bigN (0 : Int) ([] : List XWindow))
/- impl_SplitAny -/
def f_impl_SplitAny_2 (a0 : List UInt8) (a1 : List UInt8) (v2 : Int) (k_impl_SplitAny_1 : Int → Int → (List (List UInt8)) → Option (List (List UInt8))) (v10 : Int) (v11 : List (List UInt8)) : Option (List (List UInt8)) :=
 k_impl_SplitAny_1 v10 (IntKind.i64.wrap (v2 + (1 : Int))) v11
def f_impl_SplitAny_1 (a0 : List UInt8) (a1 : List UInt8) : Nat → Int → Int → (List (List UInt8)) → Option (List (List UInt8))
 | 0, _, _, _ => none
 | n + 1, v1, v2, v3 =>
  if (decide (v2 < (a0.length : Int))) then (
   (ix a0 v2).bind fun b5 =>
   (f_strings_IndexByte a1 (b5.toNat : Int)).bind fun r6 =>
   if (decide ((0 : Int) ≤ r6)) then (
    (bnd (a0.length : Int) v2 v1 a0.length).bind fun p8 =>
    if appB v3.length ([((a0.drop p8.1).take (p8.2 - p8.1))] : List (List UInt8)).length 16 then (
     f_impl_SplitAny_2 a0 a1 v2 (f_impl_SplitAny_1 a0 a1 n) (IntKind.i64.wrap (v2 + (1 : Int))) (v3 ++ ([((a0.drop p8.1).take (p8.2 - p8.1))] : List (List UInt8))))
    else none)
   else (
    f_impl_SplitAny_2 a0 a1 v2 (f_impl_SplitAny_1 a0 a1 n) v1 v3))
  else (
   (bnd (a0.length : Int) (a0.length : Int) v1 a0.length).bind fun p12 =>
   if appB v3.length ([((a0.drop p12.1).take (p12.2 - p12.1))] : List (List UInt8)).length 16 then (
    some (v3 ++ ([((a0.drop p12.1).take (p12.2 - p12.1))] : List (List UInt8))))
   else none)
def f_impl_SplitAny (a0 : List UInt8) (a1 : List UInt8) : Option (List (List UInt8)) :=
 f_impl_SplitAny_1 a0 a1 bigN (0 : Int) (0 : Int) ([] : List (List UInt8))
/- impl_parseNumbers -/
def f_impl_parseNumbers_1 (a0 : List (List UInt8)) : Nat → Int → (List Int) → Option ((List Int) × Bool)
 | 0, _, _ => none
 | n + 1, v1, v2 =>
  if (decide (v1 < (a0.length : Int))) then (
   (ix a0 v1).bind fun x4 =>
   (f_impl_ParseInt x4).bind fun r5 =>
   if r5.2 then (
    if appB v2.length ([r5.1] : List Int).length 8 then (
     f_impl_parseNumbers_1 a0 n (IntKind.i64.wrap (v1 + (1 : Int))) (v2 ++ ([r5.1] : List Int)))
    else none)
   else (
    some (([] : List Int), false)))
  else (
   some (v2, true))
def f_impl_parseNumbers (a0 : List (List UInt8)) : Option ((List Int) × Bool) :=
 f_impl_parseNumbers_1 a0 bigN (0 : Int) ([] : List Int)
/- impl_WindowsOk -/
def f_impl_WindowsOk_1 (a0 : List XWindow) : Nat → Int → Option Bool
 | 0, _ => none
 | n + 1, v1 =>
  if (decide (v1 < (a0.length : Int))) then (
   (ix a0 v1).bind fun x3 =>
   if (decide (x3.From < (0 : Int))) then (
    some false)
   else (
    if (decide (x3.To < x3.From)) then (
     some false)
    else (
     if (decide ((2880 : Int) < x3.To)) then (
      some false)
     else (
      if (decide ((0 : Int) < v1)) then (
       (ix a0 (IntKind.i64.wrap (v1 - (1 : Int)))).bind fun x8 =>
       if (decide (x3.From ≤ (IntKind.i64.wrap (x8.To + (1 : Int))))) then (
        some false)
       else (
        f_impl_WindowsOk_1 a0 n (IntKind.i64.wrap (v1 + (1 : Int)))))
      else (
       f_impl_WindowsOk_1 a0 n (IntKind.i64.wrap (v1 + (1 : Int))))))))
  else (
   some true)
def f_impl_WindowsOk (a0 : List XWindow) : Option Bool :=
 f_impl_WindowsOk_1 a0 bigN (0 : Int)
/- impl_FormatInt -/
def f_impl_FormatInt (a0 : Int) : Option (List UInt8) :=
 (f_strconv_Itoa a0).bind fun r1 =>
 some r1
/- impl_Join -/
def f_impl_Join (a0 : List (List UInt8)) (a1 : List UInt8) : Option (List UInt8) :=
 (f_strings_Join a0 a1).bind fun r1 =>
 some r1
/- impl_FormatWindows -/
def f_impl_FormatWindows_1 (a0 : List XWindow) : Nat → Int → (List (List UInt8)) → Option (List UInt8)
 | 0, _, _ => none
 | n + 1, v4, v5 =>
  if (decide (v4 < (a0.length : Int))) then (
   (ix a0 v4).bind fun x7 =>
   (f_impl_FormatInt x7.From).bind fun r8 =>
   if catB r8.length ([45] : List UInt8).length then (
    (f_impl_FormatInt x7.To).bind fun r10 =>
    if catB (r8 ++ ([45] : List UInt8)).length r10.length then (
     if appB v5.length ([((r8 ++ ([45] : List UInt8)) ++ r10)] : List (List UInt8)).length 16 then (
      f_impl_FormatWindows_1 a0 n (IntKind.i64.wrap (v4 + (1 : Int))) (v5 ++ ([((r8 ++ ([45] : List UInt8)) ++ r10)] : List (List UInt8))))
     else none)
    else none)
   else none)
  else (
   (f_impl_Join v5 ([32] : List UInt8)).bind fun r13 =>
   some r13)
def f_impl_FormatWindows (a0 : List XWindow) : Option (List UInt8) :=
 (f_impl_WindowsOk a0).bind fun r1 =>
 if r1 then (
  if ((a0.length : Int) == (0 : Int)) then (
   some ([110, 111, 110, 101] : List UInt8))
  else (
   f_impl_FormatWindows_1 a0 bigN (0 : Int) ([] : List (List UInt8))))
 else (
  some ([] : List UInt8))
/- impl_ParseWindows -/
def f_impl_ParseWindows_2 (a0 : List UInt8) (r2 : (List (List UInt8))) (v3 : Int) (v4 : List XWindow) (r8 : (List Int) × Bool) (k_impl_ParseWindows_1 : Int → (List XWindow) → Option ((List XWindow) × Bool)) (v10 : Bool) : Option ((List XWindow) × Bool) :=
 if v10 then (
  some (([] : List XWindow), false))
 else (
  (ix r8.1 (0 : Int)).bind fun x12 =>
  (ix r8.1 (1 : Int)).bind fun x13 =>
  if appB v4.length ([(⟨x12, x13⟩ : XWindow)] : List XWindow).length 16 then (
   k_impl_ParseWindows_1 (IntKind.i64.wrap (v3 + (1 : Int))) (v4 ++ ([(⟨x12, x13⟩ : XWindow)] : List XWindow)))
  else none)
def f_impl_ParseWindows_3 (v4 : List XWindow) (v18 : Bool) : Option ((List XWindow) × Bool) :=
 if v18 then (
  some (([] : List XWindow), false))
 else (
  some (v4, true))
def f_impl_ParseWindows_1 (a0 : List UInt8) (r2 : (List (List UInt8))) : Nat → Int → (List XWindow) → Option ((List XWindow) × Bool)
 | 0, _, _ => none
 | n + 1, v3, v4 =>
  if (decide (v3 < (r2.length : Int))) then (
   (ix r2 v3).bind fun x6 =>
   (f_impl_SplitAny x6 ([45] : List UInt8)).bind fun r7 =>
   (f_impl_parseNumbers r7).bind fun r8 =>
   if r8.2 then (
    f_impl_ParseWindows_2 a0 r2 v3 v4 r8 (f_impl_ParseWindows_1 a0 r2 n) ((r8.1.length : Int) != (2 : Int)))
   else (
    f_impl_ParseWindows_2 a0 r2 v3 v4 r8 (f_impl_ParseWindows_1 a0 r2 n) true))
  else (
   (f_impl_WindowsOk v4).bind fun r15 =>
   if r15 then (
    (f_impl_FormatWindows v4).bind fun r17 =>
    f_impl_ParseWindows_3 v4 (!(r17 == a0)))
   else (
    f_impl_ParseWindows_3 v4 true))
def f_impl_ParseWindows (a0 : List UInt8) : Option ((List XWindow) × Bool) :=
 if (a0 == ([110, 111, 110, 101] : List UInt8)) then (
  some (([] : List XWindow), true))
 else (
  (f_impl_SplitAny a0 ([32] : List UInt8)).bind fun r2 =>
  f_impl_ParseWindows_1 a0 r2 bigN (0 : Int) ([] : List XWindow))
/- laws_eqWindow -/
def f_laws_eqWindow (a0 : XWindow) (a1 : XWindow) : Option Bool :=
 if (a0.From != a1.From) then (
  some false)
 else (
  if (a0.To != a1.To) then (
   some false)
  else (
   some true))
/- laws_eqWindowS -/
def f_laws_eqWindowS_1 (a0 : List XWindow) (a1 : List XWindow) : Nat → Int → Option Bool
 | 0, _ => none
 | n + 1, v2 =>
  if (decide (v2 < (a0.length : Int))) then (
   (ix a0 v2).bind fun x4 =>
   (ix a1 v2).bind fun x5 =>
   (f_laws_eqWindow x4 x5).bind fun r6 =>
   if r6 then (
    f_laws_eqWindowS_1 a0 a1 n (IntKind.i64.wrap (v2 + (1 : Int))))
   else (
    some false))
  else (
   some true)
def f_laws_eqWindowS (a0 : List XWindow) (a1 : List XWindow) : Option Bool :=
 if ((a0.length : Int) != (a1.length : Int)) then (
  some false)
 else (
  f_laws_eqWindowS_1 a0 a1 bigN (0 : Int))
/- laws_markWindowS -/
def f_laws_markWindowS_1 : Nat → Int → Int → (List XWindow) → Option (Int × List XWindow)
 | 0, _, _, _ => none
 | n + 1, v1, v2, v3 =>
  if (decide (v2 < (v3.length : Int))) then (
   (ix v3 v2).bind fun x5 =>
   (ix (v3.set (Int.toNat v2) (⟨v1, x5.To⟩ : XWindow)) v2).bind fun x6 =>
   f_laws_markWindowS_1 n (IntKind.i64.wrap ((IntKind.i64.wrap (v1 + (1 : Int))) + (1 : Int))) (IntKind.i64.wrap (v2 + (1 : Int))) ((v3.set (Int.toNat v2) (⟨v1, x5.To⟩ : XWindow)).set (Int.toNat v2) (⟨x6.From, (IntKind.i64.wrap (v1 + (1 : Int)))⟩ : XWindow)))
  else (
   some (v1, v3))
def f_laws_markWindowS (a0 : List XWindow) (a1 : Int) : Option (Int × List XWindow) :=
 f_laws_markWindowS_1 bigN a1 (0 : Int) a0
/- laws_heldWindowS -/
def f_laws_heldWindowS_1 (a0 : List XWindow) : Nat → Int → Int → Option Int
 | 0, _, _ => none
 | n + 1, v1, v2 =>
  if (decide (v2 < (a0.length : Int))) then (
   (ix a0 v2).bind fun x4 =>
   if (x4.From != v1) then (
    some (-1 : Int))
   else (
    if (x4.To != (IntKind.i64.wrap (v1 + (1 : Int)))) then (
     some (-1 : Int))
    else (
     f_laws_heldWindowS_1 a0 n (IntKind.i64.wrap ((IntKind.i64.wrap (v1 + (1 : Int))) + (1 : Int))) (IntKind.i64.wrap (v2 + (1 : Int))))))
  else (
   some v1)
def f_laws_heldWindowS (a0 : List XWindow) (a1 : Int) : Option Int :=
 f_laws_heldWindowS_1 a0 bigN a1 (0 : Int)
/- laws_FnExactParseWindows -/
def f_laws_FnExactParseWindows (a0 : List UInt8) : Option Bool :=
 if (decide ((1048576 : Int) < (a0.length : Int))) then (
  some true)
 else (
  (f_spec_ParseWindows a0).bind fun r2 =>
  (f_impl_ParseWindows a0).bind fun r3 =>
  (f_laws_eqWindowS r3.1 r2.1).bind fun r4 =>
  if r4 then (
   if (r3.2 == r2.2) then (
    (f_laws_markWindowS r3.1 (1 : Int)).bind fun r7 =>
    (f_laws_heldWindowS r7.2 (1 : Int)).bind fun r8 =>
    if (decide (r8 < (0 : Int))) then (
     some false)
    else (
     if (r8 != r7.1) then (
      some false)
     else (
      (f_impl_ParseWindows a0).bind fun r11 =>
      (f_laws_eqWindowS r11.1 r2.1).bind fun r12 =>
      if r12 then (
       if (r11.2 == r2.2) then (
        (f_laws_heldWindowS r7.2 (1 : Int)).bind fun r15 =>
        if (decide (r15 < (0 : Int))) then (
         some false)
        else (
         if (r15 != r7.1) then (
          some false)
         else (
          some true)))
       else (
        some false))
      else (
       some false))))
   else (
    some false))
  else (
   some false))
/- spec_SplitLines -/
def f_spec_SplitLines (a0 : List UInt8) : Option (List (List UInt8)) :=
 (f_spec_SplitAny a0 ([10] : List UInt8)).bind fun r1 =>
 (ix r1 (IntKind.i64.wrap ((r1.length : Int) - (1 : Int)))).bind fun x2 =>
 if (x2 == ([] : List UInt8)) then (
  (bnd (r1.length : Int) (IntKind.i64.wrap ((r1.length : Int) - (1 : Int))) (0 : Int) r1.length).bind fun p4 =>
  some ((r1.drop p4.1).take (p4.2 - p4.1)))
 else (
  some r1)
/- spec_SumOfText -/
def f_spec_SumOfText_1 (a0 : List UInt8) : Nat → Int → Int → Option Int
 | 0, _, _ => none
 | n + 1, v1, v2 =>
  if (decide (v2 < (a0.length : Int))) then (
   (ix a0 v2).bind fun b4 =>
   f_spec_SumOfText_1 a0 n (IntKind.i64.wrap (Int.tmod (IntKind.i64.wrap ((IntKind.i64.wrap ((31 : Int) * v1)) + (IntKind.i64.wrap (b4.toNat : Int)))) (65521 : Int))) (IntKind.i64.wrap (v2 + (1 : Int))))
  else (
   some v1)
def f_spec_SumOfText (a0 : List UInt8) : Option Int :=
 f_spec_SumOfText_1 a0 bigN (7 : Int) (0 : Int)
/- spec_FormatEntry -/
def f_spec_FormatEntry (a0 : XEntry) : Option (List UInt8) :=
 (f_spec_l01In a0.Kind (1 : Int) (4 : Int)).bind fun r1 =>
 if r1 then (
  (f_spec_l01In a0.At (0 : Int) (2880 : Int)).bind fun r3 =>
  if r3 then (
   (f_spec_l01In a0.Call (0 : Int) (2880 : Int)).bind fun r5 =>
   if r5 then (
    (f_spec_l01In a0.Value (0 : Int) (2880 : Int)).bind fun r7 =>
    if r7 then (
     (ix ([([97, 110, 110, 111, 117, 110, 99, 101] : List UInt8), ([99, 108, 101, 97, 114] : List UInt8), ([99, 97, 110, 99, 101, 108] : List UInt8), ([116, 105, 99, 107] : List UInt8)] : List (List UInt8)) (IntKind.i64.wrap (a0.Kind - (1 : Int)))).bind fun x9 =>
     if catB x9.length ([32] : List UInt8).length then (
      (f_spec_FormatInt a0.At).bind fun r11 =>
      if catB (x9 ++ ([32] : List UInt8)).length r11.length then (
       if catB ((x9 ++ ([32] : List UInt8)) ++ r11).length ([32] : List UInt8).length then (
        (f_spec_FormatInt a0.Call).bind fun r14 =>
        if catB (((x9 ++ ([32] : List UInt8)) ++ r11) ++ ([32] : List UInt8)).length r14.length then (
         if catB ((((x9 ++ ([32] : List UInt8)) ++ r11) ++ ([32] : List UInt8)) ++ r14).length ([32] : List UInt8).length then (
          (f_spec_FormatInt a0.Value).bind fun r17 =>
          if catB (((((x9 ++ ([32] : List UInt8)) ++ r11) ++ ([32] : List UInt8)) ++ r14) ++ ([32] : List UInt8)).length r17.length then (
           if catB ((((((x9 ++ ([32] : List UInt8)) ++ r11) ++ ([32] : List UInt8)) ++ r14) ++ ([32] : List UInt8)) ++ r17).length ([32, 35] : List UInt8).length then (
            (f_spec_SumOfText ((((((x9 ++ ([32] : List UInt8)) ++ r11) ++ ([32] : List UInt8)) ++ r14) ++ ([32] : List UInt8)) ++ r17)).bind fun r20 =>
            (f_spec_FormatInt r20).bind fun r21 =>
            if catB (((((((x9 ++ ([32] : List UInt8)) ++ r11) ++ ([32] : List UInt8)) ++ r14) ++ ([32] : List UInt8)) ++ r17) ++ ([32, 35] : List UInt8)).length r21.length then (
             some ((((((((x9 ++ ([32] : List UInt8)) ++ r11) ++ ([32] : List UInt8)) ++ r14) ++ ([32] : List UInt8)) ++ r17) ++ ([32, 35] : List UInt8)) ++ r21))
            else none)
           else none)
          else none)
         else none)
        else none)
       else none)
      else none)
     else none)
    else (
     some ([] : List UInt8)))
   else (
    some ([] : List UInt8)))
  else (
   some ([] : List UInt8)))
 else (
  some ([] : List UInt8))
/- spec_ParseEntry -/
def f_spec_ParseEntry_2 (v5 : Int) (r12 : Int × Bool) (r14 : Int × Bool) (r16 : Int × Bool) (v22 : Bool) : Option (XEntry × Bool) :=
 if v22 then (
  some ((⟨(0 : Int), (0 : Int), (0 : Int), (0 : Int)⟩ : XEntry), false))
 else (
  some ((⟨v5, r12.1, r14.1, r16.1⟩ : XEntry), true))
def f_spec_ParseEntry_1 (a0 : List UInt8) (r1 : (List (List UInt8))) (y3 : Int) (y6 : List (List UInt8)) : Nat → Int → Int → Option (XEntry × Bool)
 | 0, _, _ => none
 | n + 1, v4, v5 =>
  if (decide (v4 < y3)) then (
   (ix y6 v4).bind fun x8 =>
   (ix r1 (0 : Int)).bind fun x9 =>
   if (x9 == x8) then (
    f_spec_ParseEntry_1 a0 r1 y3 y6 n (IntKind.i64.wrap (v4 + (1 : Int))) (IntKind.i64.wrap (v4 + (1 : Int))))
   else (
    f_spec_ParseEntry_1 a0 r1 y3 y6 n (IntKind.i64.wrap (v4 + (1 : Int))) v5))
  else (
   (ix r1 (1 : Int)).bind fun x11 =>
   (f_spec_ParseInt x11).bind fun r12 =>
   (ix r1 (2 : Int)).bind fun x13 =>
   (f_spec_ParseInt x13).bind fun r14 =>
   (ix r1 (3 : Int)).bind fun x15 =>
   (f_spec_ParseInt x15).bind fun r16 =>
   if r12.2 then (
    if r14.2 then (
     if r16.2 then (
      if (v5 == (0 : Int)) then (
       f_spec_ParseEntry_2 v5 r12 r14 r16 true)
      else (
       (f_spec_FormatEntry (⟨v5, r12.1, r14.1, r16.1⟩ : XEntry)).bind fun r21 =>
       f_spec_ParseEntry_2 v5 r12 r14 r16 (!(r21 == a0))))
     else (
      f_spec_ParseEntry_2 v5 r12 r14 r16 true))
    else (
     f_spec_ParseEntry_2 v5 r12 r14 r16 true))
   else (
    f_spec_ParseEntry_2 v5 r12 r14 r16 true))
def f_spec_ParseEntry (a0 : List UInt8) : Option (XEntry × Bool) :=
 (f_spec_SplitAny a0 ([32] : List UInt8)).bind fun r1 =>
 if ((r1.length : Int) != (5 : Int)) then (
  some ((⟨(0 : Int), (0 : Int), (0 : Int), (0 : Int)⟩ : XEntry), false))
 else (
  f_spec_ParseEntry_1 a0 r1 (([([97, 110, 110, 111, 117, 110, 99, 101] : List UInt8), ([99, 108, 101, 97, 114] : List UInt8), ([99, 97, 110, 99, 101, 108] : List UInt8), ([116, 105, 99, 107] : List UInt8)] : List (List UInt8)).length : Int) ([([97, 110, 110, 111, 117, 110, 99, 101] : List UInt8), ([99, 108, 101, 97, 114] : List UInt8), ([99, 97, 110, 99, 101, 108] : List UInt8), ([116, 105, 99, 107] : List UInt8)] : List (List UInt8)) bigN (0 : Int) (0 : Int))
/- spec_ReadJournal -/
def f_spec_ReadJournal_2 (v3 : List XEntry) : Option ((List XEntry) × Int) :=
 some (v3, (v3.length : Int))
def f_spec_ReadJournal_1 (r1 : (List (List UInt8))) : Nat → Int → (List XEntry) → Option ((List XEntry) × Int)
 | 0, _, _ => none
 | n + 1, v2, v3 =>
  if (decide (v2 < (r1.length : Int))) then (
   (ix r1 v2).bind fun x5 =>
   (f_spec_ParseEntry x5).bind fun r6 =>
   if r6.2 then (
    if ((v3.length : Int) == (60 : Int)) then (
     f_spec_ReadJournal_2 v3)
    else (
     if appB v3.length ([(⟨r6.1.Kind, r6.1.At, r6.1.Call, r6.1.Value⟩ : XEntry)] : List XEntry).length 32 then (
      f_spec_ReadJournal_1 r1 n (IntKind.i64.wrap (v2 + (1 : Int))) (v3 ++ ([(⟨r6.1.Kind, r6.1.At, r6.1.Call, r6.1.Value⟩ : XEntry)] : List XEntry)))
     else none))
   else (
    f_spec_ReadJournal_2 v3))
  else (
   f_spec_ReadJournal_2 v3)
def f_spec_ReadJournal (a0 : List UInt8) : Option ((List XEntry) × Int) :=
 (f_spec_SplitLines a0).bind fun r1 =>
 f_spec_ReadJournal_1 r1 bigN (0 : Int) ([] : List XEntry)
/- impl_SplitLines -/
def f_impl_SplitLines (a0 : List UInt8) : Option (List (List UInt8)) :=
 (f_impl_SplitAny a0 ([10] : List UInt8)).bind fun r1 =>
 (ix r1 (IntKind.i64.wrap ((r1.length : Int) - (1 : Int)))).bind fun x2 =>
 if (x2 == ([] : List UInt8)) then (
  (bnd (r1.length : Int) (IntKind.i64.wrap ((r1.length : Int) - (1 : Int))) (0 : Int) r1.length).bind fun p4 =>
  some ((r1.drop p4.1).take (p4.2 - p4.1)))
 else (
  some r1)
/- impl_within -/
def f_impl_within (a0 : Int) (a1 : Int) (a2 : Int) : Option Bool :=
 if (decide (a1 ≤ a0)) then (
  some (decide (a0 ≤ a2)))
 else (
  some false)
/- impl_entryName -/
def f_impl_entryName (a0 : Int) : Option (List UInt8) :=
 (f_impl_within a0 (1 : Int) (4 : Int)).bind fun r1 =>
 if r1 then (
  (ix ([([97, 110, 110, 111, 117, 110, 99, 101] : List UInt8), ([99, 108, 101, 97, 114] : List UInt8), ([99, 97, 110, 99, 101, 108] : List UInt8), ([116, 105, 99, 107] : List UInt8)] : List (List UInt8)) (IntKind.i64.wrap (a0 - (1 : Int)))).bind fun x3 =>
  some x3)
 else (
  some ([] : List UInt8))
/- impl_isMinute -/
def f_impl_isMinute (a0 : Int) : Option Bool :=
 (f_impl_within a0 (0 : Int) (2880 : Int)).bind fun r1 =>
 some r1
/- impl_SumOfText -/
def f_impl_SumOfText_1 (a0 : List UInt8) : Nat → Int → Int → Option Int
 | 0, _, _ => none
 | n + 1, v1, v2 =>
  if (decide (v2 < (a0.length : Int))) then (
   (ix a0 v2).bind fun b4 =>
   f_impl_SumOfText_1 a0 n (IntKind.i64.wrap (Int.tmod (IntKind.i64.wrap ((IntKind.i64.wrap ((31 : Int) * v1)) + (IntKind.i64.wrap (b4.toNat : Int)))) (65521 : Int))) (IntKind.i64.wrap (v2 + (1 : Int))))
  else (
   some v1)
def f_impl_SumOfText (a0 : List UInt8) : Option Int :=
 f_impl_SumOfText_1 a0 bigN (7 : Int) (0 : Int)
/- impl_FormatEntry -/
def f_impl_FormatEntry (a0 : XEntry) : Option (List UInt8) :=
 (f_impl_entryName a0.Kind).bind fun r1 =>
 if (r1 == ([] : List UInt8)) then (
  some ([] : List UInt8))
 else (
  (f_impl_isMinute a0.At).bind fun r3 =>
  if r3 then (
   (f_impl_isMinute a0.Call).bind fun r5 =>
   if r5 then (
    (f_impl_isMinute a0.Value).bind fun r7 =>
    if r7 then (
     (f_impl_FormatInt a0.At).bind fun r9 =>
     (f_impl_FormatInt a0.Call).bind fun r10 =>
     (f_impl_FormatInt a0.Value).bind fun r11 =>
     (f_impl_Join ([r1, r9, r10, r11] : List (List UInt8)) ([32] : List UInt8)).bind fun r12 =>
     if catB r12.length ([32, 35] : List UInt8).length then (
      (f_impl_SumOfText r12).bind fun r14 =>
      (f_impl_FormatInt r14).bind fun r15 =>
      if catB (r12 ++ ([32, 35] : List UInt8)).length r15.length then (
       some ((r12 ++ ([32, 35] : List UInt8)) ++ r15))
      else none)
     else none)
    else (
     some ([] : List UInt8)))
   else (
    some ([] : List UInt8)))
  else (
   some ([] : List UInt8)))
/- impl_ParseEntry -/
def f_impl_ParseEntry_1 (a0 : List UInt8) (r4 : (List Int) × Bool) : Nat → Int → Option (XEntry × Bool)
 | 0, _ => none
 | n + 1, v6 =>
  if (decide (v6 ≤ (4 : Int))) then (
   (ix r4.1 (0 : Int)).bind fun x8 =>
   (ix r4.1 (1 : Int)).bind fun x9 =>
   (ix r4.1 (2 : Int)).bind fun x10 =>
   (f_impl_FormatEntry (⟨v6, x8, x9, x10⟩ : XEntry)).bind fun r11 =>
   if (r11 == a0) then (
    some ((⟨v6, x8, x9, x10⟩ : XEntry), true))
   else (
    f_impl_ParseEntry_1 a0 r4 n (IntKind.i64.wrap (v6 + (1 : Int)))))
  else (
   some ((⟨(0 : Int), (0 : Int), (0 : Int), (0 : Int)⟩ : XEntry), false))
def f_impl_ParseEntry (a0 : List UInt8) : Option (XEntry × Bool) :=
 (f_impl_SplitAny a0 ([32] : List UInt8)).bind fun r1 =>
 if ((r1.length : Int) != (5 : Int)) then (
  some ((⟨(0 : Int), (0 : Int), (0 : Int), (0 : Int)⟩ : XEntry), false))
 else (
  (bnd (r1.length : Int) (4 : Int) (1 : Int) r1.length).bind fun p3 =>
  (f_impl_parseNumbers ((r1.drop p3.1).take (p3.2 - p3.1))).bind fun r4 =>
  if r4.2 then (
   f_impl_ParseEntry_1 a0 r4 bigN (1 : Int))
  else (
   some ((⟨(0 : Int), (0 : Int), (0 : Int), (0 : Int)⟩ : XEntry), false)))
/- impl_readEntries -/
def f_impl_readEntries_1 (a0 : List (List UInt8)) : Nat → Int → (List XEntry) → Option ((List XEntry) × (Option Int))
 | 0, _, _ => none
 | n + 1, v1, v2 =>
  if (decide (v1 < (a0.length : Int))) then (
   (ix a0 v1).bind fun x4 =>
   (f_impl_ParseEntry x4).bind fun r5 =>
   if r5.2 then (
    if appB v2.length ([(⟨r5.1.Kind, r5.1.At, r5.1.Call, r5.1.Value⟩ : XEntry)] : List XEntry).length 32 then (
     f_impl_readEntries_1 a0 n (IntKind.i64.wrap (v1 + (1 : Int))) (v2 ++ ([(⟨r5.1.Kind, r5.1.At, r5.1.Call, r5.1.Value⟩ : XEntry)] : List XEntry)))
    else none)
   else (
    some (v2, (some v1 : Option Int))))
  else (
   some (v2, (none : Option Int)))
def f_impl_readEntries (a0 : List (List UInt8)) : Option ((List XEntry) × (Option Int)) :=
 f_impl_readEntries_1 a0 bigN (0 : Int) ([] : List XEntry)
/- impl_ReadJournal -/
def f_impl_ReadJournal (a0 : List UInt8) : Option ((List XEntry) × Int) :=
 (f_impl_SplitLines a0).bind fun r1 =>
 (bnd (r1.length : Int) (if (60 : Int) < (r1.length : Int) then (60 : Int) else (r1.length : Int)) (0 : Int) r1.length).bind fun p2 =>
 (f_impl_readEntries ((r1.drop p2.1).take (p2.2 - p2.1))).bind fun r3 =>
 if r3.2.isSome then (
  (r3.2).bind fun k5 =>
  some (r3.1, k5))
 else (
  some (r3.1, (r3.1.length : Int)))
/- laws_eqEntry -/
def f_laws_eqEntry (a0 : XEntry) (a1 : XEntry) : Option Bool :=
 if (a0.Kind != a1.Kind) then (
  some false)
 else (
  if (a0.At != a1.At) then (
   some false)
  else (
   if (a0.Call != a1.Call) then (
    some false)
   else (
    if (a0.Value != a1.Value) then (
     some false)
    else (
     some true))))
/- laws_eqEntryS -/
def f_laws_eqEntryS_1 (a0 : List XEntry) (a1 : List XEntry) : Nat → Int → Option Bool
 | 0, _ => none
 | n + 1, v2 =>
  if (decide (v2 < (a0.length : Int))) then (
   (ix a0 v2).bind fun x4 =>
   (ix a1 v2).bind fun x5 =>
   (f_laws_eqEntry x4 x5).bind fun r6 =>
   if r6 then (
    f_laws_eqEntryS_1 a0 a1 n (IntKind.i64.wrap (v2 + (1 : Int))))
   else (
    some false))
  else (
   some true)
def f_laws_eqEntryS (a0 : List XEntry) (a1 : List XEntry) : Option Bool :=
 if ((a0.length : Int) != (a1.length : Int)) then (
  some false)
 else (
  f_laws_eqEntryS_1 a0 a1 bigN (0 : Int))
/- laws_markEntryS -/
def f_laws_markEntryS_1 : Nat → Int → Int → (List XEntry) → Option (Int × List XEntry)
 | 0, _, _, _ => none
 | n + 1, v1, v2, v3 =>
  if (decide (v2 < (v3.length : Int))) then (
   (ix v3 v2).bind fun x5 =>
   (ix (v3.set (Int.toNat v2) (⟨v1, x5.At, x5.Call, x5.Value⟩ : XEntry)) v2).bind fun x6 =>
   (ix ((v3.set (Int.toNat v2) (⟨v1, x5.At, x5.Call, x5.Value⟩ : XEntry)).set (Int.toNat v2) (⟨x6.Kind, (IntKind.i64.wrap (v1 + (1 : Int))), x6.Call, x6.Value⟩ : XEntry)) v2).bind fun x7 =>
   (ix (((v3.set (Int.toNat v2) (⟨v1, x5.At, x5.Call, x5.Value⟩ : XEntry)).set (Int.toNat v2) (⟨x6.Kind, (IntKind.i64.wrap (v1 + (1 : Int))), x6.Call, x6.Value⟩ : XEntry)).set (Int.toNat v2) (⟨x7.Kind, x7.At, (IntKind.i64.wrap ((IntKind.i64.wrap (v1 + (1 : Int))) + (1 : Int))), x7.Value⟩ : XEntry)) v2).bind fun x8 =>
   f_laws_markEntryS_1 n (IntKind.i64.wrap ((IntKind.i64.wrap ((IntKind.i64.wrap ((IntKind.i64.wrap (v1 + (1 : Int))) + (1 : Int))) + (1 : Int))) + (1 : Int))) (IntKind.i64.wrap (v2 + (1 : Int))) ((((v3.set (Int.toNat v2) (⟨v1, x5.At, x5.Call, x5.Value⟩ : XEntry)).set (Int.toNat v2) (⟨x6.Kind, (IntKind.i64.wrap (v1 + (1 : Int))), x6.Call, x6.Value⟩ : XEntry)).set (Int.toNat v2) (⟨x7.Kind, x7.At, (IntKind.i64.wrap ((IntKind.i64.wrap (v1 + (1 : Int))) + (1 : Int))), x7.Value⟩ : XEntry)).set (Int.toNat v2) (⟨x8.Kind, x8.At, x8.Call, (IntKind.i64.wrap ((IntKind.i64.wrap ((IntKind.i64.wrap (v1 + (1 : Int))) + (1 : Int))) + (1 : Int)))⟩ : XEntry)))
  else (
   some (v1, v3))
def f_laws_markEntryS (a0 : List XEntry) (a1 : Int) : Option (Int × List XEntry) :=
 f_laws_markEntryS_1 bigN a1 (0 : Int) a0
/- laws_heldEntryS -/
def f_laws_heldEntryS_1 (a0 : List XEntry) : Nat → Int → Int → Option Int
 | 0, _, _ => none
 | n + 1, v1, v2 =>
  if (decide (v2 < (a0.length : Int))) then (
   (ix a0 v2).bind fun x4 =>
   if (x4.Kind != v1) then (
    some (-1 : Int))
   else (
    if (x4.At != (IntKind.i64.wrap (v1 + (1 : Int)))) then (
     some (-1 : Int))
    else (
     if (x4.Call != (IntKind.i64.wrap ((IntKind.i64.wrap (v1 + (1 : Int))) + (1 : Int)))) then (
      some (-1 : Int))
     else (
      if (x4.Value != (IntKind.i64.wrap ((IntKind.i64.wrap ((IntKind.i64.wrap (v1 + (1 : Int))) + (1 : Int))) + (1 : Int)))) then (
       some (-1 : Int))
      else (
       f_laws_heldEntryS_1 a0 n (IntKind.i64.wrap ((IntKind.i64.wrap ((IntKind.i64.wrap ((IntKind.i64.wrap (v1 + (1 : Int))) + (1 : Int))) + (1 : Int))) + (1 : Int))) (IntKind.i64.wrap (v2 + (1 : Int))))))))
  else (
   some v1)
def f_laws_heldEntryS (a0 : List XEntry) (a1 : Int) : Option Int :=
 f_laws_heldEntryS_1 a0 bigN a1 (0 : Int)
/- laws_FnExactReadJournal -/
def f_laws_FnExactReadJournal (a0 : List UInt8) : Option Bool :=
 if (decide ((1048576 : Int) < (a0.length : Int))) then (
  some true)
 else (
  (f_spec_ReadJournal a0).bind fun r2 =>
  (f_impl_ReadJournal a0).bind fun r3 =>
  (f_laws_eqEntryS r3.1 r2.1).bind fun r4 =>
  if r4 then (
   if (r3.2 != r2.2) then (
    some false)
   else (
    (f_laws_markEntryS r3.1 (1 : Int)).bind fun r7 =>
    (f_laws_heldEntryS r7.2 (1 : Int)).bind fun r8 =>
    if (decide (r8 < (0 : Int))) then (
     some false)
    else (
     if (r8 != r7.1) then (
      some false)
     else (
      (f_impl_ReadJournal a0).bind fun r11 =>
      (f_laws_eqEntryS r11.1 r2.1).bind fun r12 =>
      if r12 then (
       if (r11.2 != r2.2) then (
        some false)
       else (
        (f_laws_heldEntryS r7.2 (1 : Int)).bind fun r15 =>
        if (decide (r15 < (0 : Int))) then (
         some false)
        else (
         if (r15 != r7.1) then (
          some false)
         else (
          some true))))
      else (
       some false)))))
  else (
   some false))
/- spec_PointNamed -/
def f_spec_PointNamed_1 (a1 : List UInt8) (a0 : XChart) : Nat → Int → Option Int
 | 0, _ => none
 | n + 1, v1 =>
  if (decide (v1 < (a0.Points.length : Int))) then (
   (ix a0.Points v1).bind fun x3 =>
   if (x3.Name == a1) then (
    some v1)
   else (
    f_spec_PointNamed_1 a1 a0 n (IntKind.i64.wrap (v1 + (1 : Int)))))
  else (
   some (-1 : Int))
def f_spec_PointNamed (a0 : XChart) (a1 : List UInt8) : Option Int :=
 f_spec_PointNamed_1 a1 a0 bigN (0 : Int)
/- spec_l25Segment -/
def f_spec_l25Segment (a0 : XChart) (a1 : List (List UInt8)) : Option (XSegment × Bool) :=
 (ix a1 (3 : Int)).bind fun x1 =>
 (f_spec_ParseInt x1).bind fun r2 =>
 (ix a1 (4 : Int)).bind fun x3 =>
 (f_spec_ParseInt x3).bind fun r4 =>
 (ix a1 (1 : Int)).bind fun x5 =>
 (f_spec_PointNamed a0 x5).bind fun r6 =>
 (ix a1 (2 : Int)).bind fun x7 =>
 (f_spec_PointNamed a0 x7).bind fun r8 =>
 if r2.2 then (
  some ((⟨r6, r8, r2.1, r4.1, ((a1.length : Int) == (6 : Int))⟩ : XSegment), r4.2))
 else (
  some ((⟨r6, r8, r2.1, r4.1, ((a1.length : Int) == (6 : Int))⟩ : XSegment), false))
/- spec_IsName -/
def f_spec_IsName_3 (a0 : List UInt8) (v1 : Int) (k_spec_IsName_1 : Int → Option Bool) : Option Bool :=
 k_spec_IsName_1 (IntKind.i64.wrap (v1 + (1 : Int)))
def f_spec_IsName_2 (a0 : List UInt8) (v1 : Int) (k_spec_IsName_1 : Int → Option Bool) (v5 : Bool) : Option Bool :=
 if v5 then (
  f_spec_IsName_3 a0 v1 k_spec_IsName_1)
 else (
  if (v1 == (0 : Int)) then (
   some false)
  else (
   (ix a0 v1).bind fun b8 =>
   if (decide ((b8.toNat : Int) < (48 : Int))) then (
    some false)
   else (
    if (decide ((57 : Int) < (b8.toNat : Int))) then (
     some false)
    else (
     f_spec_IsName_3 a0 v1 k_spec_IsName_1))))
def f_spec_IsName_1 (a0 : List UInt8) : Nat → Int → Option Bool
 | 0, _ => none
 | n + 1, v1 =>
  if (decide (v1 < (a0.length : Int))) then (
   (ix a0 v1).bind fun b3 =>
   if (decide ((97 : Int) ≤ (b3.toNat : Int))) then (
    f_spec_IsName_2 a0 v1 (f_spec_IsName_1 a0 n) (decide ((b3.toNat : Int) ≤ (122 : Int))))
   else (
    f_spec_IsName_2 a0 v1 (f_spec_IsName_1 a0 n) false))
  else (
   (f_spec_l01In (a0.length : Int) (1 : Int) (8 : Int)).bind fun r11 =>
   some r11)
def f_spec_IsName (a0 : List UInt8) : Option Bool :=
 f_spec_IsName_1 a0 bigN (0 : Int)
/- spec_l05Joins -/
def f_spec_l05Joins (a0 : XSegment) (a1 : Int) (a2 : Int) : Option Bool :=
 if (a0.A == a1) then (
  if (a0.B == a2) then (
   some true)
  else (
   if (a0.A == a2) then (
    some (a0.B == a1))
   else (
    some false)))
 else (
  if (a0.A == a2) then (
   some (a0.B == a1))
  else (
   some false))
/- spec_ChartOk -/
def f_spec_ChartOk_3 (a0 : XChart) (v10 : Int) (x12 : XSegment) (y23 : List XSegment) (y24 : Int) (k_spec_ChartOk_2 : Int → Option Bool) : Nat → Int → Option Bool
 | 0, _ => none
 | n + 1, v25 =>
  if (decide (v25 < y24)) then (
   (ix y23 v25).bind fun x27 =>
   (f_spec_l05Joins x27 x12.A x12.B).bind fun r28 =>
   if r28 then (
    some false)
   else (
    f_spec_ChartOk_3 a0 v10 x12 y23 y24 k_spec_ChartOk_2 n (IntKind.i64.wrap (v25 + (1 : Int)))))
  else (
   k_spec_ChartOk_2 (IntKind.i64.wrap (v10 + (1 : Int))))
def f_spec_ChartOk_2 (a0 : XChart) : Nat → Int → Option Bool
 | 0, _ => none
 | n + 1, v10 =>
  if (decide (v10 < (a0.Segments.length : Int))) then (
   (ix a0.Segments v10).bind fun x12 =>
   (f_spec_l01In x12.A (0 : Int) (IntKind.i64.wrap ((a0.Points.length : Int) - (1 : Int)))).bind fun r13 =>
   if r13 then (
    (f_spec_l01In x12.B (0 : Int) (IntKind.i64.wrap ((a0.Points.length : Int) - (1 : Int)))).bind fun r15 =>
    if r15 then (
     if (x12.A == x12.B) then (
      some false)
     else (
      (f_spec_l01In x12.Depth (0 : Int) (3000 : Int)).bind fun r18 =>
      if r18 then (
       (f_spec_l01In x12.Minutes (1 : Int) (240 : Int)).bind fun r20 =>
       if r20 then (
        (bnd (a0.Segments.length : Int) v10 (0 : Int) a0.Segments.length).bind fun p22 =>
        f_spec_ChartOk_3 a0 v10 x12 ((a0.Segments.drop p22.1).take (p22.2 - p22.1)) (((a0.Segments.drop p22.1).take (p22.2 - p22.1)).length : Int) (f_spec_ChartOk_2 a0 n) bigN (0 : Int))
       else (
        some false))
      else (
       some false)))
    else (
     some false))
   else (
    some false))
  else (
   some true)
def f_spec_ChartOk_1 (a0 : XChart) : Nat → Int → Option Bool
 | 0, _ => none
 | n + 1, v3 =>
  if (decide (v3 < (a0.Points.length : Int))) then (
   (ix a0.Points v3).bind fun x5 =>
   (f_spec_IsName x5.Name).bind fun r6 =>
   if r6 then (
    (f_spec_PointNamed a0 x5.Name).bind fun r8 =>
    if (r8 != v3) then (
     some false)
    else (
     f_spec_ChartOk_1 a0 n (IntKind.i64.wrap (v3 + (1 : Int)))))
   else (
    some false))
  else (
   f_spec_ChartOk_2 a0 bigN (0 : Int))
def f_spec_ChartOk (a0 : XChart) : Option Bool :=
 if (decide ((8 : Int) < (a0.Points.length : Int))) then (
  some false)
 else (
  if (decide ((10 : Int) < (a0.Segments.length : Int))) then (
   some false)
  else (
   f_spec_ChartOk_1 a0 bigN (0 : Int)))
/- spec_FormatChart -/
def f_spec_FormatChart_2 (a0 : XChart) (v4 : Int) (k_spec_FormatChart_1 : (List UInt8) → Int → Option (List UInt8)) (v11 : List UInt8) : Option (List UInt8) :=
 if catB v11.length ([10] : List UInt8).length then (
  k_spec_FormatChart_1 (v11 ++ ([10] : List UInt8)) (IntKind.i64.wrap (v4 + (1 : Int))))
 else none
def f_spec_FormatChart_4 (a0 : XChart) (v14 : Int) (k_spec_FormatChart_3 : (List UInt8) → Int → Option (List UInt8)) (v31 : List UInt8) : Option (List UInt8) :=
 if catB v31.length ([10] : List UInt8).length then (
  k_spec_FormatChart_3 (v31 ++ ([10] : List UInt8)) (IntKind.i64.wrap (v14 + (1 : Int))))
 else none
def f_spec_FormatChart_3 (a0 : XChart) : Nat → (List UInt8) → Int → Option (List UInt8)
 | 0, _, _ => none
 | n + 1, v13, v14 =>
  if (decide (v14 < (a0.Segments.length : Int))) then (
   (ix a0.Segments v14).bind fun x16 =>
   if catB v13.length ([99, 104, 97, 110, 110, 101, 108, 32] : List UInt8).length then (
    (ix a0.Points x16.A).bind fun x18 =>
    if catB (v13 ++ ([99, 104, 97, 110, 110, 101, 108, 32] : List UInt8)).length x18.Name.length then (
     if catB ((v13 ++ ([99, 104, 97, 110, 110, 101, 108, 32] : List UInt8)) ++ x18.Name).length ([32] : List UInt8).length then (
      (ix a0.Points x16.B).bind fun x21 =>
      if catB (((v13 ++ ([99, 104, 97, 110, 110, 101, 108, 32] : List UInt8)) ++ x18.Name) ++ ([32] : List UInt8)).length x21.Name.length then (
       if catB ((((v13 ++ ([99, 104, 97, 110, 110, 101, 108, 32] : List UInt8)) ++ x18.Name) ++ ([32] : List UInt8)) ++ x21.Name).length ([32] : List UInt8).length then (
        (f_spec_FormatInt x16.Depth).bind fun r24 =>
        if catB (((((v13 ++ ([99, 104, 97, 110, 110, 101, 108, 32] : List UInt8)) ++ x18.Name) ++ ([32] : List UInt8)) ++ x21.Name) ++ ([32] : List UInt8)).length r24.length then (
         if catB ((((((v13 ++ ([99, 104, 97, 110, 110, 101, 108, 32] : List UInt8)) ++ x18.Name) ++ ([32] : List UInt8)) ++ x21.Name) ++ ([32] : List UInt8)) ++ r24).length ([32] : List UInt8).length then (
          (f_spec_FormatInt x16.Minutes).bind fun r27 =>
          if catB (((((((v13 ++ ([99, 104, 97, 110, 110, 101, 108, 32] : List UInt8)) ++ x18.Name) ++ ([32] : List UInt8)) ++ x21.Name) ++ ([32] : List UInt8)) ++ r24) ++ ([32] : List UInt8)).length r27.length then (
           if x16.Meet then (
            if catB ((((((((v13 ++ ([99, 104, 97, 110, 110, 101, 108, 32] : List UInt8)) ++ x18.Name) ++ ([32] : List UInt8)) ++ x21.Name) ++ ([32] : List UInt8)) ++ r24) ++ ([32] : List UInt8)) ++ r27).length ([32, 109, 101, 101, 116] : List UInt8).length then (
             f_spec_FormatChart_4 a0 v14 (f_spec_FormatChart_3 a0 n) (((((((((v13 ++ ([99, 104, 97, 110, 110, 101, 108, 32] : List UInt8)) ++ x18.Name) ++ ([32] : List UInt8)) ++ x21.Name) ++ ([32] : List UInt8)) ++ r24) ++ ([32] : List UInt8)) ++ r27) ++ ([32, 109, 101, 101, 116] : List UInt8)))
            else none)
           else (
            f_spec_FormatChart_4 a0 v14 (f_spec_FormatChart_3 a0 n) ((((((((v13 ++ ([99, 104, 97, 110, 110, 101, 108, 32] : List UInt8)) ++ x18.Name) ++ ([32] : List UInt8)) ++ x21.Name) ++ ([32] : List UInt8)) ++ r24) ++ ([32] : List UInt8)) ++ r27)))
          else none)
         else none)
        else none)
       else none)
      else none)
     else none)
    else none)
   else none)
  else (
   some v13)
def f_spec_FormatChart_1 (a0 : XChart) : Nat → (List UInt8) → Int → Option (List UInt8)
 | 0, _, _ => none
 | n + 1, v3, v4 =>
  if (decide (v4 < (a0.Points.length : Int))) then (
   (ix a0.Points v4).bind fun x6 =>
   if catB v3.length ([112, 111, 105, 110, 116, 32] : List UInt8).length then (
    if catB (v3 ++ ([112, 111, 105, 110, 116, 32] : List UInt8)).length x6.Name.length then (
     if x6.Wait then (
      if catB ((v3 ++ ([112, 111, 105, 110, 116, 32] : List UInt8)) ++ x6.Name).length ([32, 119, 97, 105, 116] : List UInt8).length then (
       f_spec_FormatChart_2 a0 v4 (f_spec_FormatChart_1 a0 n) (((v3 ++ ([112, 111, 105, 110, 116, 32] : List UInt8)) ++ x6.Name) ++ ([32, 119, 97, 105, 116] : List UInt8)))
      else none)
     else (
      f_spec_FormatChart_2 a0 v4 (f_spec_FormatChart_1 a0 n) ((v3 ++ ([112, 111, 105, 110, 116, 32] : List UInt8)) ++ x6.Name)))
    else none)
   else none)
  else (
   f_spec_FormatChart_3 a0 bigN v3 (0 : Int))
def f_spec_FormatChart (a0 : XChart) : Option (List UInt8) :=
 (f_spec_ChartOk a0).bind fun r1 =>
 if r1 then (
  f_spec_FormatChart_1 a0 bigN ([] : List UInt8) (0 : Int))
 else (
  some ([] : List UInt8))
/- spec_ParseChart -/
def f_spec_ParseChart_3 (a0 : List UInt8) (r1 : (List (List UInt8))) (v2 : Int) (v3 : List XPoint) (v4 : List XSegment) (r7 : (List (List UInt8))) (k_spec_ParseChart_1 : Int → (List XPoint) → (List XSegment) → Option (XChart × Bool)) (v20 : Bool) : Option (XChart × Bool) :=
 if v20 then (
  (f_spec_l25Segment (⟨v3, v4⟩ : XChart) r7).bind fun r22 =>
  if r22.2 then (
   if appB v4.length ([(⟨r22.1.A, r22.1.B, r22.1.Depth, r22.1.Minutes, r22.1.Meet⟩ : XSegment)] : List XSegment).length 40 then (
    k_spec_ParseChart_1 (IntKind.i64.wrap (v2 + (1 : Int))) v3 (v4 ++ ([(⟨r22.1.A, r22.1.B, r22.1.Depth, r22.1.Minutes, r22.1.Meet⟩ : XSegment)] : List XSegment)))
   else none)
  else (
   some ((⟨([] : List XPoint), ([] : List XSegment)⟩ : XChart), false)))
 else (
  some ((⟨([] : List XPoint), ([] : List XSegment)⟩ : XChart), false))
def f_spec_ParseChart_2 (a0 : List UInt8) (r1 : (List (List UInt8))) (v2 : Int) (v3 : List XPoint) (v4 : List XSegment) (r7 : (List (List UInt8))) (k_spec_ParseChart_1 : Int → (List XPoint) → (List XSegment) → Option (XChart × Bool)) (v12 : Bool) : Option (XChart × Bool) :=
 if v12 then (
  (ix r7 (1 : Int)).bind fun x14 =>
  if appB v3.length ([(⟨x14, ((r7.length : Int) == (3 : Int))⟩ : XPoint)] : List XPoint).length 24 then (
   k_spec_ParseChart_1 (IntKind.i64.wrap (v2 + (1 : Int))) (v3 ++ ([(⟨x14, ((r7.length : Int) == (3 : Int))⟩ : XPoint)] : List XPoint)) v4)
  else none)
 else (
  (ix r7 (0 : Int)).bind fun x16 =>
  if (x16 == ([99, 104, 97, 110, 110, 101, 108] : List UInt8)) then (
   if ((r7.length : Int) == (5 : Int)) then (
    f_spec_ParseChart_3 a0 r1 v2 v3 v4 r7 k_spec_ParseChart_1 (decide ((v4.length : Int) < (10 : Int))))
   else (
    if ((r7.length : Int) == (6 : Int)) then (
     f_spec_ParseChart_3 a0 r1 v2 v3 v4 r7 k_spec_ParseChart_1 (decide ((v4.length : Int) < (10 : Int))))
    else (
     f_spec_ParseChart_3 a0 r1 v2 v3 v4 r7 k_spec_ParseChart_1 false)))
  else (
   f_spec_ParseChart_3 a0 r1 v2 v3 v4 r7 k_spec_ParseChart_1 false))
def f_spec_ParseChart_4 (v3 : List XPoint) (v4 : List XSegment) (v28 : Bool) : Option (XChart × Bool) :=
 if v28 then (
  some ((⟨([] : List XPoint), ([] : List XSegment)⟩ : XChart), false))
 else (
  some ((⟨v3, v4⟩ : XChart), true))
def f_spec_ParseChart_1 (a0 : List UInt8) (r1 : (List (List UInt8))) : Nat → Int → (List XPoint) → (List XSegment) → Option (XChart × Bool)
 | 0, _, _, _ => none
 | n + 1, v2, v3, v4 =>
  if (decide (v2 < (r1.length : Int))) then (
   (ix r1 v2).bind fun x6 =>
   (f_spec_SplitAny x6 ([32] : List UInt8)).bind fun r7 =>
   (ix r7 (0 : Int)).bind fun x8 =>
   if (x8 == ([112, 111, 105, 110, 116] : List UInt8)) then (
    if ((r7.length : Int) == (2 : Int)) then (
     f_spec_ParseChart_2 a0 r1 v2 v3 v4 r7 (f_spec_ParseChart_1 a0 r1 n) (decide ((v3.length : Int) < (8 : Int))))
    else (
     if ((r7.length : Int) == (3 : Int)) then (
      f_spec_ParseChart_2 a0 r1 v2 v3 v4 r7 (f_spec_ParseChart_1 a0 r1 n) (decide ((v3.length : Int) < (8 : Int))))
     else (
      f_spec_ParseChart_2 a0 r1 v2 v3 v4 r7 (f_spec_ParseChart_1 a0 r1 n) false)))
   else (
    f_spec_ParseChart_2 a0 r1 v2 v3 v4 r7 (f_spec_ParseChart_1 a0 r1 n) false))
  else (
   (f_spec_ChartOk (⟨v3, v4⟩ : XChart)).bind fun r25 =>
   if r25 then (
    (f_spec_FormatChart (⟨v3, v4⟩ : XChart)).bind fun r27 =>
    f_spec_ParseChart_4 v3 v4 (!(r27 == a0)))
   else (
    f_spec_ParseChart_4 v3 v4 true))
def f_spec_ParseChart (a0 : List UInt8) : Option (XChart × Bool) :=
 (f_spec_SplitLines a0).bind fun r1 =>
 f_spec_ParseChart_1 a0 r1 bigN (0 : Int) ([] : List XPoint) ([] : List XSegment)
/- impl_pointOf -/
def f_impl_pointOf_1 (a0 : List (List UInt8)) (v7 : Bool) : Option (XPoint × Bool) :=
 if v7 then (
  some ((⟨([] : List UInt8), false⟩ : XPoint), false))
 else (
  (ix a0 (1 : Int)).bind fun x9 =>
  some ((⟨x9, ((a0.length : Int) == (3 : Int))⟩ : XPoint), true))
def f_impl_pointOf (a0 : List (List UInt8)) : Option (XPoint × Bool) :=
 if (decide ((a0.length : Int) < (2 : Int))) then (
  f_impl_pointOf_1 a0 true)
 else (
  if (decide ((3 : Int) < (a0.length : Int))) then (
   f_impl_pointOf_1 a0 true)
  else (
   (ix a0 (0 : Int)).bind fun x3 =>
   if (x3 == ([112, 111, 105, 110, 116] : List UInt8)) then (
    if ((a0.length : Int) == (3 : Int)) then (
     (ix a0 (2 : Int)).bind fun x6 =>
     f_impl_pointOf_1 a0 (!(x6 == ([119, 97, 105, 116] : List UInt8))))
    else (
     f_impl_pointOf_1 a0 false))
   else (
    f_impl_pointOf_1 a0 true)))
/- impl_PointNamed -/
def f_impl_PointNamed_1 (a1 : List UInt8) (a0 : XChart) : Nat → Int → Option Int
 | 0, _ => none
 | n + 1, v1 =>
  if (decide (v1 < (a0.Points.length : Int))) then (
   (ix a0.Points v1).bind fun x3 =>
   if (x3.Name == a1) then (
    some v1)
   else (
    f_impl_PointNamed_1 a1 a0 n (IntKind.i64.wrap (v1 + (1 : Int)))))
  else (
   some (-1 : Int))
def f_impl_PointNamed (a0 : XChart) (a1 : List UInt8) : Option Int :=
 f_impl_PointNamed_1 a1 a0 bigN (0 : Int)
/- impl_segmentOf -/
def f_impl_segmentOf_1 (a1 : List (List UInt8)) (a0 : XChart) (v7 : Bool) : Option (XSegment × Bool) :=
 if v7 then (
  some ((⟨(0 : Int), (0 : Int), (0 : Int), (0 : Int), false⟩ : XSegment), false))
 else (
  (bnd (5 : Int) (5 : Int) (3 : Int) a1.length).bind fun p9 =>
  (f_impl_parseNumbers ((a1.drop p9.1).take (p9.2 - p9.1))).bind fun r10 =>
  if r10.2 then (
   (ix a1 (1 : Int)).bind fun x12 =>
   (f_impl_PointNamed a0 x12).bind fun r13 =>
   (ix a1 (2 : Int)).bind fun x14 =>
   (f_impl_PointNamed a0 x14).bind fun r15 =>
   (ix r10.1 (0 : Int)).bind fun x16 =>
   (ix r10.1 (1 : Int)).bind fun x17 =>
   some ((⟨r13, r15, x16, x17, ((a1.length : Int) == (6 : Int))⟩ : XSegment), true))
  else (
   some ((⟨(0 : Int), (0 : Int), (0 : Int), (0 : Int), false⟩ : XSegment), false)))
def f_impl_segmentOf (a0 : XChart) (a1 : List (List UInt8)) : Option (XSegment × Bool) :=
 if (decide ((a1.length : Int) < (5 : Int))) then (
  f_impl_segmentOf_1 a1 a0 true)
 else (
  if (decide ((6 : Int) < (a1.length : Int))) then (
   f_impl_segmentOf_1 a1 a0 true)
  else (
   (ix a1 (0 : Int)).bind fun x3 =>
   if (x3 == ([99, 104, 97, 110, 110, 101, 108] : List UInt8)) then (
    if ((a1.length : Int) == (6 : Int)) then (
     (ix a1 (5 : Int)).bind fun x6 =>
     f_impl_segmentOf_1 a1 a0 (!(x6 == ([109, 101, 101, 116] : List UInt8))))
    else (
     f_impl_segmentOf_1 a1 a0 false))
   else (
    f_impl_segmentOf_1 a1 a0 true)))
/- impl_IsName -/
def f_impl_IsName_3 (a0 : List UInt8) (v3 : Int) (k_impl_IsName_1 : Int → Option Bool) : Option Bool :=
 k_impl_IsName_1 (IntKind.i64.wrap (v3 + (1 : Int)))
def f_impl_IsName_2 (a0 : List UInt8) (v3 : Int) (k_impl_IsName_1 : Int → Option Bool) (v7 : Bool) : Option Bool :=
 if v7 then (
  f_impl_IsName_3 a0 v3 k_impl_IsName_1)
 else (
  if (v3 == (0 : Int)) then (
   some false)
  else (
   (ix a0 v3).bind fun b10 =>
   if (decide ((b10.toNat : Int) < (48 : Int))) then (
    some false)
   else (
    if (decide ((57 : Int) < (b10.toNat : Int))) then (
     some false)
    else (
     f_impl_IsName_3 a0 v3 k_impl_IsName_1))))
def f_impl_IsName_1 (a0 : List UInt8) : Nat → Int → Option Bool
 | 0, _ => none
 | n + 1, v3 =>
  if (decide (v3 < (a0.length : Int))) then (
   (ix a0 v3).bind fun b5 =>
   if (decide ((97 : Int) ≤ (b5.toNat : Int))) then (
    f_impl_IsName_2 a0 v3 (f_impl_IsName_1 a0 n) (decide ((b5.toNat : Int) ≤ (122 : Int))))
   else (
    f_impl_IsName_2 a0 v3 (f_impl_IsName_1 a0 n) false))
  else (
   some true)
def f_impl_IsName (a0 : List UInt8) : Option Bool :=
 (f_impl_within (a0.length : Int) (1 : Int) (8 : Int)).bind fun r1 =>
 if r1 then (
  f_impl_IsName_1 a0 bigN (0 : Int))
 else (
  some false)
/- impl_isIndex -/
def f_impl_isIndex (a0 : Int) (a1 : Int) : Option Bool :=
 if (decide ((0 : Int) ≤ a0)) then (
  some (decide (a0 < a1)))
 else (
  some false)
/- impl_Segment_joins -/
def f_impl_Segment_joins (a0 : XSegment) (a1 : Int) (a2 : Int) : Option Bool :=
 if (a0.A == a1) then (
  if (a0.B == a2) then (
   some true)
  else (
   if (a0.A == a2) then (
    some (a0.B == a1))
   else (
    some false)))
 else (
  if (a0.A == a2) then (
   some (a0.B == a1))
  else (
   some false))
/- impl_ChartOk -/
def f_impl_ChartOk_3 (a0 : XChart) (v10 : Int) (x12 : XSegment) (y23 : List XSegment) (y24 : Int) (k_impl_ChartOk_2 : Int → Option Bool) : Nat → Int → Option Bool
 | 0, _ => none
 | n + 1, v25 =>
  if (decide (v25 < y24)) then (
   (ix y23 v25).bind fun x27 =>
   (f_impl_Segment_joins x27 x12.A x12.B).bind fun r28 =>
   if r28 then (
    some false)
   else (
    f_impl_ChartOk_3 a0 v10 x12 y23 y24 k_impl_ChartOk_2 n (IntKind.i64.wrap (v25 + (1 : Int)))))
  else (
   k_impl_ChartOk_2 (IntKind.i64.wrap (v10 + (1 : Int))))
def f_impl_ChartOk_2 (a0 : XChart) : Nat → Int → Option Bool
 | 0, _ => none
 | n + 1, v10 =>
  if (decide (v10 < (a0.Segments.length : Int))) then (
   (ix a0.Segments v10).bind fun x12 =>
   (f_impl_isIndex x12.A (a0.Points.length : Int)).bind fun r13 =>
   if r13 then (
    (f_impl_isIndex x12.B (a0.Points.length : Int)).bind fun r15 =>
    if r15 then (
     if (x12.A == x12.B) then (
      some false)
     else (
      (f_impl_within x12.Depth (0 : Int) (3000 : Int)).bind fun r18 =>
      if r18 then (
       (f_impl_within x12.Minutes (1 : Int) (240 : Int)).bind fun r20 =>
       if r20 then (
        (bnd (a0.Segments.length : Int) v10 (0 : Int) a0.Segments.length).bind fun p22 =>
        f_impl_ChartOk_3 a0 v10 x12 ((a0.Segments.drop p22.1).take (p22.2 - p22.1)) (((a0.Segments.drop p22.1).take (p22.2 - p22.1)).length : Int) (f_impl_ChartOk_2 a0 n) bigN (0 : Int))
       else (
        some false))
      else (
       some false)))
    else (
     some false))
   else (
    some false))
  else (
   some true)
def f_impl_ChartOk_1 (a0 : XChart) : Nat → Int → Option Bool
 | 0, _ => none
 | n + 1, v3 =>
  if (decide (v3 < (a0.Points.length : Int))) then (
   (ix a0.Points v3).bind fun x5 =>
   (f_impl_IsName x5.Name).bind fun r6 =>
   if r6 then (
    (f_impl_PointNamed a0 x5.Name).bind fun r8 =>
    if (r8 != v3) then (
     some false)
    else (
     f_impl_ChartOk_1 a0 n (IntKind.i64.wrap (v3 + (1 : Int)))))
   else (
    some false))
  else (
   f_impl_ChartOk_2 a0 bigN (0 : Int))
def f_impl_ChartOk (a0 : XChart) : Option Bool :=
 if (decide ((8 : Int) < (a0.Points.length : Int))) then (
  some false)
 else (
  if (decide ((10 : Int) < (a0.Segments.length : Int))) then (
   some false)
  else (
   f_impl_ChartOk_1 a0 bigN (0 : Int)))
/- impl_marked -/
def f_impl_marked (a0 : List UInt8) (a1 : Bool) (a2 : List UInt8) : Option (List UInt8) :=
 if a1 then (
  if catB a0.length ([32] : List UInt8).length then (
   if catB (a0 ++ ([32] : List UInt8)).length a2.length then (
    some ((a0 ++ ([32] : List UInt8)) ++ a2))
   else none)
  else none)
 else (
  some a0)
/- impl_FormatChart -/
def f_impl_FormatChart_2 (a0 : XChart) : Nat → (List UInt8) → Int → Option (List UInt8)
 | 0, _, _ => none
 | n + 1, v11, v12 =>
  if (decide (v12 < (a0.Segments.length : Int))) then (
   (ix a0.Segments v12).bind fun x14 =>
   (ix a0.Points x14.A).bind fun x15 =>
   (ix a0.Points x14.B).bind fun x16 =>
   (f_impl_FormatInt x14.Depth).bind fun r17 =>
   (f_impl_FormatInt x14.Minutes).bind fun r18 =>
   (f_impl_Join ([([99, 104, 97, 110, 110, 101, 108] : List UInt8), x15.Name, x16.Name, r17, r18] : List (List UInt8)) ([32] : List UInt8)).bind fun r19 =>
   (f_impl_marked r19 x14.Meet ([109, 101, 101, 116] : List UInt8)).bind fun r20 =>
   if catB r20.length ([10] : List UInt8).length then (
    if catB v11.length (r20 ++ ([10] : List UInt8)).length then (
     f_impl_FormatChart_2 a0 n (v11 ++ (r20 ++ ([10] : List UInt8))) (IntKind.i64.wrap (v12 + (1 : Int))))
    else none)
   else none)
  else (
   some v11)
def f_impl_FormatChart_1 (a0 : XChart) : Nat → (List UInt8) → Int → Option (List UInt8)
 | 0, _, _ => none
 | n + 1, v3, v4 =>
  if (decide (v4 < (a0.Points.length : Int))) then (
   (ix a0.Points v4).bind fun x6 =>
   if catB ([112, 111, 105, 110, 116, 32] : List UInt8).length x6.Name.length then (
    (f_impl_marked (([112, 111, 105, 110, 116, 32] : List UInt8) ++ x6.Name) x6.Wait ([119, 97, 105, 116] : List UInt8)).bind fun r8 =>
    if catB r8.length ([10] : List UInt8).length then (
     if catB v3.length (r8 ++ ([10] : List UInt8)).length then (
      f_impl_FormatChart_1 a0 n (v3 ++ (r8 ++ ([10] : List UInt8))) (IntKind.i64.wrap (v4 + (1 : Int))))
     else none)
    else none)
   else none)
  else (
   f_impl_FormatChart_2 a0 bigN v3 (0 : Int))
def f_impl_FormatChart (a0 : XChart) : Option (List UInt8) :=
 (f_impl_ChartOk a0).bind fun r1 =>
 if r1 then (
  f_impl_FormatChart_1 a0 bigN ([] : List UInt8) (0 : Int))
 else (
  some ([] : List UInt8))
/- impl_ParseChart -/
def f_impl_ParseChart_3 (a0 : List UInt8) (r1 : (List (List UInt8))) (v2 : Int) (v14 : List XPoint) (v15 : List XSegment) (k_impl_ParseChart_1 : Int → (List XPoint) → (List XSegment) → Option (XChart × Bool)) (v17 : Bool) : Option (XChart × Bool) :=
 if v17 then (
  some ((⟨([] : List XPoint), ([] : List XSegment)⟩ : XChart), false))
 else (
  k_impl_ParseChart_1 (IntKind.i64.wrap (v2 + (1 : Int))) v14 v15)
def f_impl_ParseChart_2 (a0 : List UInt8) (r1 : (List (List UInt8))) (v2 : Int) (k_impl_ParseChart_1 : Int → (List XPoint) → (List XSegment) → Option (XChart × Bool)) (v14 : List XPoint) (v15 : List XSegment) : Option (XChart × Bool) :=
 if (decide ((8 : Int) < (v14.length : Int))) then (
  f_impl_ParseChart_3 a0 r1 v2 v14 v15 k_impl_ParseChart_1 true)
 else (
  f_impl_ParseChart_3 a0 r1 v2 v14 v15 k_impl_ParseChart_1 (decide ((10 : Int) < (v15.length : Int))))
def f_impl_ParseChart_4 (v3 : List XPoint) (v4 : List XSegment) (v22 : Bool) : Option (XChart × Bool) :=
 if v22 then (
  some ((⟨([] : List XPoint), ([] : List XSegment)⟩ : XChart), false))
 else (
  some ((⟨v3, v4⟩ : XChart), true))
def f_impl_ParseChart_1 (a0 : List UInt8) (r1 : (List (List UInt8))) : Nat → Int → (List XPoint) → (List XSegment) → Option (XChart × Bool)
 | 0, _, _, _ => none
 | n + 1, v2, v3, v4 =>
  if (decide (v2 < (r1.length : Int))) then (
   (ix r1 v2).bind fun x6 =>
   (f_impl_SplitAny x6 ([32] : List UInt8)).bind fun r7 =>
   (f_impl_pointOf r7).bind fun r8 =>
   (f_impl_segmentOf (⟨v3, v4⟩ : XChart) r7).bind fun r9 =>
   if r8.2 then (
    if appB v3.length ([(⟨r8.1.Name, r8.1.Wait⟩ : XPoint)] : List XPoint).length 24 then (
     f_impl_ParseChart_2 a0 r1 v2 (f_impl_ParseChart_1 a0 r1 n) (v3 ++ ([(⟨r8.1.Name, r8.1.Wait⟩ : XPoint)] : List XPoint)) v4)
    else none)
   else (
    if r9.2 then (
     if appB v4.length ([(⟨r9.1.A, r9.1.B, r9.1.Depth, r9.1.Minutes, r9.1.Meet⟩ : XSegment)] : List XSegment).length 40 then (
      f_impl_ParseChart_2 a0 r1 v2 (f_impl_ParseChart_1 a0 r1 n) v3 (v4 ++ ([(⟨r9.1.A, r9.1.B, r9.1.Depth, r9.1.Minutes, r9.1.Meet⟩ : XSegment)] : List XSegment)))
     else none)
    else (
     some ((⟨([] : List XPoint), ([] : List XSegment)⟩ : XChart), false))))
  else (
   (f_impl_ChartOk (⟨v3, v4⟩ : XChart)).bind fun r19 =>
   if r19 then (
    (f_impl_FormatChart (⟨v3, v4⟩ : XChart)).bind fun r21 =>
    f_impl_ParseChart_4 v3 v4 (!(r21 == a0)))
   else (
    f_impl_ParseChart_4 v3 v4 true))
def f_impl_ParseChart (a0 : List UInt8) : Option (XChart × Bool) :=
 (f_impl_SplitLines a0).bind fun r1 =>
 f_impl_ParseChart_1 a0 r1 bigN (0 : Int) ([] : List XPoint) ([] : List XSegment)
/- laws_eqPoint -/
def f_laws_eqPoint (a0 : XPoint) (a1 : XPoint) : Option Bool :=
 if (a0.Name == a1.Name) then (
  if (a0.Wait == a1.Wait) then (
   some true)
  else (
   some false))
 else (
  some false)
/- laws_eqPointS -/
def f_laws_eqPointS_1 (a0 : List XPoint) (a1 : List XPoint) : Nat → Int → Option Bool
 | 0, _ => none
 | n + 1, v2 =>
  if (decide (v2 < (a0.length : Int))) then (
   (ix a0 v2).bind fun x4 =>
   (ix a1 v2).bind fun x5 =>
   (f_laws_eqPoint x4 x5).bind fun r6 =>
   if r6 then (
    f_laws_eqPointS_1 a0 a1 n (IntKind.i64.wrap (v2 + (1 : Int))))
   else (
    some false))
  else (
   some true)
def f_laws_eqPointS (a0 : List XPoint) (a1 : List XPoint) : Option Bool :=
 if ((a0.length : Int) != (a1.length : Int)) then (
  some false)
 else (
  f_laws_eqPointS_1 a0 a1 bigN (0 : Int))
/- laws_eqSegment -/
def f_laws_eqSegment (a0 : XSegment) (a1 : XSegment) : Option Bool :=
 if (a0.A != a1.A) then (
  some false)
 else (
  if (a0.B != a1.B) then (
   some false)
  else (
   if (a0.Depth != a1.Depth) then (
    some false)
   else (
    if (a0.Minutes != a1.Minutes) then (
     some false)
    else (
     if (a0.Meet == a1.Meet) then (
      some true)
     else (
      some false)))))
/- laws_eqSegmentS -/
def f_laws_eqSegmentS_1 (a0 : List XSegment) (a1 : List XSegment) : Nat → Int → Option Bool
 | 0, _ => none
 | n + 1, v2 =>
  if (decide (v2 < (a0.length : Int))) then (
   (ix a0 v2).bind fun x4 =>
   (ix a1 v2).bind fun x5 =>
   (f_laws_eqSegment x4 x5).bind fun r6 =>
   if r6 then (
    f_laws_eqSegmentS_1 a0 a1 n (IntKind.i64.wrap (v2 + (1 : Int))))
   else (
    some false))
  else (
   some true)
def f_laws_eqSegmentS (a0 : List XSegment) (a1 : List XSegment) : Option Bool :=
 if ((a0.length : Int) != (a1.length : Int)) then (
  some false)
 else (
  f_laws_eqSegmentS_1 a0 a1 bigN (0 : Int))
/- laws_eqChart -/
def f_laws_eqChart (a0 : XChart) (a1 : XChart) : Option Bool :=
 (f_laws_eqPointS a0.Points a1.Points).bind fun r1 =>
 if r1 then (
  (f_laws_eqSegmentS a0.Segments a1.Segments).bind fun r3 =>
  if r3 then (
   some true)
  else (
   some false))
 else (
  some false)
/- laws_markText -/
def f_laws_markText_1 : Nat → Int → (List UInt8) → Option (List UInt8)
 | 0, _, _ => none
 | n + 1, v2, v3 =>
  if (decide ((0 : Int) < v2)) then (
   if catB ([(IntKind.u8.wrap (IntKind.i64.wrap ((48 : Int) + (IntKind.i64.wrap (Int.tmod v2 (10 : Int))))))] : List Int).length v3.length then (
    f_laws_markText_1 n (IntKind.i64.wrap (Int.tdiv v2 (10 : Int))) ((List.map toU8 ([(IntKind.u8.wrap (IntKind.i64.wrap ((48 : Int) + (IntKind.i64.wrap (Int.tmod v2 (10 : Int))))))] : List Int)) ++ v3))
   else none)
  else (
   if catB ([109] : List UInt8).length v3.length then (
    some (([109] : List UInt8) ++ v3))
   else none)
def f_laws_markText (a0 : Int) : Option (List UInt8) :=
 if (decide (a0 ≤ (0 : Int))) then (
  some ([109, 48] : List UInt8))
 else (
  f_laws_markText_1 bigN a0 ([] : List UInt8))
/- laws_markPointS -/
def f_laws_markPointS_1 : Nat → Int → Int → (List XPoint) → Option (Int × List XPoint)
 | 0, _, _, _ => none
 | n + 1, v1, v2, v3 =>
  if (decide (v2 < (v3.length : Int))) then (
   (f_laws_markText v1).bind fun r5 =>
   (ix v3 v2).bind fun x6 =>
   (ix (v3.set (Int.toNat v2) (⟨r5, x6.Wait⟩ : XPoint)) v2).bind fun x7 =>
   f_laws_markPointS_1 n (IntKind.i64.wrap ((IntKind.i64.wrap (v1 + (1 : Int))) + (1 : Int))) (IntKind.i64.wrap (v2 + (1 : Int))) ((v3.set (Int.toNat v2) (⟨r5, x6.Wait⟩ : XPoint)).set (Int.toNat v2) (⟨x7.Name, ((IntKind.i64.wrap (Int.tmod (IntKind.i64.wrap (v1 + (1 : Int))) (3 : Int))) == (0 : Int))⟩ : XPoint)))
  else (
   some (v1, v3))
def f_laws_markPointS (a0 : List XPoint) (a1 : Int) : Option (Int × List XPoint) :=
 f_laws_markPointS_1 bigN a1 (0 : Int) a0
/- laws_markSegmentS -/
def f_laws_markSegmentS_1 : Nat → Int → Int → (List XSegment) → Option (Int × List XSegment)
 | 0, _, _, _ => none
 | n + 1, v1, v2, v3 =>
  if (decide (v2 < (v3.length : Int))) then (
   (ix v3 v2).bind fun x5 =>
   (ix (v3.set (Int.toNat v2) (⟨v1, x5.B, x5.Depth, x5.Minutes, x5.Meet⟩ : XSegment)) v2).bind fun x6 =>
   (ix ((v3.set (Int.toNat v2) (⟨v1, x5.B, x5.Depth, x5.Minutes, x5.Meet⟩ : XSegment)).set (Int.toNat v2) (⟨x6.A, (IntKind.i64.wrap (v1 + (1 : Int))), x6.Depth, x6.Minutes, x6.Meet⟩ : XSegment)) v2).bind fun x7 =>
   (ix (((v3.set (Int.toNat v2) (⟨v1, x5.B, x5.Depth, x5.Minutes, x5.Meet⟩ : XSegment)).set (Int.toNat v2) (⟨x6.A, (IntKind.i64.wrap (v1 + (1 : Int))), x6.Depth, x6.Minutes, x6.Meet⟩ : XSegment)).set (Int.toNat v2) (⟨x7.A, x7.B, (IntKind.i64.wrap ((IntKind.i64.wrap (v1 + (1 : Int))) + (1 : Int))), x7.Minutes, x7.Meet⟩ : XSegment)) v2).bind fun x8 =>
   (ix ((((v3.set (Int.toNat v2) (⟨v1, x5.B, x5.Depth, x5.Minutes, x5.Meet⟩ : XSegment)).set (Int.toNat v2) (⟨x6.A, (IntKind.i64.wrap (v1 + (1 : Int))), x6.Depth, x6.Minutes, x6.Meet⟩ : XSegment)).set (Int.toNat v2) (⟨x7.A, x7.B, (IntKind.i64.wrap ((IntKind.i64.wrap (v1 + (1 : Int))) + (1 : Int))), x7.Minutes, x7.Meet⟩ : XSegment)).set (Int.toNat v2) (⟨x8.A, x8.B, x8.Depth, (IntKind.i64.wrap ((IntKind.i64.wrap ((IntKind.i64.wrap (v1 + (1 : Int))) + (1 : Int))) + (1 : Int))), x8.Meet⟩ : XSegment)) v2).bind fun x9 =>
   f_laws_markSegmentS_1 n (IntKind.i64.wrap ((IntKind.i64.wrap ((IntKind.i64.wrap ((IntKind.i64.wrap ((IntKind.i64.wrap (v1 + (1 : Int))) + (1 : Int))) + (1 : Int))) + (1 : Int))) + (1 : Int))) (IntKind.i64.wrap (v2 + (1 : Int))) (((((v3.set (Int.toNat v2) (⟨v1, x5.B, x5.Depth, x5.Minutes, x5.Meet⟩ : XSegment)).set (Int.toNat v2) (⟨x6.A, (IntKind.i64.wrap (v1 + (1 : Int))), x6.Depth, x6.Minutes, x6.Meet⟩ : XSegment)).set (Int.toNat v2) (⟨x7.A, x7.B, (IntKind.i64.wrap ((IntKind.i64.wrap (v1 + (1 : Int))) + (1 : Int))), x7.Minutes, x7.Meet⟩ : XSegment)).set (Int.toNat v2) (⟨x8.A, x8.B, x8.Depth, (IntKind.i64.wrap ((IntKind.i64.wrap ((IntKind.i64.wrap (v1 + (1 : Int))) + (1 : Int))) + (1 : Int))), x8.Meet⟩ : XSegment)).set (Int.toNat v2) (⟨x9.A, x9.B, x9.Depth, x9.Minutes, ((IntKind.i64.wrap (Int.tmod (IntKind.i64.wrap ((IntKind.i64.wrap ((IntKind.i64.wrap ((IntKind.i64.wrap (v1 + (1 : Int))) + (1 : Int))) + (1 : Int))) + (1 : Int))) (3 : Int))) == (0 : Int))⟩ : XSegment)))
  else (
   some (v1, v3))
def f_laws_markSegmentS (a0 : List XSegment) (a1 : Int) : Option (Int × List XSegment) :=
 f_laws_markSegmentS_1 bigN a1 (0 : Int) a0
/- laws_markChart -/
def f_laws_markChart (a0 : XChart) (a1 : Int) : Option (Int × List XPoint × List XSegment) :=
 (f_laws_markPointS a0.Points a1).bind fun r1 =>
 (f_laws_markSegmentS a0.Segments r1.1).bind fun r2 =>
 some (r2.1, r1.2, r2.2)
/- laws_heldPointS -/
def f_laws_heldPointS_1 (a0 : List XPoint) : Nat → Int → Int → Option Int
 | 0, _, _ => none
 | n + 1, v1, v2 =>
  if (decide (v2 < (a0.length : Int))) then (
   (ix a0 v2).bind fun x4 =>
   (f_laws_markText v1).bind fun r5 =>
   if (x4.Name == r5) then (
    if (x4.Wait == ((IntKind.i64.wrap (Int.tmod (IntKind.i64.wrap (v1 + (1 : Int))) (3 : Int))) == (0 : Int))) then (
     f_laws_heldPointS_1 a0 n (IntKind.i64.wrap ((IntKind.i64.wrap (v1 + (1 : Int))) + (1 : Int))) (IntKind.i64.wrap (v2 + (1 : Int))))
    else (
     some (-1 : Int)))
   else (
    some (-1 : Int)))
  else (
   some v1)
def f_laws_heldPointS (a0 : List XPoint) (a1 : Int) : Option Int :=
 f_laws_heldPointS_1 a0 bigN a1 (0 : Int)
/- laws_heldSegmentS -/
def f_laws_heldSegmentS_1 (a0 : List XSegment) : Nat → Int → Int → Option Int
 | 0, _, _ => none
 | n + 1, v1, v2 =>
  if (decide (v2 < (a0.length : Int))) then (
   (ix a0 v2).bind fun x4 =>
   if (x4.A != v1) then (
    some (-1 : Int))
   else (
    if (x4.B != (IntKind.i64.wrap (v1 + (1 : Int)))) then (
     some (-1 : Int))
    else (
     if (x4.Depth != (IntKind.i64.wrap ((IntKind.i64.wrap (v1 + (1 : Int))) + (1 : Int)))) then (
      some (-1 : Int))
     else (
      if (x4.Minutes != (IntKind.i64.wrap ((IntKind.i64.wrap ((IntKind.i64.wrap (v1 + (1 : Int))) + (1 : Int))) + (1 : Int)))) then (
       some (-1 : Int))
      else (
       if (x4.Meet == ((IntKind.i64.wrap (Int.tmod (IntKind.i64.wrap ((IntKind.i64.wrap ((IntKind.i64.wrap ((IntKind.i64.wrap (v1 + (1 : Int))) + (1 : Int))) + (1 : Int))) + (1 : Int))) (3 : Int))) == (0 : Int))) then (
        f_laws_heldSegmentS_1 a0 n (IntKind.i64.wrap ((IntKind.i64.wrap ((IntKind.i64.wrap ((IntKind.i64.wrap ((IntKind.i64.wrap (v1 + (1 : Int))) + (1 : Int))) + (1 : Int))) + (1 : Int))) + (1 : Int))) (IntKind.i64.wrap (v2 + (1 : Int))))
       else (
        some (-1 : Int)))))))
  else (
   some v1)
def f_laws_heldSegmentS (a0 : List XSegment) (a1 : Int) : Option Int :=
 f_laws_heldSegmentS_1 a0 bigN a1 (0 : Int)
/- laws_heldChart -/
def f_laws_heldChart (a0 : XChart) (a1 : Int) : Option Int :=
 (f_laws_heldPointS a0.Points a1).bind fun r1 =>
 if (decide (r1 < (0 : Int))) then (
  some (-1 : Int))
 else (
  (f_laws_heldSegmentS a0.Segments r1).bind fun r3 =>
  if (decide (r3 < (0 : Int))) then (
   some (-1 : Int))
  else (
   some r3))
/- laws_FnExactParseChart -/
def f_laws_FnExactParseChart (a0 : List UInt8) : Option Bool :=
 if (decide ((1048576 : Int) < (a0.length : Int))) then (
  some true)
 else (
  (f_spec_ParseChart a0).bind fun r2 =>
  (f_impl_ParseChart a0).bind fun r3 =>
  (f_laws_eqChart (⟨r3.1.Points, r3.1.Segments⟩ : XChart) (⟨r2.1.Points, r2.1.Segments⟩ : XChart)).bind fun r4 =>
  if r4 then (
   if (r3.2 == r2.2) then (
    (f_laws_markChart (⟨r3.1.Points, r3.1.Segments⟩ : XChart) (1 : Int)).bind fun r7 =>
    (f_laws_heldChart (⟨r7.2.1, r7.2.2⟩ : XChart) (1 : Int)).bind fun r8 =>
    if (decide (r8 < (0 : Int))) then (
     some false)
    else (
     if (r8 != r7.1) then (
      some false)
     else (
      (f_impl_ParseChart a0).bind fun r11 =>
      (f_laws_eqChart (⟨r11.1.Points, r11.1.Segments⟩ : XChart) (⟨r2.1.Points, r2.1.Segments⟩ : XChart)).bind fun r12 =>
      if r12 then (
       if (r11.2 == r2.2) then (
        (f_laws_heldChart (⟨r7.2.1, r7.2.2⟩ : XChart) (1 : Int)).bind fun r15 =>
        if (decide (r15 < (0 : Int))) then (
         some false)
        else (
         if (r15 != r7.1) then (
          some false)
         else (
          some true)))
       else (
        some false))
      else (
       some false))))
   else (
    some false))
  else (
   some false))
/- internal_strconv_small -/
def f_internal_strconv_small (a0 : Int) : Option (List UInt8) :=
 if (decide (a0 < (10 : Int))) then (
  (bnd (([48, 49, 50, 51, 52, 53, 54, 55, 56, 57, 97, 98, 99, 100, 101, 102, 103, 104, 105, 106, 107, 108, 109, 110, 111, 112, 113, 114, 115, 116, 117, 118, 119, 120, 121, 122] : List UInt8).length : Int) (IntKind.i64.wrap (a0 + (1 : Int))) a0 ([48, 49, 50, 51, 52, 53, 54, 55, 56, 57, 97, 98, 99, 100, 101, 102, 103, 104, 105, 106, 107, 108, 109, 110, 111, 112, 113, 114, 115, 116, 117, 118, 119, 120, 121, 122] : List UInt8).length).bind fun p2 =>
  some ((([48, 49, 50, 51, 52, 53, 54, 55, 56, 57, 97, 98, 99, 100, 101, 102, 103, 104, 105, 106, 107, 108, 109, 110, 111, 112, 113, 114, 115, 116, 117, 118, 119, 120, 121, 122] : List UInt8).drop p2.1).take (p2.2 - p2.1)))
 else (
  (bnd (([48, 48, 48, 49, 48, 50, 48, 51, 48, 52, 48, 53, 48, 54, 48, 55, 48, 56, 48, 57, 49, 48, 49, 49, 49, 50, 49, 51, 49, 52, 49, 53, 49, 54, 49, 55, 49, 56, 49, 57, 50, 48, 50, 49, 50, 50, 50, 51, 50, 52, 50, 53, 50, 54, 50, 55, 50, 56, 50, 57, 51, 48, 51, 49, 51, 50, 51, 51, 51, 52, 51, 53, 51, 54, 51, 55, 51, 56, 51, 57, 52, 48, 52, 49, 52, 50, 52, 51, 52, 52, 52, 53, 52, 54, 52, 55, 52, 56, 52, 57, 53, 48, 53, 49, 53, 50, 53, 51, 53, 52, 53, 53, 53, 54, 53, 55, 53, 56, 53, 57, 54, 48, 54, 49, 54, 50, 54, 51, 54, 52, 54, 53, 54, 54, 54, 55, 54, 56, 54, 57, 55, 48, 55, 49, 55, 50, 55, 51, 55, 52, 55, 53, 55, 54, 55, 55, 55, 56, 55, 57, 56, 48, 56, 49, 56, 50, 56, 51, 56, 52, 56, 53, 56, 54, 56, 55, 56, 56, 56, 57, 57, 48, 57, 49, 57, 50, 57, 51, 57, 52, 57, 53, 57, 54, 57, 55, 57, 56, 57, 57] : List UInt8).length : Int) (IntKind.i64.wrap ((IntKind.i64.wrap (a0 * (2 : Int))) + (2 : Int))) (IntKind.i64.wrap (a0 * (2 : Int))) ([48, 48, 48, 49, 48, 50, 48, 51, 48, 52, 48, 53, 48, 54, 48, 55, 48, 56, 48, 57, 49, 48, 49, 49, 49, 50, 49, 51, 49, 52, 49, 53, 49, 54, 49, 55, 49, 56, 49, 57, 50, 48, 50, 49, 50, 50, 50, 51, 50, 52, 50, 53, 50, 54, 50, 55, 50, 56, 50, 57, 51, 48, 51, 49, 51, 50, 51, 51, 51, 52, 51, 53, 51, 54, 51, 55, 51, 56, 51, 57, 52, 48, 52, 49, 52, 50, 52, 51, 52, 52, 52, 53, 52, 54, 52, 55, 52, 56, 52, 57, 53, 48, 53, 49, 53, 50, 53, 51, 53, 52, 53, 53, 53, 54, 53, 55, 53, 56, 53, 57, 54, 48, 54, 49, 54, 50, 54, 51, 54, 52, 54, 53, 54, 54, 54, 55, 54, 56, 54, 57, 55, 48, 55, 49, 55, 50, 55, 51, 55, 52, 55, 53, 55, 54, 55, 55, 55, 56, 55, 57, 56, 48, 56, 49, 56, 50, 56, 51, 56, 52, 56, 53, 56, 54, 56, 55, 56, 56, 56, 57, 57, 48, 57, 49, 57, 50, 57, 51, 57, 52, 57, 53, 57, 54, 57, 55, 57, 56, 57, 57] : List UInt8).length).bind fun p3 =>
  some ((([48, 48, 48, 49, 48, 50, 48, 51, 48, 52, 48, 53, 48, 54, 48, 55, 48, 56, 48, 57, 49, 48, 49, 49, 49, 50, 49, 51, 49, 52, 49, 53, 49, 54, 49, 55, 49, 56, 49, 57, 50, 48, 50, 49, 50, 50, 50, 51, 50, 52, 50, 53, 50, 54, 50, 55, 50, 56, 50, 57, 51, 48, 51, 49, 51, 50, 51, 51, 51, 52, 51, 53, 51, 54, 51, 55, 51, 56, 51, 57, 52, 48, 52, 49, 52, 50, 52, 51, 52, 52, 52, 53, 52, 54, 52, 55, 52, 56, 52, 57, 53, 48, 53, 49, 53, 50, 53, 51, 53, 52, 53, 53, 53, 54, 53, 55, 53, 56, 53, 57, 54, 48, 54, 49, 54, 50, 54, 51, 54, 52, 54, 53, 54, 54, 54, 55, 54, 56, 54, 57, 55, 48, 55, 49, 55, 50, 55, 51, 55, 52, 55, 53, 55, 54, 55, 55, 55, 56, 55, 57, 56, 48, 56, 49, 56, 50, 56, 51, 56, 52, 56, 53, 56, 54, 56, 55, 56, 56, 56, 57, 57, 48, 57, 49, 57, 50, 57, 51, 57, 52, 57, 53, 57, 54, 57, 55, 57, 56, 57, 57] : List UInt8).drop p3.1).take (p3.2 - p3.1)))
/- internal_strconv_lower -/
def f_internal_strconv_lower (a0 : Int) : Option Int :=
 some (bitsV .or .u8 a0 (32 : Int))
/- internal_strconv_underscoreOK -/
def f_internal_strconv_underscoreOK_7 (v7 : List UInt8) (v25 : Int) (k_internal_strconv_underscoreOK_5 : Int → Int → Bool → Option Bool) (v46 : Int) (v47 : Bool) : Option Bool :=
 k_internal_strconv_underscoreOK_5 v46 (IntKind.i64.wrap (v25 + (1 : Int))) v47
def f_internal_strconv_underscoreOK_6 (v7 : List UInt8) (v24 : Int) (v25 : Int) (k_internal_strconv_underscoreOK_5 : Int → Int → Bool → Option Bool) (v41 : Bool) : Option Bool :=
 (ix v7 v25).bind fun b42 =>
 if ((b42.toNat : Int) == (95 : Int)) then (
  if (v24 != (48 : Int)) then (
   some false)
  else (
   f_internal_strconv_underscoreOK_7 v7 v25 k_internal_strconv_underscoreOK_5 (95 : Int) v41))
 else (
  if (v24 == (95 : Int)) then (
   some false)
  else (
   f_internal_strconv_underscoreOK_7 v7 v25 k_internal_strconv_underscoreOK_5 (33 : Int) v41))
def f_internal_strconv_underscoreOK_5 (v7 : List UInt8) : Nat → Int → Int → Bool → Option Bool
 | 0, _, _, _ => none
 | n + 1, v24, v25, v26 =>
  if (decide (v25 < (v7.length : Int))) then (
   (ix v7 v25).bind fun b28 =>
   if (decide ((48 : Int) ≤ (b28.toNat : Int))) then (
    if (decide ((b28.toNat : Int) ≤ (57 : Int))) then (
     f_internal_strconv_underscoreOK_7 v7 v25 (f_internal_strconv_underscoreOK_5 v7 n) (48 : Int) v26)
    else (
     if v26 then (
      (f_internal_strconv_lower (b28.toNat : Int)).bind fun r32 =>
      if (decide ((97 : Int) ≤ r32)) then (
       (f_internal_strconv_lower (b28.toNat : Int)).bind fun r34 =>
       if (decide (r34 ≤ (102 : Int))) then (
        f_internal_strconv_underscoreOK_7 v7 v25 (f_internal_strconv_underscoreOK_5 v7 n) (48 : Int) true)
       else (
        f_internal_strconv_underscoreOK_6 v7 v24 v25 (f_internal_strconv_underscoreOK_5 v7 n) true))
      else (
       f_internal_strconv_underscoreOK_6 v7 v24 v25 (f_internal_strconv_underscoreOK_5 v7 n) true))
     else (
      f_internal_strconv_underscoreOK_6 v7 v24 v25 (f_internal_strconv_underscoreOK_5 v7 n) false)))
   else (
    if v26 then (
     (f_internal_strconv_lower (b28.toNat : Int)).bind fun r36 =>
     if (decide ((97 : Int) ≤ r36)) then (
      (f_internal_strconv_lower (b28.toNat : Int)).bind fun r38 =>
      if (decide (r38 ≤ (102 : Int))) then (
       f_internal_strconv_underscoreOK_7 v7 v25 (f_internal_strconv_underscoreOK_5 v7 n) (48 : Int) true)
      else (
       f_internal_strconv_underscoreOK_6 v7 v24 v25 (f_internal_strconv_underscoreOK_5 v7 n) true))
     else (
      f_internal_strconv_underscoreOK_6 v7 v24 v25 (f_internal_strconv_underscoreOK_5 v7 n) true))
    else (
     f_internal_strconv_underscoreOK_6 v7 v24 v25 (f_internal_strconv_underscoreOK_5 v7 n) false)))
  else (
   some (v24 != (95 : Int)))
def f_internal_strconv_underscoreOK_4 (v7 : List UInt8) (v21 : Int) (v22 : Int) (v23 : Bool) : Option Bool :=
 f_internal_strconv_underscoreOK_5 v7 bigN v21 v22 v23
def f_internal_strconv_underscoreOK_3 (v7 : List UInt8) (v17 : Bool) : Option Bool :=
 if v17 then (
  (ix v7 (1 : Int)).bind fun b19 =>
  (f_internal_strconv_lower (b19.toNat : Int)).bind fun r20 =>
  f_internal_strconv_underscoreOK_4 v7 (48 : Int) (2 : Int) (r20 == (120 : Int)))
 else (
  f_internal_strconv_underscoreOK_4 v7 (94 : Int) (0 : Int) false)
def f_internal_strconv_underscoreOK_2 (v7 : List UInt8) : Option Bool :=
 if (decide ((2 : Int) ≤ (v7.length : Int))) then (
  (ix v7 (0 : Int)).bind fun b9 =>
  if ((b9.toNat : Int) == (48 : Int)) then (
   (ix v7 (1 : Int)).bind fun b11 =>
   (f_internal_strconv_lower (b11.toNat : Int)).bind fun r12 =>
   if (r12 == (98 : Int)) then (
    f_internal_strconv_underscoreOK_3 v7 true)
   else (
    (f_internal_strconv_lower (b11.toNat : Int)).bind fun r14 =>
    if (r14 == (111 : Int)) then (
     f_internal_strconv_underscoreOK_3 v7 true)
    else (
     (f_internal_strconv_lower (b11.toNat : Int)).bind fun r16 =>
     f_internal_strconv_underscoreOK_3 v7 (r16 == (120 : Int)))))
  else (
   f_internal_strconv_underscoreOK_3 v7 false))
 else (
  f_internal_strconv_underscoreOK_3 v7 false)
def f_internal_strconv_underscoreOK_1 (a0 : List UInt8) (v4 : Bool) : Option Bool :=
 if v4 then (
  (bnd (a0.length : Int) (a0.length : Int) (1 : Int) a0.length).bind fun p6 =>
  f_internal_strconv_underscoreOK_2 ((a0.drop p6.1).take (p6.2 - p6.1)))
 else (
  f_internal_strconv_underscoreOK_2 a0)
def f_internal_strconv_underscoreOK (a0 : List UInt8) : Option Bool :=
 if (decide ((1 : Int) ≤ (a0.length : Int))) then (
  (ix a0 (0 : Int)).bind fun b2 =>
  if ((b2.toNat : Int) == (45 : Int)) then (
   f_internal_strconv_underscoreOK_1 a0 true)
  else (
   f_internal_strconv_underscoreOK_1 a0 ((b2.toNat : Int) == (43 : Int))))
 else (
  f_internal_strconv_underscoreOK_1 a0 false)
/- internal_strconv_bool2_int -/
def f_internal_strconv_bool2_int (a0 : Bool) : Option Int :=
 if a0 then (
  some (1 : Int))
 else (
  some (0 : Int))
/- internal_strconv_isPowerOfTwo -/
def f_internal_strconv_isPowerOfTwo (a0 : Int) : Option Bool :=
 some ((bitsV .and .i64 a0 (IntKind.i64.wrap (a0 - (1 : Int)))) == (0 : Int))
end Go.Vi
