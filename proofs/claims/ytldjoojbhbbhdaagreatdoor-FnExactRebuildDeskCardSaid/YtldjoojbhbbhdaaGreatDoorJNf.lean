/-
  Plain definitions of functions, by program. No condition.
-/
import Derived.Test.YtldjoojbhbbhdaaGreatDoorJVi32
import Derived.Test.YtldjoojbhbbhdaaGreatDoorJLa
namespace Go.Vi
set_option linter.unusedSimpArgs false
set_option linter.unusedVariables false
structure XAny where
  isS : Bool
  s : List UInt8
  n : Int
  deriving DecidableEq
def anyD (x : XAny) : D := .ifc (bif x.isS then 9 else 3) (bif x.isS then .str x.s else .int .i64 x.n)
theorem any_t {t : TypeId} {zc : AC} {x : XAny} : tassV t zc (.v (.sc (.dat (anyD x)))) = tassV t zc (.v (.sc (.dat (.ifc (bif x.isS then 9 else 3) (bif x.isS then .str x.s else .int .i64 x.n))))) := rfl
def rA (x : XAny) : List D := [anyD x]
theorem rA_eq (x : XAny) : rA x = [anyD x] := rfl
instance : Row rA 1 := ⟨fun _ => rfl, Nat.le_of_ble_eq_true rfl⟩
def errD : Option Int → D
  | none => .noi
  | some n => .ifc 120 (.pd [.int .i64 n])
theorem errD_none : errD none = .noi := rfl
theorem errD_some (n : Int) : errD (some n) = .ifc 120 (.pd [.int .i64 n]) := rfl
theorem of_noerr {x : Option Int} (h : x.isSome = false) : x = none := by cases x with | none => rfl | some _ => cases h
structure XDesk where
  Now : Int
  Starts : List Int
  Cleared : List Bool
  deriving DecidableEq
def XDesk.row (x : XDesk) : List D := [.int .i64 x.Now, .sl (List.map rI x.Starts), .sl (List.map rB x.Cleared)]
theorem XDesk.row_eq (x : XDesk) : XDesk.row x = [.int .i64 x.Now, .sl (List.map rI x.Starts), .sl (List.map rB x.Cleared)] := rfl
instance : Row XDesk.row 3 := ⟨fun _ => rfl, Nat.le_of_ble_eq_true rfl⟩
instance : OfTy (.st [(.int .i64), (.sl (.int .i64)), (.sl .bool)]) XDesk.row := ⟨fun ds h => by
  obtain ⟨a0, b0, h0, t0, rfl⟩ := h
  obtain ⟨a1, b1, h1, t1, rfl⟩ := t0
  obtain ⟨a2, b2, h2, t2, rfl⟩ := t1
  obtain rfl := t2
  obtain ⟨x0, rfl⟩ := OfTy.of (row := rI) _ h0
  obtain ⟨x1, rfl⟩ := OfTy.of (row := (rL rI)) _ h1
  obtain ⟨x2, rfl⟩ := OfTy.of (row := (rL rB)) _ h2
  exact ⟨⟨x0, x1, x2⟩, rfl⟩⟩
structure XEntry where
  Kind : Int
  At : Int
  Call : Int
  Value : Int
  deriving DecidableEq
def XEntry.row (x : XEntry) : List D := [.int .i64 x.Kind, .int .i64 x.At, .int .i64 x.Call, .int .i64 x.Value]
theorem XEntry.row_eq (x : XEntry) : XEntry.row x = [.int .i64 x.Kind, .int .i64 x.At, .int .i64 x.Call, .int .i64 x.Value] := rfl
instance : Row XEntry.row 4 := ⟨fun _ => rfl, Nat.le_of_ble_eq_true rfl⟩
instance : FlatRow XEntry.row := ⟨fun x d hd => by simp only [XEntry.row_eq, List.mem_cons, List.not_mem_nil, or_false] at hd; rcases hd with rfl | rfl | rfl | rfl <;> rfl⟩
instance : OfTy (.st [(.int .i64), (.int .i64), (.int .i64), (.int .i64)]) XEntry.row := ⟨fun ds h => by
  obtain ⟨a0, b0, h0, t0, rfl⟩ := h
  obtain ⟨a1, b1, h1, t1, rfl⟩ := t0
  obtain ⟨a2, b2, h2, t2, rfl⟩ := t1
  obtain ⟨a3, b3, h3, t3, rfl⟩ := t2
  obtain rfl := t3
  obtain ⟨x0, rfl⟩ := OfTy.of (row := rI) _ h0
  obtain ⟨x1, rfl⟩ := OfTy.of (row := rI) _ h1
  obtain ⟨x2, rfl⟩ := OfTy.of (row := rI) _ h2
  obtain ⟨x3, rfl⟩ := OfTy.of (row := rI) _ h3
  exact ⟨⟨x0, x1, x2, x3⟩, rfl⟩⟩
structure XPart where
  Amp : Int
  Period : Int
  Phase : Int
  deriving DecidableEq
def XPart.row (x : XPart) : List D := [.int .i64 x.Amp, .int .i64 x.Period, .int .i64 x.Phase]
theorem XPart.row_eq (x : XPart) : XPart.row x = [.int .i64 x.Amp, .int .i64 x.Period, .int .i64 x.Phase] := rfl
instance : Row XPart.row 3 := ⟨fun _ => rfl, Nat.le_of_ble_eq_true rfl⟩
instance : FlatRow XPart.row := ⟨fun x d hd => by simp only [XPart.row_eq, List.mem_cons, List.not_mem_nil, or_false] at hd; rcases hd with rfl | rfl | rfl <;> rfl⟩
instance : OfTy (.st [(.int .i64), (.int .i64), (.int .i64)]) XPart.row := ⟨fun ds h => by
  obtain ⟨a0, b0, h0, t0, rfl⟩ := h
  obtain ⟨a1, b1, h1, t1, rfl⟩ := t0
  obtain ⟨a2, b2, h2, t2, rfl⟩ := t1
  obtain rfl := t2
  obtain ⟨x0, rfl⟩ := OfTy.of (row := rI) _ h0
  obtain ⟨x1, rfl⟩ := OfTy.of (row := rI) _ h1
  obtain ⟨x2, rfl⟩ := OfTy.of (row := rI) _ h2
  exact ⟨⟨x0, x1, x2⟩, rfl⟩⟩
structure XTide where
  Mean : Int
  Parts : List XPart
  deriving DecidableEq
def XTide.row (x : XTide) : List D := [.int .i64 x.Mean, .sl (List.map XPart.row x.Parts)]
theorem XTide.row_eq (x : XTide) : XTide.row x = [.int .i64 x.Mean, .sl (List.map XPart.row x.Parts)] := rfl
instance : Row XTide.row 2 := ⟨fun _ => rfl, Nat.le_of_ble_eq_true rfl⟩
instance : OfTy (.st [(.int .i64), (.sl (.st [(.int .i64), (.int .i64), (.int .i64)]))]) XTide.row := ⟨fun ds h => by
  obtain ⟨a0, b0, h0, t0, rfl⟩ := h
  obtain ⟨a1, b1, h1, t1, rfl⟩ := t0
  obtain rfl := t1
  obtain ⟨x0, rfl⟩ := OfTy.of (row := rI) _ h0
  obtain ⟨x1, rfl⟩ := OfTy.of (row := (rL XPart.row)) _ h1
  exact ⟨⟨x0, x1⟩, rfl⟩⟩
structure XSurge where
  From : Int
  Low : Int
  High : Int
  deriving DecidableEq
def XSurge.row (x : XSurge) : List D := [.int .i64 x.From, .int .i64 x.Low, .int .i64 x.High]
theorem XSurge.row_eq (x : XSurge) : XSurge.row x = [.int .i64 x.From, .int .i64 x.Low, .int .i64 x.High] := rfl
instance : Row XSurge.row 3 := ⟨fun _ => rfl, Nat.le_of_ble_eq_true rfl⟩
instance : FlatRow XSurge.row := ⟨fun x d hd => by simp only [XSurge.row_eq, List.mem_cons, List.not_mem_nil, or_false] at hd; rcases hd with rfl | rfl | rfl <;> rfl⟩
instance : OfTy (.st [(.int .i64), (.int .i64), (.int .i64)]) XSurge.row := ⟨fun ds h => by
  obtain ⟨a0, b0, h0, t0, rfl⟩ := h
  obtain ⟨a1, b1, h1, t1, rfl⟩ := t0
  obtain ⟨a2, b2, h2, t2, rfl⟩ := t1
  obtain rfl := t2
  obtain ⟨x0, rfl⟩ := OfTy.of (row := rI) _ h0
  obtain ⟨x1, rfl⟩ := OfTy.of (row := rI) _ h1
  obtain ⟨x2, rfl⟩ := OfTy.of (row := rI) _ h2
  exact ⟨⟨x0, x1, x2⟩, rfl⟩⟩
structure XForecast where
  Tide : XTide
  Surges : List XSurge
  deriving DecidableEq
def XForecast.row (x : XForecast) : List D := [.int .i64 x.Tide.Mean, .sl (List.map XPart.row x.Tide.Parts), .sl (List.map XSurge.row x.Surges)]
theorem XForecast.row_eq (x : XForecast) : XForecast.row x = [.int .i64 x.Tide.Mean, .sl (List.map XPart.row x.Tide.Parts), .sl (List.map XSurge.row x.Surges)] := rfl
instance : Row XForecast.row 3 := ⟨fun _ => rfl, Nat.le_of_ble_eq_true rfl⟩
instance : OfTy (.st [(.st [(.int .i64), (.sl (.st [(.int .i64), (.int .i64), (.int .i64)]))]), (.sl (.st [(.int .i64), (.int .i64), (.int .i64)]))]) XForecast.row := ⟨fun ds h => by
  obtain ⟨a0, b0, h0, t0, rfl⟩ := h
  obtain ⟨a1, b1, h1, t1, rfl⟩ := t0
  obtain rfl := t1
  obtain ⟨x0, rfl⟩ := OfTy.of (row := XTide.row) _ h0
  obtain ⟨x1, rfl⟩ := OfTy.of (row := (rL XSurge.row)) _ h1
  exact ⟨⟨x0, x1⟩, rfl⟩⟩
structure XPoint where
  Name : List UInt8
  Wait : Bool
  deriving DecidableEq
def XPoint.row (x : XPoint) : List D := [.str x.Name, .bool x.Wait]
theorem XPoint.row_eq (x : XPoint) : XPoint.row x = [.str x.Name, .bool x.Wait] := rfl
instance : Row XPoint.row 2 := ⟨fun _ => rfl, Nat.le_of_ble_eq_true rfl⟩
instance : FlatRow XPoint.row := ⟨fun x d hd => by simp only [XPoint.row_eq, List.mem_cons, List.not_mem_nil, or_false] at hd; rcases hd with rfl | rfl <;> rfl⟩
instance : OfTy (.st [.str, .bool]) XPoint.row := ⟨fun ds h => by
  obtain ⟨a0, b0, h0, t0, rfl⟩ := h
  obtain ⟨a1, b1, h1, t1, rfl⟩ := t0
  obtain rfl := t1
  obtain ⟨x0, rfl⟩ := OfTy.of (row := rS) _ h0
  obtain ⟨x1, rfl⟩ := OfTy.of (row := rB) _ h1
  exact ⟨⟨x0, x1⟩, rfl⟩⟩
structure XSegment where
  A : Int
  B : Int
  Depth : Int
  Minutes : Int
  Meet : Bool
  deriving DecidableEq
def XSegment.row (x : XSegment) : List D := [.int .i64 x.A, .int .i64 x.B, .int .i64 x.Depth, .int .i64 x.Minutes, .bool x.Meet]
theorem XSegment.row_eq (x : XSegment) : XSegment.row x = [.int .i64 x.A, .int .i64 x.B, .int .i64 x.Depth, .int .i64 x.Minutes, .bool x.Meet] := rfl
instance : Row XSegment.row 5 := ⟨fun _ => rfl, Nat.le_of_ble_eq_true rfl⟩
instance : FlatRow XSegment.row := ⟨fun x d hd => by simp only [XSegment.row_eq, List.mem_cons, List.not_mem_nil, or_false] at hd; rcases hd with rfl | rfl | rfl | rfl | rfl <;> rfl⟩
instance : OfTy (.st [(.int .i64), (.int .i64), (.int .i64), (.int .i64), .bool]) XSegment.row := ⟨fun ds h => by
  obtain ⟨a0, b0, h0, t0, rfl⟩ := h
  obtain ⟨a1, b1, h1, t1, rfl⟩ := t0
  obtain ⟨a2, b2, h2, t2, rfl⟩ := t1
  obtain ⟨a3, b3, h3, t3, rfl⟩ := t2
  obtain ⟨a4, b4, h4, t4, rfl⟩ := t3
  obtain rfl := t4
  obtain ⟨x0, rfl⟩ := OfTy.of (row := rI) _ h0
  obtain ⟨x1, rfl⟩ := OfTy.of (row := rI) _ h1
  obtain ⟨x2, rfl⟩ := OfTy.of (row := rI) _ h2
  obtain ⟨x3, rfl⟩ := OfTy.of (row := rI) _ h3
  obtain ⟨x4, rfl⟩ := OfTy.of (row := rB) _ h4
  exact ⟨⟨x0, x1, x2, x3, x4⟩, rfl⟩⟩
structure XChart where
  Points : List XPoint
  Segments : List XSegment
  deriving DecidableEq
def XChart.row (x : XChart) : List D := [.sl (List.map XPoint.row x.Points), .sl (List.map XSegment.row x.Segments)]
theorem XChart.row_eq (x : XChart) : XChart.row x = [.sl (List.map XPoint.row x.Points), .sl (List.map XSegment.row x.Segments)] := rfl
instance : Row XChart.row 2 := ⟨fun _ => rfl, Nat.le_of_ble_eq_true rfl⟩
instance : OfTy (.st [(.sl (.st [.str, .bool])), (.sl (.st [(.int .i64), (.int .i64), (.int .i64), (.int .i64), .bool]))]) XChart.row := ⟨fun ds h => by
  obtain ⟨a0, b0, h0, t0, rfl⟩ := h
  obtain ⟨a1, b1, h1, t1, rfl⟩ := t0
  obtain rfl := t1
  obtain ⟨x0, rfl⟩ := OfTy.of (row := (rL XPoint.row)) _ h0
  obtain ⟨x1, rfl⟩ := OfTy.of (row := (rL XSegment.row)) _ h1
  exact ⟨⟨x0, x1⟩, rfl⟩⟩
structure XShip where
  Name : List UInt8
  Length : Int
  Draught : Int
  Line : Int
  Tugs : Int
  Slow : Bool
  deriving DecidableEq
def XShip.row (x : XShip) : List D := [.str x.Name, .int .i64 x.Length, .int .i64 x.Draught, .int .i64 x.Line, .int .i64 x.Tugs, .bool x.Slow]
theorem XShip.row_eq (x : XShip) : XShip.row x = [.str x.Name, .int .i64 x.Length, .int .i64 x.Draught, .int .i64 x.Line, .int .i64 x.Tugs, .bool x.Slow] := rfl
instance : Row XShip.row 6 := ⟨fun _ => rfl, Nat.le_of_ble_eq_true rfl⟩
instance : FlatRow XShip.row := ⟨fun x d hd => by simp only [XShip.row_eq, List.mem_cons, List.not_mem_nil, or_false] at hd; rcases hd with rfl | rfl | rfl | rfl | rfl | rfl <;> rfl⟩
instance : OfTy (.st [.str, (.int .i64), (.int .i64), (.int .i64), (.int .i64), .bool]) XShip.row := ⟨fun ds h => by
  obtain ⟨a0, b0, h0, t0, rfl⟩ := h
  obtain ⟨a1, b1, h1, t1, rfl⟩ := t0
  obtain ⟨a2, b2, h2, t2, rfl⟩ := t1
  obtain ⟨a3, b3, h3, t3, rfl⟩ := t2
  obtain ⟨a4, b4, h4, t4, rfl⟩ := t3
  obtain ⟨a5, b5, h5, t5, rfl⟩ := t4
  obtain rfl := t5
  obtain ⟨x0, rfl⟩ := OfTy.of (row := rS) _ h0
  obtain ⟨x1, rfl⟩ := OfTy.of (row := rI) _ h1
  obtain ⟨x2, rfl⟩ := OfTy.of (row := rI) _ h2
  obtain ⟨x3, rfl⟩ := OfTy.of (row := rI) _ h3
  obtain ⟨x4, rfl⟩ := OfTy.of (row := rI) _ h4
  obtain ⟨x5, rfl⟩ := OfTy.of (row := rB) _ h5
  exact ⟨⟨x0, x1, x2, x3, x4, x5⟩, rfl⟩⟩
structure XWindow where
  From : Int
  To : Int
  deriving DecidableEq
def XWindow.row (x : XWindow) : List D := [.int .i64 x.From, .int .i64 x.To]
theorem XWindow.row_eq (x : XWindow) : XWindow.row x = [.int .i64 x.From, .int .i64 x.To] := rfl
instance : Row XWindow.row 2 := ⟨fun _ => rfl, Nat.le_of_ble_eq_true rfl⟩
instance : FlatRow XWindow.row := ⟨fun x d hd => by simp only [XWindow.row_eq, List.mem_cons, List.not_mem_nil, or_false] at hd; rcases hd with rfl | rfl <;> rfl⟩
instance : OfTy (.st [(.int .i64), (.int .i64)]) XWindow.row := ⟨fun ds h => by
  obtain ⟨a0, b0, h0, t0, rfl⟩ := h
  obtain ⟨a1, b1, h1, t1, rfl⟩ := t0
  obtain rfl := t1
  obtain ⟨x0, rfl⟩ := OfTy.of (row := rI) _ h0
  obtain ⟨x1, rfl⟩ := OfTy.of (row := rI) _ h1
  exact ⟨⟨x0, x1⟩, rfl⟩⟩
theorem rowsX : type_of% (And.intro @rI_eq (And.intro @any_t (And.intro @rA_eq (And.intro @errD_none (And.intro @errD_some (And.intro @XDesk.row_eq (And.intro @XEntry.row_eq (And.intro @XPart.row_eq (And.intro @XTide.row_eq (And.intro @XSurge.row_eq (And.intro @XForecast.row_eq (And.intro @XPoint.row_eq (And.intro @XSegment.row_eq (And.intro @XChart.row_eq (And.intro @XShip.row_eq (@XWindow.row_eq)))))))))))))))) := And.intro @rI_eq (And.intro @any_t (And.intro @rA_eq (And.intro @errD_none (And.intro @errD_some (And.intro @XDesk.row_eq (And.intro @XEntry.row_eq (And.intro @XPart.row_eq (And.intro @XTide.row_eq (And.intro @XSurge.row_eq (And.intro @XForecast.row_eq (And.intro @XPoint.row_eq (And.intro @XSegment.row_eq (And.intro @XChart.row_eq (And.intro @XShip.row_eq (@XWindow.row_eq)))))))))))))))
/- spec_l01In -/
def f_spec_l01In (a0 : Int) (a1 : Int) (a2 : Int) : Option Bool :=
 if (decide (a1 ≤ a0)) then (
  some (decide (a0 ≤ a2)))
 else (
  some false)
/- spec_DeskNew -/
def f_spec_DeskNew_1 (a0 : Int) : Nat → Int → (List Int) → (List Bool) → Option XDesk
 | 0, _, _, _ => none
 | n + 1, v3, v4, v5 =>
  if (decide (v3 < a0)) then (
   if appB v4.length ([(-1 : Int)] : List Int).length 8 then (
    if appB v5.length ([false] : List Bool).length 1 then (
     f_spec_DeskNew_1 a0 n (IntKind.i64.wrap (v3 + (1 : Int))) (v4 ++ ([(-1 : Int)] : List Int)) (v5 ++ ([false] : List Bool)))
    else none)
   else none)
  else (
   some (⟨(0 : Int), v4, v5⟩ : XDesk))
def f_spec_DeskNew (a0 : Int) : Option XDesk :=
 (f_spec_l01In a0 (0 : Int) (6 : Int)).bind fun r1 =>
 if r1 then (
  f_spec_DeskNew_1 a0 bigN (0 : Int) ([] : List Int) ([] : List Bool))
 else (
  some (⟨(0 : Int), ([] : List Int), ([] : List Bool)⟩ : XDesk))
/- spec_SplitAny -/
def f_spec_SplitAny_3 (a0 : List UInt8) (a1 : List UInt8) (v2 : Int) (k_spec_SplitAny_1 : Int → Int → (List (List UInt8)) → Option (List (List UInt8))) (v12 : Int) (v13 : List (List UInt8)) : Option (List (List UInt8)) :=
 k_spec_SplitAny_1 v12 (IntKind.i64.wrap (v2 + (1 : Int))) v13
def f_spec_SplitAny_2 (a0 : List UInt8) (a1 : List UInt8) (v1 : Int) (v2 : Int) (v3 : List (List UInt8)) (k_spec_SplitAny_1 : Int → Int → (List (List UInt8)) → Option (List (List UInt8))) : Nat → Int → Option (List (List UInt8))
 | 0, _ => none
 | n + 1, v5 =>
  if (decide (v5 < (a1.length : Int))) then (
   (ix a0 v2).bind fun b7 =>
   (ix a1 v5).bind fun b8 =>
   if ((b7.toNat : Int) == (b8.toNat : Int)) then (
    (bnd (a0.length : Int) v2 v1 a0.length).bind fun p10 =>
    if appB v3.length ([((a0.drop p10.1).take (p10.2 - p10.1))] : List (List UInt8)).length 16 then (
     f_spec_SplitAny_3 a0 a1 v2 k_spec_SplitAny_1 (IntKind.i64.wrap (v2 + (1 : Int))) (v3 ++ ([((a0.drop p10.1).take (p10.2 - p10.1))] : List (List UInt8))))
    else none)
   else (
    f_spec_SplitAny_2 a0 a1 v1 v2 v3 k_spec_SplitAny_1 n (IntKind.i64.wrap (v5 + (1 : Int)))))
  else (
   f_spec_SplitAny_3 a0 a1 v2 k_spec_SplitAny_1 v1 v3)
def f_spec_SplitAny_1 (a0 : List UInt8) (a1 : List UInt8) : Nat → Int → Int → (List (List UInt8)) → Option (List (List UInt8))
 | 0, _, _, _ => none
 | n + 1, v1, v2, v3 =>
  if (decide (v2 < (a0.length : Int))) then (
   f_spec_SplitAny_2 a0 a1 v1 v2 v3 (f_spec_SplitAny_1 a0 a1 n) bigN (0 : Int))
  else (
   (bnd (a0.length : Int) (a0.length : Int) v1 a0.length).bind fun p14 =>
   if appB v3.length ([((a0.drop p14.1).take (p14.2 - p14.1))] : List (List UInt8)).length 16 then (
    some (v3 ++ ([((a0.drop p14.1).take (p14.2 - p14.1))] : List (List UInt8))))
   else none)
def f_spec_SplitAny (a0 : List UInt8) (a1 : List UInt8) : Option (List (List UInt8)) :=
 f_spec_SplitAny_1 a0 a1 bigN (0 : Int) (0 : Int) ([] : List (List UInt8))
/- spec_SplitLines -/
def f_spec_SplitLines (a0 : List UInt8) : Option (List (List UInt8)) :=
 (f_spec_SplitAny a0 ([10] : List UInt8)).bind fun r1 =>
 (ix r1 (IntKind.i64.wrap ((r1.length : Int) - (1 : Int)))).bind fun x2 =>
 if (x2 == ([] : List UInt8)) then (
  (bnd (r1.length : Int) (IntKind.i64.wrap ((r1.length : Int) - (1 : Int))) (0 : Int) r1.length).bind fun p4 =>
  some ((r1.drop p4.1).take (p4.2 - p4.1)))
 else (
  some r1)
/- spec_IsDigits -/
def f_spec_IsDigits_1 (a0 : List UInt8) : Nat → Int → Option Bool
 | 0, _ => none
 | n + 1, v1 =>
  if (decide (v1 < (a0.length : Int))) then (
   (ix a0 v1).bind fun b3 =>
   if (decide ((b3.toNat : Int) < (48 : Int))) then (
    some false)
   else (
    if (decide ((57 : Int) < (b3.toNat : Int))) then (
     some false)
    else (
     f_spec_IsDigits_1 a0 n (IntKind.i64.wrap (v1 + (1 : Int))))))
  else (
   some (decide ((0 : Int) < (a0.length : Int))))
def f_spec_IsDigits (a0 : List UInt8) : Option Bool :=
 f_spec_IsDigits_1 a0 bigN (0 : Int)
/- spec_FormatInt -/
def f_spec_FormatInt_1 (rec_ : Int → Option (List UInt8)) : Nat → Int → (List UInt8) → Option (List UInt8)
 | 0, _, _ => none
 | n + 1, v6, v7 =>
  if (decide ((9 : Int) < v6)) then (
   if catB ([(IntKind.u8.wrap (IntKind.i64.wrap ((48 : Int) + (IntKind.i64.wrap (Int.tmod v6 (10 : Int))))))] : List Int).length v7.length then (
    f_spec_FormatInt_1 rec_ n (IntKind.i64.wrap (Int.tdiv v6 (10 : Int))) ((List.map toU8 ([(IntKind.u8.wrap (IntKind.i64.wrap ((48 : Int) + (IntKind.i64.wrap (Int.tmod v6 (10 : Int))))))] : List Int)) ++ v7))
   else none)
  else (
   if catB ([(IntKind.u8.wrap (IntKind.i64.wrap ((48 : Int) + v6)))] : List Int).length v7.length then (
    some ((List.map toU8 ([(IntKind.u8.wrap (IntKind.i64.wrap ((48 : Int) + v6)))] : List Int)) ++ v7))
   else none)
def f_spec_FormatInt_b (rec_ : Int → Option (List UInt8)) (a0 : Int) : Option (List UInt8) :=
 if (decide (a0 < (0 : Int))) then (
  if ((IntKind.i64.wrap (Int.tdiv a0 (10 : Int))) == (0 : Int)) then (
   if catB ([45] : List UInt8).length ([(IntKind.u8.wrap (IntKind.i64.wrap ((48 : Int) - a0)))] : List Int).length then (
    some (([45] : List UInt8) ++ (List.map toU8 ([(IntKind.u8.wrap (IntKind.i64.wrap ((48 : Int) - a0)))] : List Int))))
   else none)
  else (
   (rec_ (IntKind.i64.wrap (Int.tdiv a0 (10 : Int)))).bind fun r4 =>
   if catB r4.length ([(IntKind.u8.wrap (IntKind.i64.wrap ((48 : Int) - (IntKind.i64.wrap (Int.tmod a0 (10 : Int))))))] : List Int).length then (
    some (r4 ++ (List.map toU8 ([(IntKind.u8.wrap (IntKind.i64.wrap ((48 : Int) - (IntKind.i64.wrap (Int.tmod a0 (10 : Int))))))] : List Int))))
   else none))
 else (
  f_spec_FormatInt_1 rec_ bigN a0 ([] : List UInt8))
def f_spec_FormatInt_r : Nat → Int → Option (List UInt8)
 | 0, _ => none
 | n + 1, a0 => f_spec_FormatInt_b (f_spec_FormatInt_r n) a0
def f_spec_FormatInt (a0 : Int) : Option (List UInt8) := f_spec_FormatInt_r bigN a0
/- spec_ParseInt -/
def f_spec_ParseInt_5 (a0 : List UInt8) (v19 : Int) : Option (Int × Bool) :=
 (f_spec_FormatInt v19).bind fun r20 =>
 if (r20 == a0) then (
  some (v19, true))
 else (
  some ((0 : Int), false))
def f_spec_ParseInt_4 (a0 : List UInt8) (v6 : Bool) (v7 : List UInt8) : Nat → Int → Int → Option (Int × Bool)
 | 0, _, _ => none
 | n + 1, v12, v13 =>
  if (decide (v13 < (v7.length : Int))) then (
   (ix v7 v13).bind fun b15 =>
   if (decide (v12 < (IntKind.i64.wrap (Int.tdiv (IntKind.i64.wrap ((-9223372036854775808 : Int) + (IntKind.i64.wrap ((IntKind.i64.wrap (b15.toNat : Int)) - (48 : Int))))) (10 : Int))))) then (
    some ((0 : Int), false))
   else (
    f_spec_ParseInt_4 a0 v6 v7 n (IntKind.i64.wrap ((IntKind.i64.wrap (v12 * (10 : Int))) - (IntKind.i64.wrap ((IntKind.i64.wrap (b15.toNat : Int)) - (48 : Int))))) (IntKind.i64.wrap (v13 + (1 : Int)))))
  else (
   if v6 then (
    f_spec_ParseInt_5 a0 v12)
   else (
    if (v12 == (-9223372036854775808 : Int)) then (
     some ((0 : Int), false))
    else (
     f_spec_ParseInt_5 a0 (IntKind.i64.wrap (0 - v12)))))
def f_spec_ParseInt_3 (a0 : List UInt8) (v6 : Bool) (v7 : List UInt8) (v10 : Bool) : Option (Int × Bool) :=
 if v10 then (
  some ((0 : Int), false))
 else (
  f_spec_ParseInt_4 a0 v6 v7 bigN (0 : Int) (0 : Int))
def f_spec_ParseInt_2 (a0 : List UInt8) (v6 : Bool) (v7 : List UInt8) : Option (Int × Bool) :=
 (f_spec_IsDigits v7).bind fun r8 =>
 if r8 then (
  f_spec_ParseInt_3 a0 v6 v7 (decide ((19 : Int) < (v7.length : Int))))
 else (
  f_spec_ParseInt_3 a0 v6 v7 true)
def f_spec_ParseInt_1 (a0 : List UInt8) (v3 : Bool) : Option (Int × Bool) :=
 if v3 then (
  (bnd (a0.length : Int) (a0.length : Int) (1 : Int) a0.length).bind fun p5 =>
  f_spec_ParseInt_2 a0 true ((a0.drop p5.1).take (p5.2 - p5.1)))
 else (
  f_spec_ParseInt_2 a0 false a0)
def f_spec_ParseInt (a0 : List UInt8) : Option (Int × Bool) :=
 if (decide ((0 : Int) < (a0.length : Int))) then (
  (ix a0 (0 : Int)).bind fun b2 =>
  f_spec_ParseInt_1 a0 ((b2.toNat : Int) == (45 : Int)))
 else (
  f_spec_ParseInt_1 a0 false)
/- spec_SumOfText -/
def f_spec_SumOfText_1 (a0 : List UInt8) : Nat → Int → Int → Option Int
 | 0, _, _ => none
 | n + 1, v1, v2 =>
  if (decide (v2 < (a0.length : Int))) then (
   (ix a0 v2).bind fun b4 =>
   f_spec_SumOfText_1 a0 n (IntKind.i64.wrap (Int.tmod (IntKind.i64.wrap ((IntKind.i64.wrap ((31 : Int) * v1)) + (IntKind.i64.wrap (b4.toNat : Int)))) (65521 : Int))) (IntKind.i64.wrap (v2 + (1 : Int))))
  else (
   some v1)
def f_spec_SumOfText (a0 : List UInt8) : Option Int :=
 f_spec_SumOfText_1 a0 bigN (7 : Int) (0 : Int)
/- spec_FormatEntry -/
def f_spec_FormatEntry (a0 : XEntry) : Option (List UInt8) :=
 (f_spec_l01In a0.Kind (1 : Int) (4 : Int)).bind fun r1 =>
 if r1 then (
  (f_spec_l01In a0.At (0 : Int) (2880 : Int)).bind fun r3 =>
  if r3 then (
   (f_spec_l01In a0.Call (0 : Int) (2880 : Int)).bind fun r5 =>
   if r5 then (
    (f_spec_l01In a0.Value (0 : Int) (2880 : Int)).bind fun r7 =>
    if r7 then (
     (ix ([([97, 110, 110, 111, 117, 110, 99, 101] : List UInt8), ([99, 108, 101, 97, 114] : List UInt8), ([99, 97, 110, 99, 101, 108] : List UInt8), ([116, 105, 99, 107] : List UInt8)] : List (List UInt8)) (IntKind.i64.wrap (a0.Kind - (1 : Int)))).bind fun x9 =>
     if catB x9.length ([32] : List UInt8).length then (
      (f_spec_FormatInt a0.At).bind fun r11 =>
      if catB (x9 ++ ([32] : List UInt8)).length r11.length then (
       if catB ((x9 ++ ([32] : List UInt8)) ++ r11).length ([32] : List UInt8).length then (
        (f_spec_FormatInt a0.Call).bind fun r14 =>
        if catB (((x9 ++ ([32] : List UInt8)) ++ r11) ++ ([32] : List UInt8)).length r14.length then (
         if catB ((((x9 ++ ([32] : List UInt8)) ++ r11) ++ ([32] : List UInt8)) ++ r14).length ([32] : List UInt8).length then (
          (f_spec_FormatInt a0.Value).bind fun r17 =>
          if catB (((((x9 ++ ([32] : List UInt8)) ++ r11) ++ ([32] : List UInt8)) ++ r14) ++ ([32] : List UInt8)).length r17.length then (
           if catB ((((((x9 ++ ([32] : List UInt8)) ++ r11) ++ ([32] : List UInt8)) ++ r14) ++ ([32] : List UInt8)) ++ r17).length ([32, 35] : List UInt8).length then (
            (f_spec_SumOfText ((((((x9 ++ ([32] : List UInt8)) ++ r11) ++ ([32] : List UInt8)) ++ r14) ++ ([32] : List UInt8)) ++ r17)).bind fun r20 =>
            (f_spec_FormatInt r20).bind fun r21 =>
            if catB (((((((x9 ++ ([32] : List UInt8)) ++ r11) ++ ([32] : List UInt8)) ++ r14) ++ ([32] : List UInt8)) ++ r17) ++ ([32, 35] : List UInt8)).length r21.length then (
             some ((((((((x9 ++ ([32] : List UInt8)) ++ r11) ++ ([32] : List UInt8)) ++ r14) ++ ([32] : List UInt8)) ++ r17) ++ ([32, 35] : List UInt8)) ++ r21))
            else none)
           else none)
          else none)
         else none)
        else none)
       else none)
      else none)
     else none)
    else (
     some ([] : List UInt8)))
   else (
    some ([] : List UInt8)))
  else (
   some ([] : List UInt8)))
 else (
  some ([] : List UInt8))
/- spec_ParseEntry -/
def f_spec_ParseEntry_2 (v5 : Int) (r12 : Int × Bool) (r14 : Int × Bool) (r16 : Int × Bool) (v22 : Bool) : Option (XEntry × Bool) :=
 if v22 then (
  some ((⟨(0 : Int), (0 : Int), (0 : Int), (0 : Int)⟩ : XEntry), false))
 else (
  some ((⟨v5, r12.1, r14.1, r16.1⟩ : XEntry), true))
def f_spec_ParseEntry_1 (a0 : List UInt8) (r1 : (List (List UInt8))) (y3 : Int) (y6 : List (List UInt8)) : Nat → Int → Int → Option (XEntry × Bool)
 | 0, _, _ => none
 | n + 1, v4, v5 =>
  if (decide (v4 < y3)) then (
   (ix y6 v4).bind fun x8 =>
   (ix r1 (0 : Int)).bind fun x9 =>
   if (x9 == x8) then (
    f_spec_ParseEntry_1 a0 r1 y3 y6 n (IntKind.i64.wrap (v4 + (1 : Int))) (IntKind.i64.wrap (v4 + (1 : Int))))
   else (
    f_spec_ParseEntry_1 a0 r1 y3 y6 n (IntKind.i64.wrap (v4 + (1 : Int))) v5))
  else (
   (ix r1 (1 : Int)).bind fun x11 =>
   (f_spec_ParseInt x11).bind fun r12 =>
   (ix r1 (2 : Int)).bind fun x13 =>
   (f_spec_ParseInt x13).bind fun r14 =>
   (ix r1 (3 : Int)).bind fun x15 =>
   (f_spec_ParseInt x15).bind fun r16 =>
   if r12.2 then (
    if r14.2 then (
     if r16.2 then (
      if (v5 == (0 : Int)) then (
       f_spec_ParseEntry_2 v5 r12 r14 r16 true)
      else (
       (f_spec_FormatEntry (⟨v5, r12.1, r14.1, r16.1⟩ : XEntry)).bind fun r21 =>
       f_spec_ParseEntry_2 v5 r12 r14 r16 (!(r21 == a0))))
     else (
      f_spec_ParseEntry_2 v5 r12 r14 r16 true))
    else (
     f_spec_ParseEntry_2 v5 r12 r14 r16 true))
   else (
    f_spec_ParseEntry_2 v5 r12 r14 r16 true))
def f_spec_ParseEntry (a0 : List UInt8) : Option (XEntry × Bool) :=
 (f_spec_SplitAny a0 ([32] : List UInt8)).bind fun r1 =>
 if ((r1.length : Int) != (5 : Int)) then (
  some ((⟨(0 : Int), (0 : Int), (0 : Int), (0 : Int)⟩ : XEntry), false))
 else (
  f_spec_ParseEntry_1 a0 r1 (([([97, 110, 110, 111, 117, 110, 99, 101] : List UInt8), ([99, 108, 101, 97, 114] : List UInt8), ([99, 97, 110, 99, 101, 108] : List UInt8), ([116, 105, 99, 107] : List UInt8)] : List (List UInt8)).length : Int) ([([97, 110, 110, 111, 117, 110, 99, 101] : List UInt8), ([99, 108, 101, 97, 114] : List UInt8), ([99, 97, 110, 99, 101, 108] : List UInt8), ([116, 105, 99, 107] : List UInt8)] : List (List UInt8)) bigN (0 : Int) (0 : Int))
/- spec_ReadJournal -/
def f_spec_ReadJournal_2 (v3 : List XEntry) : Option ((List XEntry) × Int) :=
 some (v3, (v3.length : Int))
def f_spec_ReadJournal_1 (r1 : (List (List UInt8))) : Nat → Int → (List XEntry) → Option ((List XEntry) × Int)
 | 0, _, _ => none
 | n + 1, v2, v3 =>
  if (decide (v2 < (r1.length : Int))) then (
   (ix r1 v2).bind fun x5 =>
   (f_spec_ParseEntry x5).bind fun r6 =>
   if r6.2 then (
    if ((v3.length : Int) == (60 : Int)) then (
     f_spec_ReadJournal_2 v3)
    else (
     if appB v3.length ([(⟨r6.1.Kind, r6.1.At, r6.1.Call, r6.1.Value⟩ : XEntry)] : List XEntry).length 32 then (
      f_spec_ReadJournal_1 r1 n (IntKind.i64.wrap (v2 + (1 : Int))) (v3 ++ ([(⟨r6.1.Kind, r6.1.At, r6.1.Call, r6.1.Value⟩ : XEntry)] : List XEntry)))
     else none))
   else (
    f_spec_ReadJournal_2 v3))
  else (
   f_spec_ReadJournal_2 v3)
def f_spec_ReadJournal (a0 : List UInt8) : Option ((List XEntry) × Int) :=
 (f_spec_SplitLines a0).bind fun r1 =>
 f_spec_ReadJournal_1 r1 bigN (0 : Int) ([] : List XEntry)
/- spec_l23Copy -/
def f_spec_l23Copy (a0 : XDesk) : Option XDesk :=
 if appB 0 a0.Starts.length 8 then (
  if appB 0 a0.Cleared.length 1 then (
   some a0)
  else none)
 else none
/- spec_DeskOk -/
def f_spec_DeskOk_1 (a0 : XDesk) : Nat → Int → Option Bool
 | 0, _ => none
 | n + 1, v5 =>
  if (decide (v5 < (a0.Starts.length : Int))) then (
   (ix a0.Starts v5).bind fun x7 =>
   (f_spec_l01In x7 (-1 : Int) (2880 : Int)).bind fun r8 =>
   if r8 then (
    (ix a0.Cleared v5).bind fun x10 =>
    if x10 then (
     if (decide (x7 < (0 : Int))) then (
      some false)
     else (
      f_spec_DeskOk_1 a0 n (IntKind.i64.wrap (v5 + (1 : Int)))))
    else (
     f_spec_DeskOk_1 a0 n (IntKind.i64.wrap (v5 + (1 : Int)))))
   else (
    some false))
  else (
   some true)
def f_spec_DeskOk (a0 : XDesk) : Option Bool :=
 (f_spec_l01In a0.Now (0 : Int) (2880 : Int)).bind fun r1 =>
 if r1 then (
  if (decide ((6 : Int) < (a0.Starts.length : Int))) then (
   some false)
  else (
   if ((a0.Cleared.length : Int) != (a0.Starts.length : Int)) then (
    some false)
   else (
    f_spec_DeskOk_1 a0 bigN (0 : Int))))
 else (
  some false)
/- spec_l23Allowed -/
def f_spec_l23Allowed (a0 : XDesk) (a1 : XEntry) : Option Bool :=
 (f_spec_l01In a1.At a0.Now (2880 : Int)).bind fun r1 =>
 if r1 then (
  (f_spec_l01In a1.Kind (1 : Int) (4 : Int)).bind fun r3 =>
  if r3 then (
   if (a1.Kind == (4 : Int)) then (
    if (a1.Call == (0 : Int)) then (
     some (a1.Value == (0 : Int)))
    else (
     some false))
   else (
    (f_spec_l01In a1.Call (0 : Int) (IntKind.i64.wrap ((a0.Starts.length : Int) - (1 : Int)))).bind fun r7 =>
    if r7 then (
     (ix a0.Cleared a1.Call).bind fun x9 =>
     if x9 then (
      some false)
     else (
      if (a1.Kind == (1 : Int)) then (
       (f_spec_l01In a1.Value a1.At (2880 : Int)).bind fun r12 =>
       some r12)
      else (
       if (a1.Value == (0 : Int)) then (
        (ix a0.Starts a1.Call).bind fun x14 =>
        if (decide ((0 : Int) ≤ x14)) then (
         if (a1.Kind == (3 : Int)) then (
          some true)
         else (
          some (decide (a1.At ≤ x14))))
        else (
         some false))
       else (
        some false))))
    else (
     some false)))
  else (
   some false))
 else (
  some false)
/- spec_ApplyEntry -/
def f_spec_ApplyEntry_2 (a1 : XEntry) (v13 : List Int) (v14 : List Bool) : Option (XDesk × Bool) :=
 some ((⟨a1.At, v13, v14⟩ : XDesk), true)
def f_spec_ApplyEntry_1 (a1 : XEntry) (r1 : XDesk) (v5 : Bool) : Option (XDesk × Bool) :=
 if v5 then (
  some (r1, false))
 else (
  if (a1.Kind == (1 : Int)) then (
   (ix r1.Starts a1.Call).bind fun x8 =>
   f_spec_ApplyEntry_2 a1 (r1.Starts.set (Int.toNat a1.Call) a1.Value) r1.Cleared)
  else (
   if (a1.Kind == (2 : Int)) then (
    (ix r1.Cleared a1.Call).bind fun x10 =>
    f_spec_ApplyEntry_2 a1 r1.Starts (r1.Cleared.set (Int.toNat a1.Call) true))
   else (
    if (a1.Kind == (3 : Int)) then (
     (ix r1.Starts a1.Call).bind fun x12 =>
     f_spec_ApplyEntry_2 a1 (r1.Starts.set (Int.toNat a1.Call) (-1 : Int)) r1.Cleared)
    else (
     f_spec_ApplyEntry_2 a1 r1.Starts r1.Cleared))))
def f_spec_ApplyEntry (a0 : XDesk) (a1 : XEntry) : Option (XDesk × Bool) :=
 (f_spec_l23Copy a0).bind fun r1 =>
 (f_spec_DeskOk a0).bind fun r2 =>
 if r2 then (
  (f_spec_l23Allowed a0 a1).bind fun r4 =>
  f_spec_ApplyEntry_1 a1 r1 (!r4))
 else (
  f_spec_ApplyEntry_1 a1 r1 true)
/- spec_RebuildDesk -/
def f_spec_RebuildDesk_1 (r2 : (List XEntry) × Int) : Nat → Int → Int → (List Int) → (List Bool) → Option (XDesk × Int)
 | 0, _, _, _, _ => none
 | n + 1, v3, v4, v5, v6 =>
  if (decide (v3 < (r2.1.length : Int))) then (
   (ix r2.1 v3).bind fun x8 =>
   (f_spec_ApplyEntry (⟨v4, v5, v6⟩ : XDesk) x8).bind fun r9 =>
   if r9.2 then (
    f_spec_RebuildDesk_1 r2 n (IntKind.i64.wrap (v3 + (1 : Int))) r9.1.Now r9.1.Starts r9.1.Cleared)
   else (
    some ((⟨v4, v5, v6⟩ : XDesk), v3)))
  else (
   some ((⟨v4, v5, v6⟩ : XDesk), (r2.1.length : Int)))
def f_spec_RebuildDesk (a0 : Int) (a1 : List UInt8) : Option (XDesk × Int) :=
 (f_spec_DeskNew a0).bind fun r1 =>
 (f_spec_ReadJournal a1).bind fun r2 =>
 f_spec_RebuildDesk_1 r2 bigN (0 : Int) r1.Now r1.Starts r1.Cleared
/- impl_within -/
def f_impl_within (a0 : Int) (a1 : Int) (a2 : Int) : Option Bool :=
 if (decide (a1 ≤ a0)) then (
  some (decide (a0 ≤ a2)))
 else (
  some false)
/- impl_DeskNew -/
def f_impl_DeskNew_1 (a0 : Int) : Nat → Int → (List Int) → (List Bool) → Option XDesk
 | 0, _, _, _ => none
 | n + 1, v3, v4, v5 =>
  if (decide (v3 < a0)) then (
   if appB v4.length ([(-1 : Int)] : List Int).length 8 then (
    if appB v5.length ([false] : List Bool).length 1 then (
     f_impl_DeskNew_1 a0 n (IntKind.i64.wrap (v3 + (1 : Int))) (v4 ++ ([(-1 : Int)] : List Int)) (v5 ++ ([false] : List Bool)))
    else none)
   else none)
  else (
   some (⟨(0 : Int), v4, v5⟩ : XDesk))
def f_impl_DeskNew (a0 : Int) : Option XDesk :=
 (f_impl_within a0 (0 : Int) (6 : Int)).bind fun r1 =>
 if r1 then (
  f_impl_DeskNew_1 a0 bigN (0 : Int) ([] : List Int) ([] : List Bool))
 else (
  some (⟨(0 : Int), ([] : List Int), ([] : List Bool)⟩ : XDesk))
/- impl_SplitAny -/
def f_impl_SplitAny_2 (a0 : List UInt8) (a1 : List UInt8) (v2 : Int) (k_impl_SplitAny_1 : Int → Int → (List (List UInt8)) → Option (List (List UInt8))) (v10 : Int) (v11 : List (List UInt8)) : Option (List (List UInt8)) :=
 k_impl_SplitAny_1 v10 (IntKind.i64.wrap (v2 + (1 : Int))) v11
def f_impl_SplitAny_1 (a0 : List UInt8) (a1 : List UInt8) : Nat → Int → Int → (List (List UInt8)) → Option (List (List UInt8))
 | 0, _, _, _ => none
 | n + 1, v1, v2, v3 =>
  if (decide (v2 < (a0.length : Int))) then (
   (ix a0 v2).bind fun b5 =>
   (f_strings_IndexByte a1 (b5.toNat : Int)).bind fun r6 =>
   if (decide ((0 : Int) ≤ r6)) then (
    (bnd (a0.length : Int) v2 v1 a0.length).bind fun p8 =>
    if appB v3.length ([((a0.drop p8.1).take (p8.2 - p8.1))] : List (List UInt8)).length 16 then (
     f_impl_SplitAny_2 a0 a1 v2 (f_impl_SplitAny_1 a0 a1 n) (IntKind.i64.wrap (v2 + (1 : Int))) (v3 ++ ([((a0.drop p8.1).take (p8.2 - p8.1))] : List (List UInt8))))
    else none)
   else (
    f_impl_SplitAny_2 a0 a1 v2 (f_impl_SplitAny_1 a0 a1 n) v1 v3))
  else (
   (bnd (a0.length : Int) (a0.length : Int) v1 a0.length).bind fun p12 =>
   if appB v3.length ([((a0.drop p12.1).take (p12.2 - p12.1))] : List (List UInt8)).length 16 then (
    some (v3 ++ ([((a0.drop p12.1).take (p12.2 - p12.1))] : List (List UInt8))))
   else none)
def f_impl_SplitAny (a0 : List UInt8) (a1 : List UInt8) : Option (List (List UInt8)) :=
 f_impl_SplitAny_1 a0 a1 bigN (0 : Int) (0 : Int) ([] : List (List UInt8))
/- impl_SplitLines -/
def f_impl_SplitLines (a0 : List UInt8) : Option (List (List UInt8)) :=
 (f_impl_SplitAny a0 ([10] : List UInt8)).bind fun r1 =>
 (ix r1 (IntKind.i64.wrap ((r1.length : Int) - (1 : Int)))).bind fun x2 =>
 if (x2 == ([] : List UInt8)) then (
  (bnd (r1.length : Int) (IntKind.i64.wrap ((r1.length : Int) - (1 : Int))) (0 : Int) r1.length).bind fun p4 =>
  some ((r1.drop p4.1).take (p4.2 - p4.1)))
 else (
  some r1)
/- impl_parseNumbers -/
def f_impl_parseNumbers_1 (a0 : List (List UInt8)) : Nat → Int → (List Int) → Option ((List Int) × Bool)
 | 0, _, _ => none
 | n + 1, v1, v2 =>
  if (decide (v1 < (a0.length : Int))) then (
   (ix a0 v1).bind fun x4 =>
   (f_impl_ParseInt x4).bind fun r5 =>
   if r5.2 then (
    if appB v2.length ([r5.1] : List Int).length 8 then (
     f_impl_parseNumbers_1 a0 n (IntKind.i64.wrap (v1 + (1 : Int))) (v2 ++ ([r5.1] : List Int)))
    else none)
   else (
    some (([] : List Int), false)))
  else (
   some (v2, true))
def f_impl_parseNumbers (a0 : List (List UInt8)) : Option ((List Int) × Bool) :=
 f_impl_parseNumbers_1 a0 bigN (0 : Int) ([] : List Int)
/- impl_entryName -/
def f_impl_entryName (a0 : Int) : Option (List UInt8) :=
 (f_impl_within a0 (1 : Int) (4 : Int)).bind fun r1 =>
 if r1 then (
  (ix ([([97, 110, 110, 111, 117, 110, 99, 101] : List UInt8), ([99, 108, 101, 97, 114] : List UInt8), ([99, 97, 110, 99, 101, 108] : List UInt8), ([116, 105, 99, 107] : List UInt8)] : List (List UInt8)) (IntKind.i64.wrap (a0 - (1 : Int)))).bind fun x3 =>
  some x3)
 else (
  some ([] : List UInt8))
/- impl_isMinute -/
def f_impl_isMinute (a0 : Int) : Option Bool :=
 (f_impl_within a0 (0 : Int) (2880 : Int)).bind fun r1 =>
 some r1
/- impl_FormatInt -/
def f_impl_FormatInt (a0 : Int) : Option (List UInt8) :=
 (f_strconv_Itoa a0).bind fun r1 =>
 some r1
/- impl_Join -/
def f_impl_Join (a0 : List (List UInt8)) (a1 : List UInt8) : Option (List UInt8) :=
 (f_strings_Join a0 a1).bind fun r1 =>
 some r1
/- impl_SumOfText -/
def f_impl_SumOfText_1 (a0 : List UInt8) : Nat → Int → Int → Option Int
 | 0, _, _ => none
 | n + 1, v1, v2 =>
  if (decide (v2 < (a0.length : Int))) then (
   (ix a0 v2).bind fun b4 =>
   f_impl_SumOfText_1 a0 n (IntKind.i64.wrap (Int.tmod (IntKind.i64.wrap ((IntKind.i64.wrap ((31 : Int) * v1)) + (IntKind.i64.wrap (b4.toNat : Int)))) (65521 : Int))) (IntKind.i64.wrap (v2 + (1 : Int))))
  else (
   some v1)
def f_impl_SumOfText (a0 : List UInt8) : Option Int :=
 f_impl_SumOfText_1 a0 bigN (7 : Int) (0 : Int)
/- impl_FormatEntry -/
def f_impl_FormatEntry (a0 : XEntry) : Option (List UInt8) :=
 (f_impl_entryName a0.Kind).bind fun r1 =>
 if (r1 == ([] : List UInt8)) then (
  some ([] : List UInt8))
 else (
  (f_impl_isMinute a0.At).bind fun r3 =>
  if r3 then (
   (f_impl_isMinute a0.Call).bind fun r5 =>
   if r5 then (
    (f_impl_isMinute a0.Value).bind fun r7 =>
    if r7 then (
     (f_impl_FormatInt a0.At).bind fun r9 =>
     (f_impl_FormatInt a0.Call).bind fun r10 =>
     (f_impl_FormatInt a0.Value).bind fun r11 =>
     (f_impl_Join ([r1, r9, r10, r11] : List (List UInt8)) ([32] : List UInt8)).bind fun r12 =>
     if catB r12.length ([32, 35] : List UInt8).length then (
      (f_impl_SumOfText r12).bind fun r14 =>
      (f_impl_FormatInt r14).bind fun r15 =>
      if catB (r12 ++ ([32, 35] : List UInt8)).length r15.length then (
       some ((r12 ++ ([32, 35] : List UInt8)) ++ r15))
      else none)
     else none)
    else (
     some ([] : List UInt8)))
   else (
    some ([] : List UInt8)))
  else (
   some ([] : List UInt8)))
/- impl_ParseEntry -/
def f_impl_ParseEntry_1 (a0 : List UInt8) (r4 : (List Int) × Bool) : Nat → Int → Option (XEntry × Bool)
 | 0, _ => none
 | n + 1, v6 =>
  if (decide (v6 ≤ (4 : Int))) then (
   (ix r4.1 (0 : Int)).bind fun x8 =>
   (ix r4.1 (1 : Int)).bind fun x9 =>
   (ix r4.1 (2 : Int)).bind fun x10 =>
   (f_impl_FormatEntry (⟨v6, x8, x9, x10⟩ : XEntry)).bind fun r11 =>
   if (r11 == a0) then (
    some ((⟨v6, x8, x9, x10⟩ : XEntry), true))
   else (
    f_impl_ParseEntry_1 a0 r4 n (IntKind.i64.wrap (v6 + (1 : Int)))))
  else (
   some ((⟨(0 : Int), (0 : Int), (0 : Int), (0 : Int)⟩ : XEntry), false))
def f_impl_ParseEntry (a0 : List UInt8) : Option (XEntry × Bool) :=
 (f_impl_SplitAny a0 ([32] : List UInt8)).bind fun r1 =>
 if ((r1.length : Int) != (5 : Int)) then (
  some ((⟨(0 : Int), (0 : Int), (0 : Int), (0 : Int)⟩ : XEntry), false))
 else (
  (bnd (r1.length : Int) (4 : Int) (1 : Int) r1.length).bind fun p3 =>
  (f_impl_parseNumbers ((r1.drop p3.1).take (p3.2 - p3.1))).bind fun r4 =>
  if r4.2 then (
   f_impl_ParseEntry_1 a0 r4 bigN (1 : Int))
  else (
   some ((⟨(0 : Int), (0 : Int), (0 : Int), (0 : Int)⟩ : XEntry), false)))
/- impl_readEntries -/
def f_impl_readEntries_1 (a0 : List (List UInt8)) : Nat → Int → (List XEntry) → Option ((List XEntry) × (Option Int))
 | 0, _, _ => none
 | n + 1, v1, v2 =>
  if (decide (v1 < (a0.length : Int))) then (
   (ix a0 v1).bind fun x4 =>
   (f_impl_ParseEntry x4).bind fun r5 =>
   if r5.2 then (
    if appB v2.length ([(⟨r5.1.Kind, r5.1.At, r5.1.Call, r5.1.Value⟩ : XEntry)] : List XEntry).length 32 then (
     f_impl_readEntries_1 a0 n (IntKind.i64.wrap (v1 + (1 : Int))) (v2 ++ ([(⟨r5.1.Kind, r5.1.At, r5.1.Call, r5.1.Value⟩ : XEntry)] : List XEntry)))
    else none)
   else (
    some (v2, (some v1 : Option Int))))
  else (
   some (v2, (none : Option Int)))
def f_impl_readEntries (a0 : List (List UInt8)) : Option ((List XEntry) × (Option Int)) :=
 f_impl_readEntries_1 a0 bigN (0 : Int) ([] : List XEntry)
/- impl_ReadJournal -/
def f_impl_ReadJournal (a0 : List UInt8) : Option ((List XEntry) × Int) :=
 (f_impl_SplitLines a0).bind fun r1 =>
 (bnd (r1.length : Int) (if (60 : Int) < (r1.length : Int) then (60 : Int) else (r1.length : Int)) (0 : Int) r1.length).bind fun p2 =>
 (f_impl_readEntries ((r1.drop p2.1).take (p2.2 - p2.1))).bind fun r3 =>
 if r3.2.isSome then (
  (r3.2).bind fun k5 =>
  some (r3.1, k5))
 else (
  some (r3.1, (r3.1.length : Int)))
/- impl_clone_int -/
def f_impl_clone_int (a0 : List Int) : Option (List Int) :=
 (mkS (0 : Int) (a0.length : Int) 8).bind fun n1 =>
 if appB (List.replicate n1 (0 : Int)).length a0.length 8 then (
  some ((List.replicate n1 (0 : Int)) ++ a0))
 else none
/- impl_clone_bool -/
def f_impl_clone_bool (a0 : List Bool) : Option (List Bool) :=
 (mkS (0 : Int) (a0.length : Int) 1).bind fun n1 =>
 if appB (List.replicate n1 false).length a0.length 1 then (
  some ((List.replicate n1 false) ++ a0))
 else none
/- impl_copyDesk -/
def f_impl_copyDesk (a0 : XDesk) : Option XDesk :=
 (f_impl_clone_int a0.Starts).bind fun r1 =>
 (f_impl_clone_bool a0.Cleared).bind fun r2 =>
 some (⟨a0.Now, r1, r2⟩ : XDesk)
/- impl_DeskOk -/
def f_impl_DeskOk_1 (a0 : XDesk) : Nat → Int → Option Bool
 | 0, _ => none
 | n + 1, v5 =>
  if (decide (v5 < (a0.Starts.length : Int))) then (
   (ix a0.Starts v5).bind fun x7 =>
   (f_impl_within x7 (-1 : Int) (2880 : Int)).bind fun r8 =>
   if r8 then (
    (ix a0.Cleared v5).bind fun x10 =>
    if x10 then (
     if (decide (x7 < (0 : Int))) then (
      some false)
     else (
      f_impl_DeskOk_1 a0 n (IntKind.i64.wrap (v5 + (1 : Int)))))
    else (
     f_impl_DeskOk_1 a0 n (IntKind.i64.wrap (v5 + (1 : Int)))))
   else (
    some false))
  else (
   some true)
def f_impl_DeskOk (a0 : XDesk) : Option Bool :=
 (f_impl_isMinute a0.Now).bind fun r1 =>
 if r1 then (
  if (decide ((6 : Int) < (a0.Starts.length : Int))) then (
   some false)
  else (
   if ((a0.Cleared.length : Int) != (a0.Starts.length : Int)) then (
    some false)
   else (
    f_impl_DeskOk_1 a0 bigN (0 : Int))))
 else (
  some false)
/- impl_isIndex -/
def f_impl_isIndex (a0 : Int) (a1 : Int) : Option Bool :=
 if (decide ((0 : Int) ≤ a0)) then (
  some (decide (a0 < a1)))
 else (
  some false)
/- impl_applicable -/
def f_impl_applicable (a0 : XDesk) (a1 : XEntry) : Option Bool :=
 (f_impl_within a1.At a0.Now (2880 : Int)).bind fun r1 =>
 if r1 then (
  if (a1.Kind == (4 : Int)) then (
   if (a1.Call == (0 : Int)) then (
    some (a1.Value == (0 : Int)))
   else (
    some false))
  else (
   (f_impl_isIndex a1.Call (a0.Starts.length : Int)).bind fun r5 =>
   if r5 then (
    (ix a0.Cleared a1.Call).bind fun x7 =>
    if x7 then (
     some false)
    else (
     (ix a0.Starts a1.Call).bind fun x9 =>
     if (a1.Kind == (1 : Int)) then (
      (f_impl_within a1.Value a1.At (2880 : Int)).bind fun r11 =>
      some r11)
     else (
      if (a1.Kind == (2 : Int)) then (
       if (a1.Value == (0 : Int)) then (
        some (decide (a1.At ≤ x9)))
       else (
        some false))
      else (
       if (a1.Kind == (3 : Int)) then (
        if (a1.Value == (0 : Int)) then (
         some (decide ((0 : Int) ≤ x9)))
        else (
         some false))
       else (
        some false)))))
   else (
    some false)))
 else (
  some false)
/- impl_ApplyEntry -/
def f_impl_ApplyEntry_2 (a1 : XEntry) (v13 : List Int) (v14 : List Bool) : Option (XDesk × Bool) :=
 some ((⟨a1.At, v13, v14⟩ : XDesk), true)
def f_impl_ApplyEntry_1 (a1 : XEntry) (r1 : XDesk) (v5 : Bool) : Option (XDesk × Bool) :=
 if v5 then (
  some (r1, false))
 else (
  if (a1.Kind == (1 : Int)) then (
   (ix r1.Starts a1.Call).bind fun x8 =>
   f_impl_ApplyEntry_2 a1 (r1.Starts.set (Int.toNat a1.Call) a1.Value) r1.Cleared)
  else (
   if (a1.Kind == (2 : Int)) then (
    (ix r1.Cleared a1.Call).bind fun x10 =>
    f_impl_ApplyEntry_2 a1 r1.Starts (r1.Cleared.set (Int.toNat a1.Call) true))
   else (
    if (a1.Kind == (3 : Int)) then (
     (ix r1.Starts a1.Call).bind fun x12 =>
     f_impl_ApplyEntry_2 a1 (r1.Starts.set (Int.toNat a1.Call) (-1 : Int)) r1.Cleared)
    else (
     f_impl_ApplyEntry_2 a1 r1.Starts r1.Cleared))))
def f_impl_ApplyEntry (a0 : XDesk) (a1 : XEntry) : Option (XDesk × Bool) :=
 (f_impl_copyDesk a0).bind fun r1 =>
 (f_impl_DeskOk a0).bind fun r2 =>
 if r2 then (
  (f_impl_applicable a0 a1).bind fun r4 =>
  f_impl_ApplyEntry_1 a1 r1 (!r4))
 else (
  f_impl_ApplyEntry_1 a1 r1 true)
/- impl_RebuildDesk -/
def f_impl_RebuildDesk_1 (r2 : (List XEntry) × Int) : Nat → Int → Int → (List Int) → (List Bool) → Option (XDesk × Int)
 | 0, _, _, _, _ => none
 | n + 1, v3, v4, v5, v6 =>
  if (decide (v3 < (r2.1.length : Int))) then (
   (ix r2.1 v3).bind fun x8 =>
   (f_impl_ApplyEntry (⟨v4, v5, v6⟩ : XDesk) x8).bind fun r9 =>
   if r9.2 then (
    f_impl_RebuildDesk_1 r2 n (IntKind.i64.wrap (v3 + (1 : Int))) r9.1.Now r9.1.Starts r9.1.Cleared)
   else (
    some ((⟨v4, v5, v6⟩ : XDesk), v3)))
  else (
   some ((⟨v4, v5, v6⟩ : XDesk), (r2.1.length : Int)))
def f_impl_RebuildDesk (a0 : Int) (a1 : List UInt8) : Option (XDesk × Int) :=
 (f_impl_DeskNew a0).bind fun r1 =>
 (f_impl_ReadJournal a1).bind fun r2 =>
 f_impl_RebuildDesk_1 r2 bigN (0 : Int) r1.Now r1.Starts r1.Cleared
/- laws_eqIntS -/
def f_laws_eqIntS_1 (a0 : List Int) (a1 : List Int) : Nat → Int → Option Bool
 | 0, _ => none
 | n + 1, v2 =>
  if (decide (v2 < (a0.length : Int))) then (
   (ix a0 v2).bind fun x4 =>
   (ix a1 v2).bind fun x5 =>
   if (x4 != x5) then (
    some false)
   else (
    f_laws_eqIntS_1 a0 a1 n (IntKind.i64.wrap (v2 + (1 : Int)))))
  else (
   some true)
def f_laws_eqIntS (a0 : List Int) (a1 : List Int) : Option Bool :=
 if ((a0.length : Int) != (a1.length : Int)) then (
  some false)
 else (
  f_laws_eqIntS_1 a0 a1 bigN (0 : Int))
/- laws_eqBoolS -/
def f_laws_eqBoolS_1 (a0 : List Bool) (a1 : List Bool) : Nat → Int → Option Bool
 | 0, _ => none
 | n + 1, v2 =>
  if (decide (v2 < (a0.length : Int))) then (
   (ix a0 v2).bind fun x4 =>
   (ix a1 v2).bind fun x5 =>
   if (x4 == x5) then (
    f_laws_eqBoolS_1 a0 a1 n (IntKind.i64.wrap (v2 + (1 : Int))))
   else (
    some false))
  else (
   some true)
def f_laws_eqBoolS (a0 : List Bool) (a1 : List Bool) : Option Bool :=
 if ((a0.length : Int) != (a1.length : Int)) then (
  some false)
 else (
  f_laws_eqBoolS_1 a0 a1 bigN (0 : Int))
/- laws_eqDesk -/
def f_laws_eqDesk (a0 : XDesk) (a1 : XDesk) : Option Bool :=
 if (a0.Now != a1.Now) then (
  some false)
 else (
  (f_laws_eqIntS a0.Starts a1.Starts).bind fun r2 =>
  if r2 then (
   (f_laws_eqBoolS a0.Cleared a1.Cleared).bind fun r4 =>
   if r4 then (
    some true)
   else (
    some false))
  else (
   some false))
/- laws_markIntS -/
def f_laws_markIntS_1 : Nat → Int → Int → (List Int) → Option (Int × List Int)
 | 0, _, _, _ => none
 | n + 1, v1, v2, v3 =>
  if (decide (v2 < (v3.length : Int))) then (
   (ix v3 v2).bind fun x5 =>
   f_laws_markIntS_1 n (IntKind.i64.wrap (v1 + (1 : Int))) (IntKind.i64.wrap (v2 + (1 : Int))) (v3.set (Int.toNat v2) v1))
  else (
   some (v1, v3))
def f_laws_markIntS (a0 : List Int) (a1 : Int) : Option (Int × List Int) :=
 f_laws_markIntS_1 bigN a1 (0 : Int) a0
/- laws_markBoolS -/
def f_laws_markBoolS_1 : Nat → Int → Int → (List Bool) → Option (Int × List Bool)
 | 0, _, _, _ => none
 | n + 1, v1, v2, v3 =>
  if (decide (v2 < (v3.length : Int))) then (
   (ix v3 v2).bind fun x5 =>
   f_laws_markBoolS_1 n (IntKind.i64.wrap (v1 + (1 : Int))) (IntKind.i64.wrap (v2 + (1 : Int))) (v3.set (Int.toNat v2) ((IntKind.i64.wrap (Int.tmod v1 (3 : Int))) == (0 : Int))))
  else (
   some (v1, v3))
def f_laws_markBoolS (a0 : List Bool) (a1 : Int) : Option (Int × List Bool) :=
 f_laws_markBoolS_1 bigN a1 (0 : Int) a0
/- laws_markDesk -/
def f_laws_markDesk (a0 : XDesk) (a1 : Int) : Option (Int × List Int × List Bool) :=
 (f_laws_markIntS a0.Starts a1).bind fun r1 =>
 (f_laws_markBoolS a0.Cleared r1.1).bind fun r2 =>
 some (r2.1, r1.2, r2.2)
/- laws_heldIntS -/
def f_laws_heldIntS_1 (a0 : List Int) : Nat → Int → Int → Option Int
 | 0, _, _ => none
 | n + 1, v1, v2 =>
  if (decide (v2 < (a0.length : Int))) then (
   (ix a0 v2).bind fun x4 =>
   if (x4 != v1) then (
    some (-1 : Int))
   else (
    f_laws_heldIntS_1 a0 n (IntKind.i64.wrap (v1 + (1 : Int))) (IntKind.i64.wrap (v2 + (1 : Int)))))
  else (
   some v1)
def f_laws_heldIntS (a0 : List Int) (a1 : Int) : Option Int :=
 f_laws_heldIntS_1 a0 bigN a1 (0 : Int)
/- laws_heldBoolS -/
def f_laws_heldBoolS_1 (a0 : List Bool) : Nat → Int → Int → Option Int
 | 0, _, _ => none
 | n + 1, v1, v2 =>
  if (decide (v2 < (a0.length : Int))) then (
   (ix a0 v2).bind fun x4 =>
   if (x4 == ((IntKind.i64.wrap (Int.tmod v1 (3 : Int))) == (0 : Int))) then (
    f_laws_heldBoolS_1 a0 n (IntKind.i64.wrap (v1 + (1 : Int))) (IntKind.i64.wrap (v2 + (1 : Int))))
   else (
    some (-1 : Int)))
  else (
   some v1)
def f_laws_heldBoolS (a0 : List Bool) (a1 : Int) : Option Int :=
 f_laws_heldBoolS_1 a0 bigN a1 (0 : Int)
/- laws_heldDesk -/
def f_laws_heldDesk (a0 : XDesk) (a1 : Int) : Option Int :=
 (f_laws_heldIntS a0.Starts a1).bind fun r1 =>
 if (decide (r1 < (0 : Int))) then (
  some (-1 : Int))
 else (
  (f_laws_heldBoolS a0.Cleared r1).bind fun r3 =>
  if (decide (r3 < (0 : Int))) then (
   some (-1 : Int))
  else (
   some r3))
/- laws_FnExactRebuildDesk -/
def f_laws_FnExactRebuildDesk (a0 : Int) (a1 : List UInt8) : Option Bool :=
 if (decide ((1048576 : Int) < (a1.length : Int))) then (
  some true)
 else (
  (f_spec_RebuildDesk a0 a1).bind fun r2 =>
  (f_impl_RebuildDesk a0 a1).bind fun r3 =>
  (f_laws_eqDesk (⟨r3.1.Now, r3.1.Starts, r3.1.Cleared⟩ : XDesk) (⟨r2.1.Now, r2.1.Starts, r2.1.Cleared⟩ : XDesk)).bind fun r4 =>
  if r4 then (
   if (r3.2 != r2.2) then (
    some false)
   else (
    (f_laws_markDesk (⟨r3.1.Now, r3.1.Starts, r3.1.Cleared⟩ : XDesk) (1 : Int)).bind fun r7 =>
    (f_laws_heldDesk (⟨r3.1.Now, r7.2.1, r7.2.2⟩ : XDesk) (1 : Int)).bind fun r8 =>
    if (decide (r8 < (0 : Int))) then (
     some false)
    else (
     if (r8 != r7.1) then (
      some false)
     else (
      (f_impl_RebuildDesk a0 a1).bind fun r11 =>
      (f_laws_eqDesk (⟨r11.1.Now, r11.1.Starts, r11.1.Cleared⟩ : XDesk) (⟨r2.1.Now, r2.1.Starts, r2.1.Cleared⟩ : XDesk)).bind fun r12 =>
      if r12 then (
       if (r11.2 != r2.2) then (
        some false)
       else (
        (f_laws_heldDesk (⟨r3.1.Now, r7.2.1, r7.2.2⟩ : XDesk) (1 : Int)).bind fun r15 =>
        if (decide (r15 < (0 : Int))) then (
         some false)
        else (
         if (r15 != r7.1) then (
          some false)
         else (
          some true))))
      else (
       some false)))))
  else (
   some false))
/- laws_szPartS -/
def f_laws_szPartS (a0 : List XPart) (a1 : Int) : Option Int :=
 if (decide ((IntKind.i64.wrap (a1 - (a0.length : Int))) < (0 : Int))) then (
  some (-1 : Int))
 else (
  some (IntKind.i64.wrap (a1 - (a0.length : Int))))
/- laws_szTide -/
def f_laws_szTide (a0 : XTide) (a1 : Int) : Option Int :=
 (f_laws_szPartS a0.Parts a1).bind fun r1 =>
 if (decide (r1 < (0 : Int))) then (
  some (-1 : Int))
 else (
  some r1)
/- laws_szSurgeS -/
def f_laws_szSurgeS (a0 : List XSurge) (a1 : Int) : Option Int :=
 if (decide ((IntKind.i64.wrap (a1 - (a0.length : Int))) < (0 : Int))) then (
  some (-1 : Int))
 else (
  some (IntKind.i64.wrap (a1 - (a0.length : Int))))
/- laws_szForecast -/
def f_laws_szForecast (a0 : XForecast) (a1 : Int) : Option Int :=
 (f_laws_szTide a0.Tide a1).bind fun r1 =>
 if (decide (r1 < (0 : Int))) then (
  some (-1 : Int))
 else (
  (f_laws_szSurgeS a0.Surges r1).bind fun r3 =>
  if (decide (r3 < (0 : Int))) then (
   some (-1 : Int))
  else (
   some r3))
/- laws_szPoint -/
def f_laws_szPoint (a0 : XPoint) (a1 : Int) : Option Int :=
 if (decide ((IntKind.i64.wrap (a1 - (a0.Name.length : Int))) < (0 : Int))) then (
  some (-1 : Int))
 else (
  some (IntKind.i64.wrap (a1 - (a0.Name.length : Int))))
/- laws_szPointS -/
def f_laws_szPointS_1 (a0 : List XPoint) : Nat → Int → Int → Option Int
 | 0, _, _ => none
 | n + 1, v2, v3 =>
  if (decide (v3 < (a0.length : Int))) then (
   (ix a0 v3).bind fun x5 =>
   (f_laws_szPoint x5 v2).bind fun r6 =>
   if (decide (r6 < (0 : Int))) then (
    some (-1 : Int))
   else (
    f_laws_szPointS_1 a0 n r6 (IntKind.i64.wrap (v3 + (1 : Int)))))
  else (
   some v2)
def f_laws_szPointS (a0 : List XPoint) (a1 : Int) : Option Int :=
 if (decide ((IntKind.i64.wrap (a1 - (a0.length : Int))) < (0 : Int))) then (
  some (-1 : Int))
 else (
  f_laws_szPointS_1 a0 bigN (IntKind.i64.wrap (a1 - (a0.length : Int))) (0 : Int))
/- laws_szSegmentS -/
def f_laws_szSegmentS (a0 : List XSegment) (a1 : Int) : Option Int :=
 if (decide ((IntKind.i64.wrap (a1 - (a0.length : Int))) < (0 : Int))) then (
  some (-1 : Int))
 else (
  some (IntKind.i64.wrap (a1 - (a0.length : Int))))
/- laws_szChart -/
def f_laws_szChart (a0 : XChart) (a1 : Int) : Option Int :=
 (f_laws_szPointS a0.Points a1).bind fun r1 =>
 if (decide (r1 < (0 : Int))) then (
  some (-1 : Int))
 else (
  (f_laws_szSegmentS a0.Segments r1).bind fun r3 =>
  if (decide (r3 < (0 : Int))) then (
   some (-1 : Int))
  else (
   some r3))
/- laws_szShip -/
def f_laws_szShip (a0 : XShip) (a1 : Int) : Option Int :=
 if (decide ((IntKind.i64.wrap (a1 - (a0.Name.length : Int))) < (0 : Int))) then (
  some (-1 : Int))
 else (
  some (IntKind.i64.wrap (a1 - (a0.Name.length : Int))))
/- laws_toPart -/
def f_laws_toPart (a0 : XPart) : Option XPart :=
 some a0
/- laws_toPartS -/
def f_laws_toPartS_1 (a0 : List XPart) : Nat → Int → (List XPart) → Option (List XPart)
 | 0, _, _ => none
 | n + 1, v2, v3 =>
  if (decide (v2 < (a0.length : Int))) then (
   (ix a0 v2).bind fun x5 =>
   (f_laws_toPart x5).bind fun r6 =>
   (ix v3 v2).bind fun x7 =>
   f_laws_toPartS_1 a0 n (IntKind.i64.wrap (v2 + (1 : Int))) (v3.set (Int.toNat v2) r6))
  else (
   some v3)
def f_laws_toPartS (a0 : List XPart) : Option (List XPart) :=
 (mkS (a0.length : Int) (a0.length : Int) 24).bind fun n1 =>
 f_laws_toPartS_1 a0 bigN (0 : Int) (List.replicate n1 (⟨(0 : Int), (0 : Int), (0 : Int)⟩ : XPart))
/- laws_toTide -/
def f_laws_toTide (a0 : XTide) : Option XTide :=
 (f_laws_toPartS a0.Parts).bind fun r1 =>
 some (⟨a0.Mean, r1⟩ : XTide)
/- laws_toSurge -/
def f_laws_toSurge (a0 : XSurge) : Option XSurge :=
 some a0
/- laws_toSurgeS -/
def f_laws_toSurgeS_1 (a0 : List XSurge) : Nat → Int → (List XSurge) → Option (List XSurge)
 | 0, _, _ => none
 | n + 1, v2, v3 =>
  if (decide (v2 < (a0.length : Int))) then (
   (ix a0 v2).bind fun x5 =>
   (f_laws_toSurge x5).bind fun r6 =>
   (ix v3 v2).bind fun x7 =>
   f_laws_toSurgeS_1 a0 n (IntKind.i64.wrap (v2 + (1 : Int))) (v3.set (Int.toNat v2) r6))
  else (
   some v3)
def f_laws_toSurgeS (a0 : List XSurge) : Option (List XSurge) :=
 (mkS (a0.length : Int) (a0.length : Int) 24).bind fun n1 =>
 f_laws_toSurgeS_1 a0 bigN (0 : Int) (List.replicate n1 (⟨(0 : Int), (0 : Int), (0 : Int)⟩ : XSurge))
/- laws_toForecast -/
def f_laws_toForecast (a0 : XForecast) : Option XForecast :=
 (f_laws_toTide a0.Tide).bind fun r1 =>
 (f_laws_toSurgeS a0.Surges).bind fun r2 =>
 some (⟨r1, r2⟩ : XForecast)
/- laws_toPoint -/
def f_laws_toPoint (a0 : XPoint) : Option XPoint :=
 some a0
/- laws_toPointS -/
def f_laws_toPointS_1 (a0 : List XPoint) : Nat → Int → (List XPoint) → Option (List XPoint)
 | 0, _, _ => none
 | n + 1, v2, v3 =>
  if (decide (v2 < (a0.length : Int))) then (
   (ix a0 v2).bind fun x5 =>
   (f_laws_toPoint x5).bind fun r6 =>
   (ix v3 v2).bind fun x7 =>
   f_laws_toPointS_1 a0 n (IntKind.i64.wrap (v2 + (1 : Int))) (v3.set (Int.toNat v2) r6))
  else (
   some v3)
def f_laws_toPointS (a0 : List XPoint) : Option (List XPoint) :=
 (mkS (a0.length : Int) (a0.length : Int) 24).bind fun n1 =>
 f_laws_toPointS_1 a0 bigN (0 : Int) (List.replicate n1 (⟨([] : List UInt8), false⟩ : XPoint))
/- laws_toSegment -/
def f_laws_toSegment (a0 : XSegment) : Option XSegment :=
 some a0
/- laws_toSegmentS -/
def f_laws_toSegmentS_1 (a0 : List XSegment) : Nat → Int → (List XSegment) → Option (List XSegment)
 | 0, _, _ => none
 | n + 1, v2, v3 =>
  if (decide (v2 < (a0.length : Int))) then (
   (ix a0 v2).bind fun x5 =>
   (f_laws_toSegment x5).bind fun r6 =>
   (ix v3 v2).bind fun x7 =>
   f_laws_toSegmentS_1 a0 n (IntKind.i64.wrap (v2 + (1 : Int))) (v3.set (Int.toNat v2) r6))
  else (
   some v3)
def f_laws_toSegmentS (a0 : List XSegment) : Option (List XSegment) :=
 (mkS (a0.length : Int) (a0.length : Int) 40).bind fun n1 =>
 f_laws_toSegmentS_1 a0 bigN (0 : Int) (List.replicate n1 (⟨(0 : Int), (0 : Int), (0 : Int), (0 : Int), false⟩ : XSegment))
/- laws_toChart -/
def f_laws_toChart (a0 : XChart) : Option XChart :=
 (f_laws_toPointS a0.Points).bind fun r1 =>
 (f_laws_toSegmentS a0.Segments).bind fun r2 =>
 some (⟨r1, r2⟩ : XChart)
/- laws_toShip -/
def f_laws_toShip (a0 : XShip) : Option XShip :=
 some a0
/- spec_PartOk -/
def f_spec_PartOk (a0 : XPart) : Option Bool :=
 (f_spec_l01In a0.Amp (0 : Int) (1000 : Int)).bind fun r1 =>
 if r1 then (
  (f_spec_l01In a0.Period (4 : Int) (2880 : Int)).bind fun r3 =>
  if r3 then (
   if ((IntKind.i64.wrap (Int.tmod a0.Period (4 : Int))) == (0 : Int)) then (
    (f_spec_l01In a0.Phase (0 : Int) (IntKind.i64.wrap (a0.Period - (1 : Int)))).bind fun r6 =>
    some r6)
   else (
    some false))
  else (
   some false))
 else (
  some false)
/- spec_TideOk -/
def f_spec_TideOk_1 (a0 : XTide) : Nat → Int → Option Bool
 | 0, _ => none
 | n + 1, v4 =>
  if (decide (v4 < (a0.Parts.length : Int))) then (
   (ix a0.Parts v4).bind fun x6 =>
   (f_spec_PartOk x6).bind fun r7 =>
   if r7 then (
    f_spec_TideOk_1 a0 n (IntKind.i64.wrap (v4 + (1 : Int))))
   else (
    some false))
  else (
   some true)
def f_spec_TideOk (a0 : XTide) : Option Bool :=
 (f_spec_l01In a0.Mean (-1000 : Int) (1000 : Int)).bind fun r1 =>
 if r1 then (
  if (decide ((4 : Int) < (a0.Parts.length : Int))) then (
   some false)
  else (
   f_spec_TideOk_1 a0 bigN (0 : Int)))
 else (
  some false)
/- spec_SurgeOk -/
def f_spec_SurgeOk (a0 : XSurge) : Option Bool :=
 (f_spec_l01In a0.From (0 : Int) (2880 : Int)).bind fun r1 =>
 if r1 then (
  (f_spec_l01In a0.Low (-500 : Int) (500 : Int)).bind fun r3 =>
  if r3 then (
   (f_spec_l01In a0.High a0.Low (500 : Int)).bind fun r5 =>
   some r5)
  else (
   some false))
 else (
  some false)
/- spec_ForecastOk -/
def f_spec_ForecastOk_1 (a0 : XForecast) : Nat → Int → Option Bool
 | 0, _ => none
 | n + 1, v7 =>
  if (decide (v7 < (a0.Surges.length : Int))) then (
   (ix a0.Surges v7).bind fun x9 =>
   (f_spec_SurgeOk x9).bind fun r10 =>
   if r10 then (
    if (decide ((0 : Int) < v7)) then (
     (ix a0.Surges (IntKind.i64.wrap (v7 - (1 : Int)))).bind fun x13 =>
     if (decide (x9.From ≤ x13.From)) then (
      some false)
     else (
      f_spec_ForecastOk_1 a0 n (IntKind.i64.wrap (v7 + (1 : Int)))))
    else (
     f_spec_ForecastOk_1 a0 n (IntKind.i64.wrap (v7 + (1 : Int)))))
   else (
    some false))
  else (
   some true)
def f_spec_ForecastOk (a0 : XForecast) : Option Bool :=
 (f_spec_TideOk a0.Tide).bind fun r1 =>
 if r1 then (
  (f_spec_l01In (a0.Surges.length : Int) (1 : Int) (6 : Int)).bind fun r3 =>
  if r3 then (
   (ix a0.Surges (0 : Int)).bind fun x5 =>
   if (x5.From != (0 : Int)) then (
    some false)
   else (
    f_spec_ForecastOk_1 a0 bigN (0 : Int)))
  else (
   some false))
 else (
  some false)
/- spec_IsName -/
def f_spec_IsName_3 (a0 : List UInt8) (v1 : Int) (k_spec_IsName_1 : Int → Option Bool) : Option Bool :=
 k_spec_IsName_1 (IntKind.i64.wrap (v1 + (1 : Int)))
def f_spec_IsName_2 (a0 : List UInt8) (v1 : Int) (k_spec_IsName_1 : Int → Option Bool) (v5 : Bool) : Option Bool :=
 if v5 then (
  f_spec_IsName_3 a0 v1 k_spec_IsName_1)
 else (
  if (v1 == (0 : Int)) then (
   some false)
  else (
   (ix a0 v1).bind fun b8 =>
   if (decide ((b8.toNat : Int) < (48 : Int))) then (
    some false)
   else (
    if (decide ((57 : Int) < (b8.toNat : Int))) then (
     some false)
    else (
     f_spec_IsName_3 a0 v1 k_spec_IsName_1))))
def f_spec_IsName_1 (a0 : List UInt8) : Nat → Int → Option Bool
 | 0, _ => none
 | n + 1, v1 =>
  if (decide (v1 < (a0.length : Int))) then (
   (ix a0 v1).bind fun b3 =>
   if (decide ((97 : Int) ≤ (b3.toNat : Int))) then (
    f_spec_IsName_2 a0 v1 (f_spec_IsName_1 a0 n) (decide ((b3.toNat : Int) ≤ (122 : Int))))
   else (
    f_spec_IsName_2 a0 v1 (f_spec_IsName_1 a0 n) false))
  else (
   (f_spec_l01In (a0.length : Int) (1 : Int) (8 : Int)).bind fun r11 =>
   some r11)
def f_spec_IsName (a0 : List UInt8) : Option Bool :=
 f_spec_IsName_1 a0 bigN (0 : Int)
/- spec_PointNamed -/
def f_spec_PointNamed_1 (a1 : List UInt8) (a0 : XChart) : Nat → Int → Option Int
 | 0, _ => none
 | n + 1, v1 =>
  if (decide (v1 < (a0.Points.length : Int))) then (
   (ix a0.Points v1).bind fun x3 =>
   if (x3.Name == a1) then (
    some v1)
   else (
    f_spec_PointNamed_1 a1 a0 n (IntKind.i64.wrap (v1 + (1 : Int)))))
  else (
   some (-1 : Int))
def f_spec_PointNamed (a0 : XChart) (a1 : List UInt8) : Option Int :=
 f_spec_PointNamed_1 a1 a0 bigN (0 : Int)
/- spec_l05Joins -/
def f_spec_l05Joins (a0 : XSegment) (a1 : Int) (a2 : Int) : Option Bool :=
 if (a0.A == a1) then (
  if (a0.B == a2) then (
   some true)
  else (
   if (a0.A == a2) then (
    some (a0.B == a1))
   else (
    some false)))
 else (
  if (a0.A == a2) then (
   some (a0.B == a1))
  else (
   some false))
/- spec_ChartOk -/
def f_spec_ChartOk_3 (a0 : XChart) (v10 : Int) (x12 : XSegment) (y23 : List XSegment) (y24 : Int) (k_spec_ChartOk_2 : Int → Option Bool) : Nat → Int → Option Bool
 | 0, _ => none
 | n + 1, v25 =>
  if (decide (v25 < y24)) then (
   (ix y23 v25).bind fun x27 =>
   (f_spec_l05Joins x27 x12.A x12.B).bind fun r28 =>
   if r28 then (
    some false)
   else (
    f_spec_ChartOk_3 a0 v10 x12 y23 y24 k_spec_ChartOk_2 n (IntKind.i64.wrap (v25 + (1 : Int)))))
  else (
   k_spec_ChartOk_2 (IntKind.i64.wrap (v10 + (1 : Int))))
def f_spec_ChartOk_2 (a0 : XChart) : Nat → Int → Option Bool
 | 0, _ => none
 | n + 1, v10 =>
  if (decide (v10 < (a0.Segments.length : Int))) then (
   (ix a0.Segments v10).bind fun x12 =>
   (f_spec_l01In x12.A (0 : Int) (IntKind.i64.wrap ((a0.Points.length : Int) - (1 : Int)))).bind fun r13 =>
   if r13 then (
    (f_spec_l01In x12.B (0 : Int) (IntKind.i64.wrap ((a0.Points.length : Int) - (1 : Int)))).bind fun r15 =>
    if r15 then (
     if (x12.A == x12.B) then (
      some false)
     else (
      (f_spec_l01In x12.Depth (0 : Int) (3000 : Int)).bind fun r18 =>
      if r18 then (
       (f_spec_l01In x12.Minutes (1 : Int) (240 : Int)).bind fun r20 =>
       if r20 then (
        (bnd (a0.Segments.length : Int) v10 (0 : Int) a0.Segments.length).bind fun p22 =>
        f_spec_ChartOk_3 a0 v10 x12 ((a0.Segments.drop p22.1).take (p22.2 - p22.1)) (((a0.Segments.drop p22.1).take (p22.2 - p22.1)).length : Int) (f_spec_ChartOk_2 a0 n) bigN (0 : Int))
       else (
        some false))
      else (
       some false)))
    else (
     some false))
   else (
    some false))
  else (
   some true)
def f_spec_ChartOk_1 (a0 : XChart) : Nat → Int → Option Bool
 | 0, _ => none
 | n + 1, v3 =>
  if (decide (v3 < (a0.Points.length : Int))) then (
   (ix a0.Points v3).bind fun x5 =>
   (f_spec_IsName x5.Name).bind fun r6 =>
   if r6 then (
    (f_spec_PointNamed a0 x5.Name).bind fun r8 =>
    if (r8 != v3) then (
     some false)
    else (
     f_spec_ChartOk_1 a0 n (IntKind.i64.wrap (v3 + (1 : Int)))))
   else (
    some false))
  else (
   f_spec_ChartOk_2 a0 bigN (0 : Int))
def f_spec_ChartOk (a0 : XChart) : Option Bool :=
 if (decide ((8 : Int) < (a0.Points.length : Int))) then (
  some false)
 else (
  if (decide ((10 : Int) < (a0.Segments.length : Int))) then (
   some false)
  else (
   f_spec_ChartOk_1 a0 bigN (0 : Int)))
/- spec_ShipOk -/
def f_spec_ShipOk (a0 : XShip) : Option Bool :=
 (f_spec_IsName a0.Name).bind fun r1 =>
 if r1 then (
  (f_spec_l01In a0.Length (10 : Int) (400 : Int)).bind fun r3 =>
  if r3 then (
   (f_spec_l01In a0.Draught (100 : Int) (2000 : Int)).bind fun r5 =>
   if r5 then (
    (f_spec_l01In a0.Line (0 : Int) (3 : Int)).bind fun r7 =>
    if r7 then (
     (f_spec_l01In a0.Tugs (0 : Int) (4 : Int)).bind fun r9 =>
     some r9)
    else (
     some false))
   else (
    some false))
  else (
   some false))
 else (
  some false)
/- spec_l07Ok -/
def f_spec_l07Ok (a0 : XChart) (a1 : Int) (a2 : XShip) : Option Bool :=
 (f_spec_ChartOk a0).bind fun r1 =>
 if r1 then (
  (f_spec_ShipOk a2).bind fun r3 =>
  if r3 then (
   (f_spec_l01In a1 (0 : Int) (IntKind.i64.wrap ((a0.Segments.length : Int) - (1 : Int)))).bind fun r5 =>
   some r5)
  else (
   some false))
 else (
  some false)
/- spec_SquatOf -/
def f_spec_SquatOf (a0 : XShip) : Option Int :=
 (f_spec_ShipOk a0).bind fun r1 =>
 if r1 then (
  if a0.Slow then (
   some (IntKind.i64.wrap (Int.tdiv a0.Draught (50 : Int))))
  else (
   some (IntKind.i64.wrap (Int.tdiv a0.Draught (20 : Int)))))
 else (
  some (0 : Int))
/- spec_NeedOf -/
def f_spec_NeedOf (a0 : XShip) : Option Int :=
 (f_spec_ShipOk a0).bind fun r1 =>
 if r1 then (
  (f_spec_SquatOf a0).bind fun r3 =>
  some (IntKind.i64.wrap ((IntKind.i64.wrap (a0.Draught + r3)) + (50 : Int))))
 else (
  some (0 : Int))
/- spec_LevelFor -/
def f_spec_LevelFor (a0 : XChart) (a1 : Int) (a2 : XShip) : Option Int :=
 (f_spec_l07Ok a0 a1 a2).bind fun r1 =>
 if r1 then (
  (f_spec_NeedOf a2).bind fun r3 =>
  (ix a0.Segments a1).bind fun x4 =>
  some (IntKind.i64.wrap (r3 - x4.Depth)))
 else (
  some (0 : Int))
/- spec_l03Surge -/
def f_spec_l03Surge_1 (a1 : Int) (a0 : XForecast) : Nat → Int → Int → Int → Int → Option XSurge
 | 0, _, _, _, _ => none
 | n + 1, v2, v3, v4, v5 =>
  if (decide (v2 < (a0.Surges.length : Int))) then (
   (ix a0.Surges v2).bind fun x7 =>
   if (decide (x7.From ≤ a1)) then (
    f_spec_l03Surge_1 a1 a0 n (IntKind.i64.wrap (v2 + (1 : Int))) x7.From x7.Low x7.High)
   else (
    f_spec_l03Surge_1 a1 a0 n (IntKind.i64.wrap (v2 + (1 : Int))) v3 v4 v5))
  else (
   some (⟨v3, v4, v5⟩ : XSurge))
def f_spec_l03Surge (a0 : XForecast) (a1 : Int) : Option XSurge :=
 (ix a0.Surges (0 : Int)).bind fun x1 =>
 f_spec_l03Surge_1 a1 a0 bigN (0 : Int) x1.From x1.Low x1.High
/- spec_Wave -/
def f_spec_Wave_1 (a1 : Int) (v6 : Int) : Option Int :=
 if (decide (v6 < (IntKind.i64.wrap (Int.tdiv a1 (2 : Int))))) then (
  if (IntKind.i64.wrap ((IntKind.i64.wrap (Int.tdiv a1 (2 : Int))) * (IntKind.i64.wrap (Int.tdiv a1 (2 : Int))))) == 0 then none else
  some (IntKind.i64.wrap (Int.tdiv (IntKind.i64.wrap ((IntKind.i64.wrap ((40000 : Int) * v6)) * (IntKind.i64.wrap ((IntKind.i64.wrap (Int.tdiv a1 (2 : Int))) - v6)))) (IntKind.i64.wrap ((IntKind.i64.wrap (Int.tdiv a1 (2 : Int))) * (IntKind.i64.wrap (Int.tdiv a1 (2 : Int))))))))
 else (
  if (IntKind.i64.wrap ((IntKind.i64.wrap (Int.tdiv a1 (2 : Int))) * (IntKind.i64.wrap (Int.tdiv a1 (2 : Int))))) == 0 then none else
  some (IntKind.i64.wrap (0 - (IntKind.i64.wrap (Int.tdiv (IntKind.i64.wrap ((IntKind.i64.wrap ((40000 : Int) * (IntKind.i64.wrap (v6 - (IntKind.i64.wrap (Int.tdiv a1 (2 : Int))))))) * (IntKind.i64.wrap ((IntKind.i64.wrap (Int.tdiv a1 (2 : Int))) - (IntKind.i64.wrap (v6 - (IntKind.i64.wrap (Int.tdiv a1 (2 : Int))))))))) (IntKind.i64.wrap ((IntKind.i64.wrap (Int.tdiv a1 (2 : Int))) * (IntKind.i64.wrap (Int.tdiv a1 (2 : Int))))))))))
def f_spec_Wave (a0 : Int) (a1 : Int) : Option Int :=
 if (decide (a1 < (4 : Int))) then (
  some (0 : Int))
 else (
  if (decide ((2880 : Int) < a1)) then (
   some (0 : Int))
  else (
   if ((IntKind.i64.wrap (Int.tmod a1 (4 : Int))) != (0 : Int)) then (
    some (0 : Int))
   else (
    if a1 == 0 then none else
    if (decide ((IntKind.i64.wrap (Int.tmod a0 a1)) < (0 : Int))) then (
     f_spec_Wave_1 a1 (IntKind.i64.wrap ((IntKind.i64.wrap (Int.tmod a0 a1)) + a1)))
    else (
     f_spec_Wave_1 a1 (IntKind.i64.wrap (Int.tmod a0 a1))))))
/- spec_l02Level -/
def f_spec_l02Level_1 (a1 : Int) (a0 : XTide) : Nat → Int → Int → Option Int
 | 0, _, _ => none
 | n + 1, v1, v2 =>
  if (decide (v2 < (a0.Parts.length : Int))) then (
   (ix a0.Parts v2).bind fun x4 =>
   (f_spec_Wave (IntKind.i64.wrap (a1 + x4.Phase)) x4.Period).bind fun r5 =>
   f_spec_l02Level_1 a1 a0 n (IntKind.i64.wrap (v1 + (IntKind.i64.wrap (Int.tdiv (IntKind.i64.wrap (x4.Amp * r5)) (10000 : Int))))) (IntKind.i64.wrap (v2 + (1 : Int))))
  else (
   some v1)
def f_spec_l02Level (a0 : XTide) (a1 : Int) : Option Int :=
 f_spec_l02Level_1 a1 a0 bigN a0.Mean (0 : Int)
/- spec_l04Of -/
def f_spec_l04Of_2 (v1 : Int) (a0 : List Bool) (v2 : List XWindow) (k_spec_l04Of_1 : Int → (List XWindow) → Option (List XWindow)) (v8 : Bool) : Option (List XWindow) :=
 if v8 then (
  (ix v2 (IntKind.i64.wrap ((v2.length : Int) - (1 : Int)))).bind fun x10 =>
  k_spec_l04Of_1 (IntKind.i64.wrap (v1 + (1 : Int))) (v2.set (Int.toNat (IntKind.i64.wrap ((v2.length : Int) - (1 : Int)))) (⟨x10.From, v1⟩ : XWindow)))
 else (
  if appB v2.length ([(⟨v1, v1⟩ : XWindow)] : List XWindow).length 16 then (
   k_spec_l04Of_1 (IntKind.i64.wrap (v1 + (1 : Int))) (v2 ++ ([(⟨v1, v1⟩ : XWindow)] : List XWindow)))
  else none)
def f_spec_l04Of_1 (a0 : List Bool) : Nat → Int → (List XWindow) → Option (List XWindow)
 | 0, _, _ => none
 | n + 1, v1, v2 =>
  if (decide (v1 < (a0.length : Int))) then (
   (ix a0 v1).bind fun x4 =>
   if x4 then (
    if (decide ((0 : Int) < (v2.length : Int))) then (
     (ix v2 (IntKind.i64.wrap ((v2.length : Int) - (1 : Int)))).bind fun x7 =>
     f_spec_l04Of_2 v1 a0 v2 (f_spec_l04Of_1 a0 n) (x7.To == (IntKind.i64.wrap (v1 - (1 : Int)))))
    else (
     f_spec_l04Of_2 v1 a0 v2 (f_spec_l04Of_1 a0 n) false))
   else (
    f_spec_l04Of_1 a0 n (IntKind.i64.wrap (v1 + (1 : Int))) v2))
  else (
   some v2)
def f_spec_l04Of (a0 : List Bool) : Option (List XWindow) :=
 f_spec_l04Of_1 a0 bigN (0 : Int) ([] : List XWindow)
/- spec_l04Levels -/
def f_spec_l04Levels_2 (a1 : Int) (v2 : Int) (a0 : XForecast) (v3 : List Bool) (k_spec_l04Levels_1 : Bool → Int → (List Bool) → Option (List XWindow)) (v7 : Bool) (v8 : Int) : Option (List XWindow) :=
 (f_spec_l02Level a0.Tide v2).bind fun r9 =>
 if appB v3.length ([(decide (a1 ≤ (IntKind.i64.wrap (r9 + v8))))] : List Bool).length 1 then (
  k_spec_l04Levels_1 v7 (IntKind.i64.wrap (v2 + (1 : Int))) (v3 ++ ([(decide (a1 ≤ (IntKind.i64.wrap (r9 + v8))))] : List Bool)))
 else none
def f_spec_l04Levels_1 (a1 : Int) (a0 : XForecast) : Nat → Bool → Int → (List Bool) → Option (List XWindow)
 | 0, _, _, _ => none
 | n + 1, v1, v2, v3 =>
  if (decide (v2 ≤ (2880 : Int))) then (
   (f_spec_l03Surge a0 v2).bind fun r5 =>
   if v1 then (
    f_spec_l04Levels_2 a1 v2 a0 v3 (f_spec_l04Levels_1 a1 a0 n) true r5.High)
   else (
    f_spec_l04Levels_2 a1 v2 a0 v3 (f_spec_l04Levels_1 a1 a0 n) false r5.Low))
  else (
   (f_spec_l04Of v3).bind fun r11 =>
   some r11)
def f_spec_l04Levels (a0 : XForecast) (a1 : Int) (a2 : Bool) : Option (List XWindow) :=
 f_spec_l04Levels_1 a1 a0 bigN a2 (0 : Int) ([] : List Bool)
/- spec_l06Minutes -/
def f_spec_l06Minutes (a0 : XSegment) (a1 : XShip) : Option Int :=
 if a1.Slow then (
  some (IntKind.i64.wrap ((2 : Int) * a0.Minutes)))
 else (
  some a0.Minutes)
/- spec_MinutesOn -/
def f_spec_MinutesOn (a0 : XChart) (a1 : Int) (a2 : XShip) : Option Int :=
 (f_spec_ChartOk a0).bind fun r1 =>
 if r1 then (
  (f_spec_ShipOk a2).bind fun r3 =>
  if r3 then (
   (f_spec_l01In a1 (0 : Int) (IntKind.i64.wrap ((a0.Segments.length : Int) - (1 : Int)))).bind fun r5 =>
   if r5 then (
    (ix a0.Segments a1).bind fun x7 =>
    (f_spec_l06Minutes x7 a2).bind fun r8 =>
    some r8)
   else (
    some (0 : Int)))
  else (
   some (0 : Int)))
 else (
  some (0 : Int))
/- spec_WindowsOk -/
def f_spec_WindowsOk_1 (a0 : List XWindow) : Nat → Int → Option Bool
 | 0, _ => none
 | n + 1, v1 =>
  if (decide (v1 < (a0.length : Int))) then (
   (ix a0 v1).bind fun x3 =>
   (f_spec_l01In x3.From (0 : Int) (2880 : Int)).bind fun r4 =>
   if r4 then (
    (f_spec_l01In x3.To x3.From (2880 : Int)).bind fun r6 =>
    if r6 then (
     if (decide ((0 : Int) < v1)) then (
      (ix a0 (IntKind.i64.wrap (v1 - (1 : Int)))).bind fun x9 =>
      if (decide (x3.From ≤ (IntKind.i64.wrap (x9.To + (1 : Int))))) then (
       some false)
      else (
       f_spec_WindowsOk_1 a0 n (IntKind.i64.wrap (v1 + (1 : Int)))))
     else (
      f_spec_WindowsOk_1 a0 n (IntKind.i64.wrap (v1 + (1 : Int)))))
    else (
     some false))
   else (
    some false))
  else (
   some true)
def f_spec_WindowsOk (a0 : List XWindow) : Option Bool :=
 f_spec_WindowsOk_1 a0 bigN (0 : Int)
/- spec_ShrinkWindows -/
def f_spec_ShrinkWindows_1 (a1 : Int) (a0 : List XWindow) : Nat → Int → (List XWindow) → Option (List XWindow)
 | 0, _, _ => none
 | n + 1, v5, v6 =>
  if (decide (v5 < (a0.length : Int))) then (
   (ix a0 v5).bind fun x8 =>
   if (decide (a1 ≤ (IntKind.i64.wrap (x8.To - x8.From)))) then (
    if appB v6.length ([(⟨x8.From, (IntKind.i64.wrap (x8.To - a1))⟩ : XWindow)] : List XWindow).length 16 then (
     f_spec_ShrinkWindows_1 a1 a0 n (IntKind.i64.wrap (v5 + (1 : Int))) (v6 ++ ([(⟨x8.From, (IntKind.i64.wrap (x8.To - a1))⟩ : XWindow)] : List XWindow)))
    else none)
   else (
    f_spec_ShrinkWindows_1 a1 a0 n (IntKind.i64.wrap (v5 + (1 : Int))) v6))
  else (
   some v6)
def f_spec_ShrinkWindows (a0 : List XWindow) (a1 : Int) : Option (List XWindow) :=
 (f_spec_WindowsOk a0).bind fun r1 =>
 if r1 then (
  (f_spec_l01In a1 (0 : Int) (2880 : Int)).bind fun r3 =>
  if r3 then (
   f_spec_ShrinkWindows_1 a1 a0 bigN (0 : Int) ([] : List XWindow))
  else (
   some ([] : List XWindow)))
 else (
  some ([] : List XWindow))
/- spec_l07Starts -/
def f_spec_l07Starts (a0 : XForecast) (a1 : XChart) (a2 : Int) (a3 : XShip) (a4 : Bool) : Option (List XWindow) :=
 (f_spec_ForecastOk a0).bind fun r1 =>
 if r1 then (
  (f_spec_l07Ok a1 a2 a3).bind fun r3 =>
  if r3 then (
   (f_spec_LevelFor a1 a2 a3).bind fun r5 =>
   (f_spec_l04Levels a0 r5 a4).bind fun r6 =>
   (f_spec_MinutesOn a1 a2 a3).bind fun r7 =>
   (f_spec_ShrinkWindows r6 r7).bind fun r8 =>
   some r8)
  else (
   some ([] : List XWindow)))
 else (
  some ([] : List XWindow))
/- spec_SureStarts -/
def f_spec_SureStarts (a0 : XForecast) (a1 : XChart) (a2 : Int) (a3 : XShip) : Option (List XWindow) :=
 (f_spec_l07Starts a0 a1 a2 a3 false).bind fun r1 =>
 some r1
/- spec_Join -/
def f_spec_Join_2 (a1 : List UInt8) (x4 : List UInt8) (a0 : List (List UInt8)) (v2 : Int) (k_spec_Join_1 : (List UInt8) → Int → Option (List UInt8)) (v7 : List UInt8) : Option (List UInt8) :=
 if catB v7.length x4.length then (
  k_spec_Join_1 (v7 ++ x4) (IntKind.i64.wrap (v2 + (1 : Int))))
 else none
def f_spec_Join_1 (a1 : List UInt8) (a0 : List (List UInt8)) : Nat → (List UInt8) → Int → Option (List UInt8)
 | 0, _, _ => none
 | n + 1, v1, v2 =>
  if (decide (v2 < (a0.length : Int))) then (
   (ix a0 v2).bind fun x4 =>
   if (decide ((0 : Int) < v2)) then (
    if catB v1.length a1.length then (
     f_spec_Join_2 a1 x4 a0 v2 (f_spec_Join_1 a1 a0 n) (v1 ++ a1))
    else none)
   else (
    f_spec_Join_2 a1 x4 a0 v2 (f_spec_Join_1 a1 a0 n) v1))
  else (
   some v1)
def f_spec_Join (a0 : List (List UInt8)) (a1 : List UInt8) : Option (List UInt8) :=
 f_spec_Join_1 a1 a0 bigN ([] : List UInt8) (0 : Int)
/- spec_FormatWindows -/
def f_spec_FormatWindows_1 (a0 : List XWindow) : Nat → Int → (List (List UInt8)) → Option (List UInt8)
 | 0, _, _ => none
 | n + 1, v3, v4 =>
  if (decide (v3 < (a0.length : Int))) then (
   (ix a0 v3).bind fun x6 =>
   (f_spec_FormatInt x6.From).bind fun r7 =>
   if catB r7.length ([45] : List UInt8).length then (
    (f_spec_FormatInt x6.To).bind fun r9 =>
    if catB (r7 ++ ([45] : List UInt8)).length r9.length then (
     if appB v4.length ([((r7 ++ ([45] : List UInt8)) ++ r9)] : List (List UInt8)).length 16 then (
      f_spec_FormatWindows_1 a0 n (IntKind.i64.wrap (v3 + (1 : Int))) (v4 ++ ([((r7 ++ ([45] : List UInt8)) ++ r9)] : List (List UInt8))))
     else none)
    else none)
   else none)
  else (
   if ((v4.length : Int) == (0 : Int)) then (
    some ([110, 111, 110, 101] : List UInt8))
   else (
    (f_spec_Join v4 ([32] : List UInt8)).bind fun r13 =>
    some r13))
def f_spec_FormatWindows (a0 : List XWindow) : Option (List UInt8) :=
 (f_spec_WindowsOk a0).bind fun r1 =>
 if r1 then (
  f_spec_FormatWindows_1 a0 bigN (0 : Int) ([] : List (List UInt8)))
 else (
  some ([] : List UInt8))
/- spec_SureLines -/
def f_spec_SureLines_1 (a1 : XChart) (a0 : XForecast) (a2 : XShip) : Nat → Int → (List (List UInt8)) → Option (List (List UInt8))
 | 0, _, _ => none
 | n + 1, v7, v8 =>
  if (decide (v7 < (a1.Segments.length : Int))) then (
   (ix a1.Segments v7).bind fun x10 =>
   (ix a1.Points x10.A).bind fun x11 =>
   if catB x11.Name.length ([45] : List UInt8).length then (
    (ix a1.Points x10.B).bind fun x13 =>
    if catB (x11.Name ++ ([45] : List UInt8)).length x13.Name.length then (
     if catB ((x11.Name ++ ([45] : List UInt8)) ++ x13.Name).length ([32] : List UInt8).length then (
      (f_spec_SureStarts a0 a1 v7 a2).bind fun r16 =>
      (f_spec_FormatWindows r16).bind fun r17 =>
      if catB (((x11.Name ++ ([45] : List UInt8)) ++ x13.Name) ++ ([32] : List UInt8)).length r17.length then (
       if appB v8.length ([((((x11.Name ++ ([45] : List UInt8)) ++ x13.Name) ++ ([32] : List UInt8)) ++ r17)] : List (List UInt8)).length 16 then (
        f_spec_SureLines_1 a1 a0 a2 n (IntKind.i64.wrap (v7 + (1 : Int))) (v8 ++ ([((((x11.Name ++ ([45] : List UInt8)) ++ x13.Name) ++ ([32] : List UInt8)) ++ r17)] : List (List UInt8))))
       else none)
      else none)
     else none)
    else none)
   else none)
  else (
   some v8)
def f_spec_SureLines (a0 : XForecast) (a1 : XChart) (a2 : XShip) : Option (List (List UInt8)) :=
 (f_spec_ForecastOk a0).bind fun r1 =>
 if r1 then (
  (f_spec_ChartOk a1).bind fun r3 =>
  if r3 then (
   (f_spec_ShipOk a2).bind fun r5 =>
   if r5 then (
    f_spec_SureLines_1 a1 a0 a2 bigN (0 : Int) ([] : List (List UInt8)))
   else (
    some ([] : List (List UInt8))))
  else (
   some ([] : List (List UInt8))))
 else (
  some ([] : List (List UInt8)))
/- impl_isPeriod -/
def f_impl_isPeriod (a0 : Int) : Option Bool :=
 (f_impl_within a0 (4 : Int) (2880 : Int)).bind fun r1 =>
 if r1 then (
  some ((IntKind.i64.wrap (Int.tmod a0 (4 : Int))) == (0 : Int)))
 else (
  some false)
/- impl_PartOk -/
def f_impl_PartOk (a0 : XPart) : Option Bool :=
 (f_impl_within a0.Amp (0 : Int) (1000 : Int)).bind fun r1 =>
 if r1 then (
  (f_impl_isPeriod a0.Period).bind fun r3 =>
  if r3 then (
   (f_impl_within a0.Phase (0 : Int) (IntKind.i64.wrap (a0.Period - (1 : Int)))).bind fun r5 =>
   some r5)
  else (
   some false))
 else (
  some false)
/- impl_TideOk -/
def f_impl_TideOk_1 (a0 : XTide) : Nat → Int → Option Bool
 | 0, _ => none
 | n + 1, v4 =>
  if (decide (v4 < (a0.Parts.length : Int))) then (
   (ix a0.Parts v4).bind fun x6 =>
   (f_impl_PartOk x6).bind fun r7 =>
   if r7 then (
    f_impl_TideOk_1 a0 n (IntKind.i64.wrap (v4 + (1 : Int))))
   else (
    some false))
  else (
   some true)
def f_impl_TideOk (a0 : XTide) : Option Bool :=
 (f_impl_within a0.Mean (-1000 : Int) (1000 : Int)).bind fun r1 =>
 if r1 then (
  if (decide ((4 : Int) < (a0.Parts.length : Int))) then (
   some false)
  else (
   f_impl_TideOk_1 a0 bigN (0 : Int)))
 else (
  some false)
/- impl_SurgeOk -/
def f_impl_SurgeOk (a0 : XSurge) : Option Bool :=
 (f_impl_isMinute a0.From).bind fun r1 =>
 if r1 then (
  if (decide ((-500 : Int) ≤ a0.Low)) then (
   if (decide (a0.Low ≤ a0.High)) then (
    some (decide (a0.High ≤ (500 : Int))))
   else (
    some false))
  else (
   some false))
 else (
  some false)
/- impl_ForecastOk -/
def f_impl_ForecastOk_1 (a0 : XForecast) : Nat → Int → Option Bool
 | 0, _ => none
 | n + 1, v7 =>
  if (decide (v7 < (a0.Surges.length : Int))) then (
   (ix a0.Surges v7).bind fun x9 =>
   (f_impl_SurgeOk x9).bind fun r10 =>
   if r10 then (
    if (decide ((0 : Int) < v7)) then (
     (ix a0.Surges (IntKind.i64.wrap (v7 - (1 : Int)))).bind fun x13 =>
     if (decide (x9.From ≤ x13.From)) then (
      some false)
     else (
      f_impl_ForecastOk_1 a0 n (IntKind.i64.wrap (v7 + (1 : Int)))))
    else (
     f_impl_ForecastOk_1 a0 n (IntKind.i64.wrap (v7 + (1 : Int)))))
   else (
    some false))
  else (
   some true)
def f_impl_ForecastOk (a0 : XForecast) : Option Bool :=
 (f_impl_TideOk a0.Tide).bind fun r1 =>
 if r1 then (
  (f_impl_within (a0.Surges.length : Int) (1 : Int) (6 : Int)).bind fun r3 =>
  if r3 then (
   (ix a0.Surges (0 : Int)).bind fun x5 =>
   if (x5.From != (0 : Int)) then (
    some false)
   else (
    f_impl_ForecastOk_1 a0 bigN (0 : Int)))
  else (
   some false))
 else (
  some false)
/- impl_IsName -/
def f_impl_IsName_3 (a0 : List UInt8) (v3 : Int) (k_impl_IsName_1 : Int → Option Bool) : Option Bool :=
 k_impl_IsName_1 (IntKind.i64.wrap (v3 + (1 : Int)))
def f_impl_IsName_2 (a0 : List UInt8) (v3 : Int) (k_impl_IsName_1 : Int → Option Bool) (v7 : Bool) : Option Bool :=
 if v7 then (
  f_impl_IsName_3 a0 v3 k_impl_IsName_1)
 else (
  if (v3 == (0 : Int)) then (
   some false)
  else (
   (ix a0 v3).bind fun b10 =>
   if (decide ((b10.toNat : Int) < (48 : Int))) then (
    some false)
   else (
    if (decide ((57 : Int) < (b10.toNat : Int))) then (
     some false)
    else (
     f_impl_IsName_3 a0 v3 k_impl_IsName_1))))
def f_impl_IsName_1 (a0 : List UInt8) : Nat → Int → Option Bool
 | 0, _ => none
 | n + 1, v3 =>
  if (decide (v3 < (a0.length : Int))) then (
   (ix a0 v3).bind fun b5 =>
   if (decide ((97 : Int) ≤ (b5.toNat : Int))) then (
    f_impl_IsName_2 a0 v3 (f_impl_IsName_1 a0 n) (decide ((b5.toNat : Int) ≤ (122 : Int))))
   else (
    f_impl_IsName_2 a0 v3 (f_impl_IsName_1 a0 n) false))
  else (
   some true)
def f_impl_IsName (a0 : List UInt8) : Option Bool :=
 (f_impl_within (a0.length : Int) (1 : Int) (8 : Int)).bind fun r1 =>
 if r1 then (
  f_impl_IsName_1 a0 bigN (0 : Int))
 else (
  some false)
/- impl_PointNamed -/
def f_impl_PointNamed_1 (a1 : List UInt8) (a0 : XChart) : Nat → Int → Option Int
 | 0, _ => none
 | n + 1, v1 =>
  if (decide (v1 < (a0.Points.length : Int))) then (
   (ix a0.Points v1).bind fun x3 =>
   if (x3.Name == a1) then (
    some v1)
   else (
    f_impl_PointNamed_1 a1 a0 n (IntKind.i64.wrap (v1 + (1 : Int)))))
  else (
   some (-1 : Int))
def f_impl_PointNamed (a0 : XChart) (a1 : List UInt8) : Option Int :=
 f_impl_PointNamed_1 a1 a0 bigN (0 : Int)
/- impl_Segment_joins -/
def f_impl_Segment_joins (a0 : XSegment) (a1 : Int) (a2 : Int) : Option Bool :=
 if (a0.A == a1) then (
  if (a0.B == a2) then (
   some true)
  else (
   if (a0.A == a2) then (
    some (a0.B == a1))
   else (
    some false)))
 else (
  if (a0.A == a2) then (
   some (a0.B == a1))
  else (
   some false))
/- impl_ChartOk -/
def f_impl_ChartOk_3 (a0 : XChart) (v10 : Int) (x12 : XSegment) (y23 : List XSegment) (y24 : Int) (k_impl_ChartOk_2 : Int → Option Bool) : Nat → Int → Option Bool
 | 0, _ => none
 | n + 1, v25 =>
  if (decide (v25 < y24)) then (
   (ix y23 v25).bind fun x27 =>
   (f_impl_Segment_joins x27 x12.A x12.B).bind fun r28 =>
   if r28 then (
    some false)
   else (
    f_impl_ChartOk_3 a0 v10 x12 y23 y24 k_impl_ChartOk_2 n (IntKind.i64.wrap (v25 + (1 : Int)))))
  else (
   k_impl_ChartOk_2 (IntKind.i64.wrap (v10 + (1 : Int))))
def f_impl_ChartOk_2 (a0 : XChart) : Nat → Int → Option Bool
 | 0, _ => none
 | n + 1, v10 =>
  if (decide (v10 < (a0.Segments.length : Int))) then (
   (ix a0.Segments v10).bind fun x12 =>
   (f_impl_isIndex x12.A (a0.Points.length : Int)).bind fun r13 =>
   if r13 then (
    (f_impl_isIndex x12.B (a0.Points.length : Int)).bind fun r15 =>
    if r15 then (
     if (x12.A == x12.B) then (
      some false)
     else (
      (f_impl_within x12.Depth (0 : Int) (3000 : Int)).bind fun r18 =>
      if r18 then (
       (f_impl_within x12.Minutes (1 : Int) (240 : Int)).bind fun r20 =>
       if r20 then (
        (bnd (a0.Segments.length : Int) v10 (0 : Int) a0.Segments.length).bind fun p22 =>
        f_impl_ChartOk_3 a0 v10 x12 ((a0.Segments.drop p22.1).take (p22.2 - p22.1)) (((a0.Segments.drop p22.1).take (p22.2 - p22.1)).length : Int) (f_impl_ChartOk_2 a0 n) bigN (0 : Int))
       else (
        some false))
      else (
       some false)))
    else (
     some false))
   else (
    some false))
  else (
   some true)
def f_impl_ChartOk_1 (a0 : XChart) : Nat → Int → Option Bool
 | 0, _ => none
 | n + 1, v3 =>
  if (decide (v3 < (a0.Points.length : Int))) then (
   (ix a0.Points v3).bind fun x5 =>
   (f_impl_IsName x5.Name).bind fun r6 =>
   if r6 then (
    (f_impl_PointNamed a0 x5.Name).bind fun r8 =>
    if (r8 != v3) then (
     some false)
    else (
     f_impl_ChartOk_1 a0 n (IntKind.i64.wrap (v3 + (1 : Int)))))
   else (
    some false))
  else (
   f_impl_ChartOk_2 a0 bigN (0 : Int))
def f_impl_ChartOk (a0 : XChart) : Option Bool :=
 if (decide ((8 : Int) < (a0.Points.length : Int))) then (
  some false)
 else (
  if (decide ((10 : Int) < (a0.Segments.length : Int))) then (
   some false)
  else (
   f_impl_ChartOk_1 a0 bigN (0 : Int)))
/- impl_ShipOk -/
def f_impl_ShipOk (a0 : XShip) : Option Bool :=
 (f_impl_IsName a0.Name).bind fun r1 =>
 if r1 then (
  (f_impl_within a0.Length (10 : Int) (400 : Int)).bind fun r3 =>
  if r3 then (
   (f_impl_within a0.Draught (100 : Int) (2000 : Int)).bind fun r5 =>
   if r5 then (
    (f_impl_isIndex a0.Line (4 : Int)).bind fun r7 =>
    if r7 then (
     (f_impl_within a0.Tugs (0 : Int) (4 : Int)).bind fun r9 =>
     some r9)
    else (
     some false))
   else (
    some false))
  else (
   some false))
 else (
  some false)
/- impl_onSegment -/
def f_impl_onSegment (a0 : XChart) (a1 : Int) (a2 : XShip) : Option Bool :=
 (f_impl_ChartOk a0).bind fun r1 =>
 if r1 then (
  (f_impl_ShipOk a2).bind fun r3 =>
  if r3 then (
   (f_impl_isIndex a1 (a0.Segments.length : Int)).bind fun r5 =>
   some r5)
  else (
   some false))
 else (
  some false)
/- impl_Ship_squat -/
def f_impl_Ship_squat (a0 : XShip) : Option Int :=
 if a0.Slow then (
  some (IntKind.i64.wrap (Int.tdiv a0.Draught (50 : Int))))
 else (
  some (IntKind.i64.wrap (Int.tdiv a0.Draught (20 : Int))))
/- impl_Ship_need -/
def f_impl_Ship_need (a0 : XShip) : Option Int :=
 (f_impl_Ship_squat a0).bind fun r1 =>
 some (IntKind.i64.wrap ((IntKind.i64.wrap (a0.Draught + r1)) + (50 : Int)))
/- impl_LevelFor -/
def f_impl_LevelFor (a0 : XChart) (a1 : Int) (a2 : XShip) : Option Int :=
 (f_impl_onSegment a0 a1 a2).bind fun r1 =>
 if r1 then (
  (f_impl_Ship_need a2).bind fun r3 =>
  (ix a0.Segments a1).bind fun x4 =>
  some (IntKind.i64.wrap (r3 - x4.Depth)))
 else (
  some (0 : Int))
/- impl_windowsOf -/
def f_impl_windowsOf_3 (a0 : Int → Option Bool) (v2 : Int) (k_impl_windowsOf_1 : Bool → Int → (List XWindow) → Option (List XWindow)) (v11 : Bool) (v12 : List XWindow) : Option (List XWindow) :=
 k_impl_windowsOf_1 v11 (IntKind.i64.wrap (v2 + (1 : Int))) v12
def f_impl_windowsOf_2 (a0 : Int → Option Bool) (v2 : Int) (k_impl_windowsOf_1 : Bool → Int → (List XWindow) → Option (List XWindow)) (v9 : List XWindow) : Option (List XWindow) :=
 (ix v9 (IntKind.i64.wrap ((v9.length : Int) - (1 : Int)))).bind fun x10 =>
 f_impl_windowsOf_3 a0 v2 k_impl_windowsOf_1 true (v9.set (Int.toNat (IntKind.i64.wrap ((v9.length : Int) - (1 : Int)))) (⟨x10.From, v2⟩ : XWindow))
def f_impl_windowsOf_1 (a0 : Int → Option Bool) : Nat → Bool → Int → (List XWindow) → Option (List XWindow)
 | 0, _, _, _ => none
 | n + 1, v1, v2, v3 =>
  if (decide (v2 ≤ (2880 : Int))) then (
   (a0 v2).bind fun r5 =>
   if r5 then (
    if v1 then (
     f_impl_windowsOf_2 a0 v2 (f_impl_windowsOf_1 a0 n) v3)
    else (
     if appB v3.length ([(⟨v2, (0 : Int)⟩ : XWindow)] : List XWindow).length 16 then (
      f_impl_windowsOf_2 a0 v2 (f_impl_windowsOf_1 a0 n) (v3 ++ ([(⟨v2, (0 : Int)⟩ : XWindow)] : List XWindow)))
     else none))
   else (
    f_impl_windowsOf_3 a0 v2 (f_impl_windowsOf_1 a0 n) false v3))
  else (
   some v3)
def f_impl_windowsOf (a0 : Int → Option Bool) : Option (List XWindow) :=
 f_impl_windowsOf_1 a0 bigN false (0 : Int) ([] : List XWindow)
/- impl_Wave -/
def f_impl_Wave (a0 : Int) (a1 : Int) : Option Int :=
 (f_impl_isPeriod a1).bind fun r1 =>
 if r1 then (
  if a1 == 0 then none else
  if a1 == 0 then none else
  if (decide ((IntKind.i64.wrap (Int.tdiv a1 (2 : Int))) ≤ (IntKind.i64.wrap (Int.tmod (IntKind.i64.wrap ((IntKind.i64.wrap (Int.tmod a0 a1)) + a1)) a1)))) then (
   if (IntKind.i64.wrap ((IntKind.i64.wrap (Int.tdiv a1 (2 : Int))) * (IntKind.i64.wrap (Int.tdiv a1 (2 : Int))))) == 0 then none else
   some (IntKind.i64.wrap (0 - (IntKind.i64.wrap (Int.tdiv (IntKind.i64.wrap ((IntKind.i64.wrap ((40000 : Int) * (IntKind.i64.wrap ((IntKind.i64.wrap (Int.tmod (IntKind.i64.wrap ((IntKind.i64.wrap (Int.tmod a0 a1)) + a1)) a1)) - (IntKind.i64.wrap (Int.tdiv a1 (2 : Int))))))) * (IntKind.i64.wrap ((IntKind.i64.wrap (Int.tdiv a1 (2 : Int))) - (IntKind.i64.wrap ((IntKind.i64.wrap (Int.tmod (IntKind.i64.wrap ((IntKind.i64.wrap (Int.tmod a0 a1)) + a1)) a1)) - (IntKind.i64.wrap (Int.tdiv a1 (2 : Int))))))))) (IntKind.i64.wrap ((IntKind.i64.wrap (Int.tdiv a1 (2 : Int))) * (IntKind.i64.wrap (Int.tdiv a1 (2 : Int))))))))))
  else (
   if (IntKind.i64.wrap ((IntKind.i64.wrap (Int.tdiv a1 (2 : Int))) * (IntKind.i64.wrap (Int.tdiv a1 (2 : Int))))) == 0 then none else
   some (IntKind.i64.wrap (Int.tdiv (IntKind.i64.wrap ((IntKind.i64.wrap ((40000 : Int) * (IntKind.i64.wrap (Int.tmod (IntKind.i64.wrap ((IntKind.i64.wrap (Int.tmod a0 a1)) + a1)) a1)))) * (IntKind.i64.wrap ((IntKind.i64.wrap (Int.tdiv a1 (2 : Int))) - (IntKind.i64.wrap (Int.tmod (IntKind.i64.wrap ((IntKind.i64.wrap (Int.tmod a0 a1)) + a1)) a1)))))) (IntKind.i64.wrap ((IntKind.i64.wrap (Int.tdiv a1 (2 : Int))) * (IntKind.i64.wrap (Int.tdiv a1 (2 : Int)))))))))
 else (
  some (0 : Int))
/- impl_Tide_level -/
def f_impl_Tide_level_1 (a1 : Int) (a0 : XTide) : Nat → Int → Int → Option Int
 | 0, _, _ => none
 | n + 1, v1, v2 =>
  if (decide (v2 < (a0.Parts.length : Int))) then (
   (ix a0.Parts v2).bind fun x4 =>
   (f_impl_Wave (IntKind.i64.wrap (a1 + x4.Phase)) x4.Period).bind fun r5 =>
   f_impl_Tide_level_1 a1 a0 n (IntKind.i64.wrap (v1 + (IntKind.i64.wrap (Int.tdiv (IntKind.i64.wrap (x4.Amp * r5)) (10000 : Int))))) (IntKind.i64.wrap (v2 + (1 : Int))))
  else (
   some v1)
def f_impl_Tide_level (a0 : XTide) (a1 : Int) : Option Int :=
 f_impl_Tide_level_1 a1 a0 bigN a0.Mean (0 : Int)
/- impl_Forecast_surge -/
def f_impl_Forecast_surge_1 (a1 : Int) (a0 : XForecast) : Nat → Int → Int → Option Int
 | 0, _, _ => none
 | n + 1, v1, v2 =>
  if (decide (v2 < (a0.Surges.length : Int))) then (
   (ix a0.Surges v2).bind fun x4 =>
   if (decide (x4.From ≤ a1)) then (
    f_impl_Forecast_surge_1 a1 a0 n v2 (IntKind.i64.wrap (v2 + (1 : Int))))
   else (
    f_impl_Forecast_surge_1 a1 a0 n v1 (IntKind.i64.wrap (v2 + (1 : Int)))))
  else (
   some v1)
def f_impl_Forecast_surge (a0 : XForecast) (a1 : Int) : Option Int :=
 f_impl_Forecast_surge_1 a1 a0 bigN (0 : Int) (0 : Int)
/- impl_Forecast_low -/
def f_impl_Forecast_low (a0 : XForecast) (a1 : Int) : Option Int :=
 (f_impl_Tide_level a0.Tide a1).bind fun r1 =>
 (f_impl_Forecast_surge a0 a1).bind fun r2 =>
 (ix a0.Surges r2).bind fun x3 =>
 some (IntKind.i64.wrap (r1 + x3.Low))
/- impl_LowWindows_1 -/
def f_impl_LowWindows_1 (a0 : Int) (c0 : XForecast) (c1 : Int) : Option Bool :=
 (f_impl_Forecast_low c0 a0).bind fun r1 =>
 some (decide (c1 ≤ r1))
/- impl_LowWindows -/
def f_impl_LowWindows (a0 : XForecast) (a1 : Int) : Option (List XWindow) :=
 (f_impl_ForecastOk a0).bind fun r1 =>
 if r1 then (
  (f_impl_windowsOf (fun z0 => f_impl_LowWindows_1 z0 a0 a1)).bind fun r3 =>
  some r3)
 else (
  some ([] : List XWindow))
/- impl_Ship_minutes -/
def f_impl_Ship_minutes (a0 : XShip) (a1 : XSegment) : Option Int :=
 if a0.Slow then (
  some (IntKind.i64.wrap ((2 : Int) * a1.Minutes)))
 else (
  some a1.Minutes)
/- impl_MinutesOn -/
def f_impl_MinutesOn (a0 : XChart) (a1 : Int) (a2 : XShip) : Option Int :=
 (f_impl_ChartOk a0).bind fun r1 =>
 if r1 then (
  (f_impl_ShipOk a2).bind fun r3 =>
  if r3 then (
   (f_impl_isIndex a1 (a0.Segments.length : Int)).bind fun r5 =>
   if r5 then (
    (ix a0.Segments a1).bind fun x7 =>
    (f_impl_Ship_minutes a2 x7).bind fun r8 =>
    some r8)
   else (
    some (0 : Int)))
  else (
   some (0 : Int)))
 else (
  some (0 : Int))
/- impl_WindowsOk -/
def f_impl_WindowsOk_1 (a0 : List XWindow) : Nat → Int → Option Bool
 | 0, _ => none
 | n + 1, v1 =>
  if (decide (v1 < (a0.length : Int))) then (
   (ix a0 v1).bind fun x3 =>
   if (decide (x3.From < (0 : Int))) then (
    some false)
   else (
    if (decide (x3.To < x3.From)) then (
     some false)
    else (
     if (decide ((2880 : Int) < x3.To)) then (
      some false)
     else (
      if (decide ((0 : Int) < v1)) then (
       (ix a0 (IntKind.i64.wrap (v1 - (1 : Int)))).bind fun x8 =>
       if (decide (x3.From ≤ (IntKind.i64.wrap (x8.To + (1 : Int))))) then (
        some false)
       else (
        f_impl_WindowsOk_1 a0 n (IntKind.i64.wrap (v1 + (1 : Int)))))
      else (
       f_impl_WindowsOk_1 a0 n (IntKind.i64.wrap (v1 + (1 : Int))))))))
  else (
   some true)
def f_impl_WindowsOk (a0 : List XWindow) : Option Bool :=
 f_impl_WindowsOk_1 a0 bigN (0 : Int)
/- impl_ShrinkWindows -/
def f_impl_ShrinkWindows_1 (a1 : Int) (a0 : List XWindow) : Nat → Int → (List XWindow) → Option (List XWindow)
 | 0, _, _ => none
 | n + 1, v5, v6 =>
  if (decide (v5 < (a0.length : Int))) then (
   (ix a0 v5).bind fun x8 =>
   if (decide (a1 ≤ (IntKind.i64.wrap (x8.To - x8.From)))) then (
    if appB v6.length ([(⟨x8.From, (IntKind.i64.wrap (x8.To - a1))⟩ : XWindow)] : List XWindow).length 16 then (
     f_impl_ShrinkWindows_1 a1 a0 n (IntKind.i64.wrap (v5 + (1 : Int))) (v6 ++ ([(⟨x8.From, (IntKind.i64.wrap (x8.To - a1))⟩ : XWindow)] : List XWindow)))
    else none)
   else (
    f_impl_ShrinkWindows_1 a1 a0 n (IntKind.i64.wrap (v5 + (1 : Int))) v6))
  else (
   some v6)
def f_impl_ShrinkWindows (a0 : List XWindow) (a1 : Int) : Option (List XWindow) :=
 (f_impl_WindowsOk a0).bind fun r1 =>
 if r1 then (
  (f_impl_isMinute a1).bind fun r3 =>
  if r3 then (
   f_impl_ShrinkWindows_1 a1 a0 bigN (0 : Int) ([] : List XWindow))
  else (
   some ([] : List XWindow)))
 else (
  some ([] : List XWindow))
/- impl_SureStarts -/
def f_impl_SureStarts (a0 : XForecast) (a1 : XChart) (a2 : Int) (a3 : XShip) : Option (List XWindow) :=
 (f_impl_ForecastOk a0).bind fun r1 =>
 if r1 then (
  (f_impl_onSegment a1 a2 a3).bind fun r3 =>
  if r3 then (
   (f_impl_LevelFor a1 a2 a3).bind fun r5 =>
   (f_impl_LowWindows a0 r5).bind fun r6 =>
   (f_impl_MinutesOn a1 a2 a3).bind fun r7 =>
   (f_impl_ShrinkWindows r6 r7).bind fun r8 =>
   some r8)
  else (
   some ([] : List XWindow)))
 else (
  some ([] : List XWindow))
/- impl_FormatWindows -/
def f_impl_FormatWindows_1 (a0 : List XWindow) : Nat → Int → (List (List UInt8)) → Option (List UInt8)
 | 0, _, _ => none
 | n + 1, v4, v5 =>
  if (decide (v4 < (a0.length : Int))) then (
   (ix a0 v4).bind fun x7 =>
   (f_impl_FormatInt x7.From).bind fun r8 =>
   if catB r8.length ([45] : List UInt8).length then (
    (f_impl_FormatInt x7.To).bind fun r10 =>
    if catB (r8 ++ ([45] : List UInt8)).length r10.length then (
     if appB v5.length ([((r8 ++ ([45] : List UInt8)) ++ r10)] : List (List UInt8)).length 16 then (
      f_impl_FormatWindows_1 a0 n (IntKind.i64.wrap (v4 + (1 : Int))) (v5 ++ ([((r8 ++ ([45] : List UInt8)) ++ r10)] : List (List UInt8))))
     else none)
    else none)
   else none)
  else (
   (f_impl_Join v5 ([32] : List UInt8)).bind fun r13 =>
   some r13)
def f_impl_FormatWindows (a0 : List XWindow) : Option (List UInt8) :=
 (f_impl_WindowsOk a0).bind fun r1 =>
 if r1 then (
  if ((a0.length : Int) == (0 : Int)) then (
   some ([110, 111, 110, 101] : List UInt8))
  else (
   f_impl_FormatWindows_1 a0 bigN (0 : Int) ([] : List (List UInt8))))
 else (
  some ([] : List UInt8))
/- impl_word -/
def f_impl_word (a0 : XAny) : Option (List UInt8) :=
 if a0.isS then (
  some a0.s)
 else (
  (f_impl_FormatInt a0.n).bind fun r2 =>
  some r2)
/- impl_words -/
def f_impl_words_1 (a0 : List XAny) : Nat → Int → (List (List UInt8)) → Option (List UInt8)
 | 0, _, _ => none
 | n + 1, v1, v2 =>
  if (decide (v1 < (a0.length : Int))) then (
   (ix a0 v1).bind fun x4 =>
   (f_impl_word x4).bind fun r5 =>
   if appB v2.length ([r5] : List (List UInt8)).length 16 then (
    f_impl_words_1 a0 n (IntKind.i64.wrap (v1 + (1 : Int))) (v2 ++ ([r5] : List (List UInt8))))
   else none)
  else (
   (f_impl_Join v2 ([32] : List UInt8)).bind fun r7 =>
   some r7)
def f_impl_words (a0 : List XAny) : Option (List UInt8) :=
 f_impl_words_1 a0 bigN (0 : Int) ([] : List (List UInt8))
/- impl_SureLines -/
def f_impl_SureLines_1 (a1 : XChart) (a0 : XForecast) (a2 : XShip) : Nat → Int → (List (List UInt8)) → Option (List (List UInt8))
 | 0, _, _ => none
 | n + 1, v7, v8 =>
  if (decide (v7 < (a1.Segments.length : Int))) then (
   (ix a1.Segments v7).bind fun x10 =>
   (ix a1.Points x10.A).bind fun x11 =>
   if catB x11.Name.length ([45] : List UInt8).length then (
    (ix a1.Points x10.B).bind fun x13 =>
    if catB (x11.Name ++ ([45] : List UInt8)).length x13.Name.length then (
     (f_impl_SureStarts a0 a1 v7 a2).bind fun r15 =>
     (f_impl_FormatWindows r15).bind fun r16 =>
     (f_impl_words ([(⟨true, ((x11.Name ++ ([45] : List UInt8)) ++ x13.Name), 0⟩ : XAny), (⟨true, r16, 0⟩ : XAny)] : List XAny)).bind fun r17 =>
     if appB v8.length ([r17] : List (List UInt8)).length 16 then (
      f_impl_SureLines_1 a1 a0 a2 n (IntKind.i64.wrap (v7 + (1 : Int))) (v8 ++ ([r17] : List (List UInt8))))
     else none)
    else none)
   else none)
  else (
   some v8)
def f_impl_SureLines (a0 : XForecast) (a1 : XChart) (a2 : XShip) : Option (List (List UInt8)) :=
 (f_impl_ForecastOk a0).bind fun r1 =>
 if r1 then (
  (f_impl_ChartOk a1).bind fun r3 =>
  if r3 then (
   (f_impl_ShipOk a2).bind fun r5 =>
   if r5 then (
    f_impl_SureLines_1 a1 a0 a2 bigN (0 : Int) ([] : List (List UInt8)))
   else (
    some ([] : List (List UInt8))))
  else (
   some ([] : List (List UInt8))))
 else (
  some ([] : List (List UInt8)))
/- laws_eqStringS -/
def f_laws_eqStringS_1 (a0 : List (List UInt8)) (a1 : List (List UInt8)) : Nat → Int → Option Bool
 | 0, _ => none
 | n + 1, v2 =>
  if (decide (v2 < (a0.length : Int))) then (
   (ix a0 v2).bind fun x4 =>
   (ix a1 v2).bind fun x5 =>
   if (x4 == x5) then (
    f_laws_eqStringS_1 a0 a1 n (IntKind.i64.wrap (v2 + (1 : Int))))
   else (
    some false))
  else (
   some true)
def f_laws_eqStringS (a0 : List (List UInt8)) (a1 : List (List UInt8)) : Option Bool :=
 if ((a0.length : Int) != (a1.length : Int)) then (
  some false)
 else (
  f_laws_eqStringS_1 a0 a1 bigN (0 : Int))
/- laws_eqPart -/
def f_laws_eqPart (a0 : XPart) (a1 : XPart) : Option Bool :=
 if (a0.Amp != a1.Amp) then (
  some false)
 else (
  if (a0.Period != a1.Period) then (
   some false)
  else (
   if (a0.Phase != a1.Phase) then (
    some false)
   else (
    some true)))
/- laws_eqPartS -/
def f_laws_eqPartS_1 (a0 : List XPart) (a1 : List XPart) : Nat → Int → Option Bool
 | 0, _ => none
 | n + 1, v2 =>
  if (decide (v2 < (a0.length : Int))) then (
   (ix a0 v2).bind fun x4 =>
   (ix a1 v2).bind fun x5 =>
   (f_laws_eqPart x4 x5).bind fun r6 =>
   if r6 then (
    f_laws_eqPartS_1 a0 a1 n (IntKind.i64.wrap (v2 + (1 : Int))))
   else (
    some false))
  else (
   some true)
def f_laws_eqPartS (a0 : List XPart) (a1 : List XPart) : Option Bool :=
 if ((a0.length : Int) != (a1.length : Int)) then (
  some false)
 else (
  f_laws_eqPartS_1 a0 a1 bigN (0 : Int))
/- laws_eqTide -/
def f_laws_eqTide (a0 : XTide) (a1 : XTide) : Option Bool :=
 if (a0.Mean != a1.Mean) then (
  some false)
 else (
  (f_laws_eqPartS a0.Parts a1.Parts).bind fun r2 =>
  if r2 then (
   some true)
  else (
   some false))
/- laws_eqSurge -/
def f_laws_eqSurge (a0 : XSurge) (a1 : XSurge) : Option Bool :=
 if (a0.From != a1.From) then (
  some false)
 else (
  if (a0.Low != a1.Low) then (
   some false)
  else (
   if (a0.High != a1.High) then (
    some false)
   else (
    some true)))
/- laws_eqSurgeS -/
def f_laws_eqSurgeS_1 (a0 : List XSurge) (a1 : List XSurge) : Nat → Int → Option Bool
 | 0, _ => none
 | n + 1, v2 =>
  if (decide (v2 < (a0.length : Int))) then (
   (ix a0 v2).bind fun x4 =>
   (ix a1 v2).bind fun x5 =>
   (f_laws_eqSurge x4 x5).bind fun r6 =>
   if r6 then (
    f_laws_eqSurgeS_1 a0 a1 n (IntKind.i64.wrap (v2 + (1 : Int))))
   else (
    some false))
  else (
   some true)
def f_laws_eqSurgeS (a0 : List XSurge) (a1 : List XSurge) : Option Bool :=
 if ((a0.length : Int) != (a1.length : Int)) then (
  some false)
 else (
  f_laws_eqSurgeS_1 a0 a1 bigN (0 : Int))
/- laws_eqForecast -/
def f_laws_eqForecast (a0 : XForecast) (a1 : XForecast) : Option Bool :=
 (f_laws_eqTide a0.Tide a1.Tide).bind fun r1 =>
 if r1 then (
  (f_laws_eqSurgeS a0.Surges a1.Surges).bind fun r3 =>
  if r3 then (
   some true)
  else (
   some false))
 else (
  some false)
/- laws_eqPoint -/
def f_laws_eqPoint (a0 : XPoint) (a1 : XPoint) : Option Bool :=
 if (a0.Name == a1.Name) then (
  if (a0.Wait == a1.Wait) then (
   some true)
  else (
   some false))
 else (
  some false)
/- laws_eqPointS -/
def f_laws_eqPointS_1 (a0 : List XPoint) (a1 : List XPoint) : Nat → Int → Option Bool
 | 0, _ => none
 | n + 1, v2 =>
  if (decide (v2 < (a0.length : Int))) then (
   (ix a0 v2).bind fun x4 =>
   (ix a1 v2).bind fun x5 =>
   (f_laws_eqPoint x4 x5).bind fun r6 =>
   if r6 then (
    f_laws_eqPointS_1 a0 a1 n (IntKind.i64.wrap (v2 + (1 : Int))))
   else (
    some false))
  else (
   some true)
def f_laws_eqPointS (a0 : List XPoint) (a1 : List XPoint) : Option Bool :=
 if ((a0.length : Int) != (a1.length : Int)) then (
  some false)
 else (
  f_laws_eqPointS_1 a0 a1 bigN (0 : Int))
/- laws_eqSegment -/
def f_laws_eqSegment (a0 : XSegment) (a1 : XSegment) : Option Bool :=
 if (a0.A != a1.A) then (
  some false)
 else (
  if (a0.B != a1.B) then (
   some false)
  else (
   if (a0.Depth != a1.Depth) then (
    some false)
   else (
    if (a0.Minutes != a1.Minutes) then (
     some false)
    else (
     if (a0.Meet == a1.Meet) then (
      some true)
     else (
      some false)))))
/- laws_eqSegmentS -/
def f_laws_eqSegmentS_1 (a0 : List XSegment) (a1 : List XSegment) : Nat → Int → Option Bool
 | 0, _ => none
 | n + 1, v2 =>
  if (decide (v2 < (a0.length : Int))) then (
   (ix a0 v2).bind fun x4 =>
   (ix a1 v2).bind fun x5 =>
   (f_laws_eqSegment x4 x5).bind fun r6 =>
   if r6 then (
    f_laws_eqSegmentS_1 a0 a1 n (IntKind.i64.wrap (v2 + (1 : Int))))
   else (
    some false))
  else (
   some true)
def f_laws_eqSegmentS (a0 : List XSegment) (a1 : List XSegment) : Option Bool :=
 if ((a0.length : Int) != (a1.length : Int)) then (
  some false)
 else (
  f_laws_eqSegmentS_1 a0 a1 bigN (0 : Int))
/- laws_eqChart -/
def f_laws_eqChart (a0 : XChart) (a1 : XChart) : Option Bool :=
 (f_laws_eqPointS a0.Points a1.Points).bind fun r1 =>
 if r1 then (
  (f_laws_eqSegmentS a0.Segments a1.Segments).bind fun r3 =>
  if r3 then (
   some true)
  else (
   some false))
 else (
  some false)
/- laws_markPartS -/
def f_laws_markPartS_1 : Nat → Int → Int → (List XPart) → Option (Int × List XPart)
 | 0, _, _, _ => none
 | n + 1, v1, v2, v3 =>
  if (decide (v2 < (v3.length : Int))) then (
   (ix v3 v2).bind fun x5 =>
   (ix (v3.set (Int.toNat v2) (⟨v1, x5.Period, x5.Phase⟩ : XPart)) v2).bind fun x6 =>
   (ix ((v3.set (Int.toNat v2) (⟨v1, x5.Period, x5.Phase⟩ : XPart)).set (Int.toNat v2) (⟨x6.Amp, (IntKind.i64.wrap (v1 + (1 : Int))), x6.Phase⟩ : XPart)) v2).bind fun x7 =>
   f_laws_markPartS_1 n (IntKind.i64.wrap ((IntKind.i64.wrap ((IntKind.i64.wrap (v1 + (1 : Int))) + (1 : Int))) + (1 : Int))) (IntKind.i64.wrap (v2 + (1 : Int))) (((v3.set (Int.toNat v2) (⟨v1, x5.Period, x5.Phase⟩ : XPart)).set (Int.toNat v2) (⟨x6.Amp, (IntKind.i64.wrap (v1 + (1 : Int))), x6.Phase⟩ : XPart)).set (Int.toNat v2) (⟨x7.Amp, x7.Period, (IntKind.i64.wrap ((IntKind.i64.wrap (v1 + (1 : Int))) + (1 : Int)))⟩ : XPart)))
  else (
   some (v1, v3))
def f_laws_markPartS (a0 : List XPart) (a1 : Int) : Option (Int × List XPart) :=
 f_laws_markPartS_1 bigN a1 (0 : Int) a0
/- laws_markTide -/
def f_laws_markTide (a0 : XTide) (a1 : Int) : Option (Int × List XPart) :=
 (f_laws_markPartS a0.Parts a1).bind fun r1 =>
 some (r1.1, r1.2)
/- laws_markSurgeS -/
def f_laws_markSurgeS_1 : Nat → Int → Int → (List XSurge) → Option (Int × List XSurge)
 | 0, _, _, _ => none
 | n + 1, v1, v2, v3 =>
  if (decide (v2 < (v3.length : Int))) then (
   (ix v3 v2).bind fun x5 =>
   (ix (v3.set (Int.toNat v2) (⟨v1, x5.Low, x5.High⟩ : XSurge)) v2).bind fun x6 =>
   (ix ((v3.set (Int.toNat v2) (⟨v1, x5.Low, x5.High⟩ : XSurge)).set (Int.toNat v2) (⟨x6.From, (IntKind.i64.wrap (v1 + (1 : Int))), x6.High⟩ : XSurge)) v2).bind fun x7 =>
   f_laws_markSurgeS_1 n (IntKind.i64.wrap ((IntKind.i64.wrap ((IntKind.i64.wrap (v1 + (1 : Int))) + (1 : Int))) + (1 : Int))) (IntKind.i64.wrap (v2 + (1 : Int))) (((v3.set (Int.toNat v2) (⟨v1, x5.Low, x5.High⟩ : XSurge)).set (Int.toNat v2) (⟨x6.From, (IntKind.i64.wrap (v1 + (1 : Int))), x6.High⟩ : XSurge)).set (Int.toNat v2) (⟨x7.From, x7.Low, (IntKind.i64.wrap ((IntKind.i64.wrap (v1 + (1 : Int))) + (1 : Int)))⟩ : XSurge)))
  else (
   some (v1, v3))
def f_laws_markSurgeS (a0 : List XSurge) (a1 : Int) : Option (Int × List XSurge) :=
 f_laws_markSurgeS_1 bigN a1 (0 : Int) a0
/- laws_markForecast -/
def f_laws_markForecast (a0 : XForecast) (a1 : Int) : Option (Int × List XPart × List XSurge) :=
 (f_laws_markTide a0.Tide a1).bind fun r1 =>
 (f_laws_markSurgeS a0.Surges r1.1).bind fun r2 =>
 some (r2.1, r1.2, r2.2)
/- laws_markText -/
def f_laws_markText_1 : Nat → Int → (List UInt8) → Option (List UInt8)
 | 0, _, _ => none
 | n + 1, v2, v3 =>
  if (decide ((0 : Int) < v2)) then (
   if catB ([(IntKind.u8.wrap (IntKind.i64.wrap ((48 : Int) + (IntKind.i64.wrap (Int.tmod v2 (10 : Int))))))] : List Int).length v3.length then (
    f_laws_markText_1 n (IntKind.i64.wrap (Int.tdiv v2 (10 : Int))) ((List.map toU8 ([(IntKind.u8.wrap (IntKind.i64.wrap ((48 : Int) + (IntKind.i64.wrap (Int.tmod v2 (10 : Int))))))] : List Int)) ++ v3))
   else none)
  else (
   if catB ([109] : List UInt8).length v3.length then (
    some (([109] : List UInt8) ++ v3))
   else none)
def f_laws_markText (a0 : Int) : Option (List UInt8) :=
 if (decide (a0 ≤ (0 : Int))) then (
  some ([109, 48] : List UInt8))
 else (
  f_laws_markText_1 bigN a0 ([] : List UInt8))
/- laws_markPointS -/
def f_laws_markPointS_1 : Nat → Int → Int → (List XPoint) → Option (Int × List XPoint)
 | 0, _, _, _ => none
 | n + 1, v1, v2, v3 =>
  if (decide (v2 < (v3.length : Int))) then (
   (f_laws_markText v1).bind fun r5 =>
   (ix v3 v2).bind fun x6 =>
   (ix (v3.set (Int.toNat v2) (⟨r5, x6.Wait⟩ : XPoint)) v2).bind fun x7 =>
   f_laws_markPointS_1 n (IntKind.i64.wrap ((IntKind.i64.wrap (v1 + (1 : Int))) + (1 : Int))) (IntKind.i64.wrap (v2 + (1 : Int))) ((v3.set (Int.toNat v2) (⟨r5, x6.Wait⟩ : XPoint)).set (Int.toNat v2) (⟨x7.Name, ((IntKind.i64.wrap (Int.tmod (IntKind.i64.wrap (v1 + (1 : Int))) (3 : Int))) == (0 : Int))⟩ : XPoint)))
  else (
   some (v1, v3))
def f_laws_markPointS (a0 : List XPoint) (a1 : Int) : Option (Int × List XPoint) :=
 f_laws_markPointS_1 bigN a1 (0 : Int) a0
/- laws_markSegmentS -/
def f_laws_markSegmentS_1 : Nat → Int → Int → (List XSegment) → Option (Int × List XSegment)
 | 0, _, _, _ => none
 | n + 1, v1, v2, v3 =>
  if (decide (v2 < (v3.length : Int))) then (
   (ix v3 v2).bind fun x5 =>
   (ix (v3.set (Int.toNat v2) (⟨v1, x5.B, x5.Depth, x5.Minutes, x5.Meet⟩ : XSegment)) v2).bind fun x6 =>
   (ix ((v3.set (Int.toNat v2) (⟨v1, x5.B, x5.Depth, x5.Minutes, x5.Meet⟩ : XSegment)).set (Int.toNat v2) (⟨x6.A, (IntKind.i64.wrap (v1 + (1 : Int))), x6.Depth, x6.Minutes, x6.Meet⟩ : XSegment)) v2).bind fun x7 =>
   (ix (((v3.set (Int.toNat v2) (⟨v1, x5.B, x5.Depth, x5.Minutes, x5.Meet⟩ : XSegment)).set (Int.toNat v2) (⟨x6.A, (IntKind.i64.wrap (v1 + (1 : Int))), x6.Depth, x6.Minutes, x6.Meet⟩ : XSegment)).set (Int.toNat v2) (⟨x7.A, x7.B, (IntKind.i64.wrap ((IntKind.i64.wrap (v1 + (1 : Int))) + (1 : Int))), x7.Minutes, x7.Meet⟩ : XSegment)) v2).bind fun x8 =>
   (ix ((((v3.set (Int.toNat v2) (⟨v1, x5.B, x5.Depth, x5.Minutes, x5.Meet⟩ : XSegment)).set (Int.toNat v2) (⟨x6.A, (IntKind.i64.wrap (v1 + (1 : Int))), x6.Depth, x6.Minutes, x6.Meet⟩ : XSegment)).set (Int.toNat v2) (⟨x7.A, x7.B, (IntKind.i64.wrap ((IntKind.i64.wrap (v1 + (1 : Int))) + (1 : Int))), x7.Minutes, x7.Meet⟩ : XSegment)).set (Int.toNat v2) (⟨x8.A, x8.B, x8.Depth, (IntKind.i64.wrap ((IntKind.i64.wrap ((IntKind.i64.wrap (v1 + (1 : Int))) + (1 : Int))) + (1 : Int))), x8.Meet⟩ : XSegment)) v2).bind fun x9 =>
   f_laws_markSegmentS_1 n (IntKind.i64.wrap ((IntKind.i64.wrap ((IntKind.i64.wrap ((IntKind.i64.wrap ((IntKind.i64.wrap (v1 + (1 : Int))) + (1 : Int))) + (1 : Int))) + (1 : Int))) + (1 : Int))) (IntKind.i64.wrap (v2 + (1 : Int))) (((((v3.set (Int.toNat v2) (⟨v1, x5.B, x5.Depth, x5.Minutes, x5.Meet⟩ : XSegment)).set (Int.toNat v2) (⟨x6.A, (IntKind.i64.wrap (v1 + (1 : Int))), x6.Depth, x6.Minutes, x6.Meet⟩ : XSegment)).set (Int.toNat v2) (⟨x7.A, x7.B, (IntKind.i64.wrap ((IntKind.i64.wrap (v1 + (1 : Int))) + (1 : Int))), x7.Minutes, x7.Meet⟩ : XSegment)).set (Int.toNat v2) (⟨x8.A, x8.B, x8.Depth, (IntKind.i64.wrap ((IntKind.i64.wrap ((IntKind.i64.wrap (v1 + (1 : Int))) + (1 : Int))) + (1 : Int))), x8.Meet⟩ : XSegment)).set (Int.toNat v2) (⟨x9.A, x9.B, x9.Depth, x9.Minutes, ((IntKind.i64.wrap (Int.tmod (IntKind.i64.wrap ((IntKind.i64.wrap ((IntKind.i64.wrap ((IntKind.i64.wrap (v1 + (1 : Int))) + (1 : Int))) + (1 : Int))) + (1 : Int))) (3 : Int))) == (0 : Int))⟩ : XSegment)))
  else (
   some (v1, v3))
def f_laws_markSegmentS (a0 : List XSegment) (a1 : Int) : Option (Int × List XSegment) :=
 f_laws_markSegmentS_1 bigN a1 (0 : Int) a0
/- laws_markChart -/
def f_laws_markChart (a0 : XChart) (a1 : Int) : Option (Int × List XPoint × List XSegment) :=
 (f_laws_markPointS a0.Points a1).bind fun r1 =>
 (f_laws_markSegmentS a0.Segments r1.1).bind fun r2 =>
 some (r2.1, r1.2, r2.2)
/- laws_markStringS -/
def f_laws_markStringS_1 : Nat → Int → Int → (List (List UInt8)) → Option (Int × List (List UInt8))
 | 0, _, _, _ => none
 | n + 1, v1, v2, v3 =>
  if (decide (v2 < (v3.length : Int))) then (
   (f_laws_markText v1).bind fun r5 =>
   (ix v3 v2).bind fun x6 =>
   f_laws_markStringS_1 n (IntKind.i64.wrap (v1 + (1 : Int))) (IntKind.i64.wrap (v2 + (1 : Int))) (v3.set (Int.toNat v2) r5))
  else (
   some (v1, v3))
def f_laws_markStringS (a0 : List (List UInt8)) (a1 : Int) : Option (Int × List (List UInt8)) :=
 f_laws_markStringS_1 bigN a1 (0 : Int) a0
/- laws_heldStringS -/
def f_laws_heldStringS_1 (a0 : List (List UInt8)) : Nat → Int → Int → Option Int
 | 0, _, _ => none
 | n + 1, v1, v2 =>
  if (decide (v2 < (a0.length : Int))) then (
   (ix a0 v2).bind fun x4 =>
   (f_laws_markText v1).bind fun r5 =>
   if (x4 == r5) then (
    f_laws_heldStringS_1 a0 n (IntKind.i64.wrap (v1 + (1 : Int))) (IntKind.i64.wrap (v2 + (1 : Int))))
   else (
    some (-1 : Int)))
  else (
   some v1)
def f_laws_heldStringS (a0 : List (List UInt8)) (a1 : Int) : Option Int :=
 f_laws_heldStringS_1 a0 bigN a1 (0 : Int)
/- laws_FnExactSureLines -/
def f_laws_FnExactSureLines (a0 : XForecast) (a1 : XChart) (a2 : XShip) : Option Bool :=
 (f_laws_szForecast a0 (1048576 : Int)).bind fun r1 =>
 if (decide (r1 < (0 : Int))) then (
  some true)
 else (
  (f_laws_szChart a1 r1).bind fun r3 =>
  if (decide (r3 < (0 : Int))) then (
   some true)
  else (
   (f_laws_szShip a2 r3).bind fun r5 =>
   if (decide (r5 < (0 : Int))) then (
    some true)
   else (
    (f_laws_toForecast a0).bind fun r7 =>
    (f_laws_toChart a1).bind fun r8 =>
    (f_laws_toShip a2).bind fun r9 =>
    (f_spec_SureLines r7 r8 r9).bind fun r10 =>
    (f_laws_toForecast a0).bind fun r11 =>
    (f_laws_toChart a1).bind fun r12 =>
    (f_laws_toShip a2).bind fun r13 =>
    (f_impl_SureLines r11 r12 r13).bind fun r14 =>
    (f_laws_eqStringS r14 r10).bind fun r15 =>
    if r15 then (
     (f_laws_toForecast a0).bind fun r17 =>
     (f_laws_eqForecast r11 r17).bind fun r18 =>
     if r18 then (
      (f_laws_toChart a1).bind fun r20 =>
      (f_laws_eqChart r12 r20).bind fun r21 =>
      if r21 then (
       (f_laws_markForecast r11 (1 : Int)).bind fun r23 =>
       (f_laws_markChart r12 r23.1).bind fun r24 =>
       if (decide (r24.1 < (0 : Int))) then (
        some false)
       else (
        (f_laws_eqStringS r14 r10).bind fun r26 =>
        if r26 then (
         (f_laws_markStringS r14 (1 : Int)).bind fun r28 =>
         (f_laws_heldStringS r28.2 (1 : Int)).bind fun r29 =>
         if (decide (r29 < (0 : Int))) then (
          some false)
         else (
          if (r29 != r28.1) then (
           some false)
          else (
           (f_laws_toForecast a0).bind fun r32 =>
           (f_laws_toChart a1).bind fun r33 =>
           (f_laws_toShip a2).bind fun r34 =>
           (f_impl_SureLines r32 r33 r34).bind fun r35 =>
           (f_laws_eqStringS r35 r10).bind fun r36 =>
           if r36 then (
            (f_laws_heldStringS r28.2 (1 : Int)).bind fun r38 =>
            if (decide (r38 < (0 : Int))) then (
             some false)
            else (
             if (r38 != r28.1) then (
              some false)
             else (
              some true)))
           else (
            some false))))
        else (
         some false)))
      else (
       some false))
     else (
      some false))
    else (
     some false))))
/- internal_strconv_small -/
def f_internal_strconv_small (a0 : Int) : Option (List UInt8) :=
 if (decide (a0 < (10 : Int))) then (
  (bnd (([48, 49, 50, 51, 52, 53, 54, 55, 56, 57, 97, 98, 99, 100, 101, 102, 103, 104, 105, 106, 107, 108, 109, 110, 111, 112, 113, 114, 115, 116, 117, 118, 119, 120, 121, 122] : List UInt8).length : Int) (IntKind.i64.wrap (a0 + (1 : Int))) a0 ([48, 49, 50, 51, 52, 53, 54, 55, 56, 57, 97, 98, 99, 100, 101, 102, 103, 104, 105, 106, 107, 108, 109, 110, 111, 112, 113, 114, 115, 116, 117, 118, 119, 120, 121, 122] : List UInt8).length).bind fun p2 =>
  some ((([48, 49, 50, 51, 52, 53, 54, 55, 56, 57, 97, 98, 99, 100, 101, 102, 103, 104, 105, 106, 107, 108, 109, 110, 111, 112, 113, 114, 115, 116, 117, 118, 119, 120, 121, 122] : List UInt8).drop p2.1).take (p2.2 - p2.1)))
 else (
  (bnd (([48, 48, 48, 49, 48, 50, 48, 51, 48, 52, 48, 53, 48, 54, 48, 55, 48, 56, 48, 57, 49, 48, 49, 49, 49, 50, 49, 51, 49, 52, 49, 53, 49, 54, 49, 55, 49, 56, 49, 57, 50, 48, 50, 49, 50, 50, 50, 51, 50, 52, 50, 53, 50, 54, 50, 55, 50, 56, 50, 57, 51, 48, 51, 49, 51, 50, 51, 51, 51, 52, 51, 53, 51, 54, 51, 55, 51, 56, 51, 57, 52, 48, 52, 49, 52, 50, 52, 51, 52, 52, 52, 53, 52, 54, 52, 55, 52, 56, 52, 57, 53, 48, 53, 49, 53, 50, 53, 51, 53, 52, 53, 53, 53, 54, 53, 55, 53, 56, 53, 57, 54, 48, 54, 49, 54, 50, 54, 51, 54, 52, 54, 53, 54, 54, 54, 55, 54, 56, 54, 57, 55, 48, 55, 49, 55, 50, 55, 51, 55, 52, 55, 53, 55, 54, 55, 55, 55, 56, 55, 57, 56, 48, 56, 49, 56, 50, 56, 51, 56, 52, 56, 53, 56, 54, 56, 55, 56, 56, 56, 57, 57, 48, 57, 49, 57, 50, 57, 51, 57, 52, 57, 53, 57, 54, 57, 55, 57, 56, 57, 57] : List UInt8).length : Int) (IntKind.i64.wrap ((IntKind.i64.wrap (a0 * (2 : Int))) + (2 : Int))) (IntKind.i64.wrap (a0 * (2 : Int))) ([48, 48, 48, 49, 48, 50, 48, 51, 48, 52, 48, 53, 48, 54, 48, 55, 48, 56, 48, 57, 49, 48, 49, 49, 49, 50, 49, 51, 49, 52, 49, 53, 49, 54, 49, 55, 49, 56, 49, 57, 50, 48, 50, 49, 50, 50, 50, 51, 50, 52, 50, 53, 50, 54, 50, 55, 50, 56, 50, 57, 51, 48, 51, 49, 51, 50, 51, 51, 51, 52, 51, 53, 51, 54, 51, 55, 51, 56, 51, 57, 52, 48, 52, 49, 52, 50, 52, 51, 52, 52, 52, 53, 52, 54, 52, 55, 52, 56, 52, 57, 53, 48, 53, 49, 53, 50, 53, 51, 53, 52, 53, 53, 53, 54, 53, 55, 53, 56, 53, 57, 54, 48, 54, 49, 54, 50, 54, 51, 54, 52, 54, 53, 54, 54, 54, 55, 54, 56, 54, 57, 55, 48, 55, 49, 55, 50, 55, 51, 55, 52, 55, 53, 55, 54, 55, 55, 55, 56, 55, 57, 56, 48, 56, 49, 56, 50, 56, 51, 56, 52, 56, 53, 56, 54, 56, 55, 56, 56, 56, 57, 57, 48, 57, 49, 57, 50, 57, 51, 57, 52, 57, 53, 57, 54, 57, 55, 57, 56, 57, 57] : List UInt8).length).bind fun p3 =>
  some ((([48, 48, 48, 49, 48, 50, 48, 51, 48, 52, 48, 53, 48, 54, 48, 55, 48, 56, 48, 57, 49, 48, 49, 49, 49, 50, 49, 51, 49, 52, 49, 53, 49, 54, 49, 55, 49, 56, 49, 57, 50, 48, 50, 49, 50, 50, 50, 51, 50, 52, 50, 53, 50, 54, 50, 55, 50, 56, 50, 57, 51, 48, 51, 49, 51, 50, 51, 51, 51, 52, 51, 53, 51, 54, 51, 55, 51, 56, 51, 57, 52, 48, 52, 49, 52, 50, 52, 51, 52, 52, 52, 53, 52, 54, 52, 55, 52, 56, 52, 57, 53, 48, 53, 49, 53, 50, 53, 51, 53, 52, 53, 53, 53, 54, 53, 55, 53, 56, 53, 57, 54, 48, 54, 49, 54, 50, 54, 51, 54, 52, 54, 53, 54, 54, 54, 55, 54, 56, 54, 57, 55, 48, 55, 49, 55, 50, 55, 51, 55, 52, 55, 53, 55, 54, 55, 55, 55, 56, 55, 57, 56, 48, 56, 49, 56, 50, 56, 51, 56, 52, 56, 53, 56, 54, 56, 55, 56, 56, 56, 57, 57, 48, 57, 49, 57, 50, 57, 51, 57, 52, 57, 53, 57, 54, 57, 55, 57, 56, 57, 57] : List UInt8).drop p3.1).take (p3.2 - p3.1)))
/- internal_strconv_bool2_int -/
def f_internal_strconv_bool2_int (a0 : Bool) : Option Int :=
 if a0 then (
  some (1 : Int))
 else (
  some (0 : Int))
/- internal_strconv_isPowerOfTwo -/
def f_internal_strconv_isPowerOfTwo (a0 : Int) : Option Bool :=
 some ((bitsV .and .i64 a0 (IntKind.i64.wrap (a0 - (1 : Int)))) == (0 : Int))
/- internal_strconv_lower -/
def f_internal_strconv_lower (a0 : Int) : Option Int :=
 some (bitsV .or .u8 a0 (32 : Int))
/- internal_strconv_underscoreOK -/
def f_internal_strconv_underscoreOK_7 (v7 : List UInt8) (v25 : Int) (k_internal_strconv_underscoreOK_5 : Int → Int → Bool → Option Bool) (v46 : Int) (v47 : Bool) : Option Bool :=
 k_internal_strconv_underscoreOK_5 v46 (IntKind.i64.wrap (v25 + (1 : Int))) v47
def f_internal_strconv_underscoreOK_6 (v7 : List UInt8) (v24 : Int) (v25 : Int) (k_internal_strconv_underscoreOK_5 : Int → Int → Bool → Option Bool) (v41 : Bool) : Option Bool :=
 (ix v7 v25).bind fun b42 =>
 if ((b42.toNat : Int) == (95 : Int)) then (
  if (v24 != (48 : Int)) then (
   some false)
  else (
   f_internal_strconv_underscoreOK_7 v7 v25 k_internal_strconv_underscoreOK_5 (95 : Int) v41))
 else (
  if (v24 == (95 : Int)) then (
   some false)
  else (
   f_internal_strconv_underscoreOK_7 v7 v25 k_internal_strconv_underscoreOK_5 (33 : Int) v41))
def f_internal_strconv_underscoreOK_5 (v7 : List UInt8) : Nat → Int → Int → Bool → Option Bool
 | 0, _, _, _ => none
 | n + 1, v24, v25, v26 =>
  if (decide (v25 < (v7.length : Int))) then (
   (ix v7 v25).bind fun b28 =>
   if (decide ((48 : Int) ≤ (b28.toNat : Int))) then (
    if (decide ((b28.toNat : Int) ≤ (57 : Int))) then (
     f_internal_strconv_underscoreOK_7 v7 v25 (f_internal_strconv_underscoreOK_5 v7 n) (48 : Int) v26)
    else (
     if v26 then (
      (f_internal_strconv_lower (b28.toNat : Int)).bind fun r32 =>
      if (decide ((97 : Int) ≤ r32)) then (
       (f_internal_strconv_lower (b28.toNat : Int)).bind fun r34 =>
       if (decide (r34 ≤ (102 : Int))) then (
        f_internal_strconv_underscoreOK_7 v7 v25 (f_internal_strconv_underscoreOK_5 v7 n) (48 : Int) true)
       else (
        f_internal_strconv_underscoreOK_6 v7 v24 v25 (f_internal_strconv_underscoreOK_5 v7 n) true))
      else (
       f_internal_strconv_underscoreOK_6 v7 v24 v25 (f_internal_strconv_underscoreOK_5 v7 n) true))
     else (
      f_internal_strconv_underscoreOK_6 v7 v24 v25 (f_internal_strconv_underscoreOK_5 v7 n) false)))
   else (
    if v26 then (
     (f_internal_strconv_lower (b28.toNat : Int)).bind fun r36 =>
     if (decide ((97 : Int) ≤ r36)) then (
      (f_internal_strconv_lower (b28.toNat : Int)).bind fun r38 =>
      if (decide (r38 ≤ (102 : Int))) then (
       f_internal_strconv_underscoreOK_7 v7 v25 (f_internal_strconv_underscoreOK_5 v7 n) (48 : Int) true)
      else (
       f_internal_strconv_underscoreOK_6 v7 v24 v25 (f_internal_strconv_underscoreOK_5 v7 n) true))
     else (
      f_internal_strconv_underscoreOK_6 v7 v24 v25 (f_internal_strconv_underscoreOK_5 v7 n) true))
    else (
     f_internal_strconv_underscoreOK_6 v7 v24 v25 (f_internal_strconv_underscoreOK_5 v7 n) false)))
  else (
   some (v24 != (95 : Int)))
def f_internal_strconv_underscoreOK_4 (v7 : List UInt8) (v21 : Int) (v22 : Int) (v23 : Bool) : Option Bool :=
 f_internal_strconv_underscoreOK_5 v7 bigN v21 v22 v23
def f_internal_strconv_underscoreOK_3 (v7 : List UInt8) (v17 : Bool) : Option Bool :=
 if v17 then (
  (ix v7 (1 : Int)).bind fun b19 =>
  (f_internal_strconv_lower (b19.toNat : Int)).bind fun r20 =>
  f_internal_strconv_underscoreOK_4 v7 (48 : Int) (2 : Int) (r20 == (120 : Int)))
 else (
  f_internal_strconv_underscoreOK_4 v7 (94 : Int) (0 : Int) false)
def f_internal_strconv_underscoreOK_2 (v7 : List UInt8) : Option Bool :=
 if (decide ((2 : Int) ≤ (v7.length : Int))) then (
  (ix v7 (0 : Int)).bind fun b9 =>
  if ((b9.toNat : Int) == (48 : Int)) then (
   (ix v7 (1 : Int)).bind fun b11 =>
   (f_internal_strconv_lower (b11.toNat : Int)).bind fun r12 =>
   if (r12 == (98 : Int)) then (
    f_internal_strconv_underscoreOK_3 v7 true)
   else (
    (f_internal_strconv_lower (b11.toNat : Int)).bind fun r14 =>
    if (r14 == (111 : Int)) then (
     f_internal_strconv_underscoreOK_3 v7 true)
    else (
     (f_internal_strconv_lower (b11.toNat : Int)).bind fun r16 =>
     f_internal_strconv_underscoreOK_3 v7 (r16 == (120 : Int)))))
  else (
   f_internal_strconv_underscoreOK_3 v7 false))
 else (
  f_internal_strconv_underscoreOK_3 v7 false)
def f_internal_strconv_underscoreOK_1 (a0 : List UInt8) (v4 : Bool) : Option Bool :=
 if v4 then (
  (bnd (a0.length : Int) (a0.length : Int) (1 : Int) a0.length).bind fun p6 =>
  f_internal_strconv_underscoreOK_2 ((a0.drop p6.1).take (p6.2 - p6.1)))
 else (
  f_internal_strconv_underscoreOK_2 a0)
def f_internal_strconv_underscoreOK (a0 : List UInt8) : Option Bool :=
 if (decide ((1 : Int) ≤ (a0.length : Int))) then (
  (ix a0 (0 : Int)).bind fun b2 =>
  if ((b2.toNat : Int) == (45 : Int)) then (
   f_internal_strconv_underscoreOK_1 a0 true)
  else (
   f_internal_strconv_underscoreOK_1 a0 ((b2.toNat : Int) == (43 : Int))))
 else (
  f_internal_strconv_underscoreOK_1 a0 false)
end Go.Vi
