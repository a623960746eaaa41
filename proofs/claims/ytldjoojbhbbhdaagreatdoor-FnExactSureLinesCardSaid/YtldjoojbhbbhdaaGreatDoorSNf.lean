/-
  Plain definitions of functions, by program. No condition.
-/
import Derived.Test.YtldjoojbhbbhdaaGreatDoorSVi32
import Derived.Test.YtldjoojbhbbhdaaGreatDoorSLa
namespace Go.Vi
set_option linter.unusedSimpArgs false
set_option linter.unusedVariables false
structure XAny where
  isS : Bool
  s : List UInt8
  n : Int
  deriving DecidableEq
def anyD (x : XAny) : D := .ifc (bif x.isS then 9 else 3) (bif x.isS then .str x.s else .int .i64 x.n)
theorem any_t {t : TypeId} {zc : AC} {x : XAny} : tassV t zc (.v (.sc (.dat (anyD x)))) = tassV t zc (.v (.sc (.dat (.ifc (bif x.isS then 9 else 3) (bif x.isS then .str x.s else .int .i64 x.n))))) := rfl
def rA (x : XAny) : List D := [anyD x]
theorem rA_eq (x : XAny) : rA x = [anyD x] := rfl
instance : Row rA 1 := ⟨fun _ => rfl, Nat.le_of_ble_eq_true rfl⟩
structure XPart where
  Amp : Int
  Period : Int
  Phase : Int
  deriving DecidableEq
def XPart.row (x : XPart) : List D := [.int .i64 x.Amp, .int .i64 x.Period, .int .i64 x.Phase]
theorem XPart.row_eq (x : XPart) : XPart.row x = [.int .i64 x.Amp, .int .i64 x.Period, .int .i64 x.Phase] := rfl
instance : Row XPart.row 3 := ⟨fun _ => rfl, Nat.le_of_ble_eq_true rfl⟩
instance : FlatRow XPart.row := ⟨fun x d hd => by simp only [XPart.row_eq, List.mem_cons, List.not_mem_nil, or_false] at hd; rcases hd with rfl | rfl | rfl <;> rfl⟩
instance : OfTy (.st [(.int .i64), (.int .i64), (.int .i64)]) XPart.row := ⟨fun ds h => by
  obtain ⟨a0, b0, h0, t0, rfl⟩ := h
  obtain ⟨a1, b1, h1, t1, rfl⟩ := t0
  obtain ⟨a2, b2, h2, t2, rfl⟩ := t1
  obtain rfl := t2
  obtain ⟨x0, rfl⟩ := OfTy.of (row := rI) _ h0
  obtain ⟨x1, rfl⟩ := OfTy.of (row := rI) _ h1
  obtain ⟨x2, rfl⟩ := OfTy.of (row := rI) _ h2
  exact ⟨⟨x0, x1, x2⟩, rfl⟩⟩
structure XTide where
  Mean : Int
  Parts : List XPart
  deriving DecidableEq
def XTide.row (x : XTide) : List D := [.int .i64 x.Mean, .sl (List.map XPart.row x.Parts)]
theorem XTide.row_eq (x : XTide) : XTide.row x = [.int .i64 x.Mean, .sl (List.map XPart.row x.Parts)] := rfl
instance : Row XTide.row 2 := ⟨fun _ => rfl, Nat.le_of_ble_eq_true rfl⟩
instance : OfTy (.st [(.int .i64), (.sl (.st [(.int .i64), (.int .i64), (.int .i64)]))]) XTide.row := ⟨fun ds h => by
  obtain ⟨a0, b0, h0, t0, rfl⟩ := h
  obtain ⟨a1, b1, h1, t1, rfl⟩ := t0
  obtain rfl := t1
  obtain ⟨x0, rfl⟩ := OfTy.of (row := rI) _ h0
  obtain ⟨x1, rfl⟩ := OfTy.of (row := (rL XPart.row)) _ h1
  exact ⟨⟨x0, x1⟩, rfl⟩⟩
structure XSurge where
  From : Int
  Low : Int
  High : Int
  deriving DecidableEq
def XSurge.row (x : XSurge) : List D := [.int .i64 x.From, .int .i64 x.Low, .int .i64 x.High]
theorem XSurge.row_eq (x : XSurge) : XSurge.row x = [.int .i64 x.From, .int .i64 x.Low, .int .i64 x.High] := rfl
instance : Row XSurge.row 3 := ⟨fun _ => rfl, Nat.le_of_ble_eq_true rfl⟩
instance : FlatRow XSurge.row := ⟨fun x d hd => by simp only [XSurge.row_eq, List.mem_cons, List.not_mem_nil, or_false] at hd; rcases hd with rfl | rfl | rfl <;> rfl⟩
instance : OfTy (.st [(.int .i64), (.int .i64), (.int .i64)]) XSurge.row := ⟨fun ds h => by
  obtain ⟨a0, b0, h0, t0, rfl⟩ := h
  obtain ⟨a1, b1, h1, t1, rfl⟩ := t0
  obtain ⟨a2, b2, h2, t2, rfl⟩ := t1
  obtain rfl := t2
  obtain ⟨x0, rfl⟩ := OfTy.of (row := rI) _ h0
  obtain ⟨x1, rfl⟩ := OfTy.of (row := rI) _ h1
  obtain ⟨x2, rfl⟩ := OfTy.of (row := rI) _ h2
  exact ⟨⟨x0, x1, x2⟩, rfl⟩⟩
structure XForecast where
  Tide : XTide
  Surges : List XSurge
  deriving DecidableEq
def XForecast.row (x : XForecast) : List D := [.int .i64 x.Tide.Mean, .sl (List.map XPart.row x.Tide.Parts), .sl (List.map XSurge.row x.Surges)]
theorem XForecast.row_eq (x : XForecast) : XForecast.row x = [.int .i64 x.Tide.Mean, .sl (List.map XPart.row x.Tide.Parts), .sl (List.map XSurge.row x.Surges)] := rfl
instance : Row XForecast.row 3 := ⟨fun _ => rfl, Nat.le_of_ble_eq_true rfl⟩
instance : OfTy (.st [(.st [(.int .i64), (.sl (.st [(.int .i64), (.int .i64), (.int .i64)]))]), (.sl (.st [(.int .i64), (.int .i64), (.int .i64)]))]) XForecast.row := ⟨fun ds h => by
  obtain ⟨a0, b0, h0, t0, rfl⟩ := h
  obtain ⟨a1, b1, h1, t1, rfl⟩ := t0
  obtain rfl := t1
  obtain ⟨x0, rfl⟩ := OfTy.of (row := XTide.row) _ h0
  obtain ⟨x1, rfl⟩ := OfTy.of (row := (rL XSurge.row)) _ h1
  exact ⟨⟨x0, x1⟩, rfl⟩⟩
structure XPoint where
  Name : List UInt8
  Wait : Bool
  deriving DecidableEq
def XPoint.row (x : XPoint) : List D := [.str x.Name, .bool x.Wait]
theorem XPoint.row_eq (x : XPoint) : XPoint.row x = [.str x.Name, .bool x.Wait] := rfl
instance : Row XPoint.row 2 := ⟨fun _ => rfl, Nat.le_of_ble_eq_true rfl⟩
instance : FlatRow XPoint.row := ⟨fun x d hd => by simp only [XPoint.row_eq, List.mem_cons, List.not_mem_nil, or_false] at hd; rcases hd with rfl | rfl <;> rfl⟩
instance : OfTy (.st [.str, .bool]) XPoint.row := ⟨fun ds h => by
  obtain ⟨a0, b0, h0, t0, rfl⟩ := h
  obtain ⟨a1, b1, h1, t1, rfl⟩ := t0
  obtain rfl := t1
  obtain ⟨x0, rfl⟩ := OfTy.of (row := rS) _ h0
  obtain ⟨x1, rfl⟩ := OfTy.of (row := rB) _ h1
  exact ⟨⟨x0, x1⟩, rfl⟩⟩
structure XSegment where
  A : Int
  B : Int
  Depth : Int
  Minutes : Int
  Meet : Bool
  deriving DecidableEq
def XSegment.row (x : XSegment) : List D := [.int .i64 x.A, .int .i64 x.B, .int .i64 x.Depth, .int .i64 x.Minutes, .bool x.Meet]
theorem XSegment.row_eq (x : XSegment) : XSegment.row x = [.int .i64 x.A, .int .i64 x.B, .int .i64 x.Depth, .int .i64 x.Minutes, .bool x.Meet] := rfl
instance : Row XSegment.row 5 := ⟨fun _ => rfl, Nat.le_of_ble_eq_true rfl⟩
instance : FlatRow XSegment.row := ⟨fun x d hd => by simp only [XSegment.row_eq, List.mem_cons, List.not_mem_nil, or_false] at hd; rcases hd with rfl | rfl | rfl | rfl | rfl <;> rfl⟩
instance : OfTy (.st [(.int .i64), (.int .i64), (.int .i64), (.int .i64), .bool]) XSegment.row := ⟨fun ds h => by
  obtain ⟨a0, b0, h0, t0, rfl⟩ := h
  obtain ⟨a1, b1, h1, t1, rfl⟩ := t0
  obtain ⟨a2, b2, h2, t2, rfl⟩ := t1
  obtain ⟨a3, b3, h3, t3, rfl⟩ := t2
  obtain ⟨a4, b4, h4, t4, rfl⟩ := t3
  obtain rfl := t4
  obtain ⟨x0, rfl⟩ := OfTy.of (row := rI) _ h0
  obtain ⟨x1, rfl⟩ := OfTy.of (row := rI) _ h1
  obtain ⟨x2, rfl⟩ := OfTy.of (row := rI) _ h2
  obtain ⟨x3, rfl⟩ := OfTy.of (row := rI) _ h3
  obtain ⟨x4, rfl⟩ := OfTy.of (row := rB) _ h4
  exact ⟨⟨x0, x1, x2, x3, x4⟩, rfl⟩⟩
structure XChart where
  Points : List XPoint
  Segments : List XSegment
  deriving DecidableEq
def XChart.row (x : XChart) : List D := [.sl (List.map XPoint.row x.Points), .sl (List.map XSegment.row x.Segments)]
theorem XChart.row_eq (x : XChart) : XChart.row x = [.sl (List.map XPoint.row x.Points), .sl (List.map XSegment.row x.Segments)] := rfl
instance : Row XChart.row 2 := ⟨fun _ => rfl, Nat.le_of_ble_eq_true rfl⟩
instance : OfTy (.st [(.sl (.st [.str, .bool])), (.sl (.st [(.int .i64), (.int .i64), (.int .i64), (.int .i64), .bool]))]) XChart.row := ⟨fun ds h => by
  obtain ⟨a0, b0, h0, t0, rfl⟩ := h
  obtain ⟨a1, b1, h1, t1, rfl⟩ := t0
  obtain rfl := t1
  obtain ⟨x0, rfl⟩ := OfTy.of (row := (rL XPoint.row)) _ h0
  obtain ⟨x1, rfl⟩ := OfTy.of (row := (rL XSegment.row)) _ h1
  exact ⟨⟨x0, x1⟩, rfl⟩⟩
structure XShip where
  Name : List UInt8
  Length : Int
  Draught : Int
  Line : Int
  Tugs : Int
  Slow : Bool
  deriving DecidableEq
def XShip.row (x : XShip) : List D := [.str x.Name, .int .i64 x.Length, .int .i64 x.Draught, .int .i64 x.Line, .int .i64 x.Tugs, .bool x.Slow]
theorem XShip.row_eq (x : XShip) : XShip.row x = [.str x.Name, .int .i64 x.Length, .int .i64 x.Draught, .int .i64 x.Line, .int .i64 x.Tugs, .bool x.Slow] := rfl
instance : Row XShip.row 6 := ⟨fun _ => rfl, Nat.le_of_ble_eq_true rfl⟩
instance : FlatRow XShip.row := ⟨fun x d hd => by simp only [XShip.row_eq, List.mem_cons, List.not_mem_nil, or_false] at hd; rcases hd with rfl | rfl | rfl | rfl | rfl | rfl <;> rfl⟩
instance : OfTy (.st [.str, (.int .i64), (.int .i64), (.int .i64), (.int .i64), .bool]) XShip.row := ⟨fun ds h => by
  obtain ⟨a0, b0, h0, t0, rfl⟩ := h
  obtain ⟨a1, b1, h1, t1, rfl⟩ := t0
  obtain ⟨a2, b2, h2, t2, rfl⟩ := t1
  obtain ⟨a3, b3, h3, t3, rfl⟩ := t2
  obtain ⟨a4, b4, h4, t4, rfl⟩ := t3
  obtain ⟨a5, b5, h5, t5, rfl⟩ := t4
  obtain rfl := t5
  obtain ⟨x0, rfl⟩ := OfTy.of (row := rS) _ h0
  obtain ⟨x1, rfl⟩ := OfTy.of (row := rI) _ h1
  obtain ⟨x2, rfl⟩ := OfTy.of (row := rI) _ h2
  obtain ⟨x3, rfl⟩ := OfTy.of (row := rI) _ h3
  obtain ⟨x4, rfl⟩ := OfTy.of (row := rI) _ h4
  obtain ⟨x5, rfl⟩ := OfTy.of (row := rB) _ h5
  exact ⟨⟨x0, x1, x2, x3, x4, x5⟩, rfl⟩⟩
structure XWindow where
  From : Int
  To : Int
  deriving DecidableEq
def XWindow.row (x : XWindow) : List D := [.int .i64 x.From, .int .i64 x.To]
theorem XWindow.row_eq (x : XWindow) : XWindow.row x = [.int .i64 x.From, .int .i64 x.To] := rfl
instance : Row XWindow.row 2 := ⟨fun _ => rfl, Nat.le_of_ble_eq_true rfl⟩
instance : FlatRow XWindow.row := ⟨fun x d hd => by simp only [XWindow.row_eq, List.mem_cons, List.not_mem_nil, or_false] at hd; rcases hd with rfl | rfl <;> rfl⟩
instance : OfTy (.st [(.int .i64), (.int .i64)]) XWindow.row := ⟨fun ds h => by
  obtain ⟨a0, b0, h0, t0, rfl⟩ := h
  obtain ⟨a1, b1, h1, t1, rfl⟩ := t0
  obtain rfl := t1
  obtain ⟨x0, rfl⟩ := OfTy.of (row := rI) _ h0
  obtain ⟨x1, rfl⟩ := OfTy.of (row := rI) _ h1
  exact ⟨⟨x0, x1⟩, rfl⟩⟩
theorem rowsX : type_of% (And.intro @rI_eq (And.intro @any_t (And.intro @rA_eq (And.intro @XPart.row_eq (And.intro @XTide.row_eq (And.intro @XSurge.row_eq (And.intro @XForecast.row_eq (And.intro @XPoint.row_eq (And.intro @XSegment.row_eq (And.intro @XChart.row_eq (And.intro @XShip.row_eq (@XWindow.row_eq)))))))))))) := And.intro @rI_eq (And.intro @any_t (And.intro @rA_eq (And.intro @XPart.row_eq (And.intro @XTide.row_eq (And.intro @XSurge.row_eq (And.intro @XForecast.row_eq (And.intro @XPoint.row_eq (And.intro @XSegment.row_eq (And.intro @XChart.row_eq (And.intro @XShip.row_eq (@XWindow.row_eq)))))))))))
/- laws_szPartS -/
def f_laws_szPartS (a0 : List XPart) (a1 : Int) : Option Int :=
 if (decide ((IntKind.i64.wrap (a1 - (a0.length : Int))) < (0 : Int))) then (
  some (-1 : Int))
 else (
  some (IntKind.i64.wrap (a1 - (a0.length : Int))))
/- laws_szTide -/
def f_laws_szTide (a0 : XTide) (a1 : Int) : Option Int :=
 (f_laws_szPartS a0.Parts a1).bind fun r1 =>
 if (decide (r1 < (0 : Int))) then (
  some (-1 : Int))
 else (
  some r1)
/- laws_szSurgeS -/
def f_laws_szSurgeS (a0 : List XSurge) (a1 : Int) : Option Int :=
 if (decide ((IntKind.i64.wrap (a1 - (a0.length : Int))) < (0 : Int))) then (
  some (-1 : Int))
 else (
  some (IntKind.i64.wrap (a1 - (a0.length : Int))))
/- laws_szForecast -/
def f_laws_szForecast (a0 : XForecast) (a1 : Int) : Option Int :=
 (f_laws_szTide a0.Tide a1).bind fun r1 =>
 if (decide (r1 < (0 : Int))) then (
  some (-1 : Int))
 else (
  (f_laws_szSurgeS a0.Surges r1).bind fun r3 =>
  if (decide (r3 < (0 : Int))) then (
   some (-1 : Int))
  else (
   some r3))
/- laws_szPoint -/
def f_laws_szPoint (a0 : XPoint) (a1 : Int) : Option Int :=
 if (decide ((IntKind.i64.wrap (a1 - (a0.Name.length : Int))) < (0 : Int))) then (
  some (-1 : Int))
 else (
  some (IntKind.i64.wrap (a1 - (a0.Name.length : Int))))
/- laws_szPointS -/
def f_laws_szPointS_1 (a0 : List XPoint) : Nat → Int → Int → Option Int
 | 0, _, _ => none
 | n + 1, v2, v3 =>
  if (decide (v3 < (a0.length : Int))) then (
   (ix a0 v3).bind fun x5 =>
   (f_laws_szPoint x5 v2).bind fun r6 =>
   if (decide (r6 < (0 : Int))) then (
    some (-1 : Int))
   else (
    f_laws_szPointS_1 a0 n r6 (IntKind.i64.wrap (v3 + (1 : Int)))))
  else (
   some v2)
def f_laws_szPointS (a0 : List XPoint) (a1 : Int) : Option Int :=
 if (decide ((IntKind.i64.wrap (a1 - (a0.length : Int))) < (0 : Int))) then (
  some (-1 : Int))
 else (
  f_laws_szPointS_1 a0 bigN (IntKind.i64.wrap (a1 - (a0.length : Int))) (0 : Int))
/- laws_szSegmentS -/
def f_laws_szSegmentS (a0 : List XSegment) (a1 : Int) : Option Int :=
 if (decide ((IntKind.i64.wrap (a1 - (a0.length : Int))) < (0 : Int))) then (
  some (-1 : Int))
 else (
  some (IntKind.i64.wrap (a1 - (a0.length : Int))))
/- laws_szChart -/
def f_laws_szChart (a0 : XChart) (a1 : Int) : Option Int :=
 (f_laws_szPointS a0.Points a1).bind fun r1 =>
 if (decide (r1 < (0 : Int))) then (
  some (-1 : Int))
 else (
  (f_laws_szSegmentS a0.Segments r1).bind fun r3 =>
  if (decide (r3 < (0 : Int))) then (
   some (-1 : Int))
  else (
   some r3))
/- laws_szShip -/
def f_laws_szShip (a0 : XShip) (a1 : Int) : Option Int :=
 if (decide ((IntKind.i64.wrap (a1 - (a0.Name.length : Int))) < (0 : Int))) then (
  some (-1 : Int))
 else (
  some (IntKind.i64.wrap (a1 - (a0.Name.length : Int))))
/- laws_toPart -/
def f_laws_toPart (a0 : XPart) : Option XPart :=
 some a0
/- laws_toPartS -/
def f_laws_toPartS_1 (a0 : List XPart) : Nat → Int → (List XPart) → Option (List XPart)
 | 0, _, _ => none
 | n + 1, v2, v3 =>
  if (decide (v2 < (a0.length : Int))) then (
   (ix a0 v2).bind fun x5 =>
   (f_laws_toPart x5).bind fun r6 =>
   (ix v3 v2).bind fun x7 =>
   f_laws_toPartS_1 a0 n (IntKind.i64.wrap (v2 + (1 : Int))) (v3.set (Int.toNat v2) r6))
  else (
   some v3)
def f_laws_toPartS (a0 : List XPart) : Option (List XPart) :=
 (mkS (a0.length : Int) (a0.length : Int) 24).bind fun n1 =>
 f_laws_toPartS_1 a0 bigN (0 : Int) (List.replicate n1 (⟨(0 : Int), (0 : Int), (0 : Int)⟩ : XPart))
/- laws_toTide -/
def f_laws_toTide (a0 : XTide) : Option XTide :=
 (f_laws_toPartS a0.Parts).bind fun r1 =>
 some (⟨a0.Mean, r1⟩ : XTide)
/- laws_toSurge -/
def f_laws_toSurge (a0 : XSurge) : Option XSurge :=
 some a0
/- laws_toSurgeS -/
def f_laws_toSurgeS_1 (a0 : List XSurge) : Nat → Int → (List XSurge) → Option (List XSurge)
 | 0, _, _ => none
 | n + 1, v2, v3 =>
  if (decide (v2 < (a0.length : Int))) then (
   (ix a0 v2).bind fun x5 =>
   (f_laws_toSurge x5).bind fun r6 =>
   (ix v3 v2).bind fun x7 =>
   f_laws_toSurgeS_1 a0 n (IntKind.i64.wrap (v2 + (1 : Int))) (v3.set (Int.toNat v2) r6))
  else (
   some v3)
def f_laws_toSurgeS (a0 : List XSurge) : Option (List XSurge) :=
 (mkS (a0.length : Int) (a0.length : Int) 24).bind fun n1 =>
 f_laws_toSurgeS_1 a0 bigN (0 : Int) (List.replicate n1 (⟨(0 : Int), (0 : Int), (0 : Int)⟩ : XSurge))
/- laws_toForecast -/
def f_laws_toForecast (a0 : XForecast) : Option XForecast :=
 (f_laws_toTide a0.Tide).bind fun r1 =>
 (f_laws_toSurgeS a0.Surges).bind fun r2 =>
 some (⟨r1, r2⟩ : XForecast)
/- laws_toPoint -/
def f_laws_toPoint (a0 : XPoint) : Option XPoint :=
 some a0
/- laws_toPointS -/
def f_laws_toPointS_1 (a0 : List XPoint) : Nat → Int → (List XPoint) → Option (List XPoint)
 | 0, _, _ => none
 | n + 1, v2, v3 =>
  if (decide (v2 < (a0.length : Int))) then (
   (ix a0 v2).bind fun x5 =>
   (f_laws_toPoint x5).bind fun r6 =>
   (ix v3 v2).bind fun x7 =>
   f_laws_toPointS_1 a0 n (IntKind.i64.wrap (v2 + (1 : Int))) (v3.set (Int.toNat v2) r6))
  else (
   some v3)
def f_laws_toPointS (a0 : List XPoint) : Option (List XPoint) :=
 (mkS (a0.length : Int) (a0.length : Int) 24).bind fun n1 =>
 f_laws_toPointS_1 a0 bigN (0 : Int) (List.replicate n1 (⟨([] : List UInt8), false⟩ : XPoint))
/- laws_toSegment -/
def f_laws_toSegment (a0 : XSegment) : Option XSegment :=
 some a0
/- laws_toSegmentS -/
def f_laws_toSegmentS_1 (a0 : List XSegment) : Nat → Int → (List XSegment) → Option (List XSegment)
 | 0, _, _ => none
 | n + 1, v2, v3 =>
  if (decide (v2 < (a0.length : Int))) then (
   (ix a0 v2).bind fun x5 =>
   (f_laws_toSegment x5).bind fun r6 =>
   (ix v3 v2).bind fun x7 =>
   f_laws_toSegmentS_1 a0 n (IntKind.i64.wrap (v2 + (1 : Int))) (v3.set (Int.toNat v2) r6))
  else (
   some v3)
def f_laws_toSegmentS (a0 : List XSegment) : Option (List XSegment) :=
 (mkS (a0.length : Int) (a0.length : Int) 40).bind fun n1 =>
 f_laws_toSegmentS_1 a0 bigN (0 : Int) (List.replicate n1 (⟨(0 : Int), (0 : Int), (0 : Int), (0 : Int), false⟩ : XSegment))
/- laws_toChart -/
def f_laws_toChart (a0 : XChart) : Option XChart :=
 (f_laws_toPointS a0.Points).bind fun r1 =>
 (f_laws_toSegmentS a0.Segments).bind fun r2 =>
 some (⟨r1, r2⟩ : XChart)
/- laws_toShip -/
def f_laws_toShip (a0 : XShip) : Option XShip :=
 some a0
/- spec_l01In -/
def f_spec_l01In (a0 : Int) (a1 : Int) (a2 : Int) : Option Bool :=
 if (decide (a1 ≤ a0)) then (
  some (decide (a0 ≤ a2)))
 else (
  some false)
/- spec_PartOk -/
def f_spec_PartOk (a0 : XPart) : Option Bool :=
 (f_spec_l01In a0.Amp (0 : Int) (1000 : Int)).bind fun r1 =>
 if r1 then (
  (f_spec_l01In a0.Period (4 : Int) (2880 : Int)).bind fun r3 =>
  if r3 then (
   if ((IntKind.i64.wrap (Int.tmod a0.Period (4 : Int))) == (0 : Int)) then (
    (f_spec_l01In a0.Phase (0 : Int) (IntKind.i64.wrap (a0.Period - (1 : Int)))).bind fun r6 =>
    some r6)
   else (
    some false))
  else (
   some false))
 else (
  some false)
/- spec_TideOk -/
def f_spec_TideOk_1 (a0 : XTide) : Nat → Int → Option Bool
 | 0, _ => none
 | n + 1, v4 =>
  if (decide (v4 < (a0.Parts.length : Int))) then (
   (ix a0.Parts v4).bind fun x6 =>
   (f_spec_PartOk x6).bind fun r7 =>
   if r7 then (
    f_spec_TideOk_1 a0 n (IntKind.i64.wrap (v4 + (1 : Int))))
   else (
    some false))
  else (
   some true)
def f_spec_TideOk (a0 : XTide) : Option Bool :=
 (f_spec_l01In a0.Mean (-1000 : Int) (1000 : Int)).bind fun r1 =>
 if r1 then (
  if (decide ((4 : Int) < (a0.Parts.length : Int))) then (
   some false)
  else (
   f_spec_TideOk_1 a0 bigN (0 : Int)))
 else (
  some false)
/- spec_SurgeOk -/
def f_spec_SurgeOk (a0 : XSurge) : Option Bool :=
 (f_spec_l01In a0.From (0 : Int) (2880 : Int)).bind fun r1 =>
 if r1 then (
  (f_spec_l01In a0.Low (-500 : Int) (500 : Int)).bind fun r3 =>
  if r3 then (
   (f_spec_l01In a0.High a0.Low (500 : Int)).bind fun r5 =>
   some r5)
  else (
   some false))
 else (
  some false)
/- spec_ForecastOk -/
def f_spec_ForecastOk_1 (a0 : XForecast) : Nat → Int → Option Bool
 | 0, _ => none
 | n + 1, v7 =>
  if (decide (v7 < (a0.Surges.length : Int))) then (
   (ix a0.Surges v7).bind fun x9 =>
   (f_spec_SurgeOk x9).bind fun r10 =>
   if r10 then (
    if (decide ((0 : Int) < v7)) then (
     (ix a0.Surges (IntKind.i64.wrap (v7 - (1 : Int)))).bind fun x13 =>
     if (decide (x9.From ≤ x13.From)) then (
      some false)
     else (
      f_spec_ForecastOk_1 a0 n (IntKind.i64.wrap (v7 + (1 : Int)))))
    else (
     f_spec_ForecastOk_1 a0 n (IntKind.i64.wrap (v7 + (1 : Int)))))
   else (
    some false))
  else (
   some true)
def f_spec_ForecastOk (a0 : XForecast) : Option Bool :=
 (f_spec_TideOk a0.Tide).bind fun r1 =>
 if r1 then (
  (f_spec_l01In (a0.Surges.length : Int) (1 : Int) (6 : Int)).bind fun r3 =>
  if r3 then (
   (ix a0.Surges (0 : Int)).bind fun x5 =>
   if (x5.From != (0 : Int)) then (
    some false)
   else (
    f_spec_ForecastOk_1 a0 bigN (0 : Int)))
  else (
   some false))
 else (
  some false)
/- spec_IsName -/
def f_spec_IsName_3 (a0 : List UInt8) (v1 : Int) (k_spec_IsName_1 : Int → Option Bool) : Option Bool :=
 k_spec_IsName_1 (IntKind.i64.wrap (v1 + (1 : Int)))
def f_spec_IsName_2 (a0 : List UInt8) (v1 : Int) (k_spec_IsName_1 : Int → Option Bool) (v5 : Bool) : Option Bool :=
 if v5 then (
  f_spec_IsName_3 a0 v1 k_spec_IsName_1)
 else (
  if (v1 == (0 : Int)) then (
   some false)
  else (
   (ix a0 v1).bind fun b8 =>
   if (decide ((b8.toNat : Int) < (48 : Int))) then (
    some false)
   else (
    if (decide ((57 : Int) < (b8.toNat : Int))) then (
     some false)
    else (
     f_spec_IsName_3 a0 v1 k_spec_IsName_1))))
def f_spec_IsName_1 (a0 : List UInt8) : Nat → Int → Option Bool
 | 0, _ => none
 | n + 1, v1 =>
  if (decide (v1 < (a0.length : Int))) then (
   (ix a0 v1).bind fun b3 =>
   if (decide ((97 : Int) ≤ (b3.toNat : Int))) then (
    f_spec_IsName_2 a0 v1 (f_spec_IsName_1 a0 n) (decide ((b3.toNat : Int) ≤ (122 : Int))))
   else (
    f_spec_IsName_2 a0 v1 (f_spec_IsName_1 a0 n) false))
  else (
   (f_spec_l01In (a0.length : Int) (1 : Int) (8 : Int)).bind fun r11 =>
   some r11)
def f_spec_IsName (a0 : List UInt8) : Option Bool :=
 f_spec_IsName_1 a0 bigN (0 : Int)
/- spec_PointNamed -/
def f_spec_PointNamed_1 (a1 : List UInt8) (a0 : XChart) : Nat → Int → Option Int
 | 0, _ => none
 | n + 1, v1 =>
  if (decide (v1 < (a0.Points.length : Int))) then (
   (ix a0.Points v1).bind fun x3 =>
   if (x3.Name == a1) then (
    some v1)
   else (
    f_spec_PointNamed_1 a1 a0 n (IntKind.i64.wrap (v1 + (1 : Int)))))
  else (
   some (-1 : Int))
def f_spec_PointNamed (a0 : XChart) (a1 : List UInt8) : Option Int :=
 f_spec_PointNamed_1 a1 a0 bigN (0 : Int)
/- spec_l05Joins -/
def f_spec_l05Joins (a0 : XSegment) (a1 : Int) (a2 : Int) : Option Bool :=
 if (a0.A == a1) then (
  if (a0.B == a2) then (
   some true)
  else (
   if (a0.A == a2) then (
    some (a0.B == a1))
   else (
    some false)))
 else (
  if (a0.A == a2) then (
   some (a0.B == a1))
  else (
   some false))
/- spec_ChartOk -/
def f_spec_ChartOk_3 (a0 : XChart) (v10 : Int) (x12 : XSegment) (y23 : List XSegment) (y24 : Int) (k_spec_ChartOk_2 : Int → Option Bool) : Nat → Int → Option Bool
 | 0, _ => none
 | n + 1, v25 =>
  if (decide (v25 < y24)) then (
   (ix y23 v25).bind fun x27 =>
   (f_spec_l05Joins x27 x12.A x12.B).bind fun r28 =>
   if r28 then (
    some false)
   else (
    f_spec_ChartOk_3 a0 v10 x12 y23 y24 k_spec_ChartOk_2 n (IntKind.i64.wrap (v25 + (1 : Int)))))
  else (
   k_spec_ChartOk_2 (IntKind.i64.wrap (v10 + (1 : Int))))
def f_spec_ChartOk_2 (a0 : XChart) : Nat → Int → Option Bool
 | 0, _ => none
 | n + 1, v10 =>
  if (decide (v10 < (a0.Segments.length : Int))) then (
   (ix a0.Segments v10).bind fun x12 =>
   (f_spec_l01In x12.A (0 : Int) (IntKind.i64.wrap ((a0.Points.length : Int) - (1 : Int)))).bind fun r13 =>
   if r13 then (
    (f_spec_l01In x12.B (0 : Int) (IntKind.i64.wrap ((a0.Points.length : Int) - (1 : Int)))).bind fun r15 =>
    if r15 then (
     if (x12.A == x12.B) then (
      some false)
     else (
      (f_spec_l01In x12.Depth (0 : Int) (3000 : Int)).bind fun r18 =>
      if r18 then (
       (f_spec_l01In x12.Minutes (1 : Int) (240 : Int)).bind fun r20 =>
       if r20 then (
        (bnd (a0.Segments.length : Int) v10 (0 : Int) a0.Segments.length).bind fun p22 =>
        f_spec_ChartOk_3 a0 v10 x12 ((a0.Segments.drop p22.1).take (p22.2 - p22.1)) (((a0.Segments.drop p22.1).take (p22.2 - p22.1)).length : Int) (f_spec_ChartOk_2 a0 n) bigN (0 : Int))
       else (
        some false))
      else (
       some false)))
    else (
     some false))
   else (
    some false))
  else (
   some true)
def f_spec_ChartOk_1 (a0 : XChart) : Nat → Int → Option Bool
 | 0, _ => none
 | n + 1, v3 =>
  if (decide (v3 < (a0.Points.length : Int))) then (
   (ix a0.Points v3).bind fun x5 =>
   (f_spec_IsName x5.Name).bind fun r6 =>
   if r6 then (
    (f_spec_PointNamed a0 x5.Name).bind fun r8 =>
    if (r8 != v3) then (
     some false)
    else (
     f_spec_ChartOk_1 a0 n (IntKind.i64.wrap (v3 + (1 : Int)))))
   else (
    some false))
  else (
   f_spec_ChartOk_2 a0 bigN (0 : Int))
def f_spec_ChartOk (a0 : XChart) : Option Bool :=
 if (decide ((8 : Int) < (a0.Points.length : Int))) then (
  some false)
 else (
  if (decide ((10 : Int) < (a0.Segments.length : Int))) then (
   some false)
  else (
   f_spec_ChartOk_1 a0 bigN (0 : Int)))
/- spec_ShipOk -/
def f_spec_ShipOk (a0 : XShip) : Option Bool :=
 (f_spec_IsName a0.Name).bind fun r1 =>
 if r1 then (
  (f_spec_l01In a0.Length (10 : Int) (400 : Int)).bind fun r3 =>
  if r3 then (
   (f_spec_l01In a0.Draught (100 : Int) (2000 : Int)).bind fun r5 =>
   if r5 then (
    (f_spec_l01In a0.Line (0 : Int) (3 : Int)).bind fun r7 =>
    if r7 then (
     (f_spec_l01In a0.Tugs (0 : Int) (4 : Int)).bind fun r9 =>
     some r9)
    else (
     some false))
   else (
    some false))
  else (
   some false))
 else (
  some false)
/- spec_l07Ok -/
def f_spec_l07Ok (a0 : XChart) (a1 : Int) (a2 : XShip) : Option Bool :=
 (f_spec_ChartOk a0).bind fun r1 =>
 if r1 then (
  (f_spec_ShipOk a2).bind fun r3 =>
  if r3 then (
   (f_spec_l01In a1 (0 : Int) (IntKind.i64.wrap ((a0.Segments.length : Int) - (1 : Int)))).bind fun r5 =>
   some r5)
  else (
   some false))
 else (
  some false)
/- spec_SquatOf -/
def f_spec_SquatOf (a0 : XShip) : Option Int :=
 (f_spec_ShipOk a0).bind fun r1 =>
 if r1 then (
  if a0.Slow then (
   some (IntKind.i64.wrap (Int.tdiv a0.Draught (50 : Int))))
  else (
   some (IntKind.i64.wrap (Int.tdiv a0.Draught (20 : Int)))))
 else (
  some (0 : Int))
/- spec_NeedOf -/
def f_spec_NeedOf (a0 : XShip) : Option Int :=
 (f_spec_ShipOk a0).bind fun r1 =>
 if r1 then (
  (f_spec_SquatOf a0).bind fun r3 =>
  some (IntKind.i64.wrap ((IntKind.i64.wrap (a0.Draught + r3)) + (50 : Int))))
 else (
  some (0 : Int))
/- spec_LevelFor -/
def f_spec_LevelFor (a0 : XChart) (a1 : Int) (a2 : XShip) : Option Int :=
 (f_spec_l07Ok a0 a1 a2).bind fun r1 =>
 if r1 then (
  (f_spec_NeedOf a2).bind fun r3 =>
  (ix a0.Segments a1).bind fun x4 =>
  some (IntKind.i64.wrap (r3 - x4.Depth)))
 else (
  some (0 : Int))
/- spec_l03Surge -/
def f_spec_l03Surge_1 (a1 : Int) (a0 : XForecast) : Nat → Int → Int → Int → Int → Option XSurge
 | 0, _, _, _, _ => none
 | n + 1, v2, v3, v4, v5 =>
  if (decide (v2 < (a0.Surges.length : Int))) then (
   (ix a0.Surges v2).bind fun x7 =>
   if (decide (x7.From ≤ a1)) then (
    f_spec_l03Surge_1 a1 a0 n (IntKind.i64.wrap (v2 + (1 : Int))) x7.From x7.Low x7.High)
   else (
    f_spec_l03Surge_1 a1 a0 n (IntKind.i64.wrap (v2 + (1 : Int))) v3 v4 v5))
  else (
   some (⟨v3, v4, v5⟩ : XSurge))
def f_spec_l03Surge (a0 : XForecast) (a1 : Int) : Option XSurge :=
 (ix a0.Surges (0 : Int)).bind fun x1 =>
 f_spec_l03Surge_1 a1 a0 bigN (0 : Int) x1.From x1.Low x1.High
/- spec_Wave -/
def f_spec_Wave_1 (a1 : Int) (v6 : Int) : Option Int :=
 if (decide (v6 < (IntKind.i64.wrap (Int.tdiv a1 (2 : Int))))) then (
  if (IntKind.i64.wrap ((IntKind.i64.wrap (Int.tdiv a1 (2 : Int))) * (IntKind.i64.wrap (Int.tdiv a1 (2 : Int))))) == 0 then none else
  some (IntKind.i64.wrap (Int.tdiv (IntKind.i64.wrap ((IntKind.i64.wrap ((40000 : Int) * v6)) * (IntKind.i64.wrap ((IntKind.i64.wrap (Int.tdiv a1 (2 : Int))) - v6)))) (IntKind.i64.wrap ((IntKind.i64.wrap (Int.tdiv a1 (2 : Int))) * (IntKind.i64.wrap (Int.tdiv a1 (2 : Int))))))))
 else (
  if (IntKind.i64.wrap ((IntKind.i64.wrap (Int.tdiv a1 (2 : Int))) * (IntKind.i64.wrap (Int.tdiv a1 (2 : Int))))) == 0 then none else
  some (IntKind.i64.wrap (0 - (IntKind.i64.wrap (Int.tdiv (IntKind.i64.wrap ((IntKind.i64.wrap ((40000 : Int) * (IntKind.i64.wrap (v6 - (IntKind.i64.wrap (Int.tdiv a1 (2 : Int))))))) * (IntKind.i64.wrap ((IntKind.i64.wrap (Int.tdiv a1 (2 : Int))) - (IntKind.i64.wrap (v6 - (IntKind.i64.wrap (Int.tdiv a1 (2 : Int))))))))) (IntKind.i64.wrap ((IntKind.i64.wrap (Int.tdiv a1 (2 : Int))) * (IntKind.i64.wrap (Int.tdiv a1 (2 : Int))))))))))
def f_spec_Wave (a0 : Int) (a1 : Int) : Option Int :=
 if (decide (a1 < (4 : Int))) then (
  some (0 : Int))
 else (
  if (decide ((2880 : Int) < a1)) then (
   some (0 : Int))
  else (
   if ((IntKind.i64.wrap (Int.tmod a1 (4 : Int))) != (0 : Int)) then (
    some (0 : Int))
   else (
    if a1 == 0 then none else
    if (decide ((IntKind.i64.wrap (Int.tmod a0 a1)) < (0 : Int))) then (
     f_spec_Wave_1 a1 (IntKind.i64.wrap ((IntKind.i64.wrap (Int.tmod a0 a1)) + a1)))
    else (
     f_spec_Wave_1 a1 (IntKind.i64.wrap (Int.tmod a0 a1))))))
/- spec_l02Level -/
def f_spec_l02Level_1 (a1 : Int) (a0 : XTide) : Nat → Int → Int → Option Int
 | 0, _, _ => none
 | n + 1, v1, v2 =>
  if (decide (v2 < (a0.Parts.length : Int))) then (
   (ix a0.Parts v2).bind fun x4 =>
   (f_spec_Wave (IntKind.i64.wrap (a1 + x4.Phase)) x4.Period).bind fun r5 =>
   f_spec_l02Level_1 a1 a0 n (IntKind.i64.wrap (v1 + (IntKind.i64.wrap (Int.tdiv (IntKind.i64.wrap (x4.Amp * r5)) (10000 : Int))))) (IntKind.i64.wrap (v2 + (1 : Int))))
  else (
   some v1)
def f_spec_l02Level (a0 : XTide) (a1 : Int) : Option Int :=
 f_spec_l02Level_1 a1 a0 bigN a0.Mean (0 : Int)
/- spec_l04Of -/
def f_spec_l04Of_2 (v1 : Int) (a0 : List Bool) (v2 : List XWindow) (k_spec_l04Of_1 : Int → (List XWindow) → Option (List XWindow)) (v8 : Bool) : Option (List XWindow) :=
 if v8 then (
  (ix v2 (IntKind.i64.wrap ((v2.length : Int) - (1 : Int)))).bind fun x10 =>
  k_spec_l04Of_1 (IntKind.i64.wrap (v1 + (1 : Int))) (v2.set (Int.toNat (IntKind.i64.wrap ((v2.length : Int) - (1 : Int)))) (⟨x10.From, v1⟩ : XWindow)))
 else (
  if appB v2.length ([(⟨v1, v1⟩ : XWindow)] : List XWindow).length 16 then (
   k_spec_l04Of_1 (IntKind.i64.wrap (v1 + (1 : Int))) (v2 ++ ([(⟨v1, v1⟩ : XWindow)] : List XWindow)))
  else none)
def f_spec_l04Of_1 (a0 : List Bool) : Nat → Int → (List XWindow) → Option (List XWindow)
 | 0, _, _ => none
 | n + 1, v1, v2 =>
  if (decide (v1 < (a0.length : Int))) then (
   (ix a0 v1).bind fun x4 =>
   if x4 then (
    if (decide ((0 : Int) < (v2.length : Int))) then (
     (ix v2 (IntKind.i64.wrap ((v2.length : Int) - (1 : Int)))).bind fun x7 =>
     f_spec_l04Of_2 v1 a0 v2 (f_spec_l04Of_1 a0 n) (x7.To == (IntKind.i64.wrap (v1 - (1 : Int)))))
    else (
     f_spec_l04Of_2 v1 a0 v2 (f_spec_l04Of_1 a0 n) false))
   else (
    f_spec_l04Of_1 a0 n (IntKind.i64.wrap (v1 + (1 : Int))) v2))
  else (
   some v2)
def f_spec_l04Of (a0 : List Bool) : Option (List XWindow) :=
 f_spec_l04Of_1 a0 bigN (0 : Int) ([] : List XWindow)
/- spec_l04Levels -/
def f_spec_l04Levels_2 (a1 : Int) (v2 : Int) (a0 : XForecast) (v3 : List Bool) (k_spec_l04Levels_1 : Bool → Int → (List Bool) → Option (List XWindow)) (v7 : Bool) (v8 : Int) : Option (List XWindow) :=
 (f_spec_l02Level a0.Tide v2).bind fun r9 =>
 if appB v3.length ([(decide (a1 ≤ (IntKind.i64.wrap (r9 + v8))))] : List Bool).length 1 then (
  k_spec_l04Levels_1 v7 (IntKind.i64.wrap (v2 + (1 : Int))) (v3 ++ ([(decide (a1 ≤ (IntKind.i64.wrap (r9 + v8))))] : List Bool)))
 else none
def f_spec_l04Levels_1 (a1 : Int) (a0 : XForecast) : Nat → Bool → Int → (List Bool) → Option (List XWindow)
 | 0, _, _, _ => none
 | n + 1, v1, v2, v3 =>
  if (decide (v2 ≤ (2880 : Int))) then (
   (f_spec_l03Surge a0 v2).bind fun r5 =>
   if v1 then (
    f_spec_l04Levels_2 a1 v2 a0 v3 (f_spec_l04Levels_1 a1 a0 n) true r5.High)
   else (
    f_spec_l04Levels_2 a1 v2 a0 v3 (f_spec_l04Levels_1 a1 a0 n) false r5.Low))
  else (
   (f_spec_l04Of v3).bind fun r11 =>
   some r11)
def f_spec_l04Levels (a0 : XForecast) (a1 : Int) (a2 : Bool) : Option (List XWindow) :=
 f_spec_l04Levels_1 a1 a0 bigN a2 (0 : Int) ([] : List Bool)
/- spec_l06Minutes -/
def f_spec_l06Minutes (a0 : XSegment) (a1 : XShip) : Option Int :=
 if a1.Slow then (
  some (IntKind.i64.wrap ((2 : Int) * a0.Minutes)))
 else (
  some a0.Minutes)
/- spec_MinutesOn -/
def f_spec_MinutesOn (a0 : XChart) (a1 : Int) (a2 : XShip) : Option Int :=
 (f_spec_ChartOk a0).bind fun r1 =>
 if r1 then (
  (f_spec_ShipOk a2).bind fun r3 =>
  if r3 then (
   (f_spec_l01In a1 (0 : Int) (IntKind.i64.wrap ((a0.Segments.length : Int) - (1 : Int)))).bind fun r5 =>
   if r5 then (
    (ix a0.Segments a1).bind fun x7 =>
    (f_spec_l06Minutes x7 a2).bind fun r8 =>
    some r8)
   else (
    some (0 : Int)))
  else (
   some (0 : Int)))
 else (
  some (0 : Int))
/- spec_WindowsOk -/
def f_spec_WindowsOk_1 (a0 : List XWindow) : Nat → Int → Option Bool
 | 0, _ => none
 | n + 1, v1 =>
  if (decide (v1 < (a0.length : Int))) then (
   (ix a0 v1).bind fun x3 =>
   (f_spec_l01In x3.From (0 : Int) (2880 : Int)).bind fun r4 =>
   if r4 then (
    (f_spec_l01In x3.To x3.From (2880 : Int)).bind fun r6 =>
    if r6 then (
     if (decide ((0 : Int) < v1)) then (
      (ix a0 (IntKind.i64.wrap (v1 - (1 : Int)))).bind fun x9 =>
      if (decide (x3.From ≤ (IntKind.i64.wrap (x9.To + (1 : Int))))) then (
       some false)
      else (
       f_spec_WindowsOk_1 a0 n (IntKind.i64.wrap (v1 + (1 : Int)))))
     else (
      f_spec_WindowsOk_1 a0 n (IntKind.i64.wrap (v1 + (1 : Int)))))
    else (
     some false))
   else (
    some false))
  else (
   some true)
def f_spec_WindowsOk (a0 : List XWindow) : Option Bool :=
 f_spec_WindowsOk_1 a0 bigN (0 : Int)
/- spec_ShrinkWindows -/
def f_spec_ShrinkWindows_1 (a1 : Int) (a0 : List XWindow) : Nat → Int → (List XWindow) → Option (List XWindow)
 | 0, _, _ => none
 | n + 1, v5, v6 =>
  if (decide (v5 < (a0.length : Int))) then (
   (ix a0 v5).bind fun x8 =>
   if (decide (a1 ≤ (IntKind.i64.wrap (x8.To - x8.From)))) then (
    if appB v6.length ([(⟨x8.From, (IntKind.i64.wrap (x8.To - a1))⟩ : XWindow)] : List XWindow).length 16 then (
     f_spec_ShrinkWindows_1 a1 a0 n (IntKind.i64.wrap (v5 + (1 : Int))) (v6 ++ ([(⟨x8.From, (IntKind.i64.wrap (x8.To - a1))⟩ : XWindow)] : List XWindow)))
    else none)
   else (
    f_spec_ShrinkWindows_1 a1 a0 n (IntKind.i64.wrap (v5 + (1 : Int))) v6))
  else (
   some v6)
def f_spec_ShrinkWindows (a0 : List XWindow) (a1 : Int) : Option (List XWindow) :=
 (f_spec_WindowsOk a0).bind fun r1 =>
 if r1 then (
  (f_spec_l01In a1 (0 : Int) (2880 : Int)).bind fun r3 =>
  if r3 then (
   f_spec_ShrinkWindows_1 a1 a0 bigN (0 : Int) ([] : List XWindow))
  else (
   some ([] : List XWindow)))
 else (
  some ([] : List XWindow))
/- spec_l07Starts -/
def f_spec_l07Starts (a0 : XForecast) (a1 : XChart) (a2 : Int) (a3 : XShip) (a4 : Bool) : Option (List XWindow) :=
 (f_spec_ForecastOk a0).bind fun r1 =>
 if r1 then (
  (f_spec_l07Ok a1 a2 a3).bind fun r3 =>
  if r3 then (
   (f_spec_LevelFor a1 a2 a3).bind fun r5 =>
   (f_spec_l04Levels a0 r5 a4).bind fun r6 =>
   (f_spec_MinutesOn a1 a2 a3).bind fun r7 =>
   (f_spec_ShrinkWindows r6 r7).bind fun r8 =>
   some r8)
  else (
   some ([] : List XWindow)))
 else (
  some ([] : List XWindow))
/- spec_SureStarts -/
def f_spec_SureStarts (a0 : XForecast) (a1 : XChart) (a2 : Int) (a3 : XShip) : Option (List XWindow) :=
 (f_spec_l07Starts a0 a1 a2 a3 false).bind fun r1 =>
 some r1
/- spec_FormatInt -/
def f_spec_FormatInt_1 (rec_ : Int → Option (List UInt8)) : Nat → Int → (List UInt8) → Option (List UInt8)
 | 0, _, _ => none
 | n + 1, v6, v7 =>
  if (decide ((9 : Int) < v6)) then (
   if catB ([(IntKind.u8.wrap (IntKind.i64.wrap ((48 : Int) + (IntKind.i64.wrap (Int.tmod v6 (10 : Int))))))] : List Int).length v7.length then (
    f_spec_FormatInt_1 rec_ n (IntKind.i64.wrap (Int.tdiv v6 (10 : Int))) ((List.map toU8 ([(IntKind.u8.wrap (IntKind.i64.wrap ((48 : Int) + (IntKind.i64.wrap (Int.tmod v6 (10 : Int))))))] : List Int)) ++ v7))
   else none)
  else (
   if catB ([(IntKind.u8.wrap (IntKind.i64.wrap ((48 : Int) + v6)))] : List Int).length v7.length then (
    some ((List.map toU8 ([(IntKind.u8.wrap (IntKind.i64.wrap ((48 : Int) + v6)))] : List Int)) ++ v7))
   else none)
def f_spec_FormatInt_b (rec_ : Int → Option (List UInt8)) (a0 : Int) : Option (List UInt8) :=
 if (decide (a0 < (0 : Int))) then (
  if ((IntKind.i64.wrap (Int.tdiv a0 (10 : Int))) == (0 : Int)) then (
   if catB ([45] : List UInt8).length ([(IntKind.u8.wrap (IntKind.i64.wrap ((48 : Int) - a0)))] : List Int).length then (
    some (([45] : List UInt8) ++ (List.map toU8 ([(IntKind.u8.wrap (IntKind.i64.wrap ((48 : Int) - a0)))] : List Int))))
   else none)
  else (
   (rec_ (IntKind.i64.wrap (Int.tdiv a0 (10 : Int)))).bind fun r4 =>
   if catB r4.length ([(IntKind.u8.wrap (IntKind.i64.wrap ((48 : Int) - (IntKind.i64.wrap (Int.tmod a0 (10 : Int))))))] : List Int).length then (
    some (r4 ++ (List.map toU8 ([(IntKind.u8.wrap (IntKind.i64.wrap ((48 : Int) - (IntKind.i64.wrap (Int.tmod a0 (10 : Int))))))] : List Int))))
   else none))
 else (
  f_spec_FormatInt_1 rec_ bigN a0 ([] : List UInt8))
def f_spec_FormatInt_r : Nat → Int → Option (List UInt8)
 | 0, _ => none
 | n + 1, a0 => f_spec_FormatInt_b (f_spec_FormatInt_r n) a0
def f_spec_FormatInt (a0 : Int) : Option (List UInt8) := f_spec_FormatInt_r bigN a0
/- spec_Join -/
def f_spec_Join_2 (a1 : List UInt8) (x4 : List UInt8) (a0 : List (List UInt8)) (v2 : Int) (k_spec_Join_1 : (List UInt8) → Int → Option (List UInt8)) (v7 : List UInt8) : Option (List UInt8) :=
 if catB v7.length x4.length then (
  k_spec_Join_1 (v7 ++ x4) (IntKind.i64.wrap (v2 + (1 : Int))))
 else none
def f_spec_Join_1 (a1 : List UInt8) (a0 : List (List UInt8)) : Nat → (List UInt8) → Int → Option (List UInt8)
 | 0, _, _ => none
 | n + 1, v1, v2 =>
  if (decide (v2 < (a0.length : Int))) then (
   (ix a0 v2).bind fun x4 =>
   if (decide ((0 : Int) < v2)) then (
    if catB v1.length a1.length then (
     f_spec_Join_2 a1 x4 a0 v2 (f_spec_Join_1 a1 a0 n) (v1 ++ a1))
    else none)
   else (
    f_spec_Join_2 a1 x4 a0 v2 (f_spec_Join_1 a1 a0 n) v1))
  else (
   some v1)
def f_spec_Join (a0 : List (List UInt8)) (a1 : List UInt8) : Option (List UInt8) :=
 f_spec_Join_1 a1 a0 bigN ([] : List UInt8) (0 : Int)
/- spec_FormatWindows -/
def f_spec_FormatWindows_1 (a0 : List XWindow) : Nat → Int → (List (List UInt8)) → Option (List UInt8)
 | 0, _, _ => none
 | n + 1, v3, v4 =>
  if (decide (v3 < (a0.length : Int))) then (
   (ix a0 v3).bind fun x6 =>
   (f_spec_FormatInt x6.From).bind fun r7 =>
   if catB r7.length ([45] : List UInt8).length then (
    (f_spec_FormatInt x6.To).bind fun r9 =>
    if catB (r7 ++ ([45] : List UInt8)).length r9.length then (
     if appB v4.length ([((r7 ++ ([45] : List UInt8)) ++ r9)] : List (List UInt8)).length 16 then (
      f_spec_FormatWindows_1 a0 n (IntKind.i64.wrap (v3 + (1 : Int))) (v4 ++ ([((r7 ++ ([45] : List UInt8)) ++ r9)] : List (List UInt8))))
     else none)
    else none)
   else none)
  else (
   if ((v4.length : Int) == (0 : Int)) then (
    some ([110, 111, 110, 101] : List UInt8))
   else (
    (f_spec_Join v4 ([32] : List UInt8)).bind fun r13 =>
    some r13))
def f_spec_FormatWindows (a0 : List XWindow) : Option (List UInt8) :=
 (f_spec_WindowsOk a0).bind fun r1 =>
 if r1 then (
  f_spec_FormatWindows_1 a0 bigN (0 : Int) ([] : List (List UInt8)))
 else (
  some ([] : List UInt8))
/- spec_SureLines -/
def f_spec_SureLines_1 (a1 : XChart) (a0 : XForecast) (a2 : XShip) : Nat → Int → (List (List UInt8)) → Option (List (List UInt8))
 | 0, _, _ => none
 | n + 1, v7, v8 =>
  if (decide (v7 < (a1.Segments.length : Int))) then (
   (ix a1.Segments v7).bind fun x10 =>
   (ix a1.Points x10.A).bind fun x11 =>
   if catB x11.Name.length ([45] : List UInt8).length then (
    (ix a1.Points x10.B).bind fun x13 =>
    if catB (x11.Name ++ ([45] : List UInt8)).length x13.Name.length then (
     if catB ((x11.Name ++ ([45] : List UInt8)) ++ x13.Name).length ([32] : List UInt8).length then (
      (f_spec_SureStarts a0 a1 v7 a2).bind fun r16 =>
      (f_spec_FormatWindows r16).bind fun r17 =>
      if catB (((x11.Name ++ ([45] : List UInt8)) ++ x13.Name) ++ ([32] : List UInt8)).length r17.length then (
       if appB v8.length ([((((x11.Name ++ ([45] : List UInt8)) ++ x13.Name) ++ ([32] : List UInt8)) ++ r17)] : List (List UInt8)).length 16 then (
        f_spec_SureLines_1 a1 a0 a2 n (IntKind.i64.wrap (v7 + (1 : Int))) (v8 ++ ([((((x11.Name ++ ([45] : List UInt8)) ++ x13.Name) ++ ([32] : List UInt8)) ++ r17)] : List (List UInt8))))
       else none)
      else none)
     else none)
    else none)
   else none)
  else (
   some v8)
def f_spec_SureLines (a0 : XForecast) (a1 : XChart) (a2 : XShip) : Option (List (List UInt8)) :=
 (f_spec_ForecastOk a0).bind fun r1 =>
 if r1 then (
  (f_spec_ChartOk a1).bind fun r3 =>
  if r3 then (
   (f_spec_ShipOk a2).bind fun r5 =>
   if r5 then (
    f_spec_SureLines_1 a1 a0 a2 bigN (0 : Int) ([] : List (List UInt8)))
   else (
    some ([] : List (List UInt8))))
  else (
   some ([] : List (List UInt8))))
 else (
  some ([] : List (List UInt8)))
/- impl_within -/
def f_impl_within (a0 : Int) (a1 : Int) (a2 : Int) : Option Bool :=
 if (decide (a1 ≤ a0)) then (
  some (decide (a0 ≤ a2)))
 else (
  some false)
/- impl_isPeriod -/
def f_impl_isPeriod (a0 : Int) : Option Bool :=
 (f_impl_within a0 (4 : Int) (2880 : Int)).bind fun r1 =>
 if r1 then (
  some ((IntKind.i64.wrap (Int.tmod a0 (4 : Int))) == (0 : Int)))
 else (
  some false)
/- impl_PartOk -/
def f_impl_PartOk (a0 : XPart) : Option Bool :=
 (f_impl_within a0.Amp (0 : Int) (1000 : Int)).bind fun r1 =>
 if r1 then (
  (f_impl_isPeriod a0.Period).bind fun r3 =>
  if r3 then (
   (f_impl_within a0.Phase (0 : Int) (IntKind.i64.wrap (a0.Period - (1 : Int)))).bind fun r5 =>
   some r5)
  else (
   some false))
 else (
  some false)
/- impl_TideOk -/
def f_impl_TideOk_1 (a0 : XTide) : Nat → Int → Option Bool
 | 0, _ => none
 | n + 1, v4 =>
  if (decide (v4 < (a0.Parts.length : Int))) then (
   (ix a0.Parts v4).bind fun x6 =>
   (f_impl_PartOk x6).bind fun r7 =>
   if r7 then (
    f_impl_TideOk_1 a0 n (IntKind.i64.wrap (v4 + (1 : Int))))
   else (
    some false))
  else (
   some true)
def f_impl_TideOk (a0 : XTide) : Option Bool :=
 (f_impl_within a0.Mean (-1000 : Int) (1000 : Int)).bind fun r1 =>
 if r1 then (
  if (decide ((4 : Int) < (a0.Parts.length : Int))) then (
   some false)
  else (
   f_impl_TideOk_1 a0 bigN (0 : Int)))
 else (
  some false)
/- impl_isMinute -/
def f_impl_isMinute (a0 : Int) : Option Bool :=
 (f_impl_within a0 (0 : Int) (2880 : Int)).bind fun r1 =>
 some r1
/- impl_SurgeOk -/
def f_impl_SurgeOk (a0 : XSurge) : Option Bool :=
 (f_impl_isMinute a0.From).bind fun r1 =>
 if r1 then (
  if (decide ((-500 : Int) ≤ a0.Low)) then (
   if (decide (a0.Low ≤ a0.High)) then (
    some (decide (a0.High ≤ (500 : Int))))
   else (
    some false))
  else (
   some false))
 else (
  some false)
/- impl_ForecastOk -/
def f_impl_ForecastOk_1 (a0 : XForecast) : Nat → Int → Option Bool
 | 0, _ => none
 | n + 1, v7 =>
  if (decide (v7 < (a0.Surges.length : Int))) then (
   (ix a0.Surges v7).bind fun x9 =>
   (f_impl_SurgeOk x9).bind fun r10 =>
   if r10 then (
    if (decide ((0 : Int) < v7)) then (
     (ix a0.Surges (IntKind.i64.wrap (v7 - (1 : Int)))).bind fun x13 =>
     if (decide (x9.From ≤ x13.From)) then (
      some false)
     else (
      f_impl_ForecastOk_1 a0 n (IntKind.i64.wrap (v7 + (1 : Int)))))
    else (
     f_impl_ForecastOk_1 a0 n (IntKind.i64.wrap (v7 + (1 : Int)))))
   else (
    some false))
  else (
   some true)
def f_impl_ForecastOk (a0 : XForecast) : Option Bool :=
 (f_impl_TideOk a0.Tide).bind fun r1 =>
 if r1 then (
  (f_impl_within (a0.Surges.length : Int) (1 : Int) (6 : Int)).bind fun r3 =>
  if r3 then (
   (ix a0.Surges (0 : Int)).bind fun x5 =>
   if (x5.From != (0 : Int)) then (
    some false)
   else (
    f_impl_ForecastOk_1 a0 bigN (0 : Int)))
  else (
   some false))
 else (
  some false)
/- impl_IsName -/
def f_impl_IsName_3 (a0 : List UInt8) (v3 : Int) (k_impl_IsName_1 : Int → Option Bool) : Option Bool :=
 k_impl_IsName_1 (IntKind.i64.wrap (v3 + (1 : Int)))
def f_impl_IsName_2 (a0 : List UInt8) (v3 : Int) (k_impl_IsName_1 : Int → Option Bool) (v7 : Bool) : Option Bool :=
 if v7 then (
  f_impl_IsName_3 a0 v3 k_impl_IsName_1)
 else (
  if (v3 == (0 : Int)) then (
   some false)
  else (
   (ix a0 v3).bind fun b10 =>
   if (decide ((b10.toNat : Int) < (48 : Int))) then (
    some false)
   else (
    if (decide ((57 : Int) < (b10.toNat : Int))) then (
     some false)
    else (
     f_impl_IsName_3 a0 v3 k_impl_IsName_1))))
def f_impl_IsName_1 (a0 : List UInt8) : Nat → Int → Option Bool
 | 0, _ => none
 | n + 1, v3 =>
  if (decide (v3 < (a0.length : Int))) then (
   (ix a0 v3).bind fun b5 =>
   if (decide ((97 : Int) ≤ (b5.toNat : Int))) then (
    f_impl_IsName_2 a0 v3 (f_impl_IsName_1 a0 n) (decide ((b5.toNat : Int) ≤ (122 : Int))))
   else (
    f_impl_IsName_2 a0 v3 (f_impl_IsName_1 a0 n) false))
  else (
   some true)
def f_impl_IsName (a0 : List UInt8) : Option Bool :=
 (f_impl_within (a0.length : Int) (1 : Int) (8 : Int)).bind fun r1 =>
 if r1 then (
  f_impl_IsName_1 a0 bigN (0 : Int))
 else (
  some false)
/- impl_PointNamed -/
def f_impl_PointNamed_1 (a1 : List UInt8) (a0 : XChart) : Nat → Int → Option Int
 | 0, _ => none
 | n + 1, v1 =>
  if (decide (v1 < (a0.Points.length : Int))) then (
   (ix a0.Points v1).bind fun x3 =>
   if (x3.Name == a1) then (
    some v1)
   else (
    f_impl_PointNamed_1 a1 a0 n (IntKind.i64.wrap (v1 + (1 : Int)))))
  else (
   some (-1 : Int))
def f_impl_PointNamed (a0 : XChart) (a1 : List UInt8) : Option Int :=
 f_impl_PointNamed_1 a1 a0 bigN (0 : Int)
/- impl_isIndex -/
def f_impl_isIndex (a0 : Int) (a1 : Int) : Option Bool :=
 if (decide ((0 : Int) ≤ a0)) then (
  some (decide (a0 < a1)))
 else (
  some false)
/- impl_Segment_joins -/
def f_impl_Segment_joins (a0 : XSegment) (a1 : Int) (a2 : Int) : Option Bool :=
 if (a0.A == a1) then (
  if (a0.B == a2) then (
   some true)
  else (
   if (a0.A == a2) then (
    some (a0.B == a1))
   else (
    some false)))
 else (
  if (a0.A == a2) then (
   some (a0.B == a1))
  else (
   some false))
/- impl_ChartOk -/
def f_impl_ChartOk_3 (a0 : XChart) (v10 : Int) (x12 : XSegment) (y23 : List XSegment) (y24 : Int) (k_impl_ChartOk_2 : Int → Option Bool) : Nat → Int → Option Bool
 | 0, _ => none
 | n + 1, v25 =>
  if (decide (v25 < y24)) then (
   (ix y23 v25).bind fun x27 =>
   (f_impl_Segment_joins x27 x12.A x12.B).bind fun r28 =>
   if r28 then (
    some false)
   else (
    f_impl_ChartOk_3 a0 v10 x12 y23 y24 k_impl_ChartOk_2 n (IntKind.i64.wrap (v25 + (1 : Int)))))
  else (
   k_impl_ChartOk_2 (IntKind.i64.wrap (v10 + (1 : Int))))
def f_impl_ChartOk_2 (a0 : XChart) : Nat → Int → Option Bool
 | 0, _ => none
 | n + 1, v10 =>
  if (decide (v10 < (a0.Segments.length : Int))) then (
   (ix a0.Segments v10).bind fun x12 =>
   (f_impl_isIndex x12.A (a0.Points.length : Int)).bind fun r13 =>
   if r13 then (
    (f_impl_isIndex x12.B (a0.Points.length : Int)).bind fun r15 =>
    if r15 then (
     if (x12.A == x12.B) then (
      some false)
     else (
      (f_impl_within x12.Depth (0 : Int) (3000 : Int)).bind fun r18 =>
      if r18 then (
       (f_impl_within x12.Minutes (1 : Int) (240 : Int)).bind fun r20 =>
       if r20 then (
        (bnd (a0.Segments.length : Int) v10 (0 : Int) a0.Segments.length).bind fun p22 =>
        f_impl_ChartOk_3 a0 v10 x12 ((a0.Segments.drop p22.1).take (p22.2 - p22.1)) (((a0.Segments.drop p22.1).take (p22.2 - p22.1)).length : Int) (f_impl_ChartOk_2 a0 n) bigN (0 : Int))
       else (
        some false))
      else (
       some false)))
    else (
     some false))
   else (
    some false))
  else (
   some true)
def f_impl_ChartOk_1 (a0 : XChart) : Nat → Int → Option Bool
 | 0, _ => none
 | n + 1, v3 =>
  if (decide (v3 < (a0.Points.length : Int))) then (
   (ix a0.Points v3).bind fun x5 =>
   (f_impl_IsName x5.Name).bind fun r6 =>
   if r6 then (
    (f_impl_PointNamed a0 x5.Name).bind fun r8 =>
    if (r8 != v3) then (
     some false)
    else (
     f_impl_ChartOk_1 a0 n (IntKind.i64.wrap (v3 + (1 : Int)))))
   else (
    some false))
  else (
   f_impl_ChartOk_2 a0 bigN (0 : Int))
def f_impl_ChartOk (a0 : XChart) : Option Bool :=
 if (decide ((8 : Int) < (a0.Points.length : Int))) then (
  some false)
 else (
  if (decide ((10 : Int) < (a0.Segments.length : Int))) then (
   some false)
  else (
   f_impl_ChartOk_1 a0 bigN (0 : Int)))
/- impl_ShipOk -/
def f_impl_ShipOk (a0 : XShip) : Option Bool :=
 (f_impl_IsName a0.Name).bind fun r1 =>
 if r1 then (
  (f_impl_within a0.Length (10 : Int) (400 : Int)).bind fun r3 =>
  if r3 then (
   (f_impl_within a0.Draught (100 : Int) (2000 : Int)).bind fun r5 =>
   if r5 then (
    (f_impl_isIndex a0.Line (4 : Int)).bind fun r7 =>
    if r7 then (
     (f_impl_within a0.Tugs (0 : Int) (4 : Int)).bind fun r9 =>
     some r9)
    else (
     some false))
   else (
    some false))
  else (
   some false))
 else (
  some false)
/- impl_onSegment -/
def f_impl_onSegment (a0 : XChart) (a1 : Int) (a2 : XShip) : Option Bool :=
 (f_impl_ChartOk a0).bind fun r1 =>
 if r1 then (
  (f_impl_ShipOk a2).bind fun r3 =>
  if r3 then (
   (f_impl_isIndex a1 (a0.Segments.length : Int)).bind fun r5 =>
   some r5)
  else (
   some false))
 else (
  some false)
/- impl_Ship_squat -/
def f_impl_Ship_squat (a0 : XShip) : Option Int :=
 if a0.Slow then (
  some (IntKind.i64.wrap (Int.tdiv a0.Draught (50 : Int))))
 else (
  some (IntKind.i64.wrap (Int.tdiv a0.Draught (20 : Int))))
/- impl_Ship_need -/
def f_impl_Ship_need (a0 : XShip) : Option Int :=
 (f_impl_Ship_squat a0).bind fun r1 =>
 some (IntKind.i64.wrap ((IntKind.i64.wrap (a0.Draught + r1)) + (50 : Int)))
/- impl_LevelFor -/
def f_impl_LevelFor (a0 : XChart) (a1 : Int) (a2 : XShip) : Option Int :=
 (f_impl_onSegment a0 a1 a2).bind fun r1 =>
 if r1 then (
  (f_impl_Ship_need a2).bind fun r3 =>
  (ix a0.Segments a1).bind fun x4 =>
  some (IntKind.i64.wrap (r3 - x4.Depth)))
 else (
  some (0 : Int))
/- impl_windowsOf -/
def f_impl_windowsOf_3 (a0 : Int → Option Bool) (v2 : Int) (k_impl_windowsOf_1 : Bool → Int → (List XWindow) → Option (List XWindow)) (v11 : Bool) (v12 : List XWindow) : Option (List XWindow) :=
 k_impl_windowsOf_1 v11 (IntKind.i64.wrap (v2 + (1 : Int))) v12
def f_impl_windowsOf_2 (a0 : Int → Option Bool) (v2 : Int) (k_impl_windowsOf_1 : Bool → Int → (List XWindow) → Option (List XWindow)) (v9 : List XWindow) : Option (List XWindow) :=
 (ix v9 (IntKind.i64.wrap ((v9.length : Int) - (1 : Int)))).bind fun x10 =>
 f_impl_windowsOf_3 a0 v2 k_impl_windowsOf_1 true (v9.set (Int.toNat (IntKind.i64.wrap ((v9.length : Int) - (1 : Int)))) (⟨x10.From, v2⟩ : XWindow))
def f_impl_windowsOf_1 (a0 : Int → Option Bool) : Nat → Bool → Int → (List XWindow) → Option (List XWindow)
 | 0, _, _, _ => none
 | n + 1, v1, v2, v3 =>
  if (decide (v2 ≤ (2880 : Int))) then (
   (a0 v2).bind fun r5 =>
   if r5 then (
    if v1 then (
     f_impl_windowsOf_2 a0 v2 (f_impl_windowsOf_1 a0 n) v3)
    else (
     if appB v3.length ([(⟨v2, (0 : Int)⟩ : XWindow)] : List XWindow).length 16 then (
      f_impl_windowsOf_2 a0 v2 (f_impl_windowsOf_1 a0 n) (v3 ++ ([(⟨v2, (0 : Int)⟩ : XWindow)] : List XWindow)))
     else none))
   else (
    f_impl_windowsOf_3 a0 v2 (f_impl_windowsOf_1 a0 n) false v3))
  else (
   some v3)
def f_impl_windowsOf (a0 : Int → Option Bool) : Option (List XWindow) :=
 f_impl_windowsOf_1 a0 bigN false (0 : Int) ([] : List XWindow)
/- impl_Wave -/
def f_impl_Wave (a0 : Int) (a1 : Int) : Option Int :=
 (f_impl_isPeriod a1).bind fun r1 =>
 if r1 then (
  if a1 == 0 then none else
  if a1 == 0 then none else
  if (decide ((IntKind.i64.wrap (Int.tdiv a1 (2 : Int))) ≤ (IntKind.i64.wrap (Int.tmod (IntKind.i64.wrap ((IntKind.i64.wrap (Int.tmod a0 a1)) + a1)) a1)))) then (
   if (IntKind.i64.wrap ((IntKind.i64.wrap (Int.tdiv a1 (2 : Int))) * (IntKind.i64.wrap (Int.tdiv a1 (2 : Int))))) == 0 then none else
   some (IntKind.i64.wrap (0 - (IntKind.i64.wrap (Int.tdiv (IntKind.i64.wrap ((IntKind.i64.wrap ((40000 : Int) * (IntKind.i64.wrap ((IntKind.i64.wrap (Int.tmod (IntKind.i64.wrap ((IntKind.i64.wrap (Int.tmod a0 a1)) + a1)) a1)) - (IntKind.i64.wrap (Int.tdiv a1 (2 : Int))))))) * (IntKind.i64.wrap ((IntKind.i64.wrap (Int.tdiv a1 (2 : Int))) - (IntKind.i64.wrap ((IntKind.i64.wrap (Int.tmod (IntKind.i64.wrap ((IntKind.i64.wrap (Int.tmod a0 a1)) + a1)) a1)) - (IntKind.i64.wrap (Int.tdiv a1 (2 : Int))))))))) (IntKind.i64.wrap ((IntKind.i64.wrap (Int.tdiv a1 (2 : Int))) * (IntKind.i64.wrap (Int.tdiv a1 (2 : Int))))))))))
  else (
   if (IntKind.i64.wrap ((IntKind.i64.wrap (Int.tdiv a1 (2 : Int))) * (IntKind.i64.wrap (Int.tdiv a1 (2 : Int))))) == 0 then none else
   some (IntKind.i64.wrap (Int.tdiv (IntKind.i64.wrap ((IntKind.i64.wrap ((40000 : Int) * (IntKind.i64.wrap (Int.tmod (IntKind.i64.wrap ((IntKind.i64.wrap (Int.tmod a0 a1)) + a1)) a1)))) * (IntKind.i64.wrap ((IntKind.i64.wrap (Int.tdiv a1 (2 : Int))) - (IntKind.i64.wrap (Int.tmod (IntKind.i64.wrap ((IntKind.i64.wrap (Int.tmod a0 a1)) + a1)) a1)))))) (IntKind.i64.wrap ((IntKind.i64.wrap (Int.tdiv a1 (2 : Int))) * (IntKind.i64.wrap (Int.tdiv a1 (2 : Int)))))))))
 else (
  some (0 : Int))
/- impl_Tide_level -/
def f_impl_Tide_level_1 (a1 : Int) (a0 : XTide) : Nat → Int → Int → Option Int
 | 0, _, _ => none
 | n + 1, v1, v2 =>
  if (decide (v2 < (a0.Parts.length : Int))) then (
   (ix a0.Parts v2).bind fun x4 =>
   (f_impl_Wave (IntKind.i64.wrap (a1 + x4.Phase)) x4.Period).bind fun r5 =>
   f_impl_Tide_level_1 a1 a0 n (IntKind.i64.wrap (v1 + (IntKind.i64.wrap (Int.tdiv (IntKind.i64.wrap (x4.Amp * r5)) (10000 : Int))))) (IntKind.i64.wrap (v2 + (1 : Int))))
  else (
   some v1)
def f_impl_Tide_level (a0 : XTide) (a1 : Int) : Option Int :=
 f_impl_Tide_level_1 a1 a0 bigN a0.Mean (0 : Int)
/- impl_Forecast_surge -/
def f_impl_Forecast_surge_1 (a1 : Int) (a0 : XForecast) : Nat → Int → Int → Option Int
 | 0, _, _ => none
 | n + 1, v1, v2 =>
  if (decide (v2 < (a0.Surges.length : Int))) then (
   (ix a0.Surges v2).bind fun x4 =>
   if (decide (x4.From ≤ a1)) then (
    f_impl_Forecast_surge_1 a1 a0 n v2 (IntKind.i64.wrap (v2 + (1 : Int))))
   else (
    f_impl_Forecast_surge_1 a1 a0 n v1 (IntKind.i64.wrap (v2 + (1 : Int)))))
  else (
   some v1)
def f_impl_Forecast_surge (a0 : XForecast) (a1 : Int) : Option Int :=
 f_impl_Forecast_surge_1 a1 a0 bigN (0 : Int) (0 : Int)
/- impl_Forecast_low -/
def f_impl_Forecast_low (a0 : XForecast) (a1 : Int) : Option Int :=
 (f_impl_Tide_level a0.Tide a1).bind fun r1 =>
 (f_impl_Forecast_surge a0 a1).bind fun r2 =>
 (ix a0.Surges r2).bind fun x3 =>
 some (IntKind.i64.wrap (r1 + x3.Low))
/- impl_LowWindows_1 -/
def f_impl_LowWindows_1 (a0 : Int) (c0 : XForecast) (c1 : Int) : Option Bool :=
 (f_impl_Forecast_low c0 a0).bind fun r1 =>
 some (decide (c1 ≤ r1))
/- impl_LowWindows -/
def f_impl_LowWindows (a0 : XForecast) (a1 : Int) : Option (List XWindow) :=
 (f_impl_ForecastOk a0).bind fun r1 =>
 if r1 then (
  (f_impl_windowsOf (fun z0 => f_impl_LowWindows_1 z0 a0 a1)).bind fun r3 =>
  some r3)
 else (
  some ([] : List XWindow))
/- impl_Ship_minutes -/
def f_impl_Ship_minutes (a0 : XShip) (a1 : XSegment) : Option Int :=
 if a0.Slow then (
  some (IntKind.i64.wrap ((2 : Int) * a1.Minutes)))
 else (
  some a1.Minutes)
/- impl_MinutesOn -/
def f_impl_MinutesOn (a0 : XChart) (a1 : Int) (a2 : XShip) : Option Int :=
 (f_impl_ChartOk a0).bind fun r1 =>
 if r1 then (
  (f_impl_ShipOk a2).bind fun r3 =>
  if r3 then (
   (f_impl_isIndex a1 (a0.Segments.length : Int)).bind fun r5 =>
   if r5 then (
    (ix a0.Segments a1).bind fun x7 =>
    (f_impl_Ship_minutes a2 x7).bind fun r8 =>
    some r8)
   else (
    some (0 : Int)))
  else (
   some (0 : Int)))
 else (
  some (0 : Int))
/- impl_WindowsOk -/
def f_impl_WindowsOk_1 (a0 : List XWindow) : Nat → Int → Option Bool
 | 0, _ => none
 | n + 1, v1 =>
  if (decide (v1 < (a0.length : Int))) then (
   (ix a0 v1).bind fun x3 =>
   if (decide (x3.From < (0 : Int))) then (
    some false)
   else (
    if (decide (x3.To < x3.From)) then (
     some false)
    else (
     if (decide ((2880 : Int) < x3.To)) then (
      some false)
     else (
      if (decide ((0 : Int) < v1)) then (
       (ix a0 (IntKind.i64.wrap (v1 - (1 : Int)))).bind fun x8 =>
       if (decide (x3.From ≤ (IntKind.i64.wrap (x8.To + (1 : Int))))) then (
        some false)
       else (
        f_impl_WindowsOk_1 a0 n (IntKind.i64.wrap (v1 + (1 : Int)))))
      else (
       f_impl_WindowsOk_1 a0 n (IntKind.i64.wrap (v1 + (1 : Int))))))))
  else (
   some true)
def f_impl_WindowsOk (a0 : List XWindow) : Option Bool :=
 f_impl_WindowsOk_1 a0 bigN (0 : Int)
/- impl_ShrinkWindows -/
def f_impl_ShrinkWindows_1 (a1 : Int) (a0 : List XWindow) : Nat → Int → (List XWindow) → Option (List XWindow)
 | 0, _, _ => none
 | n + 1, v5, v6 =>
  if (decide (v5 < (a0.length : Int))) then (
   (ix a0 v5).bind fun x8 =>
   if (decide (a1 ≤ (IntKind.i64.wrap (x8.To - x8.From)))) then (
    if appB v6.length ([(⟨x8.From, (IntKind.i64.wrap (x8.To - a1))⟩ : XWindow)] : List XWindow).length 16 then (
     f_impl_ShrinkWindows_1 a1 a0 n (IntKind.i64.wrap (v5 + (1 : Int))) (v6 ++ ([(⟨x8.From, (IntKind.i64.wrap (x8.To - a1))⟩ : XWindow)] : List XWindow)))
    else none)
   else (
    f_impl_ShrinkWindows_1 a1 a0 n (IntKind.i64.wrap (v5 + (1 : Int))) v6))
  else (
   some v6)
def f_impl_ShrinkWindows (a0 : List XWindow) (a1 : Int) : Option (List XWindow) :=
 (f_impl_WindowsOk a0).bind fun r1 =>
 if r1 then (
  (f_impl_isMinute a1).bind fun r3 =>
  if r3 then (
   f_impl_ShrinkWindows_1 a1 a0 bigN (0 : Int) ([] : List XWindow))
  else (
   some ([] : List XWindow)))
 else (
  some ([] : List XWindow))
/- impl_SureStarts -/
def f_impl_SureStarts (a0 : XForecast) (a1 : XChart) (a2 : Int) (a3 : XShip) : Option (List XWindow) :=
 (f_impl_ForecastOk a0).bind fun r1 =>
 if r1 then (
  (f_impl_onSegment a1 a2 a3).bind fun r3 =>
  if r3 then (
   (f_impl_LevelFor a1 a2 a3).bind fun r5 =>
   (f_impl_LowWindows a0 r5).bind fun r6 =>
   (f_impl_MinutesOn a1 a2 a3).bind fun r7 =>
   (f_impl_ShrinkWindows r6 r7).bind fun r8 =>
   some r8)
  else (
   some ([] : List XWindow)))
 else (
  some ([] : List XWindow))
/- impl_FormatInt -/
def f_impl_FormatInt (a0 : Int) : Option (List UInt8) :=
 (f_strconv_Itoa a0).bind fun r1 =>
 some r1
/- impl_Join -/
def f_impl_Join (a0 : List (List UInt8)) (a1 : List UInt8) : Option (List UInt8) :=
 (f_strings_Join a0 a1).bind fun r1 =>
 some r1
/- impl_FormatWindows -/
def f_impl_FormatWindows_1 (a0 : List XWindow) : Nat → Int → (List (List UInt8)) → Option (List UInt8)
 | 0, _, _ => none
 | n + 1, v4, v5 =>
  if (decide (v4 < (a0.length : Int))) then (
   (ix a0 v4).bind fun x7 =>
   (f_impl_FormatInt x7.From).bind fun r8 =>
   if catB r8.length ([45] : List UInt8).length then (
    (f_impl_FormatInt x7.To).bind fun r10 =>
    if catB (r8 ++ ([45] : List UInt8)).length r10.length then (
     if appB v5.length ([((r8 ++ ([45] : List UInt8)) ++ r10)] : List (List UInt8)).length 16 then (
      f_impl_FormatWindows_1 a0 n (IntKind.i64.wrap (v4 + (1 : Int))) (v5 ++ ([((r8 ++ ([45] : List UInt8)) ++ r10)] : List (List UInt8))))
     else none)
    else none)
   else none)
  else (
   (f_impl_Join v5 ([32] : List UInt8)).bind fun r13 =>
   some r13)
def f_impl_FormatWindows (a0 : List XWindow) : Option (List UInt8) :=
 (f_impl_WindowsOk a0).bind fun r1 =>
 if r1 then (
  if ((a0.length : Int) == (0 : Int)) then (
   some ([110, 111, 110, 101] : List UInt8))
  else (
   f_impl_FormatWindows_1 a0 bigN (0 : Int) ([] : List (List UInt8))))
 else (
  some ([] : List UInt8))
/- impl_word -/
def f_impl_word (a0 : XAny) : Option (List UInt8) :=
 if a0.isS then (
  some a0.s)
 else (
  (f_impl_FormatInt a0.n).bind fun r2 =>
  some r2)
/- impl_words -/
def f_impl_words_1 (a0 : List XAny) : Nat → Int → (List (List UInt8)) → Option (List UInt8)
 | 0, _, _ => none
 | n + 1, v1, v2 =>
  if (decide (v1 < (a0.length : Int))) then (
   (ix a0 v1).bind fun x4 =>
   (f_impl_word x4).bind fun r5 =>
   if appB v2.length ([r5] : List (List UInt8)).length 16 then (
    f_impl_words_1 a0 n (IntKind.i64.wrap (v1 + (1 : Int))) (v2 ++ ([r5] : List (List UInt8))))
   else none)
  else (
   (f_impl_Join v2 ([32] : List UInt8)).bind fun r7 =>
   some r7)
def f_impl_words (a0 : List XAny) : Option (List UInt8) :=
 f_impl_words_1 a0 bigN (0 : Int) ([] : List (List UInt8))
/- impl_SureLines -/
def f_impl_SureLines_1 (a1 : XChart) (a0 : XForecast) (a2 : XShip) : Nat → Int → (List (List UInt8)) → Option (List (List UInt8))
 | 0, _, _ => none
 | n + 1, v7, v8 =>
  if (decide (v7 < (a1.Segments.length : Int))) then (
   (ix a1.Segments v7).bind fun x10 =>
   (ix a1.Points x10.A).bind fun x11 =>
   if catB x11.Name.length ([45] : List UInt8).length then (
    (ix a1.Points x10.B).bind fun x13 =>
    if catB (x11.Name ++ ([45] : List UInt8)).length x13.Name.length then (
     (f_impl_SureStarts a0 a1 v7 a2).bind fun r15 =>
     (f_impl_FormatWindows r15).bind fun r16 =>
     (f_impl_words ([(⟨true, ((x11.Name ++ ([45] : List UInt8)) ++ x13.Name), 0⟩ : XAny), (⟨true, r16, 0⟩ : XAny)] : List XAny)).bind fun r17 =>
     if appB v8.length ([r17] : List (List UInt8)).length 16 then (
      f_impl_SureLines_1 a1 a0 a2 n (IntKind.i64.wrap (v7 + (1 : Int))) (v8 ++ ([r17] : List (List UInt8))))
     else none)
    else none)
   else none)
  else (
   some v8)
def f_impl_SureLines (a0 : XForecast) (a1 : XChart) (a2 : XShip) : Option (List (List UInt8)) :=
 (f_impl_ForecastOk a0).bind fun r1 =>
 if r1 then (
  (f_impl_ChartOk a1).bind fun r3 =>
  if r3 then (
   (f_impl_ShipOk a2).bind fun r5 =>
   if r5 then (
    f_impl_SureLines_1 a1 a0 a2 bigN (0 : Int) ([] : List (List UInt8)))
   else (
    some ([] : List (List UInt8))))
  else (
   some ([] : List (List UInt8))))
 else (
  some ([] : List (List UInt8)))
/- laws_eqStringS -/
def f_laws_eqStringS_1 (a0 : List (List UInt8)) (a1 : List (List UInt8)) : Nat → Int → Option Bool
 | 0, _ => none
 | n + 1, v2 =>
  if (decide (v2 < (a0.length : Int))) then (
   (ix a0 v2).bind fun x4 =>
   (ix a1 v2).bind fun x5 =>
   if (x4 == x5) then (
    f_laws_eqStringS_1 a0 a1 n (IntKind.i64.wrap (v2 + (1 : Int))))
   else (
    some false))
  else (
   some true)
def f_laws_eqStringS (a0 : List (List UInt8)) (a1 : List (List UInt8)) : Option Bool :=
 if ((a0.length : Int) != (a1.length : Int)) then (
  some false)
 else (
  f_laws_eqStringS_1 a0 a1 bigN (0 : Int))
/- laws_eqPart -/
def f_laws_eqPart (a0 : XPart) (a1 : XPart) : Option Bool :=
 if (a0.Amp != a1.Amp) then (
  some false)
 else (
  if (a0.Period != a1.Period) then (
   some false)
  else (
   if (a0.Phase != a1.Phase) then (
    some false)
   else (
    some true)))
/- laws_eqPartS -/
def f_laws_eqPartS_1 (a0 : List XPart) (a1 : List XPart) : Nat → Int → Option Bool
 | 0, _ => none
 | n + 1, v2 =>
  if (decide (v2 < (a0.length : Int))) then (
   (ix a0 v2).bind fun x4 =>
   (ix a1 v2).bind fun x5 =>
   (f_laws_eqPart x4 x5).bind fun r6 =>
   if r6 then (
    f_laws_eqPartS_1 a0 a1 n (IntKind.i64.wrap (v2 + (1 : Int))))
   else (
    some false))
  else (
   some true)
def f_laws_eqPartS (a0 : List XPart) (a1 : List XPart) : Option Bool :=
 if ((a0.length : Int) != (a1.length : Int)) then (
  some false)
 else (
  f_laws_eqPartS_1 a0 a1 bigN (0 : Int))
/- laws_eqTide -/
def f_laws_eqTide (a0 : XTide) (a1 : XTide) : Option Bool :=
 if (a0.Mean != a1.Mean) then (
  some false)
 else (
  (f_laws_eqPartS a0.Parts a1.Parts).bind fun r2 =>
  if r2 then (
   some true)
  else (
   some false))
/- laws_eqSurge -/
def f_laws_eqSurge (a0 : XSurge) (a1 : XSurge) : Option Bool :=
 if (a0.From != a1.From) then (
  some false)
 else (
  if (a0.Low != a1.Low) then (
   some false)
  else (
   if (a0.High != a1.High) then (
    some false)
   else (
    some true)))
/- laws_eqSurgeS -/
def f_laws_eqSurgeS_1 (a0 : List XSurge) (a1 : List XSurge) : Nat → Int → Option Bool
 | 0, _ => none
 | n + 1, v2 =>
  if (decide (v2 < (a0.length : Int))) then (
   (ix a0 v2).bind fun x4 =>
   (ix a1 v2).bind fun x5 =>
   (f_laws_eqSurge x4 x5).bind fun r6 =>
   if r6 then (
    f_laws_eqSurgeS_1 a0 a1 n (IntKind.i64.wrap (v2 + (1 : Int))))
   else (
    some false))
  else (
   some true)
def f_laws_eqSurgeS (a0 : List XSurge) (a1 : List XSurge) : Option Bool :=
 if ((a0.length : Int) != (a1.length : Int)) then (
  some false)
 else (
  f_laws_eqSurgeS_1 a0 a1 bigN (0 : Int))
/- laws_eqForecast -/
def f_laws_eqForecast (a0 : XForecast) (a1 : XForecast) : Option Bool :=
 (f_laws_eqTide a0.Tide a1.Tide).bind fun r1 =>
 if r1 then (
  (f_laws_eqSurgeS a0.Surges a1.Surges).bind fun r3 =>
  if r3 then (
   some true)
  else (
   some false))
 else (
  some false)
/- laws_eqPoint -/
def f_laws_eqPoint (a0 : XPoint) (a1 : XPoint) : Option Bool :=
 if (a0.Name == a1.Name) then (
  if (a0.Wait == a1.Wait) then (
   some true)
  else (
   some false))
 else (
  some false)
/- laws_eqPointS -/
def f_laws_eqPointS_1 (a0 : List XPoint) (a1 : List XPoint) : Nat → Int → Option Bool
 | 0, _ => none
 | n + 1, v2 =>
  if (decide (v2 < (a0.length : Int))) then (
   (ix a0 v2).bind fun x4 =>
   (ix a1 v2).bind fun x5 =>
   (f_laws_eqPoint x4 x5).bind fun r6 =>
   if r6 then (
    f_laws_eqPointS_1 a0 a1 n (IntKind.i64.wrap (v2 + (1 : Int))))
   else (
    some false))
  else (
   some true)
def f_laws_eqPointS (a0 : List XPoint) (a1 : List XPoint) : Option Bool :=
 if ((a0.length : Int) != (a1.length : Int)) then (
  some false)
 else (
  f_laws_eqPointS_1 a0 a1 bigN (0 : Int))
/- laws_eqSegment -/
def f_laws_eqSegment (a0 : XSegment) (a1 : XSegment) : Option Bool :=
 if (a0.A != a1.A) then (
  some false)
 else (
  if (a0.B != a1.B) then (
   some false)
  else (
   if (a0.Depth != a1.Depth) then (
    some false)
   else (
    if (a0.Minutes != a1.Minutes) then (
     some false)
    else (
     if (a0.Meet == a1.Meet) then (
      some true)
     else (
      some false)))))
/- laws_eqSegmentS -/
def f_laws_eqSegmentS_1 (a0 : List XSegment) (a1 : List XSegment) : Nat → Int → Option Bool
 | 0, _ => none
 | n + 1, v2 =>
  if (decide (v2 < (a0.length : Int))) then (
   (ix a0 v2).bind fun x4 =>
   (ix a1 v2).bind fun x5 =>
   (f_laws_eqSegment x4 x5).bind fun r6 =>
   if r6 then (
    f_laws_eqSegmentS_1 a0 a1 n (IntKind.i64.wrap (v2 + (1 : Int))))
   else (
    some false))
  else (
   some true)
def f_laws_eqSegmentS (a0 : List XSegment) (a1 : List XSegment) : Option Bool :=
 if ((a0.length : Int) != (a1.length : Int)) then (
  some false)
 else (
  f_laws_eqSegmentS_1 a0 a1 bigN (0 : Int))
/- laws_eqChart -/
def f_laws_eqChart (a0 : XChart) (a1 : XChart) : Option Bool :=
 (f_laws_eqPointS a0.Points a1.Points).bind fun r1 =>
 if r1 then (
  (f_laws_eqSegmentS a0.Segments a1.Segments).bind fun r3 =>
  if r3 then (
   some true)
  else (
   some false))
 else (
  some false)
/- laws_markPartS -/
def f_laws_markPartS_1 : Nat → Int → Int → (List XPart) → Option (Int × List XPart)
 | 0, _, _, _ => none
 | n + 1, v1, v2, v3 =>
  if (decide (v2 < (v3.length : Int))) then (
   (ix v3 v2).bind fun x5 =>
   (ix (v3.set (Int.toNat v2) (⟨v1, x5.Period, x5.Phase⟩ : XPart)) v2).bind fun x6 =>
   (ix ((v3.set (Int.toNat v2) (⟨v1, x5.Period, x5.Phase⟩ : XPart)).set (Int.toNat v2) (⟨x6.Amp, (IntKind.i64.wrap (v1 + (1 : Int))), x6.Phase⟩ : XPart)) v2).bind fun x7 =>
   f_laws_markPartS_1 n (IntKind.i64.wrap ((IntKind.i64.wrap ((IntKind.i64.wrap (v1 + (1 : Int))) + (1 : Int))) + (1 : Int))) (IntKind.i64.wrap (v2 + (1 : Int))) (((v3.set (Int.toNat v2) (⟨v1, x5.Period, x5.Phase⟩ : XPart)).set (Int.toNat v2) (⟨x6.Amp, (IntKind.i64.wrap (v1 + (1 : Int))), x6.Phase⟩ : XPart)).set (Int.toNat v2) (⟨x7.Amp, x7.Period, (IntKind.i64.wrap ((IntKind.i64.wrap (v1 + (1 : Int))) + (1 : Int)))⟩ : XPart)))
  else (
   some (v1, v3))
def f_laws_markPartS (a0 : List XPart) (a1 : Int) : Option (Int × List XPart) :=
 f_laws_markPartS_1 bigN a1 (0 : Int) a0
/- laws_markTide -/
def f_laws_markTide (a0 : XTide) (a1 : Int) : Option (Int × List XPart) :=
 (f_laws_markPartS a0.Parts a1).bind fun r1 =>
 some (r1.1, r1.2)
/- laws_markSurgeS -/
def f_laws_markSurgeS_1 : Nat → Int → Int → (List XSurge) → Option (Int × List XSurge)
 | 0, _, _, _ => none
 | n + 1, v1, v2, v3 =>
  if (decide (v2 < (v3.length : Int))) then (
   (ix v3 v2).bind fun x5 =>
   (ix (v3.set (Int.toNat v2) (⟨v1, x5.Low, x5.High⟩ : XSurge)) v2).bind fun x6 =>
   (ix ((v3.set (Int.toNat v2) (⟨v1, x5.Low, x5.High⟩ : XSurge)).set (Int.toNat v2) (⟨x6.From, (IntKind.i64.wrap (v1 + (1 : Int))), x6.High⟩ : XSurge)) v2).bind fun x7 =>
   f_laws_markSurgeS_1 n (IntKind.i64.wrap ((IntKind.i64.wrap ((IntKind.i64.wrap (v1 + (1 : Int))) + (1 : Int))) + (1 : Int))) (IntKind.i64.wrap (v2 + (1 : Int))) (((v3.set (Int.toNat v2) (⟨v1, x5.Low, x5.High⟩ : XSurge)).set (Int.toNat v2) (⟨x6.From, (IntKind.i64.wrap (v1 + (1 : Int))), x6.High⟩ : XSurge)).set (Int.toNat v2) (⟨x7.From, x7.Low, (IntKind.i64.wrap ((IntKind.i64.wrap (v1 + (1 : Int))) + (1 : Int)))⟩ : XSurge)))
  else (
   some (v1, v3))
def f_laws_markSurgeS (a0 : List XSurge) (a1 : Int) : Option (Int × List XSurge) :=
 f_laws_markSurgeS_1 bigN a1 (0 : Int) a0
/- laws_markForecast -/
def f_laws_markForecast (a0 : XForecast) (a1 : Int) : Option (Int × List XPart × List XSurge) :=
 (f_laws_markTide a0.Tide a1).bind fun r1 =>
 (f_laws_markSurgeS a0.Surges r1.1).bind fun r2 =>
 some (r2.1, r1.2, r2.2)
/- laws_markText -/
def f_laws_markText_1 : Nat → Int → (List UInt8) → Option (List UInt8)
 | 0, _, _ => none
 | n + 1, v2, v3 =>
  if (decide ((0 : Int) < v2)) then (
   if catB ([(IntKind.u8.wrap (IntKind.i64.wrap ((48 : Int) + (IntKind.i64.wrap (Int.tmod v2 (10 : Int))))))] : List Int).length v3.length then (
    f_laws_markText_1 n (IntKind.i64.wrap (Int.tdiv v2 (10 : Int))) ((List.map toU8 ([(IntKind.u8.wrap (IntKind.i64.wrap ((48 : Int) + (IntKind.i64.wrap (Int.tmod v2 (10 : Int))))))] : List Int)) ++ v3))
   else none)
  else (
   if catB ([109] : List UInt8).length v3.length then (
    some (([109] : List UInt8) ++ v3))
   else none)
def f_laws_markText (a0 : Int) : Option (List UInt8) :=
 if (decide (a0 ≤ (0 : Int))) then (
  some ([109, 48] : List UInt8))
 else (
  f_laws_markText_1 bigN a0 ([] : List UInt8))
/- laws_markPointS -/
def f_laws_markPointS_1 : Nat → Int → Int → (List XPoint) → Option (Int × List XPoint)
 | 0, _, _, _ => none
 | n + 1, v1, v2, v3 =>
  if (decide (v2 < (v3.length : Int))) then (
   (f_laws_markText v1).bind fun r5 =>
   (ix v3 v2).bind fun x6 =>
   (ix (v3.set (Int.toNat v2) (⟨r5, x6.Wait⟩ : XPoint)) v2).bind fun x7 =>
   f_laws_markPointS_1 n (IntKind.i64.wrap ((IntKind.i64.wrap (v1 + (1 : Int))) + (1 : Int))) (IntKind.i64.wrap (v2 + (1 : Int))) ((v3.set (Int.toNat v2) (⟨r5, x6.Wait⟩ : XPoint)).set (Int.toNat v2) (⟨x7.Name, ((IntKind.i64.wrap (Int.tmod (IntKind.i64.wrap (v1 + (1 : Int))) (3 : Int))) == (0 : Int))⟩ : XPoint)))
  else (
   some (v1, v3))
def f_laws_markPointS (a0 : List XPoint) (a1 : Int) : Option (Int × List XPoint) :=
 f_laws_markPointS_1 bigN a1 (0 : Int) a0
/- laws_markSegmentS -/
def f_laws_markSegmentS_1 : Nat → Int → Int → (List XSegment) → Option (Int × List XSegment)
 | 0, _, _, _ => none
 | n + 1, v1, v2, v3 =>
  if (decide (v2 < (v3.length : Int))) then (
   (ix v3 v2).bind fun x5 =>
   (ix (v3.set (Int.toNat v2) (⟨v1, x5.B, x5.Depth, x5.Minutes, x5.Meet⟩ : XSegment)) v2).bind fun x6 =>
   (ix ((v3.set (Int.toNat v2) (⟨v1, x5.B, x5.Depth, x5.Minutes, x5.Meet⟩ : XSegment)).set (Int.toNat v2) (⟨x6.A, (IntKind.i64.wrap (v1 + (1 : Int))), x6.Depth, x6.Minutes, x6.Meet⟩ : XSegment)) v2).bind fun x7 =>
   (ix (((v3.set (Int.toNat v2) (⟨v1, x5.B, x5.Depth, x5.Minutes, x5.Meet⟩ : XSegment)).set (Int.toNat v2) (⟨x6.A, (IntKind.i64.wrap (v1 + (1 : Int))), x6.Depth, x6.Minutes, x6.Meet⟩ : XSegment)).set (Int.toNat v2) (⟨x7.A, x7.B, (IntKind.i64.wrap ((IntKind.i64.wrap (v1 + (1 : Int))) + (1 : Int))), x7.Minutes, x7.Meet⟩ : XSegment)) v2).bind fun x8 =>
   (ix ((((v3.set (Int.toNat v2) (⟨v1, x5.B, x5.Depth, x5.Minutes, x5.Meet⟩ : XSegment)).set (Int.toNat v2) (⟨x6.A, (IntKind.i64.wrap (v1 + (1 : Int))), x6.Depth, x6.Minutes, x6.Meet⟩ : XSegment)).set (Int.toNat v2) (⟨x7.A, x7.B, (IntKind.i64.wrap ((IntKind.i64.wrap (v1 + (1 : Int))) + (1 : Int))), x7.Minutes, x7.Meet⟩ : XSegment)).set (Int.toNat v2) (⟨x8.A, x8.B, x8.Depth, (IntKind.i64.wrap ((IntKind.i64.wrap ((IntKind.i64.wrap (v1 + (1 : Int))) + (1 : Int))) + (1 : Int))), x8.Meet⟩ : XSegment)) v2).bind fun x9 =>
   f_laws_markSegmentS_1 n (IntKind.i64.wrap ((IntKind.i64.wrap ((IntKind.i64.wrap ((IntKind.i64.wrap ((IntKind.i64.wrap (v1 + (1 : Int))) + (1 : Int))) + (1 : Int))) + (1 : Int))) + (1 : Int))) (IntKind.i64.wrap (v2 + (1 : Int))) (((((v3.set (Int.toNat v2) (⟨v1, x5.B, x5.Depth, x5.Minutes, x5.Meet⟩ : XSegment)).set (Int.toNat v2) (⟨x6.A, (IntKind.i64.wrap (v1 + (1 : Int))), x6.Depth, x6.Minutes, x6.Meet⟩ : XSegment)).set (Int.toNat v2) (⟨x7.A, x7.B, (IntKind.i64.wrap ((IntKind.i64.wrap (v1 + (1 : Int))) + (1 : Int))), x7.Minutes, x7.Meet⟩ : XSegment)).set (Int.toNat v2) (⟨x8.A, x8.B, x8.Depth, (IntKind.i64.wrap ((IntKind.i64.wrap ((IntKind.i64.wrap (v1 + (1 : Int))) + (1 : Int))) + (1 : Int))), x8.Meet⟩ : XSegment)).set (Int.toNat v2) (⟨x9.A, x9.B, x9.Depth, x9.Minutes, ((IntKind.i64.wrap (Int.tmod (IntKind.i64.wrap ((IntKind.i64.wrap ((IntKind.i64.wrap ((IntKind.i64.wrap (v1 + (1 : Int))) + (1 : Int))) + (1 : Int))) + (1 : Int))) (3 : Int))) == (0 : Int))⟩ : XSegment)))
  else (
   some (v1, v3))
def f_laws_markSegmentS (a0 : List XSegment) (a1 : Int) : Option (Int × List XSegment) :=
 f_laws_markSegmentS_1 bigN a1 (0 : Int) a0
/- laws_markChart -/
def f_laws_markChart (a0 : XChart) (a1 : Int) : Option (Int × List XPoint × List XSegment) :=
 (f_laws_markPointS a0.Points a1).bind fun r1 =>
 (f_laws_markSegmentS a0.Segments r1.1).bind fun r2 =>
 some (r2.1, r1.2, r2.2)
/- laws_markStringS -/
def f_laws_markStringS_1 : Nat → Int → Int → (List (List UInt8)) → Option (Int × List (List UInt8))
 | 0, _, _, _ => none
 | n + 1, v1, v2, v3 =>
  if (decide (v2 < (v3.length : Int))) then (
   (f_laws_markText v1).bind fun r5 =>
   (ix v3 v2).bind fun x6 =>
   f_laws_markStringS_1 n (IntKind.i64.wrap (v1 + (1 : Int))) (IntKind.i64.wrap (v2 + (1 : Int))) (v3.set (Int.toNat v2) r5))
  else (
   some (v1, v3))
def f_laws_markStringS (a0 : List (List UInt8)) (a1 : Int) : Option (Int × List (List UInt8)) :=
 f_laws_markStringS_1 bigN a1 (0 : Int) a0
/- laws_heldStringS -/
def f_laws_heldStringS_1 (a0 : List (List UInt8)) : Nat → Int → Int → Option Int
 | 0, _, _ => none
 | n + 1, v1, v2 =>
  if (decide (v2 < (a0.length : Int))) then (
   (ix a0 v2).bind fun x4 =>
   (f_laws_markText v1).bind fun r5 =>
   if (x4 == r5) then (
    f_laws_heldStringS_1 a0 n (IntKind.i64.wrap (v1 + (1 : Int))) (IntKind.i64.wrap (v2 + (1 : Int))))
   else (
    some (-1 : Int)))
  else (
   some v1)
def f_laws_heldStringS (a0 : List (List UInt8)) (a1 : Int) : Option Int :=
 f_laws_heldStringS_1 a0 bigN a1 (0 : Int)
/- laws_FnExactSureLines -/
def f_laws_FnExactSureLines (a0 : XForecast) (a1 : XChart) (a2 : XShip) : Option Bool :=
 (f_laws_szForecast a0 (1048576 : Int)).bind fun r1 =>
 if (decide (r1 < (0 : Int))) then (
  some true)
 else (
  (f_laws_szChart a1 r1).bind fun r3 =>
  if (decide (r3 < (0 : Int))) then (
   some true)
  else (
   (f_laws_szShip a2 r3).bind fun r5 =>
   if (decide (r5 < (0 : Int))) then (
    some true)
   else (
    (f_laws_toForecast a0).bind fun r7 =>
    (f_laws_toChart a1).bind fun r8 =>
    (f_laws_toShip a2).bind fun r9 =>
    (f_spec_SureLines r7 r8 r9).bind fun r10 =>
    (f_laws_toForecast a0).bind fun r11 =>
    (f_laws_toChart a1).bind fun r12 =>
    (f_laws_toShip a2).bind fun r13 =>
    (f_impl_SureLines r11 r12 r13).bind fun r14 =>
    (f_laws_eqStringS r14 r10).bind fun r15 =>
    if r15 then (
     (f_laws_toForecast a0).bind fun r17 =>
     (f_laws_eqForecast r11 r17).bind fun r18 =>
     if r18 then (
      (f_laws_toChart a1).bind fun r20 =>
      (f_laws_eqChart r12 r20).bind fun r21 =>
      if r21 then (
       (f_laws_markForecast r11 (1 : Int)).bind fun r23 =>
       (f_laws_markChart r12 r23.1).bind fun r24 =>
       if (decide (r24.1 < (0 : Int))) then (
        some false)
       else (
        (f_laws_eqStringS r14 r10).bind fun r26 =>
        if r26 then (
         (f_laws_markStringS r14 (1 : Int)).bind fun r28 =>
         (f_laws_heldStringS r28.2 (1 : Int)).bind fun r29 =>
         if (decide (r29 < (0 : Int))) then (
          some false)
         else (
          if (r29 != r28.1) then (
           some false)
          else (
           (f_laws_toForecast a0).bind fun r32 =>
           (f_laws_toChart a1).bind fun r33 =>
           (f_laws_toShip a2).bind fun r34 =>
           (f_impl_SureLines r32 r33 r34).bind fun r35 =>
           (f_laws_eqStringS r35 r10).bind fun r36 =>
           if r36 then (
            (f_laws_heldStringS r28.2 (1 : Int)).bind fun r38 =>
            if (decide (r38 < (0 : Int))) then (
             some false)
            else (
             if (r38 != r28.1) then (
              some false)
             else (
              some true)))
           else (
            some false))))
        else (
         some false)))
      else (
       some false))
     else (
      some false))
    else (
     some false))))
end Go.Vi
