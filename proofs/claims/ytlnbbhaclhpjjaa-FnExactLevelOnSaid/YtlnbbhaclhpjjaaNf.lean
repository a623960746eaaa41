/-
  Plain definitions of functions, by program. No condition.
-/
import Derived.Test.YtlnbbhaclhpjjaaVi32
namespace Go.Vi
set_option linter.unusedSimpArgs false
set_option linter.unusedVariables false
structure XPoint where
  Name : List UInt8
  Wait : Bool
  deriving DecidableEq
def XPoint.row (x : XPoint) : List D := [.str x.Name, .bool x.Wait]
theorem XPoint.row_eq (x : XPoint) : XPoint.row x = [.str x.Name, .bool x.Wait] := rfl
instance : Row XPoint.row 2 := ⟨fun _ => rfl, Nat.le_of_ble_eq_true rfl⟩
instance : FlatRow XPoint.row := ⟨fun x d hd => by simp only [XPoint.row_eq, List.mem_cons, List.not_mem_nil, or_false] at hd; rcases hd with rfl | rfl <;> rfl⟩
instance : OfTy (.st [.str, .bool]) XPoint.row := ⟨fun ds h => by
  obtain ⟨a0, b0, h0, t0, rfl⟩ := h
  obtain ⟨a1, b1, h1, t1, rfl⟩ := t0
  obtain rfl := t1
  obtain ⟨x0, rfl⟩ := OfTy.of (row := rS) _ h0
  obtain ⟨x1, rfl⟩ := OfTy.of (row := rB) _ h1
  exact ⟨⟨x0, x1⟩, rfl⟩⟩
structure XSegment where
  A : Int
  B : Int
  Depth : Int
  Minutes : Int
  Meet : Bool
  deriving DecidableEq
def XSegment.row (x : XSegment) : List D := [.int .i64 x.A, .int .i64 x.B, .int .i64 x.Depth, .int .i64 x.Minutes, .bool x.Meet]
theorem XSegment.row_eq (x : XSegment) : XSegment.row x = [.int .i64 x.A, .int .i64 x.B, .int .i64 x.Depth, .int .i64 x.Minutes, .bool x.Meet] := rfl
instance : Row XSegment.row 5 := ⟨fun _ => rfl, Nat.le_of_ble_eq_true rfl⟩
instance : FlatRow XSegment.row := ⟨fun x d hd => by simp only [XSegment.row_eq, List.mem_cons, List.not_mem_nil, or_false] at hd; rcases hd with rfl | rfl | rfl | rfl | rfl <;> rfl⟩
instance : OfTy (.st [(.int .i64), (.int .i64), (.int .i64), (.int .i64), .bool]) XSegment.row := ⟨fun ds h => by
  obtain ⟨a0, b0, h0, t0, rfl⟩ := h
  obtain ⟨a1, b1, h1, t1, rfl⟩ := t0
  obtain ⟨a2, b2, h2, t2, rfl⟩ := t1
  obtain ⟨a3, b3, h3, t3, rfl⟩ := t2
  obtain ⟨a4, b4, h4, t4, rfl⟩ := t3
  obtain rfl := t4
  obtain ⟨x0, rfl⟩ := OfTy.of (row := rI) _ h0
  obtain ⟨x1, rfl⟩ := OfTy.of (row := rI) _ h1
  obtain ⟨x2, rfl⟩ := OfTy.of (row := rI) _ h2
  obtain ⟨x3, rfl⟩ := OfTy.of (row := rI) _ h3
  obtain ⟨x4, rfl⟩ := OfTy.of (row := rB) _ h4
  exact ⟨⟨x0, x1, x2, x3, x4⟩, rfl⟩⟩
structure XChart where
  Points : List XPoint
  Segments : List XSegment
  deriving DecidableEq
def XChart.row (x : XChart) : List D := [.sl (List.map XPoint.row x.Points), .sl (List.map XSegment.row x.Segments)]
theorem XChart.row_eq (x : XChart) : XChart.row x = [.sl (List.map XPoint.row x.Points), .sl (List.map XSegment.row x.Segments)] := rfl
instance : Row XChart.row 2 := ⟨fun _ => rfl, Nat.le_of_ble_eq_true rfl⟩
instance : OfTy (.st [(.sl (.st [.str, .bool])), (.sl (.st [(.int .i64), (.int .i64), (.int .i64), (.int .i64), .bool]))]) XChart.row := ⟨fun ds h => by
  obtain ⟨a0, b0, h0, t0, rfl⟩ := h
  obtain ⟨a1, b1, h1, t1, rfl⟩ := t0
  obtain rfl := t1
  obtain ⟨x0, rfl⟩ := OfTy.of (row := (rL XPoint.row)) _ h0
  obtain ⟨x1, rfl⟩ := OfTy.of (row := (rL XSegment.row)) _ h1
  exact ⟨⟨x0, x1⟩, rfl⟩⟩
structure XClosure where
  Segment : Int
  From : Int
  To : Int
  deriving DecidableEq
def XClosure.row (x : XClosure) : List D := [.int .i64 x.Segment, .int .i64 x.From, .int .i64 x.To]
theorem XClosure.row_eq (x : XClosure) : XClosure.row x = [.int .i64 x.Segment, .int .i64 x.From, .int .i64 x.To] := rfl
instance : Row XClosure.row 3 := ⟨fun _ => rfl, Nat.le_of_ble_eq_true rfl⟩
instance : FlatRow XClosure.row := ⟨fun x d hd => by simp only [XClosure.row_eq, List.mem_cons, List.not_mem_nil, or_false] at hd; rcases hd with rfl | rfl | rfl <;> rfl⟩
instance : OfTy (.st [(.int .i64), (.int .i64), (.int .i64)]) XClosure.row := ⟨fun ds h => by
  obtain ⟨a0, b0, h0, t0, rfl⟩ := h
  obtain ⟨a1, b1, h1, t1, rfl⟩ := t0
  obtain ⟨a2, b2, h2, t2, rfl⟩ := t1
  obtain rfl := t2
  obtain ⟨x0, rfl⟩ := OfTy.of (row := rI) _ h0
  obtain ⟨x1, rfl⟩ := OfTy.of (row := rI) _ h1
  obtain ⟨x2, rfl⟩ := OfTy.of (row := rI) _ h2
  exact ⟨⟨x0, x1, x2⟩, rfl⟩⟩
structure XPart where
  Amp : Int
  Period : Int
  Phase : Int
  deriving DecidableEq
def XPart.row (x : XPart) : List D := [.int .i64 x.Amp, .int .i64 x.Period, .int .i64 x.Phase]
theorem XPart.row_eq (x : XPart) : XPart.row x = [.int .i64 x.Amp, .int .i64 x.Period, .int .i64 x.Phase] := rfl
instance : Row XPart.row 3 := ⟨fun _ => rfl, Nat.le_of_ble_eq_true rfl⟩
instance : FlatRow XPart.row := ⟨fun x d hd => by simp only [XPart.row_eq, List.mem_cons, List.not_mem_nil, or_false] at hd; rcases hd with rfl | rfl | rfl <;> rfl⟩
instance : OfTy (.st [(.int .i64), (.int .i64), (.int .i64)]) XPart.row := ⟨fun ds h => by
  obtain ⟨a0, b0, h0, t0, rfl⟩ := h
  obtain ⟨a1, b1, h1, t1, rfl⟩ := t0
  obtain ⟨a2, b2, h2, t2, rfl⟩ := t1
  obtain rfl := t2
  obtain ⟨x0, rfl⟩ := OfTy.of (row := rI) _ h0
  obtain ⟨x1, rfl⟩ := OfTy.of (row := rI) _ h1
  obtain ⟨x2, rfl⟩ := OfTy.of (row := rI) _ h2
  exact ⟨⟨x0, x1, x2⟩, rfl⟩⟩
structure XTide where
  Mean : Int
  Parts : List XPart
  deriving DecidableEq
def XTide.row (x : XTide) : List D := [.int .i64 x.Mean, .sl (List.map XPart.row x.Parts)]
theorem XTide.row_eq (x : XTide) : XTide.row x = [.int .i64 x.Mean, .sl (List.map XPart.row x.Parts)] := rfl
instance : Row XTide.row 2 := ⟨fun _ => rfl, Nat.le_of_ble_eq_true rfl⟩
instance : OfTy (.st [(.int .i64), (.sl (.st [(.int .i64), (.int .i64), (.int .i64)]))]) XTide.row := ⟨fun ds h => by
  obtain ⟨a0, b0, h0, t0, rfl⟩ := h
  obtain ⟨a1, b1, h1, t1, rfl⟩ := t0
  obtain rfl := t1
  obtain ⟨x0, rfl⟩ := OfTy.of (row := rI) _ h0
  obtain ⟨x1, rfl⟩ := OfTy.of (row := (rL XPart.row)) _ h1
  exact ⟨⟨x0, x1⟩, rfl⟩⟩
structure XSurge where
  From : Int
  Low : Int
  High : Int
  deriving DecidableEq
def XSurge.row (x : XSurge) : List D := [.int .i64 x.From, .int .i64 x.Low, .int .i64 x.High]
theorem XSurge.row_eq (x : XSurge) : XSurge.row x = [.int .i64 x.From, .int .i64 x.Low, .int .i64 x.High] := rfl
instance : Row XSurge.row 3 := ⟨fun _ => rfl, Nat.le_of_ble_eq_true rfl⟩
instance : FlatRow XSurge.row := ⟨fun x d hd => by simp only [XSurge.row_eq, List.mem_cons, List.not_mem_nil, or_false] at hd; rcases hd with rfl | rfl | rfl <;> rfl⟩
instance : OfTy (.st [(.int .i64), (.int .i64), (.int .i64)]) XSurge.row := ⟨fun ds h => by
  obtain ⟨a0, b0, h0, t0, rfl⟩ := h
  obtain ⟨a1, b1, h1, t1, rfl⟩ := t0
  obtain ⟨a2, b2, h2, t2, rfl⟩ := t1
  obtain rfl := t2
  obtain ⟨x0, rfl⟩ := OfTy.of (row := rI) _ h0
  obtain ⟨x1, rfl⟩ := OfTy.of (row := rI) _ h1
  obtain ⟨x2, rfl⟩ := OfTy.of (row := rI) _ h2
  exact ⟨⟨x0, x1, x2⟩, rfl⟩⟩
structure XForecast where
  Tide : XTide
  Surges : List XSurge
  deriving DecidableEq
def XForecast.row (x : XForecast) : List D := [.int .i64 x.Tide.Mean, .sl (List.map XPart.row x.Tide.Parts), .sl (List.map XSurge.row x.Surges)]
theorem XForecast.row_eq (x : XForecast) : XForecast.row x = [.int .i64 x.Tide.Mean, .sl (List.map XPart.row x.Tide.Parts), .sl (List.map XSurge.row x.Surges)] := rfl
instance : Row XForecast.row 3 := ⟨fun _ => rfl, Nat.le_of_ble_eq_true rfl⟩
instance : OfTy (.st [(.st [(.int .i64), (.sl (.st [(.int .i64), (.int .i64), (.int .i64)]))]), (.sl (.st [(.int .i64), (.int .i64), (.int .i64)]))]) XForecast.row := ⟨fun ds h => by
  obtain ⟨a0, b0, h0, t0, rfl⟩ := h
  obtain ⟨a1, b1, h1, t1, rfl⟩ := t0
  obtain rfl := t1
  obtain ⟨x0, rfl⟩ := OfTy.of (row := XTide.row) _ h0
  obtain ⟨x1, rfl⟩ := OfTy.of (row := (rL XSurge.row)) _ h1
  exact ⟨⟨x0, x1⟩, rfl⟩⟩
theorem rowsX : type_of% (And.intro @rI_eq (And.intro @XPoint.row_eq (And.intro @XSegment.row_eq (And.intro @XChart.row_eq (And.intro @XClosure.row_eq (And.intro @XPart.row_eq (And.intro @XTide.row_eq (And.intro @XSurge.row_eq (@XForecast.row_eq))))))))) := And.intro @rI_eq (And.intro @XPoint.row_eq (And.intro @XSegment.row_eq (And.intro @XChart.row_eq (And.intro @XClosure.row_eq (And.intro @XPart.row_eq (And.intro @XTide.row_eq (And.intro @XSurge.row_eq (@XForecast.row_eq))))))))
/- laws_szPoint -/
def f_laws_szPoint (a0 : XPoint) (a1 : Int) : Option Int :=
 if (decide ((IntKind.i64.wrap (a1 - (a0.Name.length : Int))) < (0 : Int))) then (
  some (-1 : Int))
 else (
  some (IntKind.i64.wrap (a1 - (a0.Name.length : Int))))
/- laws_szPointS -/
def f_laws_szPointS_1 (a0 : List XPoint) : Nat → Int → Int → Option Int
 | 0, _, _ => none
 | n + 1, v2, v3 =>
  if (decide (v3 < (a0.length : Int))) then (
   (ix a0 v3).bind fun x5 =>
   (f_laws_szPoint x5 v2).bind fun r6 =>
   if (decide (r6 < (0 : Int))) then (
    some (-1 : Int))
   else (
    f_laws_szPointS_1 a0 n r6 (IntKind.i64.wrap (v3 + (1 : Int)))))
  else (
   some v2)
def f_laws_szPointS (a0 : List XPoint) (a1 : Int) : Option Int :=
 if (decide ((IntKind.i64.wrap (a1 - (a0.length : Int))) < (0 : Int))) then (
  some (-1 : Int))
 else (
  f_laws_szPointS_1 a0 bigN (IntKind.i64.wrap (a1 - (a0.length : Int))) (0 : Int))
/- laws_szSegmentS -/
def f_laws_szSegmentS (a0 : List XSegment) (a1 : Int) : Option Int :=
 if (decide ((IntKind.i64.wrap (a1 - (a0.length : Int))) < (0 : Int))) then (
  some (-1 : Int))
 else (
  some (IntKind.i64.wrap (a1 - (a0.length : Int))))
/- laws_szChart -/
def f_laws_szChart (a0 : XChart) (a1 : Int) : Option Int :=
 (f_laws_szPointS a0.Points a1).bind fun r1 =>
 if (decide (r1 < (0 : Int))) then (
  some (-1 : Int))
 else (
  (f_laws_szSegmentS a0.Segments r1).bind fun r3 =>
  if (decide (r3 < (0 : Int))) then (
   some (-1 : Int))
  else (
   some r3))
/- laws_szClosureS -/
def f_laws_szClosureS (a0 : List XClosure) (a1 : Int) : Option Int :=
 if (decide ((IntKind.i64.wrap (a1 - (a0.length : Int))) < (0 : Int))) then (
  some (-1 : Int))
 else (
  some (IntKind.i64.wrap (a1 - (a0.length : Int))))
/- laws_toPoint -/
def f_laws_toPoint (a0 : XPoint) : Option XPoint :=
 some a0
/- laws_toPointS -/
def f_laws_toPointS_1 (a0 : List XPoint) : Nat → Int → (List XPoint) → Option (List XPoint)
 | 0, _, _ => none
 | n + 1, v2, v3 =>
  if (decide (v2 < (a0.length : Int))) then (
   (ix a0 v2).bind fun x5 =>
   (f_laws_toPoint x5).bind fun r6 =>
   (ix v3 v2).bind fun x7 =>
   f_laws_toPointS_1 a0 n (IntKind.i64.wrap (v2 + (1 : Int))) (v3.set (Int.toNat v2) r6))
  else (
   some v3)
def f_laws_toPointS (a0 : List XPoint) : Option (List XPoint) :=
 (mkS (a0.length : Int) (a0.length : Int) 24).bind fun n1 =>
 f_laws_toPointS_1 a0 bigN (0 : Int) (List.replicate n1 (⟨([] : List UInt8), false⟩ : XPoint))
/- laws_toSegment -/
def f_laws_toSegment (a0 : XSegment) : Option XSegment :=
 some a0
/- laws_toSegmentS -/
def f_laws_toSegmentS_1 (a0 : List XSegment) : Nat → Int → (List XSegment) → Option (List XSegment)
 | 0, _, _ => none
 | n + 1, v2, v3 =>
  if (decide (v2 < (a0.length : Int))) then (
   (ix a0 v2).bind fun x5 =>
   (f_laws_toSegment x5).bind fun r6 =>
   (ix v3 v2).bind fun x7 =>
   f_laws_toSegmentS_1 a0 n (IntKind.i64.wrap (v2 + (1 : Int))) (v3.set (Int.toNat v2) r6))
  else (
   some v3)
def f_laws_toSegmentS (a0 : List XSegment) : Option (List XSegment) :=
 (mkS (a0.length : Int) (a0.length : Int) 40).bind fun n1 =>
 f_laws_toSegmentS_1 a0 bigN (0 : Int) (List.replicate n1 (⟨(0 : Int), (0 : Int), (0 : Int), (0 : Int), false⟩ : XSegment))
/- laws_toChart -/
def f_laws_toChart (a0 : XChart) : Option XChart :=
 (f_laws_toPointS a0.Points).bind fun r1 =>
 (f_laws_toSegmentS a0.Segments).bind fun r2 =>
 some (⟨r1, r2⟩ : XChart)
/- laws_toClosure -/
def f_laws_toClosure (a0 : XClosure) : Option XClosure :=
 some a0
/- laws_toClosureS -/
def f_laws_toClosureS_1 (a0 : List XClosure) : Nat → Int → (List XClosure) → Option (List XClosure)
 | 0, _, _ => none
 | n + 1, v2, v3 =>
  if (decide (v2 < (a0.length : Int))) then (
   (ix a0 v2).bind fun x5 =>
   (f_laws_toClosure x5).bind fun r6 =>
   (ix v3 v2).bind fun x7 =>
   f_laws_toClosureS_1 a0 n (IntKind.i64.wrap (v2 + (1 : Int))) (v3.set (Int.toNat v2) r6))
  else (
   some v3)
def f_laws_toClosureS (a0 : List XClosure) : Option (List XClosure) :=
 (mkS (a0.length : Int) (a0.length : Int) 24).bind fun n1 =>
 f_laws_toClosureS_1 a0 bigN (0 : Int) (List.replicate n1 (⟨(0 : Int), (0 : Int), (0 : Int)⟩ : XClosure))
/- spec_l01In -/
def f_spec_l01In (a0 : Int) (a1 : Int) (a2 : Int) : Option Bool :=
 if (decide (a1 ≤ a0)) then (
  some (decide (a0 ≤ a2)))
 else (
  some false)
/- spec_IsName -/
def f_spec_IsName_3 (a0 : List UInt8) (v1 : Int) (k_spec_IsName_1 : Int → Option Bool) : Option Bool :=
 k_spec_IsName_1 (IntKind.i64.wrap (v1 + (1 : Int)))
def f_spec_IsName_2 (a0 : List UInt8) (v1 : Int) (k_spec_IsName_1 : Int → Option Bool) (v5 : Bool) : Option Bool :=
 if v5 then (
  f_spec_IsName_3 a0 v1 k_spec_IsName_1)
 else (
  if (v1 == (0 : Int)) then (
   some false)
  else (
   (ix a0 v1).bind fun b8 =>
   if (decide ((b8.toNat : Int) < (48 : Int))) then (
    some false)
   else (
    if (decide ((57 : Int) < (b8.toNat : Int))) then (
     some false)
    else (
     f_spec_IsName_3 a0 v1 k_spec_IsName_1))))
def f_spec_IsName_1 (a0 : List UInt8) : Nat → Int → Option Bool
 | 0, _ => none
 | n + 1, v1 =>
  if (decide (v1 < (a0.length : Int))) then (
   (ix a0 v1).bind fun b3 =>
   if (decide ((97 : Int) ≤ (b3.toNat : Int))) then (
    f_spec_IsName_2 a0 v1 (f_spec_IsName_1 a0 n) (decide ((b3.toNat : Int) ≤ (122 : Int))))
   else (
    f_spec_IsName_2 a0 v1 (f_spec_IsName_1 a0 n) false))
  else (
   (f_spec_l01In (a0.length : Int) (1 : Int) (8 : Int)).bind fun r11 =>
   some r11)
def f_spec_IsName (a0 : List UInt8) : Option Bool :=
 f_spec_IsName_1 a0 bigN (0 : Int)
/- spec_PointNamed -/
def f_spec_PointNamed_1 (a1 : List UInt8) (a0 : XChart) : Nat → Int → Option Int
 | 0, _ => none
 | n + 1, v1 =>
  if (decide (v1 < (a0.Points.length : Int))) then (
   (ix a0.Points v1).bind fun x3 =>
   if (x3.Name == a1) then (
    some v1)
   else (
    f_spec_PointNamed_1 a1 a0 n (IntKind.i64.wrap (v1 + (1 : Int)))))
  else (
   some (-1 : Int))
def f_spec_PointNamed (a0 : XChart) (a1 : List UInt8) : Option Int :=
 f_spec_PointNamed_1 a1 a0 bigN (0 : Int)
/- spec_l05Joins -/
def f_spec_l05Joins (a0 : XSegment) (a1 : Int) (a2 : Int) : Option Bool :=
 if (a0.A == a1) then (
  if (a0.B == a2) then (
   some true)
  else (
   if (a0.A == a2) then (
    some (a0.B == a1))
   else (
    some false)))
 else (
  if (a0.A == a2) then (
   some (a0.B == a1))
  else (
   some false))
/- spec_ChartOk -/
def f_spec_ChartOk_3 (a0 : XChart) (v10 : Int) (x12 : XSegment) (y23 : List XSegment) (y24 : Int) (k_spec_ChartOk_2 : Int → Option Bool) : Nat → Int → Option Bool
 | 0, _ => none
 | n + 1, v25 =>
  if (decide (v25 < y24)) then (
   (ix y23 v25).bind fun x27 =>
   (f_spec_l05Joins x27 x12.A x12.B).bind fun r28 =>
   if r28 then (
    some false)
   else (
    f_spec_ChartOk_3 a0 v10 x12 y23 y24 k_spec_ChartOk_2 n (IntKind.i64.wrap (v25 + (1 : Int)))))
  else (
   k_spec_ChartOk_2 (IntKind.i64.wrap (v10 + (1 : Int))))
def f_spec_ChartOk_2 (a0 : XChart) : Nat → Int → Option Bool
 | 0, _ => none
 | n + 1, v10 =>
  if (decide (v10 < (a0.Segments.length : Int))) then (
   (ix a0.Segments v10).bind fun x12 =>
   (f_spec_l01In x12.A (0 : Int) (IntKind.i64.wrap ((a0.Points.length : Int) - (1 : Int)))).bind fun r13 =>
   if r13 then (
    (f_spec_l01In x12.B (0 : Int) (IntKind.i64.wrap ((a0.Points.length : Int) - (1 : Int)))).bind fun r15 =>
    if r15 then (
     if (x12.A == x12.B) then (
      some false)
     else (
      (f_spec_l01In x12.Depth (0 : Int) (3000 : Int)).bind fun r18 =>
      if r18 then (
       (f_spec_l01In x12.Minutes (1 : Int) (240 : Int)).bind fun r20 =>
       if r20 then (
        (bnd (a0.Segments.length : Int) v10 (0 : Int) a0.Segments.length).bind fun p22 =>
        f_spec_ChartOk_3 a0 v10 x12 ((a0.Segments.drop p22.1).take (p22.2 - p22.1)) (((a0.Segments.drop p22.1).take (p22.2 - p22.1)).length : Int) (f_spec_ChartOk_2 a0 n) bigN (0 : Int))
       else (
        some false))
      else (
       some false)))
    else (
     some false))
   else (
    some false))
  else (
   some true)
def f_spec_ChartOk_1 (a0 : XChart) : Nat → Int → Option Bool
 | 0, _ => none
 | n + 1, v3 =>
  if (decide (v3 < (a0.Points.length : Int))) then (
   (ix a0.Points v3).bind fun x5 =>
   (f_spec_IsName x5.Name).bind fun r6 =>
   if r6 then (
    (f_spec_PointNamed a0 x5.Name).bind fun r8 =>
    if (r8 != v3) then (
     some false)
    else (
     f_spec_ChartOk_1 a0 n (IntKind.i64.wrap (v3 + (1 : Int)))))
   else (
    some false))
  else (
   f_spec_ChartOk_2 a0 bigN (0 : Int))
def f_spec_ChartOk (a0 : XChart) : Option Bool :=
 if (decide ((8 : Int) < (a0.Points.length : Int))) then (
  some false)
 else (
  if (decide ((10 : Int) < (a0.Segments.length : Int))) then (
   some false)
  else (
   f_spec_ChartOk_1 a0 bigN (0 : Int)))
/- spec_ClosuresOk -/
def f_spec_ClosuresOk_1 (a1 : List XClosure) (a0 : XChart) : Nat → Int → Option Bool
 | 0, _ => none
 | n + 1, v4 =>
  if (decide (v4 < (a1.length : Int))) then (
   (ix a1 v4).bind fun x6 =>
   (f_spec_l01In x6.Segment (0 : Int) (IntKind.i64.wrap ((a0.Segments.length : Int) - (1 : Int)))).bind fun r7 =>
   if r7 then (
    (f_spec_l01In x6.From (0 : Int) (2880 : Int)).bind fun r9 =>
    if r9 then (
     if (decide (x6.To ≤ x6.From)) then (
      some false)
     else (
      if (decide ((2880 : Int) < x6.To)) then (
       some false)
      else (
       f_spec_ClosuresOk_1 a1 a0 n (IntKind.i64.wrap (v4 + (1 : Int))))))
    else (
     some false))
   else (
    some false))
  else (
   some true)
def f_spec_ClosuresOk (a0 : XChart) (a1 : List XClosure) : Option Bool :=
 (f_spec_ChartOk a0).bind fun r1 =>
 if r1 then (
  if (decide ((4 : Int) < (a1.length : Int))) then (
   some false)
  else (
   f_spec_ClosuresOk_1 a1 a0 bigN (0 : Int)))
 else (
  some false)
/- impl_within -/
def f_impl_within (a0 : Int) (a1 : Int) (a2 : Int) : Option Bool :=
 if (decide (a1 ≤ a0)) then (
  some (decide (a0 ≤ a2)))
 else (
  some false)
/- impl_IsName -/
def f_impl_IsName_3 (a0 : List UInt8) (v3 : Int) (k_impl_IsName_1 : Int → Option Bool) : Option Bool :=
 k_impl_IsName_1 (IntKind.i64.wrap (v3 + (1 : Int)))
def f_impl_IsName_2 (a0 : List UInt8) (v3 : Int) (k_impl_IsName_1 : Int → Option Bool) (v7 : Bool) : Option Bool :=
 if v7 then (
  f_impl_IsName_3 a0 v3 k_impl_IsName_1)
 else (
  if (v3 == (0 : Int)) then (
   some false)
  else (
   (ix a0 v3).bind fun b10 =>
   if (decide ((b10.toNat : Int) < (48 : Int))) then (
    some false)
   else (
    if (decide ((57 : Int) < (b10.toNat : Int))) then (
     some false)
    else (
     f_impl_IsName_3 a0 v3 k_impl_IsName_1))))
def f_impl_IsName_1 (a0 : List UInt8) : Nat → Int → Option Bool
 | 0, _ => none
 | n + 1, v3 =>
  if (decide (v3 < (a0.length : Int))) then (
   (ix a0 v3).bind fun b5 =>
   if (decide ((97 : Int) ≤ (b5.toNat : Int))) then (
    f_impl_IsName_2 a0 v3 (f_impl_IsName_1 a0 n) (decide ((b5.toNat : Int) ≤ (122 : Int))))
   else (
    f_impl_IsName_2 a0 v3 (f_impl_IsName_1 a0 n) false))
  else (
   some true)
def f_impl_IsName (a0 : List UInt8) : Option Bool :=
 (f_impl_within (a0.length : Int) (1 : Int) (8 : Int)).bind fun r1 =>
 if r1 then (
  f_impl_IsName_1 a0 bigN (0 : Int))
 else (
  some false)
/- impl_PointNamed -/
def f_impl_PointNamed_1 (a1 : List UInt8) (a0 : XChart) : Nat → Int → Option Int
 | 0, _ => none
 | n + 1, v1 =>
  if (decide (v1 < (a0.Points.length : Int))) then (
   (ix a0.Points v1).bind fun x3 =>
   if (x3.Name == a1) then (
    some v1)
   else (
    f_impl_PointNamed_1 a1 a0 n (IntKind.i64.wrap (v1 + (1 : Int)))))
  else (
   some (-1 : Int))
def f_impl_PointNamed (a0 : XChart) (a1 : List UInt8) : Option Int :=
 f_impl_PointNamed_1 a1 a0 bigN (0 : Int)
/- impl_isIndex -/
def f_impl_isIndex (a0 : Int) (a1 : Int) : Option Bool :=
 if (decide ((0 : Int) ≤ a0)) then (
  some (decide (a0 < a1)))
 else (
  some false)
/- impl_Segment_joins -/
def f_impl_Segment_joins (a0 : XSegment) (a1 : Int) (a2 : Int) : Option Bool :=
 if (a0.A == a1) then (
  if (a0.B == a2) then (
   some true)
  else (
   if (a0.A == a2) then (
    some (a0.B == a1))
   else (
    some false)))
 else (
  if (a0.A == a2) then (
   some (a0.B == a1))
  else (
   some false))
/- impl_ChartOk -/
def f_impl_ChartOk_3 (a0 : XChart) (v10 : Int) (x12 : XSegment) (y23 : List XSegment) (y24 : Int) (k_impl_ChartOk_2 : Int → Option Bool) : Nat → Int → Option Bool
 | 0, _ => none
 | n + 1, v25 =>
  if (decide (v25 < y24)) then (
   (ix y23 v25).bind fun x27 =>
   (f_impl_Segment_joins x27 x12.A x12.B).bind fun r28 =>
   if r28 then (
    some false)
   else (
    f_impl_ChartOk_3 a0 v10 x12 y23 y24 k_impl_ChartOk_2 n (IntKind.i64.wrap (v25 + (1 : Int)))))
  else (
   k_impl_ChartOk_2 (IntKind.i64.wrap (v10 + (1 : Int))))
def f_impl_ChartOk_2 (a0 : XChart) : Nat → Int → Option Bool
 | 0, _ => none
 | n + 1, v10 =>
  if (decide (v10 < (a0.Segments.length : Int))) then (
   (ix a0.Segments v10).bind fun x12 =>
   (f_impl_isIndex x12.A (a0.Points.length : Int)).bind fun r13 =>
   if r13 then (
    (f_impl_isIndex x12.B (a0.Points.length : Int)).bind fun r15 =>
    if r15 then (
     if (x12.A == x12.B) then (
      some false)
     else (
      (f_impl_within x12.Depth (0 : Int) (3000 : Int)).bind fun r18 =>
      if r18 then (
       (f_impl_within x12.Minutes (1 : Int) (240 : Int)).bind fun r20 =>
       if r20 then (
        (bnd (a0.Segments.length : Int) v10 (0 : Int) a0.Segments.length).bind fun p22 =>
        f_impl_ChartOk_3 a0 v10 x12 ((a0.Segments.drop p22.1).take (p22.2 - p22.1)) (((a0.Segments.drop p22.1).take (p22.2 - p22.1)).length : Int) (f_impl_ChartOk_2 a0 n) bigN (0 : Int))
       else (
        some false))
      else (
       some false)))
    else (
     some false))
   else (
    some false))
  else (
   some true)
def f_impl_ChartOk_1 (a0 : XChart) : Nat → Int → Option Bool
 | 0, _ => none
 | n + 1, v3 =>
  if (decide (v3 < (a0.Points.length : Int))) then (
   (ix a0.Points v3).bind fun x5 =>
   (f_impl_IsName x5.Name).bind fun r6 =>
   if r6 then (
    (f_impl_PointNamed a0 x5.Name).bind fun r8 =>
    if (r8 != v3) then (
     some false)
    else (
     f_impl_ChartOk_1 a0 n (IntKind.i64.wrap (v3 + (1 : Int)))))
   else (
    some false))
  else (
   f_impl_ChartOk_2 a0 bigN (0 : Int))
def f_impl_ChartOk (a0 : XChart) : Option Bool :=
 if (decide ((8 : Int) < (a0.Points.length : Int))) then (
  some false)
 else (
  if (decide ((10 : Int) < (a0.Segments.length : Int))) then (
   some false)
  else (
   f_impl_ChartOk_1 a0 bigN (0 : Int)))
/- impl_ClosuresOk -/
def f_impl_ClosuresOk_1 (a1 : List XClosure) (a0 : XChart) : Nat → Int → Option Bool
 | 0, _ => none
 | n + 1, v4 =>
  if (decide (v4 < (a1.length : Int))) then (
   (ix a1 v4).bind fun x6 =>
   (f_impl_isIndex x6.Segment (a0.Segments.length : Int)).bind fun r7 =>
   if r7 then (
    if (decide (x6.From < (0 : Int))) then (
     some false)
    else (
     if (decide (x6.To ≤ x6.From)) then (
      some false)
     else (
      if (decide ((2880 : Int) < x6.To)) then (
       some false)
      else (
       f_impl_ClosuresOk_1 a1 a0 n (IntKind.i64.wrap (v4 + (1 : Int)))))))
   else (
    some false))
  else (
   some true)
def f_impl_ClosuresOk (a0 : XChart) (a1 : List XClosure) : Option Bool :=
 (f_impl_ChartOk a0).bind fun r1 =>
 if r1 then (
  if (decide ((4 : Int) < (a1.length : Int))) then (
   some false)
  else (
   f_impl_ClosuresOk_1 a1 a0 bigN (0 : Int)))
 else (
  some false)
/- laws_eqPoint -/
def f_laws_eqPoint (a0 : XPoint) (a1 : XPoint) : Option Bool :=
 if (a0.Name == a1.Name) then (
  if (a0.Wait == a1.Wait) then (
   some true)
  else (
   some false))
 else (
  some false)
/- laws_eqPointS -/
def f_laws_eqPointS_1 (a0 : List XPoint) (a1 : List XPoint) : Nat → Int → Option Bool
 | 0, _ => none
 | n + 1, v2 =>
  if (decide (v2 < (a0.length : Int))) then (
   (ix a0 v2).bind fun x4 =>
   (ix a1 v2).bind fun x5 =>
   (f_laws_eqPoint x4 x5).bind fun r6 =>
   if r6 then (
    f_laws_eqPointS_1 a0 a1 n (IntKind.i64.wrap (v2 + (1 : Int))))
   else (
    some false))
  else (
   some true)
def f_laws_eqPointS (a0 : List XPoint) (a1 : List XPoint) : Option Bool :=
 if ((a0.length : Int) != (a1.length : Int)) then (
  some false)
 else (
  f_laws_eqPointS_1 a0 a1 bigN (0 : Int))
/- laws_eqSegment -/
def f_laws_eqSegment (a0 : XSegment) (a1 : XSegment) : Option Bool :=
 if (a0.A != a1.A) then (
  some false)
 else (
  if (a0.B != a1.B) then (
   some false)
  else (
   if (a0.Depth != a1.Depth) then (
    some false)
   else (
    if (a0.Minutes != a1.Minutes) then (
     some false)
    else (
     if (a0.Meet == a1.Meet) then (
      some true)
     else (
      some false)))))
/- laws_eqSegmentS -/
def f_laws_eqSegmentS_1 (a0 : List XSegment) (a1 : List XSegment) : Nat → Int → Option Bool
 | 0, _ => none
 | n + 1, v2 =>
  if (decide (v2 < (a0.length : Int))) then (
   (ix a0 v2).bind fun x4 =>
   (ix a1 v2).bind fun x5 =>
   (f_laws_eqSegment x4 x5).bind fun r6 =>
   if r6 then (
    f_laws_eqSegmentS_1 a0 a1 n (IntKind.i64.wrap (v2 + (1 : Int))))
   else (
    some false))
  else (
   some true)
def f_laws_eqSegmentS (a0 : List XSegment) (a1 : List XSegment) : Option Bool :=
 if ((a0.length : Int) != (a1.length : Int)) then (
  some false)
 else (
  f_laws_eqSegmentS_1 a0 a1 bigN (0 : Int))
/- laws_eqChart -/
def f_laws_eqChart (a0 : XChart) (a1 : XChart) : Option Bool :=
 (f_laws_eqPointS a0.Points a1.Points).bind fun r1 =>
 if r1 then (
  (f_laws_eqSegmentS a0.Segments a1.Segments).bind fun r3 =>
  if r3 then (
   some true)
  else (
   some false))
 else (
  some false)
/- laws_eqClosure -/
def f_laws_eqClosure (a0 : XClosure) (a1 : XClosure) : Option Bool :=
 if (a0.Segment != a1.Segment) then (
  some false)
 else (
  if (a0.From != a1.From) then (
   some false)
  else (
   if (a0.To != a1.To) then (
    some false)
   else (
    some true)))
/- laws_eqClosureS -/
def f_laws_eqClosureS_1 (a0 : List XClosure) (a1 : List XClosure) : Nat → Int → Option Bool
 | 0, _ => none
 | n + 1, v2 =>
  if (decide (v2 < (a0.length : Int))) then (
   (ix a0 v2).bind fun x4 =>
   (ix a1 v2).bind fun x5 =>
   (f_laws_eqClosure x4 x5).bind fun r6 =>
   if r6 then (
    f_laws_eqClosureS_1 a0 a1 n (IntKind.i64.wrap (v2 + (1 : Int))))
   else (
    some false))
  else (
   some true)
def f_laws_eqClosureS (a0 : List XClosure) (a1 : List XClosure) : Option Bool :=
 if ((a0.length : Int) != (a1.length : Int)) then (
  some false)
 else (
  f_laws_eqClosureS_1 a0 a1 bigN (0 : Int))
/- laws_FnExactClosuresOk -/
def f_laws_FnExactClosuresOk (a0 : XChart) (a1 : List XClosure) : Option Bool :=
 (f_laws_szChart a0 (1048576 : Int)).bind fun r1 =>
 if (decide (r1 < (0 : Int))) then (
  some true)
 else (
  (f_laws_szClosureS a1 r1).bind fun r3 =>
  if (decide (r3 < (0 : Int))) then (
   some true)
  else (
   (f_laws_toChart a0).bind fun r5 =>
   (f_laws_toClosureS a1).bind fun r6 =>
   (f_spec_ClosuresOk r5 r6).bind fun r7 =>
   (f_laws_toChart a0).bind fun r8 =>
   (f_laws_toClosureS a1).bind fun r9 =>
   (f_impl_ClosuresOk r8 r9).bind fun r10 =>
   if (r10 == r7) then (
    (f_laws_toChart a0).bind fun r12 =>
    (f_laws_eqChart r8 r12).bind fun r13 =>
    if r13 then (
     (f_laws_toClosureS a1).bind fun r15 =>
     (f_laws_eqClosureS r9 r15).bind fun r16 =>
     if r16 then (
      some true)
     else (
      some false))
    else (
     some false))
   else (
    some false)))
/- laws_szPartS -/
def f_laws_szPartS (a0 : List XPart) (a1 : Int) : Option Int :=
 if (decide ((IntKind.i64.wrap (a1 - (a0.length : Int))) < (0 : Int))) then (
  some (-1 : Int))
 else (
  some (IntKind.i64.wrap (a1 - (a0.length : Int))))
/- laws_szTide -/
def f_laws_szTide (a0 : XTide) (a1 : Int) : Option Int :=
 (f_laws_szPartS a0.Parts a1).bind fun r1 =>
 if (decide (r1 < (0 : Int))) then (
  some (-1 : Int))
 else (
  some r1)
/- laws_szSurgeS -/
def f_laws_szSurgeS (a0 : List XSurge) (a1 : Int) : Option Int :=
 if (decide ((IntKind.i64.wrap (a1 - (a0.length : Int))) < (0 : Int))) then (
  some (-1 : Int))
 else (
  some (IntKind.i64.wrap (a1 - (a0.length : Int))))
/- laws_szForecast -/
def f_laws_szForecast (a0 : XForecast) (a1 : Int) : Option Int :=
 (f_laws_szTide a0.Tide a1).bind fun r1 =>
 if (decide (r1 < (0 : Int))) then (
  some (-1 : Int))
 else (
  (f_laws_szSurgeS a0.Surges r1).bind fun r3 =>
  if (decide (r3 < (0 : Int))) then (
   some (-1 : Int))
  else (
   some r3))
/- laws_toPart -/
def f_laws_toPart (a0 : XPart) : Option XPart :=
 some a0
/- laws_toPartS -/
def f_laws_toPartS_1 (a0 : List XPart) : Nat → Int → (List XPart) → Option (List XPart)
 | 0, _, _ => none
 | n + 1, v2, v3 =>
  if (decide (v2 < (a0.length : Int))) then (
   (ix a0 v2).bind fun x5 =>
   (f_laws_toPart x5).bind fun r6 =>
   (ix v3 v2).bind fun x7 =>
   f_laws_toPartS_1 a0 n (IntKind.i64.wrap (v2 + (1 : Int))) (v3.set (Int.toNat v2) r6))
  else (
   some v3)
def f_laws_toPartS (a0 : List XPart) : Option (List XPart) :=
 (mkS (a0.length : Int) (a0.length : Int) 24).bind fun n1 =>
 f_laws_toPartS_1 a0 bigN (0 : Int) (List.replicate n1 (⟨(0 : Int), (0 : Int), (0 : Int)⟩ : XPart))
/- laws_toTide -/
def f_laws_toTide (a0 : XTide) : Option XTide :=
 (f_laws_toPartS a0.Parts).bind fun r1 =>
 some (⟨a0.Mean, r1⟩ : XTide)
/- laws_toSurge -/
def f_laws_toSurge (a0 : XSurge) : Option XSurge :=
 some a0
/- laws_toSurgeS -/
def f_laws_toSurgeS_1 (a0 : List XSurge) : Nat → Int → (List XSurge) → Option (List XSurge)
 | 0, _, _ => none
 | n + 1, v2, v3 =>
  if (decide (v2 < (a0.length : Int))) then (
   (ix a0 v2).bind fun x5 =>
   (f_laws_toSurge x5).bind fun r6 =>
   (ix v3 v2).bind fun x7 =>
   f_laws_toSurgeS_1 a0 n (IntKind.i64.wrap (v2 + (1 : Int))) (v3.set (Int.toNat v2) r6))
  else (
   some v3)
def f_laws_toSurgeS (a0 : List XSurge) : Option (List XSurge) :=
 (mkS (a0.length : Int) (a0.length : Int) 24).bind fun n1 =>
 f_laws_toSurgeS_1 a0 bigN (0 : Int) (List.replicate n1 (⟨(0 : Int), (0 : Int), (0 : Int)⟩ : XSurge))
/- laws_toForecast -/
def f_laws_toForecast (a0 : XForecast) : Option XForecast :=
 (f_laws_toTide a0.Tide).bind fun r1 =>
 (f_laws_toSurgeS a0.Surges).bind fun r2 =>
 some (⟨r1, r2⟩ : XForecast)
/- laws_toIntS -/
def f_laws_toIntS_1 (a0 : List Int) : Nat → Int → (List Int) → Option (List Int)
 | 0, _, _ => none
 | n + 1, v2, v3 =>
  if (decide (v2 < (a0.length : Int))) then (
   (ix a0 v2).bind fun x5 =>
   (ix v3 v2).bind fun x6 =>
   f_laws_toIntS_1 a0 n (IntKind.i64.wrap (v2 + (1 : Int))) (v3.set (Int.toNat v2) x5))
  else (
   some v3)
def f_laws_toIntS (a0 : List Int) : Option (List Int) :=
 (mkS (a0.length : Int) (a0.length : Int) 8).bind fun n1 =>
 f_laws_toIntS_1 a0 bigN (0 : Int) (List.replicate n1 (0 : Int))
/- spec_PartOk -/
def f_spec_PartOk (a0 : XPart) : Option Bool :=
 (f_spec_l01In a0.Amp (0 : Int) (1000 : Int)).bind fun r1 =>
 if r1 then (
  (f_spec_l01In a0.Period (4 : Int) (2880 : Int)).bind fun r3 =>
  if r3 then (
   if ((IntKind.i64.wrap (Int.tmod a0.Period (4 : Int))) == (0 : Int)) then (
    (f_spec_l01In a0.Phase (0 : Int) (IntKind.i64.wrap (a0.Period - (1 : Int)))).bind fun r6 =>
    some r6)
   else (
    some false))
  else (
   some false))
 else (
  some false)
/- spec_TideOk -/
def f_spec_TideOk_1 (a0 : XTide) : Nat → Int → Option Bool
 | 0, _ => none
 | n + 1, v4 =>
  if (decide (v4 < (a0.Parts.length : Int))) then (
   (ix a0.Parts v4).bind fun x6 =>
   (f_spec_PartOk x6).bind fun r7 =>
   if r7 then (
    f_spec_TideOk_1 a0 n (IntKind.i64.wrap (v4 + (1 : Int))))
   else (
    some false))
  else (
   some true)
def f_spec_TideOk (a0 : XTide) : Option Bool :=
 (f_spec_l01In a0.Mean (-1000 : Int) (1000 : Int)).bind fun r1 =>
 if r1 then (
  if (decide ((4 : Int) < (a0.Parts.length : Int))) then (
   some false)
  else (
   f_spec_TideOk_1 a0 bigN (0 : Int)))
 else (
  some false)
/- spec_SurgeOk -/
def f_spec_SurgeOk (a0 : XSurge) : Option Bool :=
 (f_spec_l01In a0.From (0 : Int) (2880 : Int)).bind fun r1 =>
 if r1 then (
  (f_spec_l01In a0.Low (-500 : Int) (500 : Int)).bind fun r3 =>
  if r3 then (
   (f_spec_l01In a0.High a0.Low (500 : Int)).bind fun r5 =>
   some r5)
  else (
   some false))
 else (
  some false)
/- spec_ForecastOk -/
def f_spec_ForecastOk_1 (a0 : XForecast) : Nat → Int → Option Bool
 | 0, _ => none
 | n + 1, v7 =>
  if (decide (v7 < (a0.Surges.length : Int))) then (
   (ix a0.Surges v7).bind fun x9 =>
   (f_spec_SurgeOk x9).bind fun r10 =>
   if r10 then (
    if (decide ((0 : Int) < v7)) then (
     (ix a0.Surges (IntKind.i64.wrap (v7 - (1 : Int)))).bind fun x13 =>
     if (decide (x9.From ≤ x13.From)) then (
      some false)
     else (
      f_spec_ForecastOk_1 a0 n (IntKind.i64.wrap (v7 + (1 : Int)))))
    else (
     f_spec_ForecastOk_1 a0 n (IntKind.i64.wrap (v7 + (1 : Int)))))
   else (
    some false))
  else (
   some true)
def f_spec_ForecastOk (a0 : XForecast) : Option Bool :=
 (f_spec_TideOk a0.Tide).bind fun r1 =>
 if r1 then (
  (f_spec_l01In (a0.Surges.length : Int) (1 : Int) (6 : Int)).bind fun r3 =>
  if r3 then (
   (ix a0.Surges (0 : Int)).bind fun x5 =>
   if (x5.From != (0 : Int)) then (
    some false)
   else (
    f_spec_ForecastOk_1 a0 bigN (0 : Int)))
  else (
   some false))
 else (
  some false)
/- spec_PicksOk -/
def f_spec_PicksOk_1 (a0 : List Int) : Nat → Int → Option Bool
 | 0, _ => none
 | n + 1, v3 =>
  if (decide (v3 < (a0.length : Int))) then (
   (ix a0 v3).bind fun x5 =>
   (f_spec_l01In x5 (0 : Int) (1000 : Int)).bind fun r6 =>
   if r6 then (
    f_spec_PicksOk_1 a0 n (IntKind.i64.wrap (v3 + (1 : Int))))
   else (
    some false))
  else (
   some true)
def f_spec_PicksOk (a0 : List Int) : Option Bool :=
 (f_spec_l01In (a0.length : Int) (1 : Int) (48 : Int)).bind fun r1 =>
 if r1 then (
  f_spec_PicksOk_1 a0 bigN (0 : Int))
 else (
  some false)
/- spec_l03Surge -/
def f_spec_l03Surge_1 (a1 : Int) (a0 : XForecast) : Nat → Int → Int → Int → Int → Option XSurge
 | 0, _, _, _, _ => none
 | n + 1, v2, v3, v4, v5 =>
  if (decide (v2 < (a0.Surges.length : Int))) then (
   (ix a0.Surges v2).bind fun x7 =>
   if (decide (x7.From ≤ a1)) then (
    f_spec_l03Surge_1 a1 a0 n (IntKind.i64.wrap (v2 + (1 : Int))) x7.From x7.Low x7.High)
   else (
    f_spec_l03Surge_1 a1 a0 n (IntKind.i64.wrap (v2 + (1 : Int))) v3 v4 v5))
  else (
   some (⟨v3, v4, v5⟩ : XSurge))
def f_spec_l03Surge (a0 : XForecast) (a1 : Int) : Option XSurge :=
 (ix a0.Surges (0 : Int)).bind fun x1 =>
 f_spec_l03Surge_1 a1 a0 bigN (0 : Int) x1.From x1.Low x1.High
/- spec_Wave -/
def f_spec_Wave_1 (a1 : Int) (v6 : Int) : Option Int :=
 if (decide (v6 < (IntKind.i64.wrap (Int.tdiv a1 (2 : Int))))) then (
  if (IntKind.i64.wrap ((IntKind.i64.wrap (Int.tdiv a1 (2 : Int))) * (IntKind.i64.wrap (Int.tdiv a1 (2 : Int))))) == 0 then none else
  some (IntKind.i64.wrap (Int.tdiv (IntKind.i64.wrap ((IntKind.i64.wrap ((40000 : Int) * v6)) * (IntKind.i64.wrap ((IntKind.i64.wrap (Int.tdiv a1 (2 : Int))) - v6)))) (IntKind.i64.wrap ((IntKind.i64.wrap (Int.tdiv a1 (2 : Int))) * (IntKind.i64.wrap (Int.tdiv a1 (2 : Int))))))))
 else (
  if (IntKind.i64.wrap ((IntKind.i64.wrap (Int.tdiv a1 (2 : Int))) * (IntKind.i64.wrap (Int.tdiv a1 (2 : Int))))) == 0 then none else
  some (IntKind.i64.wrap (0 - (IntKind.i64.wrap (Int.tdiv (IntKind.i64.wrap ((IntKind.i64.wrap ((40000 : Int) * (IntKind.i64.wrap (v6 - (IntKind.i64.wrap (Int.tdiv a1 (2 : Int))))))) * (IntKind.i64.wrap ((IntKind.i64.wrap (Int.tdiv a1 (2 : Int))) - (IntKind.i64.wrap (v6 - (IntKind.i64.wrap (Int.tdiv a1 (2 : Int))))))))) (IntKind.i64.wrap ((IntKind.i64.wrap (Int.tdiv a1 (2 : Int))) * (IntKind.i64.wrap (Int.tdiv a1 (2 : Int))))))))))
def f_spec_Wave (a0 : Int) (a1 : Int) : Option Int :=
 if (decide (a1 < (4 : Int))) then (
  some (0 : Int))
 else (
  if (decide ((2880 : Int) < a1)) then (
   some (0 : Int))
  else (
   if ((IntKind.i64.wrap (Int.tmod a1 (4 : Int))) != (0 : Int)) then (
    some (0 : Int))
   else (
    if a1 == 0 then none else
    if (decide ((IntKind.i64.wrap (Int.tmod a0 a1)) < (0 : Int))) then (
     f_spec_Wave_1 a1 (IntKind.i64.wrap ((IntKind.i64.wrap (Int.tmod a0 a1)) + a1)))
    else (
     f_spec_Wave_1 a1 (IntKind.i64.wrap (Int.tmod a0 a1))))))
/- spec_l02Level -/
def f_spec_l02Level_1 (a1 : Int) (a0 : XTide) : Nat → Int → Int → Option Int
 | 0, _, _ => none
 | n + 1, v1, v2 =>
  if (decide (v2 < (a0.Parts.length : Int))) then (
   (ix a0.Parts v2).bind fun x4 =>
   (f_spec_Wave (IntKind.i64.wrap (a1 + x4.Phase)) x4.Period).bind fun r5 =>
   f_spec_l02Level_1 a1 a0 n (IntKind.i64.wrap (v1 + (IntKind.i64.wrap (Int.tdiv (IntKind.i64.wrap (x4.Amp * r5)) (10000 : Int))))) (IntKind.i64.wrap (v2 + (1 : Int))))
  else (
   some v1)
def f_spec_l02Level (a0 : XTide) (a1 : Int) : Option Int :=
 f_spec_l02Level_1 a1 a0 bigN a0.Mean (0 : Int)
/- spec_l24Level -/
def f_spec_l24Level (a0 : XForecast) (a1 : List Int) (a2 : Int) : Option Int :=
 (f_spec_l03Surge a0 a2).bind fun r1 =>
 (ix a1 (if (IntKind.i64.wrap ((a1.length : Int) - (1 : Int))) < (IntKind.i64.wrap (Int.tdiv a2 (60 : Int))) then (IntKind.i64.wrap ((a1.length : Int) - (1 : Int))) else (IntKind.i64.wrap (Int.tdiv a2 (60 : Int))))).bind fun x2 =>
 (f_spec_l02Level a0.Tide a2).bind fun r3 =>
 some (IntKind.i64.wrap ((IntKind.i64.wrap (r3 + r1.Low)) + (IntKind.i64.wrap (Int.tdiv (IntKind.i64.wrap ((IntKind.i64.wrap (r1.High - r1.Low)) * x2)) (1000 : Int)))))
/- spec_LevelOn -/
def f_spec_LevelOn (a0 : XForecast) (a1 : List Int) (a2 : Int) : Option Int :=
 (f_spec_ForecastOk a0).bind fun r1 =>
 if r1 then (
  (f_spec_PicksOk a1).bind fun r3 =>
  if r3 then (
   (f_spec_l01In a2 (0 : Int) (2880 : Int)).bind fun r5 =>
   if r5 then (
    (f_spec_l24Level a0 a1 a2).bind fun r7 =>
    some r7)
   else (
    some (0 : Int)))
  else (
   some (0 : Int)))
 else (
  some (0 : Int))
/- impl_isPeriod -/
def f_impl_isPeriod (a0 : Int) : Option Bool :=
 (f_impl_within a0 (4 : Int) (2880 : Int)).bind fun r1 =>
 if r1 then (
  some ((IntKind.i64.wrap (Int.tmod a0 (4 : Int))) == (0 : Int)))
 else (
  some false)
/- impl_PartOk -/
def f_impl_PartOk (a0 : XPart) : Option Bool :=
 (f_impl_within a0.Amp (0 : Int) (1000 : Int)).bind fun r1 =>
 if r1 then (
  (f_impl_isPeriod a0.Period).bind fun r3 =>
  if r3 then (
   (f_impl_within a0.Phase (0 : Int) (IntKind.i64.wrap (a0.Period - (1 : Int)))).bind fun r5 =>
   some r5)
  else (
   some false))
 else (
  some false)
/- impl_TideOk -/
def f_impl_TideOk_1 (a0 : XTide) : Nat → Int → Option Bool
 | 0, _ => none
 | n + 1, v4 =>
  if (decide (v4 < (a0.Parts.length : Int))) then (
   (ix a0.Parts v4).bind fun x6 =>
   (f_impl_PartOk x6).bind fun r7 =>
   if r7 then (
    f_impl_TideOk_1 a0 n (IntKind.i64.wrap (v4 + (1 : Int))))
   else (
    some false))
  else (
   some true)
def f_impl_TideOk (a0 : XTide) : Option Bool :=
 (f_impl_within a0.Mean (-1000 : Int) (1000 : Int)).bind fun r1 =>
 if r1 then (
  if (decide ((4 : Int) < (a0.Parts.length : Int))) then (
   some false)
  else (
   f_impl_TideOk_1 a0 bigN (0 : Int)))
 else (
  some false)
/- impl_isMinute -/
def f_impl_isMinute (a0 : Int) : Option Bool :=
 (f_impl_within a0 (0 : Int) (2880 : Int)).bind fun r1 =>
 some r1
/- impl_SurgeOk -/
def f_impl_SurgeOk (a0 : XSurge) : Option Bool :=
 (f_impl_isMinute a0.From).bind fun r1 =>
 if r1 then (
  if (decide ((-500 : Int) ≤ a0.Low)) then (
   if (decide (a0.Low ≤ a0.High)) then (
    some (decide (a0.High ≤ (500 : Int))))
   else (
    some false))
  else (
   some false))
 else (
  some false)
/- impl_ForecastOk -/
def f_impl_ForecastOk_1 (a0 : XForecast) : Nat → Int → Option Bool
 | 0, _ => none
 | n + 1, v7 =>
  if (decide (v7 < (a0.Surges.length : Int))) then (
   (ix a0.Surges v7).bind fun x9 =>
   (f_impl_SurgeOk x9).bind fun r10 =>
   if r10 then (
    if (decide ((0 : Int) < v7)) then (
     (ix a0.Surges (IntKind.i64.wrap (v7 - (1 : Int)))).bind fun x13 =>
     if (decide (x9.From ≤ x13.From)) then (
      some false)
     else (
      f_impl_ForecastOk_1 a0 n (IntKind.i64.wrap (v7 + (1 : Int)))))
    else (
     f_impl_ForecastOk_1 a0 n (IntKind.i64.wrap (v7 + (1 : Int)))))
   else (
    some false))
  else (
   some true)
def f_impl_ForecastOk (a0 : XForecast) : Option Bool :=
 (f_impl_TideOk a0.Tide).bind fun r1 =>
 if r1 then (
  (f_impl_within (a0.Surges.length : Int) (1 : Int) (6 : Int)).bind fun r3 =>
  if r3 then (
   (ix a0.Surges (0 : Int)).bind fun x5 =>
   if (x5.From != (0 : Int)) then (
    some false)
   else (
    f_impl_ForecastOk_1 a0 bigN (0 : Int)))
  else (
   some false))
 else (
  some false)
/- impl_PicksOk -/
def f_impl_PicksOk_1 (a0 : List Int) : Nat → Int → Option Bool
 | 0, _ => none
 | n + 1, v3 =>
  if (decide (v3 < (a0.length : Int))) then (
   (ix a0 v3).bind fun x5 =>
   (f_impl_within x5 (0 : Int) (1000 : Int)).bind fun r6 =>
   if r6 then (
    f_impl_PicksOk_1 a0 n (IntKind.i64.wrap (v3 + (1 : Int))))
   else (
    some false))
  else (
   some true)
def f_impl_PicksOk (a0 : List Int) : Option Bool :=
 (f_impl_within (a0.length : Int) (1 : Int) (48 : Int)).bind fun r1 =>
 if r1 then (
  f_impl_PicksOk_1 a0 bigN (0 : Int))
 else (
  some false)
/- impl_Wave -/
def f_impl_Wave (a0 : Int) (a1 : Int) : Option Int :=
 (f_impl_isPeriod a1).bind fun r1 =>
 if r1 then (
  if a1 == 0 then none else
  if a1 == 0 then none else
  if (decide ((IntKind.i64.wrap (Int.tdiv a1 (2 : Int))) ≤ (IntKind.i64.wrap (Int.tmod (IntKind.i64.wrap ((IntKind.i64.wrap (Int.tmod a0 a1)) + a1)) a1)))) then (
   if (IntKind.i64.wrap ((IntKind.i64.wrap (Int.tdiv a1 (2 : Int))) * (IntKind.i64.wrap (Int.tdiv a1 (2 : Int))))) == 0 then none else
   some (IntKind.i64.wrap (0 - (IntKind.i64.wrap (Int.tdiv (IntKind.i64.wrap ((IntKind.i64.wrap ((40000 : Int) * (IntKind.i64.wrap ((IntKind.i64.wrap (Int.tmod (IntKind.i64.wrap ((IntKind.i64.wrap (Int.tmod a0 a1)) + a1)) a1)) - (IntKind.i64.wrap (Int.tdiv a1 (2 : Int))))))) * (IntKind.i64.wrap ((IntKind.i64.wrap (Int.tdiv a1 (2 : Int))) - (IntKind.i64.wrap ((IntKind.i64.wrap (Int.tmod (IntKind.i64.wrap ((IntKind.i64.wrap (Int.tmod a0 a1)) + a1)) a1)) - (IntKind.i64.wrap (Int.tdiv a1 (2 : Int))))))))) (IntKind.i64.wrap ((IntKind.i64.wrap (Int.tdiv a1 (2 : Int))) * (IntKind.i64.wrap (Int.tdiv a1 (2 : Int))))))))))
  else (
   if (IntKind.i64.wrap ((IntKind.i64.wrap (Int.tdiv a1 (2 : Int))) * (IntKind.i64.wrap (Int.tdiv a1 (2 : Int))))) == 0 then none else
   some (IntKind.i64.wrap (Int.tdiv (IntKind.i64.wrap ((IntKind.i64.wrap ((40000 : Int) * (IntKind.i64.wrap (Int.tmod (IntKind.i64.wrap ((IntKind.i64.wrap (Int.tmod a0 a1)) + a1)) a1)))) * (IntKind.i64.wrap ((IntKind.i64.wrap (Int.tdiv a1 (2 : Int))) - (IntKind.i64.wrap (Int.tmod (IntKind.i64.wrap ((IntKind.i64.wrap (Int.tmod a0 a1)) + a1)) a1)))))) (IntKind.i64.wrap ((IntKind.i64.wrap (Int.tdiv a1 (2 : Int))) * (IntKind.i64.wrap (Int.tdiv a1 (2 : Int)))))))))
 else (
  some (0 : Int))
/- impl_Tide_level -/
def f_impl_Tide_level_1 (a1 : Int) (a0 : XTide) : Nat → Int → Int → Option Int
 | 0, _, _ => none
 | n + 1, v1, v2 =>
  if (decide (v2 < (a0.Parts.length : Int))) then (
   (ix a0.Parts v2).bind fun x4 =>
   (f_impl_Wave (IntKind.i64.wrap (a1 + x4.Phase)) x4.Period).bind fun r5 =>
   f_impl_Tide_level_1 a1 a0 n (IntKind.i64.wrap (v1 + (IntKind.i64.wrap (Int.tdiv (IntKind.i64.wrap (x4.Amp * r5)) (10000 : Int))))) (IntKind.i64.wrap (v2 + (1 : Int))))
  else (
   some v1)
def f_impl_Tide_level (a0 : XTide) (a1 : Int) : Option Int :=
 f_impl_Tide_level_1 a1 a0 bigN a0.Mean (0 : Int)
/- impl_Forecast_surge -/
def f_impl_Forecast_surge_1 (a1 : Int) (a0 : XForecast) : Nat → Int → Int → Option Int
 | 0, _, _ => none
 | n + 1, v1, v2 =>
  if (decide (v2 < (a0.Surges.length : Int))) then (
   (ix a0.Surges v2).bind fun x4 =>
   if (decide (x4.From ≤ a1)) then (
    f_impl_Forecast_surge_1 a1 a0 n v2 (IntKind.i64.wrap (v2 + (1 : Int))))
   else (
    f_impl_Forecast_surge_1 a1 a0 n v1 (IntKind.i64.wrap (v2 + (1 : Int)))))
  else (
   some v1)
def f_impl_Forecast_surge (a0 : XForecast) (a1 : Int) : Option Int :=
 f_impl_Forecast_surge_1 a1 a0 bigN (0 : Int) (0 : Int)
/- impl_Forecast_low -/
def f_impl_Forecast_low (a0 : XForecast) (a1 : Int) : Option Int :=
 (f_impl_Tide_level a0.Tide a1).bind fun r1 =>
 (f_impl_Forecast_surge a0 a1).bind fun r2 =>
 (ix a0.Surges r2).bind fun x3 =>
 some (IntKind.i64.wrap (r1 + x3.Low))
/- impl_Forecast_high -/
def f_impl_Forecast_high (a0 : XForecast) (a1 : Int) : Option Int :=
 (f_impl_Tide_level a0.Tide a1).bind fun r1 =>
 (f_impl_Forecast_surge a0 a1).bind fun r2 =>
 (ix a0.Surges r2).bind fun x3 =>
 some (IntKind.i64.wrap (r1 + x3.High))
/- impl_pickOf -/
def f_impl_pickOf (a0 : List Int) (a1 : Int) : Option Int :=
 (ix a0 (if (IntKind.i64.wrap ((a0.length : Int) - (1 : Int))) < a1 then (IntKind.i64.wrap ((a0.length : Int) - (1 : Int))) else a1)).bind fun x1 =>
 some x1
/- impl_levelOn -/
def f_impl_levelOn (a0 : XForecast) (a1 : List Int) (a2 : Int) : Option Int :=
 (f_impl_Forecast_low a0 a2).bind fun r1 =>
 (f_impl_Forecast_high a0 a2).bind fun r2 =>
 (f_impl_pickOf a1 (IntKind.i64.wrap (Int.tdiv a2 (60 : Int)))).bind fun r3 =>
 some (IntKind.i64.wrap (r1 + (IntKind.i64.wrap (Int.tdiv (IntKind.i64.wrap ((IntKind.i64.wrap (r2 - r1)) * r3)) (1000 : Int)))))
/- impl_LevelOn -/
def f_impl_LevelOn (a0 : XForecast) (a1 : List Int) (a2 : Int) : Option Int :=
 (f_impl_ForecastOk a0).bind fun r1 =>
 if r1 then (
  (f_impl_PicksOk a1).bind fun r3 =>
  if r3 then (
   (f_impl_isMinute a2).bind fun r5 =>
   if r5 then (
    (f_impl_levelOn a0 a1 a2).bind fun r7 =>
    some r7)
   else (
    some (0 : Int)))
  else (
   some (0 : Int)))
 else (
  some (0 : Int))
/- laws_eqPart -/
def f_laws_eqPart (a0 : XPart) (a1 : XPart) : Option Bool :=
 if (a0.Amp != a1.Amp) then (
  some false)
 else (
  if (a0.Period != a1.Period) then (
   some false)
  else (
   if (a0.Phase != a1.Phase) then (
    some false)
   else (
    some true)))
/- laws_eqPartS -/
def f_laws_eqPartS_1 (a0 : List XPart) (a1 : List XPart) : Nat → Int → Option Bool
 | 0, _ => none
 | n + 1, v2 =>
  if (decide (v2 < (a0.length : Int))) then (
   (ix a0 v2).bind fun x4 =>
   (ix a1 v2).bind fun x5 =>
   (f_laws_eqPart x4 x5).bind fun r6 =>
   if r6 then (
    f_laws_eqPartS_1 a0 a1 n (IntKind.i64.wrap (v2 + (1 : Int))))
   else (
    some false))
  else (
   some true)
def f_laws_eqPartS (a0 : List XPart) (a1 : List XPart) : Option Bool :=
 if ((a0.length : Int) != (a1.length : Int)) then (
  some false)
 else (
  f_laws_eqPartS_1 a0 a1 bigN (0 : Int))
/- laws_eqTide -/
def f_laws_eqTide (a0 : XTide) (a1 : XTide) : Option Bool :=
 if (a0.Mean != a1.Mean) then (
  some false)
 else (
  (f_laws_eqPartS a0.Parts a1.Parts).bind fun r2 =>
  if r2 then (
   some true)
  else (
   some false))
/- laws_eqSurge -/
def f_laws_eqSurge (a0 : XSurge) (a1 : XSurge) : Option Bool :=
 if (a0.From != a1.From) then (
  some false)
 else (
  if (a0.Low != a1.Low) then (
   some false)
  else (
   if (a0.High != a1.High) then (
    some false)
   else (
    some true)))
/- laws_eqSurgeS -/
def f_laws_eqSurgeS_1 (a0 : List XSurge) (a1 : List XSurge) : Nat → Int → Option Bool
 | 0, _ => none
 | n + 1, v2 =>
  if (decide (v2 < (a0.length : Int))) then (
   (ix a0 v2).bind fun x4 =>
   (ix a1 v2).bind fun x5 =>
   (f_laws_eqSurge x4 x5).bind fun r6 =>
   if r6 then (
    f_laws_eqSurgeS_1 a0 a1 n (IntKind.i64.wrap (v2 + (1 : Int))))
   else (
    some false))
  else (
   some true)
def f_laws_eqSurgeS (a0 : List XSurge) (a1 : List XSurge) : Option Bool :=
 if ((a0.length : Int) != (a1.length : Int)) then (
  some false)
 else (
  f_laws_eqSurgeS_1 a0 a1 bigN (0 : Int))
/- laws_eqForecast -/
def f_laws_eqForecast (a0 : XForecast) (a1 : XForecast) : Option Bool :=
 (f_laws_eqTide a0.Tide a1.Tide).bind fun r1 =>
 if r1 then (
  (f_laws_eqSurgeS a0.Surges a1.Surges).bind fun r3 =>
  if r3 then (
   some true)
  else (
   some false))
 else (
  some false)
/- laws_eqIntS -/
def f_laws_eqIntS_1 (a0 : List Int) (a1 : List Int) : Nat → Int → Option Bool
 | 0, _ => none
 | n + 1, v2 =>
  if (decide (v2 < (a0.length : Int))) then (
   (ix a0 v2).bind fun x4 =>
   (ix a1 v2).bind fun x5 =>
   if (x4 != x5) then (
    some false)
   else (
    f_laws_eqIntS_1 a0 a1 n (IntKind.i64.wrap (v2 + (1 : Int)))))
  else (
   some true)
def f_laws_eqIntS (a0 : List Int) (a1 : List Int) : Option Bool :=
 if ((a0.length : Int) != (a1.length : Int)) then (
  some false)
 else (
  f_laws_eqIntS_1 a0 a1 bigN (0 : Int))
/- laws_FnExactLevelOn -/
def f_laws_FnExactLevelOn (a0 : XForecast) (a1 : List Int) (a2 : Int) : Option Bool :=
 if (decide ((1048576 : Int) < (a1.length : Int))) then (
  some true)
 else (
  (f_laws_szForecast a0 (1048576 : Int)).bind fun r2 =>
  if (decide (r2 < (0 : Int))) then (
   some true)
  else (
   (f_laws_toForecast a0).bind fun r4 =>
   (f_laws_toIntS a1).bind fun r5 =>
   (f_spec_LevelOn r4 r5 a2).bind fun r6 =>
   (f_laws_toForecast a0).bind fun r7 =>
   (f_laws_toIntS a1).bind fun r8 =>
   (f_impl_LevelOn r7 r8 a2).bind fun r9 =>
   if (r9 != r6) then (
    some false)
   else (
    (f_laws_toForecast a0).bind fun r11 =>
    (f_laws_eqForecast r7 r11).bind fun r12 =>
    if r12 then (
     (f_laws_toIntS a1).bind fun r14 =>
     (f_laws_eqIntS r8 r14).bind fun r15 =>
     if r15 then (
      some true)
     else (
      some false))
    else (
     some false))))
end Go.Vi
