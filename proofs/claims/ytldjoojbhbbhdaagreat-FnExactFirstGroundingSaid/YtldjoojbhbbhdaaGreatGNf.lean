/-
  Plain definitions of functions, by program. No condition.
-/
import Derived.Test.YtldjoojbhbbhdaaGreatGVi32
namespace Go.Vi
set_option linter.unusedSimpArgs false
set_option linter.unusedVariables false
structure XPart where
  Amp : Int
  Period : Int
  Phase : Int
  deriving DecidableEq
def XPart.row (x : XPart) : List D := [.int .i64 x.Amp, .int .i64 x.Period, .int .i64 x.Phase]
theorem XPart.row_eq (x : XPart) : XPart.row x = [.int .i64 x.Amp, .int .i64 x.Period, .int .i64 x.Phase] := rfl
instance : Row XPart.row 3 := ⟨fun _ => rfl, Nat.le_of_ble_eq_true rfl⟩
instance : FlatRow XPart.row := ⟨fun x d hd => by simp only [XPart.row_eq, List.mem_cons, List.not_mem_nil, or_false] at hd; rcases hd with rfl | rfl | rfl <;> rfl⟩
instance : OfTy (.st [(.int .i64), (.int .i64), (.int .i64)]) XPart.row := ⟨fun ds h => by
  obtain ⟨a0, b0, h0, t0, rfl⟩ := h
  obtain ⟨a1, b1, h1, t1, rfl⟩ := t0
  obtain ⟨a2, b2, h2, t2, rfl⟩ := t1
  obtain rfl := t2
  obtain ⟨x0, rfl⟩ := OfTy.of (row := rI) _ h0
  obtain ⟨x1, rfl⟩ := OfTy.of (row := rI) _ h1
  obtain ⟨x2, rfl⟩ := OfTy.of (row := rI) _ h2
  exact ⟨⟨x0, x1, x2⟩, rfl⟩⟩
structure XTide where
  Mean : Int
  Parts : List XPart
  deriving DecidableEq
def XTide.row (x : XTide) : List D := [.int .i64 x.Mean, .sl (List.map XPart.row x.Parts)]
theorem XTide.row_eq (x : XTide) : XTide.row x = [.int .i64 x.Mean, .sl (List.map XPart.row x.Parts)] := rfl
instance : Row XTide.row 2 := ⟨fun _ => rfl, Nat.le_of_ble_eq_true rfl⟩
instance : OfTy (.st [(.int .i64), (.sl (.st [(.int .i64), (.int .i64), (.int .i64)]))]) XTide.row := ⟨fun ds h => by
  obtain ⟨a0, b0, h0, t0, rfl⟩ := h
  obtain ⟨a1, b1, h1, t1, rfl⟩ := t0
  obtain rfl := t1
  obtain ⟨x0, rfl⟩ := OfTy.of (row := rI) _ h0
  obtain ⟨x1, rfl⟩ := OfTy.of (row := (rL XPart.row)) _ h1
  exact ⟨⟨x0, x1⟩, rfl⟩⟩
structure XSurge where
  From : Int
  Low : Int
  High : Int
  deriving DecidableEq
def XSurge.row (x : XSurge) : List D := [.int .i64 x.From, .int .i64 x.Low, .int .i64 x.High]
theorem XSurge.row_eq (x : XSurge) : XSurge.row x = [.int .i64 x.From, .int .i64 x.Low, .int .i64 x.High] := rfl
instance : Row XSurge.row 3 := ⟨fun _ => rfl, Nat.le_of_ble_eq_true rfl⟩
instance : FlatRow XSurge.row := ⟨fun x d hd => by simp only [XSurge.row_eq, List.mem_cons, List.not_mem_nil, or_false] at hd; rcases hd with rfl | rfl | rfl <;> rfl⟩
instance : OfTy (.st [(.int .i64), (.int .i64), (.int .i64)]) XSurge.row := ⟨fun ds h => by
  obtain ⟨a0, b0, h0, t0, rfl⟩ := h
  obtain ⟨a1, b1, h1, t1, rfl⟩ := t0
  obtain ⟨a2, b2, h2, t2, rfl⟩ := t1
  obtain rfl := t2
  obtain ⟨x0, rfl⟩ := OfTy.of (row := rI) _ h0
  obtain ⟨x1, rfl⟩ := OfTy.of (row := rI) _ h1
  obtain ⟨x2, rfl⟩ := OfTy.of (row := rI) _ h2
  exact ⟨⟨x0, x1, x2⟩, rfl⟩⟩
structure XForecast where
  Tide : XTide
  Surges : List XSurge
  deriving DecidableEq
def XForecast.row (x : XForecast) : List D := [.int .i64 x.Tide.Mean, .sl (List.map XPart.row x.Tide.Parts), .sl (List.map XSurge.row x.Surges)]
theorem XForecast.row_eq (x : XForecast) : XForecast.row x = [.int .i64 x.Tide.Mean, .sl (List.map XPart.row x.Tide.Parts), .sl (List.map XSurge.row x.Surges)] := rfl
instance : Row XForecast.row 3 := ⟨fun _ => rfl, Nat.le_of_ble_eq_true rfl⟩
instance : OfTy (.st [(.st [(.int .i64), (.sl (.st [(.int .i64), (.int .i64), (.int .i64)]))]), (.sl (.st [(.int .i64), (.int .i64), (.int .i64)]))]) XForecast.row := ⟨fun ds h => by
  obtain ⟨a0, b0, h0, t0, rfl⟩ := h
  obtain ⟨a1, b1, h1, t1, rfl⟩ := t0
  obtain rfl := t1
  obtain ⟨x0, rfl⟩ := OfTy.of (row := XTide.row) _ h0
  obtain ⟨x1, rfl⟩ := OfTy.of (row := (rL XSurge.row)) _ h1
  exact ⟨⟨x0, x1⟩, rfl⟩⟩
structure XPoint where
  Name : List UInt8
  Wait : Bool
  deriving DecidableEq
def XPoint.row (x : XPoint) : List D := [.str x.Name, .bool x.Wait]
theorem XPoint.row_eq (x : XPoint) : XPoint.row x = [.str x.Name, .bool x.Wait] := rfl
instance : Row XPoint.row 2 := ⟨fun _ => rfl, Nat.le_of_ble_eq_true rfl⟩
instance : FlatRow XPoint.row := ⟨fun x d hd => by simp only [XPoint.row_eq, List.mem_cons, List.not_mem_nil, or_false] at hd; rcases hd with rfl | rfl <;> rfl⟩
instance : OfTy (.st [.str, .bool]) XPoint.row := ⟨fun ds h => by
  obtain ⟨a0, b0, h0, t0, rfl⟩ := h
  obtain ⟨a1, b1, h1, t1, rfl⟩ := t0
  obtain rfl := t1
  obtain ⟨x0, rfl⟩ := OfTy.of (row := rS) _ h0
  obtain ⟨x1, rfl⟩ := OfTy.of (row := rB) _ h1
  exact ⟨⟨x0, x1⟩, rfl⟩⟩
structure XSegment where
  A : Int
  B : Int
  Depth : Int
  Minutes : Int
  Meet : Bool
  deriving DecidableEq
def XSegment.row (x : XSegment) : List D := [.int .i64 x.A, .int .i64 x.B, .int .i64 x.Depth, .int .i64 x.Minutes, .bool x.Meet]
theorem XSegment.row_eq (x : XSegment) : XSegment.row x = [.int .i64 x.A, .int .i64 x.B, .int .i64 x.Depth, .int .i64 x.Minutes, .bool x.Meet] := rfl
instance : Row XSegment.row 5 := ⟨fun _ => rfl, Nat.le_of_ble_eq_true rfl⟩
instance : FlatRow XSegment.row := ⟨fun x d hd => by simp only [XSegment.row_eq, List.mem_cons, List.not_mem_nil, or_false] at hd; rcases hd with rfl | rfl | rfl | rfl | rfl <;> rfl⟩
instance : OfTy (.st [(.int .i64), (.int .i64), (.int .i64), (.int .i64), .bool]) XSegment.row := ⟨fun ds h => by
  obtain ⟨a0, b0, h0, t0, rfl⟩ := h
  obtain ⟨a1, b1, h1, t1, rfl⟩ := t0
  obtain ⟨a2, b2, h2, t2, rfl⟩ := t1
  obtain ⟨a3, b3, h3, t3, rfl⟩ := t2
  obtain ⟨a4, b4, h4, t4, rfl⟩ := t3
  obtain rfl := t4
  obtain ⟨x0, rfl⟩ := OfTy.of (row := rI) _ h0
  obtain ⟨x1, rfl⟩ := OfTy.of (row := rI) _ h1
  obtain ⟨x2, rfl⟩ := OfTy.of (row := rI) _ h2
  obtain ⟨x3, rfl⟩ := OfTy.of (row := rI) _ h3
  obtain ⟨x4, rfl⟩ := OfTy.of (row := rB) _ h4
  exact ⟨⟨x0, x1, x2, x3, x4⟩, rfl⟩⟩
structure XChart where
  Points : List XPoint
  Segments : List XSegment
  deriving DecidableEq
def XChart.row (x : XChart) : List D := [.sl (List.map XPoint.row x.Points), .sl (List.map XSegment.row x.Segments)]
theorem XChart.row_eq (x : XChart) : XChart.row x = [.sl (List.map XPoint.row x.Points), .sl (List.map XSegment.row x.Segments)] := rfl
instance : Row XChart.row 2 := ⟨fun _ => rfl, Nat.le_of_ble_eq_true rfl⟩
instance : OfTy (.st [(.sl (.st [.str, .bool])), (.sl (.st [(.int .i64), (.int .i64), (.int .i64), (.int .i64), .bool]))]) XChart.row := ⟨fun ds h => by
  obtain ⟨a0, b0, h0, t0, rfl⟩ := h
  obtain ⟨a1, b1, h1, t1, rfl⟩ := t0
  obtain rfl := t1
  obtain ⟨x0, rfl⟩ := OfTy.of (row := (rL XPoint.row)) _ h0
  obtain ⟨x1, rfl⟩ := OfTy.of (row := (rL XSegment.row)) _ h1
  exact ⟨⟨x0, x1⟩, rfl⟩⟩
structure XShip where
  Name : List UInt8
  Length : Int
  Draught : Int
  Line : Int
  Tugs : Int
  Slow : Bool
  deriving DecidableEq
def XShip.row (x : XShip) : List D := [.str x.Name, .int .i64 x.Length, .int .i64 x.Draught, .int .i64 x.Line, .int .i64 x.Tugs, .bool x.Slow]
theorem XShip.row_eq (x : XShip) : XShip.row x = [.str x.Name, .int .i64 x.Length, .int .i64 x.Draught, .int .i64 x.Line, .int .i64 x.Tugs, .bool x.Slow] := rfl
instance : Row XShip.row 6 := ⟨fun _ => rfl, Nat.le_of_ble_eq_true rfl⟩
instance : FlatRow XShip.row := ⟨fun x d hd => by simp only [XShip.row_eq, List.mem_cons, List.not_mem_nil, or_false] at hd; rcases hd with rfl | rfl | rfl | rfl | rfl | rfl <;> rfl⟩
instance : OfTy (.st [.str, (.int .i64), (.int .i64), (.int .i64), (.int .i64), .bool]) XShip.row := ⟨fun ds h => by
  obtain ⟨a0, b0, h0, t0, rfl⟩ := h
  obtain ⟨a1, b1, h1, t1, rfl⟩ := t0
  obtain ⟨a2, b2, h2, t2, rfl⟩ := t1
  obtain ⟨a3, b3, h3, t3, rfl⟩ := t2
  obtain ⟨a4, b4, h4, t4, rfl⟩ := t3
  obtain ⟨a5, b5, h5, t5, rfl⟩ := t4
  obtain rfl := t5
  obtain ⟨x0, rfl⟩ := OfTy.of (row := rS) _ h0
  obtain ⟨x1, rfl⟩ := OfTy.of (row := rI) _ h1
  obtain ⟨x2, rfl⟩ := OfTy.of (row := rI) _ h2
  obtain ⟨x3, rfl⟩ := OfTy.of (row := rI) _ h3
  obtain ⟨x4, rfl⟩ := OfTy.of (row := rI) _ h4
  obtain ⟨x5, rfl⟩ := OfTy.of (row := rB) _ h5
  exact ⟨⟨x0, x1, x2, x3, x4, x5⟩, rfl⟩⟩
structure XRegime where
  Gap : Int
  NoMeet : Bool
  deriving DecidableEq
def XRegime.row (x : XRegime) : List D := [.int .i64 x.Gap, .bool x.NoMeet]
theorem XRegime.row_eq (x : XRegime) : XRegime.row x = [.int .i64 x.Gap, .bool x.NoMeet] := rfl
instance : Row XRegime.row 2 := ⟨fun _ => rfl, Nat.le_of_ble_eq_true rfl⟩
instance : FlatRow XRegime.row := ⟨fun x d hd => by simp only [XRegime.row_eq, List.mem_cons, List.not_mem_nil, or_false] at hd; rcases hd with rfl | rfl <;> rfl⟩
instance : OfTy (.st [(.int .i64), .bool]) XRegime.row := ⟨fun ds h => by
  obtain ⟨a0, b0, h0, t0, rfl⟩ := h
  obtain ⟨a1, b1, h1, t1, rfl⟩ := t0
  obtain rfl := t1
  obtain ⟨x0, rfl⟩ := OfTy.of (row := rI) _ h0
  obtain ⟨x1, rfl⟩ := OfTy.of (row := rB) _ h1
  exact ⟨⟨x0, x1⟩, rfl⟩⟩
structure XCrew where
  Tugs : Int
  Pilots : Int
  Rest : Int
  Moves : List Int
  deriving DecidableEq
def XCrew.row (x : XCrew) : List D := [.int .i64 x.Tugs, .int .i64 x.Pilots, .int .i64 x.Rest, .sl (List.map rI x.Moves)]
theorem XCrew.row_eq (x : XCrew) : XCrew.row x = [.int .i64 x.Tugs, .int .i64 x.Pilots, .int .i64 x.Rest, .sl (List.map rI x.Moves)] := rfl
instance : Row XCrew.row 4 := ⟨fun _ => rfl, Nat.le_of_ble_eq_true rfl⟩
instance : OfTy (.st [(.int .i64), (.int .i64), (.int .i64), (.sl (.int .i64))]) XCrew.row := ⟨fun ds h => by
  obtain ⟨a0, b0, h0, t0, rfl⟩ := h
  obtain ⟨a1, b1, h1, t1, rfl⟩ := t0
  obtain ⟨a2, b2, h2, t2, rfl⟩ := t1
  obtain ⟨a3, b3, h3, t3, rfl⟩ := t2
  obtain rfl := t3
  obtain ⟨x0, rfl⟩ := OfTy.of (row := rI) _ h0
  obtain ⟨x1, rfl⟩ := OfTy.of (row := rI) _ h1
  obtain ⟨x2, rfl⟩ := OfTy.of (row := rI) _ h2
  obtain ⟨x3, rfl⟩ := OfTy.of (row := (rL rI)) _ h3
  exact ⟨⟨x0, x1, x2, x3⟩, rfl⟩⟩
structure XHarbour where
  Forecast : XForecast
  Chart : XChart
  Fleet : List XShip
  Regime : XRegime
  Crew : XCrew
  deriving DecidableEq
def XHarbour.row (x : XHarbour) : List D := [.int .i64 x.Forecast.Tide.Mean, .sl (List.map XPart.row x.Forecast.Tide.Parts), .sl (List.map XSurge.row x.Forecast.Surges), .sl (List.map XPoint.row x.Chart.Points), .sl (List.map XSegment.row x.Chart.Segments), .sl (List.map XShip.row x.Fleet), .int .i64 x.Regime.Gap, .bool x.Regime.NoMeet, .int .i64 x.Crew.Tugs, .int .i64 x.Crew.Pilots, .int .i64 x.Crew.Rest, .sl (List.map rI x.Crew.Moves)]
theorem XHarbour.row_eq (x : XHarbour) : XHarbour.row x = [.int .i64 x.Forecast.Tide.Mean, .sl (List.map XPart.row x.Forecast.Tide.Parts), .sl (List.map XSurge.row x.Forecast.Surges), .sl (List.map XPoint.row x.Chart.Points), .sl (List.map XSegment.row x.Chart.Segments), .sl (List.map XShip.row x.Fleet), .int .i64 x.Regime.Gap, .bool x.Regime.NoMeet, .int .i64 x.Crew.Tugs, .int .i64 x.Crew.Pilots, .int .i64 x.Crew.Rest, .sl (List.map rI x.Crew.Moves)] := rfl
instance : Row XHarbour.row 12 := ⟨fun _ => rfl, Nat.le_of_ble_eq_true rfl⟩
instance : OfTy (.st [(.st [(.st [(.int .i64), (.sl (.st [(.int .i64), (.int .i64), (.int .i64)]))]), (.sl (.st [(.int .i64), (.int .i64), (.int .i64)]))]), (.st [(.sl (.st [.str, .bool])), (.sl (.st [(.int .i64), (.int .i64), (.int .i64), (.int .i64), .bool]))]), (.sl (.st [.str, (.int .i64), (.int .i64), (.int .i64), (.int .i64), .bool])), (.st [(.int .i64), .bool]), (.st [(.int .i64), (.int .i64), (.int .i64), (.sl (.int .i64))])]) XHarbour.row := ⟨fun ds h => by
  obtain ⟨a0, b0, h0, t0, rfl⟩ := h
  obtain ⟨a1, b1, h1, t1, rfl⟩ := t0
  obtain ⟨a2, b2, h2, t2, rfl⟩ := t1
  obtain ⟨a3, b3, h3, t3, rfl⟩ := t2
  obtain ⟨a4, b4, h4, t4, rfl⟩ := t3
  obtain rfl := t4
  obtain ⟨x0, rfl⟩ := OfTy.of (row := XForecast.row) _ h0
  obtain ⟨x1, rfl⟩ := OfTy.of (row := XChart.row) _ h1
  obtain ⟨x2, rfl⟩ := OfTy.of (row := (rL XShip.row)) _ h2
  obtain ⟨x3, rfl⟩ := OfTy.of (row := XRegime.row) _ h3
  obtain ⟨x4, rfl⟩ := OfTy.of (row := XCrew.row) _ h4
  exact ⟨⟨x0, x1, x2, x3, x4⟩, rfl⟩⟩
structure XPassage where
  Ship : Int
  Segment : Int
  Toward : Bool
  Start : Int
  End : Int
  deriving DecidableEq
def XPassage.row (x : XPassage) : List D := [.int .i64 x.Ship, .int .i64 x.Segment, .bool x.Toward, .int .i64 x.Start, .int .i64 x.End]
theorem XPassage.row_eq (x : XPassage) : XPassage.row x = [.int .i64 x.Ship, .int .i64 x.Segment, .bool x.Toward, .int .i64 x.Start, .int .i64 x.End] := rfl
instance : Row XPassage.row 5 := ⟨fun _ => rfl, Nat.le_of_ble_eq_true rfl⟩
instance : FlatRow XPassage.row := ⟨fun x d hd => by simp only [XPassage.row_eq, List.mem_cons, List.not_mem_nil, or_false] at hd; rcases hd with rfl | rfl | rfl | rfl | rfl <;> rfl⟩
instance : OfTy (.st [(.int .i64), (.int .i64), .bool, (.int .i64), (.int .i64)]) XPassage.row := ⟨fun ds h => by
  obtain ⟨a0, b0, h0, t0, rfl⟩ := h
  obtain ⟨a1, b1, h1, t1, rfl⟩ := t0
  obtain ⟨a2, b2, h2, t2, rfl⟩ := t1
  obtain ⟨a3, b3, h3, t3, rfl⟩ := t2
  obtain ⟨a4, b4, h4, t4, rfl⟩ := t3
  obtain rfl := t4
  obtain ⟨x0, rfl⟩ := OfTy.of (row := rI) _ h0
  obtain ⟨x1, rfl⟩ := OfTy.of (row := rI) _ h1
  obtain ⟨x2, rfl⟩ := OfTy.of (row := rB) _ h2
  obtain ⟨x3, rfl⟩ := OfTy.of (row := rI) _ h3
  obtain ⟨x4, rfl⟩ := OfTy.of (row := rI) _ h4
  exact ⟨⟨x0, x1, x2, x3, x4⟩, rfl⟩⟩
structure XOption where
  Start : Int
  Arrival : Int
  Cost : Int
  Passages : List XPassage
  deriving DecidableEq
def XOption.row (x : XOption) : List D := [.int .i64 x.Start, .int .i64 x.Arrival, .int .i64 x.Cost, .sl (List.map XPassage.row x.Passages)]
theorem XOption.row_eq (x : XOption) : XOption.row x = [.int .i64 x.Start, .int .i64 x.Arrival, .int .i64 x.Cost, .sl (List.map XPassage.row x.Passages)] := rfl
instance : Row XOption.row 4 := ⟨fun _ => rfl, Nat.le_of_ble_eq_true rfl⟩
instance : OfTy (.st [(.int .i64), (.int .i64), (.int .i64), (.sl (.st [(.int .i64), (.int .i64), .bool, (.int .i64), (.int .i64)]))]) XOption.row := ⟨fun ds h => by
  obtain ⟨a0, b0, h0, t0, rfl⟩ := h
  obtain ⟨a1, b1, h1, t1, rfl⟩ := t0
  obtain ⟨a2, b2, h2, t2, rfl⟩ := t1
  obtain ⟨a3, b3, h3, t3, rfl⟩ := t2
  obtain rfl := t3
  obtain ⟨x0, rfl⟩ := OfTy.of (row := rI) _ h0
  obtain ⟨x1, rfl⟩ := OfTy.of (row := rI) _ h1
  obtain ⟨x2, rfl⟩ := OfTy.of (row := rI) _ h2
  obtain ⟨x3, rfl⟩ := OfTy.of (row := (rL XPassage.row)) _ h3
  exact ⟨⟨x0, x1, x2, x3⟩, rfl⟩⟩
structure Xgrounded where
  option : Int
  minute : Int
  deriving DecidableEq
def Xgrounded.row (x : Xgrounded) : List D := [.int .i64 x.option, .int .i64 x.minute]
theorem Xgrounded.row_eq (x : Xgrounded) : Xgrounded.row x = [.int .i64 x.option, .int .i64 x.minute] := rfl
instance : Row Xgrounded.row 2 := ⟨fun _ => rfl, Nat.le_of_ble_eq_true rfl⟩
instance : FlatRow Xgrounded.row := ⟨fun x d hd => by simp only [Xgrounded.row_eq, List.mem_cons, List.not_mem_nil, or_false] at hd; rcases hd with rfl | rfl <;> rfl⟩
instance : OfTy (.st [(.int .i64), (.int .i64)]) Xgrounded.row := ⟨fun ds h => by
  obtain ⟨a0, b0, h0, t0, rfl⟩ := h
  obtain ⟨a1, b1, h1, t1, rfl⟩ := t0
  obtain rfl := t1
  obtain ⟨x0, rfl⟩ := OfTy.of (row := rI) _ h0
  obtain ⟨x1, rfl⟩ := OfTy.of (row := rI) _ h1
  exact ⟨⟨x0, x1⟩, rfl⟩⟩
/-- What it panics with. -/
def pd_Xgrounded (x : Xgrounded) : D := .ifs 102 x.row
theorem of_notSome {x : Option Xgrounded} (h : x.isSome = false) : x = none := by cases x with | none => rfl | some _ => cases h
theorem rowsX : type_of% (And.intro @rI_eq (And.intro @XPart.row_eq (And.intro @XTide.row_eq (And.intro @XSurge.row_eq (And.intro @XForecast.row_eq (And.intro @XPoint.row_eq (And.intro @XSegment.row_eq (And.intro @XChart.row_eq (And.intro @XShip.row_eq (And.intro @XRegime.row_eq (And.intro @XCrew.row_eq (And.intro @XHarbour.row_eq (And.intro @XPassage.row_eq (And.intro @XOption.row_eq (@Xgrounded.row_eq))))))))))))))) := And.intro @rI_eq (And.intro @XPart.row_eq (And.intro @XTide.row_eq (And.intro @XSurge.row_eq (And.intro @XForecast.row_eq (And.intro @XPoint.row_eq (And.intro @XSegment.row_eq (And.intro @XChart.row_eq (And.intro @XShip.row_eq (And.intro @XRegime.row_eq (And.intro @XCrew.row_eq (And.intro @XHarbour.row_eq (And.intro @XPassage.row_eq (And.intro @XOption.row_eq (@Xgrounded.row_eq))))))))))))))
/- laws_szPartS -/
def f_laws_szPartS (a0 : List XPart) (a1 : Int) : Option Int :=
 if (decide ((IntKind.i64.wrap (a1 - (a0.length : Int))) < (0 : Int))) then (
  some (-1 : Int))
 else (
  some (IntKind.i64.wrap (a1 - (a0.length : Int))))
/- laws_szTide -/
def f_laws_szTide (a0 : XTide) (a1 : Int) : Option Int :=
 (f_laws_szPartS a0.Parts a1).bind fun r1 =>
 if (decide (r1 < (0 : Int))) then (
  some (-1 : Int))
 else (
  some r1)
/- laws_szSurgeS -/
def f_laws_szSurgeS (a0 : List XSurge) (a1 : Int) : Option Int :=
 if (decide ((IntKind.i64.wrap (a1 - (a0.length : Int))) < (0 : Int))) then (
  some (-1 : Int))
 else (
  some (IntKind.i64.wrap (a1 - (a0.length : Int))))
/- laws_szForecast -/
def f_laws_szForecast (a0 : XForecast) (a1 : Int) : Option Int :=
 (f_laws_szTide a0.Tide a1).bind fun r1 =>
 if (decide (r1 < (0 : Int))) then (
  some (-1 : Int))
 else (
  (f_laws_szSurgeS a0.Surges r1).bind fun r3 =>
  if (decide (r3 < (0 : Int))) then (
   some (-1 : Int))
  else (
   some r3))
/- laws_szPoint -/
def f_laws_szPoint (a0 : XPoint) (a1 : Int) : Option Int :=
 if (decide ((IntKind.i64.wrap (a1 - (a0.Name.length : Int))) < (0 : Int))) then (
  some (-1 : Int))
 else (
  some (IntKind.i64.wrap (a1 - (a0.Name.length : Int))))
/- laws_szPointS -/
def f_laws_szPointS_1 (a0 : List XPoint) : Nat → Int → Int → Option Int
 | 0, _, _ => none
 | n + 1, v2, v3 =>
  if (decide (v3 < (a0.length : Int))) then (
   (ix a0 v3).bind fun x5 =>
   (f_laws_szPoint x5 v2).bind fun r6 =>
   if (decide (r6 < (0 : Int))) then (
    some (-1 : Int))
   else (
    f_laws_szPointS_1 a0 n r6 (IntKind.i64.wrap (v3 + (1 : Int)))))
  else (
   some v2)
def f_laws_szPointS (a0 : List XPoint) (a1 : Int) : Option Int :=
 if (decide ((IntKind.i64.wrap (a1 - (a0.length : Int))) < (0 : Int))) then (
  some (-1 : Int))
 else (
  f_laws_szPointS_1 a0 bigN (IntKind.i64.wrap (a1 - (a0.length : Int))) (0 : Int))
/- laws_szSegmentS -/
def f_laws_szSegmentS (a0 : List XSegment) (a1 : Int) : Option Int :=
 if (decide ((IntKind.i64.wrap (a1 - (a0.length : Int))) < (0 : Int))) then (
  some (-1 : Int))
 else (
  some (IntKind.i64.wrap (a1 - (a0.length : Int))))
/- laws_szChart -/
def f_laws_szChart (a0 : XChart) (a1 : Int) : Option Int :=
 (f_laws_szPointS a0.Points a1).bind fun r1 =>
 if (decide (r1 < (0 : Int))) then (
  some (-1 : Int))
 else (
  (f_laws_szSegmentS a0.Segments r1).bind fun r3 =>
  if (decide (r3 < (0 : Int))) then (
   some (-1 : Int))
  else (
   some r3))
/- laws_szShip -/
def f_laws_szShip (a0 : XShip) (a1 : Int) : Option Int :=
 if (decide ((IntKind.i64.wrap (a1 - (a0.Name.length : Int))) < (0 : Int))) then (
  some (-1 : Int))
 else (
  some (IntKind.i64.wrap (a1 - (a0.Name.length : Int))))
/- laws_szShipS -/
def f_laws_szShipS_1 (a0 : List XShip) : Nat → Int → Int → Option Int
 | 0, _, _ => none
 | n + 1, v2, v3 =>
  if (decide (v3 < (a0.length : Int))) then (
   (ix a0 v3).bind fun x5 =>
   (f_laws_szShip x5 v2).bind fun r6 =>
   if (decide (r6 < (0 : Int))) then (
    some (-1 : Int))
   else (
    f_laws_szShipS_1 a0 n r6 (IntKind.i64.wrap (v3 + (1 : Int)))))
  else (
   some v2)
def f_laws_szShipS (a0 : List XShip) (a1 : Int) : Option Int :=
 if (decide ((IntKind.i64.wrap (a1 - (a0.length : Int))) < (0 : Int))) then (
  some (-1 : Int))
 else (
  f_laws_szShipS_1 a0 bigN (IntKind.i64.wrap (a1 - (a0.length : Int))) (0 : Int))
/- laws_szIntS -/
def f_laws_szIntS (a0 : List Int) (a1 : Int) : Option Int :=
 if (decide ((IntKind.i64.wrap (a1 - (a0.length : Int))) < (0 : Int))) then (
  some (-1 : Int))
 else (
  some (IntKind.i64.wrap (a1 - (a0.length : Int))))
/- laws_szCrew -/
def f_laws_szCrew (a0 : XCrew) (a1 : Int) : Option Int :=
 (f_laws_szIntS a0.Moves a1).bind fun r1 =>
 if (decide (r1 < (0 : Int))) then (
  some (-1 : Int))
 else (
  some r1)
/- laws_szHarbour -/
def f_laws_szHarbour (a0 : XHarbour) (a1 : Int) : Option Int :=
 (f_laws_szForecast a0.Forecast a1).bind fun r1 =>
 if (decide (r1 < (0 : Int))) then (
  some (-1 : Int))
 else (
  (f_laws_szChart a0.Chart r1).bind fun r3 =>
  if (decide (r3 < (0 : Int))) then (
   some (-1 : Int))
  else (
   (f_laws_szShipS a0.Fleet r3).bind fun r5 =>
   if (decide (r5 < (0 : Int))) then (
    some (-1 : Int))
   else (
    (f_laws_szCrew a0.Crew r5).bind fun r7 =>
    if (decide (r7 < (0 : Int))) then (
     some (-1 : Int))
    else (
     some r7))))
/- laws_szPassageS -/
def f_laws_szPassageS (a0 : List XPassage) (a1 : Int) : Option Int :=
 if (decide ((IntKind.i64.wrap (a1 - (a0.length : Int))) < (0 : Int))) then (
  some (-1 : Int))
 else (
  some (IntKind.i64.wrap (a1 - (a0.length : Int))))
/- laws_szOption -/
def f_laws_szOption (a0 : XOption) (a1 : Int) : Option Int :=
 (f_laws_szPassageS a0.Passages a1).bind fun r1 =>
 if (decide (r1 < (0 : Int))) then (
  some (-1 : Int))
 else (
  some r1)
/- laws_szOptionS -/
def f_laws_szOptionS_1 (a0 : List XOption) : Nat → Int → Int → Option Int
 | 0, _, _ => none
 | n + 1, v2, v3 =>
  if (decide (v3 < (a0.length : Int))) then (
   (ix a0 v3).bind fun x5 =>
   (f_laws_szOption x5 v2).bind fun r6 =>
   if (decide (r6 < (0 : Int))) then (
    some (-1 : Int))
   else (
    f_laws_szOptionS_1 a0 n r6 (IntKind.i64.wrap (v3 + (1 : Int)))))
  else (
   some v2)
def f_laws_szOptionS (a0 : List XOption) (a1 : Int) : Option Int :=
 if (decide ((IntKind.i64.wrap (a1 - (a0.length : Int))) < (0 : Int))) then (
  some (-1 : Int))
 else (
  f_laws_szOptionS_1 a0 bigN (IntKind.i64.wrap (a1 - (a0.length : Int))) (0 : Int))
/- laws_toPart -/
def f_laws_toPart (a0 : XPart) : Option XPart :=
 some a0
/- laws_toPartS -/
def f_laws_toPartS_1 (a0 : List XPart) : Nat → Int → (List XPart) → Option (List XPart)
 | 0, _, _ => none
 | n + 1, v2, v3 =>
  if (decide (v2 < (a0.length : Int))) then (
   (ix a0 v2).bind fun x5 =>
   (f_laws_toPart x5).bind fun r6 =>
   (ix v3 v2).bind fun x7 =>
   f_laws_toPartS_1 a0 n (IntKind.i64.wrap (v2 + (1 : Int))) (v3.set (Int.toNat v2) r6))
  else (
   some v3)
def f_laws_toPartS (a0 : List XPart) : Option (List XPart) :=
 (mkS (a0.length : Int) (a0.length : Int) 24).bind fun n1 =>
 f_laws_toPartS_1 a0 bigN (0 : Int) (List.replicate n1 (⟨(0 : Int), (0 : Int), (0 : Int)⟩ : XPart))
/- laws_toTide -/
def f_laws_toTide (a0 : XTide) : Option XTide :=
 (f_laws_toPartS a0.Parts).bind fun r1 =>
 some (⟨a0.Mean, r1⟩ : XTide)
/- laws_toSurge -/
def f_laws_toSurge (a0 : XSurge) : Option XSurge :=
 some a0
/- laws_toSurgeS -/
def f_laws_toSurgeS_1 (a0 : List XSurge) : Nat → Int → (List XSurge) → Option (List XSurge)
 | 0, _, _ => none
 | n + 1, v2, v3 =>
  if (decide (v2 < (a0.length : Int))) then (
   (ix a0 v2).bind fun x5 =>
   (f_laws_toSurge x5).bind fun r6 =>
   (ix v3 v2).bind fun x7 =>
   f_laws_toSurgeS_1 a0 n (IntKind.i64.wrap (v2 + (1 : Int))) (v3.set (Int.toNat v2) r6))
  else (
   some v3)
def f_laws_toSurgeS (a0 : List XSurge) : Option (List XSurge) :=
 (mkS (a0.length : Int) (a0.length : Int) 24).bind fun n1 =>
 f_laws_toSurgeS_1 a0 bigN (0 : Int) (List.replicate n1 (⟨(0 : Int), (0 : Int), (0 : Int)⟩ : XSurge))
/- laws_toForecast -/
def f_laws_toForecast (a0 : XForecast) : Option XForecast :=
 (f_laws_toTide a0.Tide).bind fun r1 =>
 (f_laws_toSurgeS a0.Surges).bind fun r2 =>
 some (⟨r1, r2⟩ : XForecast)
/- laws_toPoint -/
def f_laws_toPoint (a0 : XPoint) : Option XPoint :=
 some a0
/- laws_toPointS -/
def f_laws_toPointS_1 (a0 : List XPoint) : Nat → Int → (List XPoint) → Option (List XPoint)
 | 0, _, _ => none
 | n + 1, v2, v3 =>
  if (decide (v2 < (a0.length : Int))) then (
   (ix a0 v2).bind fun x5 =>
   (f_laws_toPoint x5).bind fun r6 =>
   (ix v3 v2).bind fun x7 =>
   f_laws_toPointS_1 a0 n (IntKind.i64.wrap (v2 + (1 : Int))) (v3.set (Int.toNat v2) r6))
  else (
   some v3)
def f_laws_toPointS (a0 : List XPoint) : Option (List XPoint) :=
 (mkS (a0.length : Int) (a0.length : Int) 24).bind fun n1 =>
 f_laws_toPointS_1 a0 bigN (0 : Int) (List.replicate n1 (⟨([] : List UInt8), false⟩ : XPoint))
/- laws_toSegment -/
def f_laws_toSegment (a0 : XSegment) : Option XSegment :=
 some a0
/- laws_toSegmentS -/
def f_laws_toSegmentS_1 (a0 : List XSegment) : Nat → Int → (List XSegment) → Option (List XSegment)
 | 0, _, _ => none
 | n + 1, v2, v3 =>
  if (decide (v2 < (a0.length : Int))) then (
   (ix a0 v2).bind fun x5 =>
   (f_laws_toSegment x5).bind fun r6 =>
   (ix v3 v2).bind fun x7 =>
   f_laws_toSegmentS_1 a0 n (IntKind.i64.wrap (v2 + (1 : Int))) (v3.set (Int.toNat v2) r6))
  else (
   some v3)
def f_laws_toSegmentS (a0 : List XSegment) : Option (List XSegment) :=
 (mkS (a0.length : Int) (a0.length : Int) 40).bind fun n1 =>
 f_laws_toSegmentS_1 a0 bigN (0 : Int) (List.replicate n1 (⟨(0 : Int), (0 : Int), (0 : Int), (0 : Int), false⟩ : XSegment))
/- laws_toChart -/
def f_laws_toChart (a0 : XChart) : Option XChart :=
 (f_laws_toPointS a0.Points).bind fun r1 =>
 (f_laws_toSegmentS a0.Segments).bind fun r2 =>
 some (⟨r1, r2⟩ : XChart)
/- laws_toShip -/
def f_laws_toShip (a0 : XShip) : Option XShip :=
 some a0
/- laws_toShipS -/
def f_laws_toShipS_1 (a0 : List XShip) : Nat → Int → (List XShip) → Option (List XShip)
 | 0, _, _ => none
 | n + 1, v2, v3 =>
  if (decide (v2 < (a0.length : Int))) then (
   (ix a0 v2).bind fun x5 =>
   (f_laws_toShip x5).bind fun r6 =>
   (ix v3 v2).bind fun x7 =>
   f_laws_toShipS_1 a0 n (IntKind.i64.wrap (v2 + (1 : Int))) (v3.set (Int.toNat v2) r6))
  else (
   some v3)
def f_laws_toShipS (a0 : List XShip) : Option (List XShip) :=
 (mkS (a0.length : Int) (a0.length : Int) 56).bind fun n1 =>
 f_laws_toShipS_1 a0 bigN (0 : Int) (List.replicate n1 (⟨([] : List UInt8), (0 : Int), (0 : Int), (0 : Int), (0 : Int), false⟩ : XShip))
/- laws_toRegime -/
def f_laws_toRegime (a0 : XRegime) : Option XRegime :=
 some a0
/- laws_toIntS -/
def f_laws_toIntS_1 (a0 : List Int) : Nat → Int → (List Int) → Option (List Int)
 | 0, _, _ => none
 | n + 1, v2, v3 =>
  if (decide (v2 < (a0.length : Int))) then (
   (ix a0 v2).bind fun x5 =>
   (ix v3 v2).bind fun x6 =>
   f_laws_toIntS_1 a0 n (IntKind.i64.wrap (v2 + (1 : Int))) (v3.set (Int.toNat v2) x5))
  else (
   some v3)
def f_laws_toIntS (a0 : List Int) : Option (List Int) :=
 (mkS (a0.length : Int) (a0.length : Int) 8).bind fun n1 =>
 f_laws_toIntS_1 a0 bigN (0 : Int) (List.replicate n1 (0 : Int))
/- laws_toCrew -/
def f_laws_toCrew (a0 : XCrew) : Option XCrew :=
 (f_laws_toIntS a0.Moves).bind fun r1 =>
 some (⟨a0.Tugs, a0.Pilots, a0.Rest, r1⟩ : XCrew)
/- laws_toHarbour -/
def f_laws_toHarbour (a0 : XHarbour) : Option XHarbour :=
 (f_laws_toForecast a0.Forecast).bind fun r1 =>
 (f_laws_toChart a0.Chart).bind fun r2 =>
 (f_laws_toShipS a0.Fleet).bind fun r3 =>
 (f_laws_toRegime a0.Regime).bind fun r4 =>
 (f_laws_toCrew a0.Crew).bind fun r5 =>
 some (⟨r1, r2, r3, r4, r5⟩ : XHarbour)
/- laws_toPassage -/
def f_laws_toPassage (a0 : XPassage) : Option XPassage :=
 some a0
/- laws_toPassageS -/
def f_laws_toPassageS_1 (a0 : List XPassage) : Nat → Int → (List XPassage) → Option (List XPassage)
 | 0, _, _ => none
 | n + 1, v2, v3 =>
  if (decide (v2 < (a0.length : Int))) then (
   (ix a0 v2).bind fun x5 =>
   (f_laws_toPassage x5).bind fun r6 =>
   (ix v3 v2).bind fun x7 =>
   f_laws_toPassageS_1 a0 n (IntKind.i64.wrap (v2 + (1 : Int))) (v3.set (Int.toNat v2) r6))
  else (
   some v3)
def f_laws_toPassageS (a0 : List XPassage) : Option (List XPassage) :=
 (mkS (a0.length : Int) (a0.length : Int) 40).bind fun n1 =>
 f_laws_toPassageS_1 a0 bigN (0 : Int) (List.replicate n1 (⟨(0 : Int), (0 : Int), false, (0 : Int), (0 : Int)⟩ : XPassage))
/- laws_toOption -/
def f_laws_toOption (a0 : XOption) : Option XOption :=
 (f_laws_toPassageS a0.Passages).bind fun r1 =>
 some (⟨a0.Start, a0.Arrival, a0.Cost, r1⟩ : XOption)
/- laws_toOptionS -/
def f_laws_toOptionS_1 (a0 : List XOption) : Nat → Int → (List XOption) → Option (List XOption)
 | 0, _, _ => none
 | n + 1, v2, v3 =>
  if (decide (v2 < (a0.length : Int))) then (
   (ix a0 v2).bind fun x5 =>
   (f_laws_toOption x5).bind fun r6 =>
   (ix v3 v2).bind fun x7 =>
   f_laws_toOptionS_1 a0 n (IntKind.i64.wrap (v2 + (1 : Int))) (v3.set (Int.toNat v2) r6))
  else (
   some v3)
def f_laws_toOptionS (a0 : List XOption) : Option (List XOption) :=
 (mkS (a0.length : Int) (a0.length : Int) 48).bind fun n1 =>
 f_laws_toOptionS_1 a0 bigN (0 : Int) (List.replicate n1 (⟨(0 : Int), (0 : Int), (0 : Int), ([] : List XPassage)⟩ : XOption))
/- spec_l01In -/
def f_spec_l01In (a0 : Int) (a1 : Int) (a2 : Int) : Option Bool :=
 if (decide (a1 ≤ a0)) then (
  some (decide (a0 ≤ a2)))
 else (
  some false)
/- spec_PartOk -/
def f_spec_PartOk (a0 : XPart) : Option Bool :=
 (f_spec_l01In a0.Amp (0 : Int) (1000 : Int)).bind fun r1 =>
 if r1 then (
  (f_spec_l01In a0.Period (4 : Int) (2880 : Int)).bind fun r3 =>
  if r3 then (
   if ((IntKind.i64.wrap (Int.tmod a0.Period (4 : Int))) == (0 : Int)) then (
    (f_spec_l01In a0.Phase (0 : Int) (IntKind.i64.wrap (a0.Period - (1 : Int)))).bind fun r6 =>
    some r6)
   else (
    some false))
  else (
   some false))
 else (
  some false)
/- spec_TideOk -/
def f_spec_TideOk_1 (a0 : XTide) : Nat → Int → Option Bool
 | 0, _ => none
 | n + 1, v4 =>
  if (decide (v4 < (a0.Parts.length : Int))) then (
   (ix a0.Parts v4).bind fun x6 =>
   (f_spec_PartOk x6).bind fun r7 =>
   if r7 then (
    f_spec_TideOk_1 a0 n (IntKind.i64.wrap (v4 + (1 : Int))))
   else (
    some false))
  else (
   some true)
def f_spec_TideOk (a0 : XTide) : Option Bool :=
 (f_spec_l01In a0.Mean (-1000 : Int) (1000 : Int)).bind fun r1 =>
 if r1 then (
  if (decide ((4 : Int) < (a0.Parts.length : Int))) then (
   some false)
  else (
   f_spec_TideOk_1 a0 bigN (0 : Int)))
 else (
  some false)
/- spec_SurgeOk -/
def f_spec_SurgeOk (a0 : XSurge) : Option Bool :=
 (f_spec_l01In a0.From (0 : Int) (2880 : Int)).bind fun r1 =>
 if r1 then (
  (f_spec_l01In a0.Low (-500 : Int) (500 : Int)).bind fun r3 =>
  if r3 then (
   (f_spec_l01In a0.High a0.Low (500 : Int)).bind fun r5 =>
   some r5)
  else (
   some false))
 else (
  some false)
/- spec_ForecastOk -/
def f_spec_ForecastOk_1 (a0 : XForecast) : Nat → Int → Option Bool
 | 0, _ => none
 | n + 1, v7 =>
  if (decide (v7 < (a0.Surges.length : Int))) then (
   (ix a0.Surges v7).bind fun x9 =>
   (f_spec_SurgeOk x9).bind fun r10 =>
   if r10 then (
    if (decide ((0 : Int) < v7)) then (
     (ix a0.Surges (IntKind.i64.wrap (v7 - (1 : Int)))).bind fun x13 =>
     if (decide (x9.From ≤ x13.From)) then (
      some false)
     else (
      f_spec_ForecastOk_1 a0 n (IntKind.i64.wrap (v7 + (1 : Int)))))
    else (
     f_spec_ForecastOk_1 a0 n (IntKind.i64.wrap (v7 + (1 : Int)))))
   else (
    some false))
  else (
   some true)
def f_spec_ForecastOk (a0 : XForecast) : Option Bool :=
 (f_spec_TideOk a0.Tide).bind fun r1 =>
 if r1 then (
  (f_spec_l01In (a0.Surges.length : Int) (1 : Int) (6 : Int)).bind fun r3 =>
  if r3 then (
   (ix a0.Surges (0 : Int)).bind fun x5 =>
   if (x5.From != (0 : Int)) then (
    some false)
   else (
    f_spec_ForecastOk_1 a0 bigN (0 : Int)))
  else (
   some false))
 else (
  some false)
/- spec_IsName -/
def f_spec_IsName_3 (a0 : List UInt8) (v1 : Int) (k_spec_IsName_1 : Int → Option Bool) : Option Bool :=
 k_spec_IsName_1 (IntKind.i64.wrap (v1 + (1 : Int)))
def f_spec_IsName_2 (a0 : List UInt8) (v1 : Int) (k_spec_IsName_1 : Int → Option Bool) (v5 : Bool) : Option Bool :=
 if v5 then (
  f_spec_IsName_3 a0 v1 k_spec_IsName_1)
 else (
  if (v1 == (0 : Int)) then (
   some false)
  else (
   (ix a0 v1).bind fun b8 =>
   if (decide ((b8.toNat : Int) < (48 : Int))) then (
    some false)
   else (
    if (decide ((57 : Int) < (b8.toNat : Int))) then (
     some false)
    else (
     f_spec_IsName_3 a0 v1 k_spec_IsName_1))))
def f_spec_IsName_1 (a0 : List UInt8) : Nat → Int → Option Bool
 | 0, _ => none
 | n + 1, v1 =>
  if (decide (v1 < (a0.length : Int))) then (
   (ix a0 v1).bind fun b3 =>
   if (decide ((97 : Int) ≤ (b3.toNat : Int))) then (
    f_spec_IsName_2 a0 v1 (f_spec_IsName_1 a0 n) (decide ((b3.toNat : Int) ≤ (122 : Int))))
   else (
    f_spec_IsName_2 a0 v1 (f_spec_IsName_1 a0 n) false))
  else (
   (f_spec_l01In (a0.length : Int) (1 : Int) (8 : Int)).bind fun r11 =>
   some r11)
def f_spec_IsName (a0 : List UInt8) : Option Bool :=
 f_spec_IsName_1 a0 bigN (0 : Int)
/- spec_PointNamed -/
def f_spec_PointNamed_1 (a1 : List UInt8) (a0 : XChart) : Nat → Int → Option Int
 | 0, _ => none
 | n + 1, v1 =>
  if (decide (v1 < (a0.Points.length : Int))) then (
   (ix a0.Points v1).bind fun x3 =>
   if (x3.Name == a1) then (
    some v1)
   else (
    f_spec_PointNamed_1 a1 a0 n (IntKind.i64.wrap (v1 + (1 : Int)))))
  else (
   some (-1 : Int))
def f_spec_PointNamed (a0 : XChart) (a1 : List UInt8) : Option Int :=
 f_spec_PointNamed_1 a1 a0 bigN (0 : Int)
/- spec_l05Joins -/
def f_spec_l05Joins (a0 : XSegment) (a1 : Int) (a2 : Int) : Option Bool :=
 if (a0.A == a1) then (
  if (a0.B == a2) then (
   some true)
  else (
   if (a0.A == a2) then (
    some (a0.B == a1))
   else (
    some false)))
 else (
  if (a0.A == a2) then (
   some (a0.B == a1))
  else (
   some false))
/- spec_ChartOk -/
def f_spec_ChartOk_3 (a0 : XChart) (v10 : Int) (x12 : XSegment) (y23 : List XSegment) (y24 : Int) (k_spec_ChartOk_2 : Int → Option Bool) : Nat → Int → Option Bool
 | 0, _ => none
 | n + 1, v25 =>
  if (decide (v25 < y24)) then (
   (ix y23 v25).bind fun x27 =>
   (f_spec_l05Joins x27 x12.A x12.B).bind fun r28 =>
   if r28 then (
    some false)
   else (
    f_spec_ChartOk_3 a0 v10 x12 y23 y24 k_spec_ChartOk_2 n (IntKind.i64.wrap (v25 + (1 : Int)))))
  else (
   k_spec_ChartOk_2 (IntKind.i64.wrap (v10 + (1 : Int))))
def f_spec_ChartOk_2 (a0 : XChart) : Nat → Int → Option Bool
 | 0, _ => none
 | n + 1, v10 =>
  if (decide (v10 < (a0.Segments.length : Int))) then (
   (ix a0.Segments v10).bind fun x12 =>
   (f_spec_l01In x12.A (0 : Int) (IntKind.i64.wrap ((a0.Points.length : Int) - (1 : Int)))).bind fun r13 =>
   if r13 then (
    (f_spec_l01In x12.B (0 : Int) (IntKind.i64.wrap ((a0.Points.length : Int) - (1 : Int)))).bind fun r15 =>
    if r15 then (
     if (x12.A == x12.B) then (
      some false)
     else (
      (f_spec_l01In x12.Depth (0 : Int) (3000 : Int)).bind fun r18 =>
      if r18 then (
       (f_spec_l01In x12.Minutes (1 : Int) (240 : Int)).bind fun r20 =>
       if r20 then (
        (bnd (a0.Segments.length : Int) v10 (0 : Int) a0.Segments.length).bind fun p22 =>
        f_spec_ChartOk_3 a0 v10 x12 ((a0.Segments.drop p22.1).take (p22.2 - p22.1)) (((a0.Segments.drop p22.1).take (p22.2 - p22.1)).length : Int) (f_spec_ChartOk_2 a0 n) bigN (0 : Int))
       else (
        some false))
      else (
       some false)))
    else (
     some false))
   else (
    some false))
  else (
   some true)
def f_spec_ChartOk_1 (a0 : XChart) : Nat → Int → Option Bool
 | 0, _ => none
 | n + 1, v3 =>
  if (decide (v3 < (a0.Points.length : Int))) then (
   (ix a0.Points v3).bind fun x5 =>
   (f_spec_IsName x5.Name).bind fun r6 =>
   if r6 then (
    (f_spec_PointNamed a0 x5.Name).bind fun r8 =>
    if (r8 != v3) then (
     some false)
    else (
     f_spec_ChartOk_1 a0 n (IntKind.i64.wrap (v3 + (1 : Int)))))
   else (
    some false))
  else (
   f_spec_ChartOk_2 a0 bigN (0 : Int))
def f_spec_ChartOk (a0 : XChart) : Option Bool :=
 if (decide ((8 : Int) < (a0.Points.length : Int))) then (
  some false)
 else (
  if (decide ((10 : Int) < (a0.Segments.length : Int))) then (
   some false)
  else (
   f_spec_ChartOk_1 a0 bigN (0 : Int)))
/- spec_ShipOk -/
def f_spec_ShipOk (a0 : XShip) : Option Bool :=
 (f_spec_IsName a0.Name).bind fun r1 =>
 if r1 then (
  (f_spec_l01In a0.Length (10 : Int) (400 : Int)).bind fun r3 =>
  if r3 then (
   (f_spec_l01In a0.Draught (100 : Int) (2000 : Int)).bind fun r5 =>
   if r5 then (
    (f_spec_l01In a0.Line (0 : Int) (3 : Int)).bind fun r7 =>
    if r7 then (
     (f_spec_l01In a0.Tugs (0 : Int) (4 : Int)).bind fun r9 =>
     some r9)
    else (
     some false))
   else (
    some false))
  else (
   some false))
 else (
  some false)
/- spec_ShipNamed -/
def f_spec_ShipNamed_1 (a1 : List UInt8) (a0 : List XShip) : Nat → Int → Option Int
 | 0, _ => none
 | n + 1, v1 =>
  if (decide (v1 < (a0.length : Int))) then (
   (ix a0 v1).bind fun x3 =>
   if (x3.Name == a1) then (
    some v1)
   else (
    f_spec_ShipNamed_1 a1 a0 n (IntKind.i64.wrap (v1 + (1 : Int)))))
  else (
   some (-1 : Int))
def f_spec_ShipNamed (a0 : List XShip) (a1 : List UInt8) : Option Int :=
 f_spec_ShipNamed_1 a1 a0 bigN (0 : Int)
/- spec_FleetOk -/
def f_spec_FleetOk_1 (a0 : List XShip) : Nat → Int → Option Bool
 | 0, _ => none
 | n + 1, v2 =>
  if (decide (v2 < (a0.length : Int))) then (
   (ix a0 v2).bind fun x4 =>
   (f_spec_ShipOk x4).bind fun r5 =>
   if r5 then (
    (f_spec_ShipNamed a0 x4.Name).bind fun r7 =>
    if (r7 != v2) then (
     some false)
    else (
     f_spec_FleetOk_1 a0 n (IntKind.i64.wrap (v2 + (1 : Int)))))
   else (
    some false))
  else (
   some true)
def f_spec_FleetOk (a0 : List XShip) : Option Bool :=
 if (decide ((6 : Int) < (a0.length : Int))) then (
  some false)
 else (
  f_spec_FleetOk_1 a0 bigN (0 : Int))
/- spec_RegimeOk -/
def f_spec_RegimeOk (a0 : XRegime) : Option Bool :=
 (f_spec_l01In a0.Gap (0 : Int) (60 : Int)).bind fun r1 =>
 some r1
/- spec_l13Table -/
def f_spec_l13Table_1 (a1 : List Int) : Nat → Int → Option Bool
 | 0, _ => none
 | n + 1, v4 =>
  if (decide (v4 < (a1.length : Int))) then (
   (ix a1 v4).bind fun x6 =>
   (f_spec_l01In x6 (0 : Int) (240 : Int)).bind fun r7 =>
   if r7 then (
    f_spec_l13Table_1 a1 n (IntKind.i64.wrap (v4 + (1 : Int))))
   else (
    some false))
  else (
   some true)
def f_spec_l13Table (a0 : Int) (a1 : List Int) : Option Bool :=
 (f_spec_l01In a0 (0 : Int) (2880 : Int)).bind fun r1 =>
 if r1 then (
  if ((a1.length : Int) != (64 : Int)) then (
   some false)
  else (
   f_spec_l13Table_1 a1 bigN (0 : Int)))
 else (
  some false)
/- spec_CrewOk -/
def f_spec_CrewOk (a0 : XCrew) : Option Bool :=
 (f_spec_l01In a0.Tugs (0 : Int) (12 : Int)).bind fun r1 =>
 if r1 then (
  (f_spec_l01In a0.Pilots (0 : Int) (12 : Int)).bind fun r3 =>
  if r3 then (
   (f_spec_l13Table a0.Rest a0.Moves).bind fun r5 =>
   some r5)
  else (
   some false))
 else (
  some false)
/- spec_HarbourOk -/
def f_spec_HarbourOk (a0 : XHarbour) : Option Bool :=
 (f_spec_ForecastOk a0.Forecast).bind fun r1 =>
 if r1 then (
  (f_spec_ChartOk a0.Chart).bind fun r3 =>
  if r3 then (
   (f_spec_FleetOk a0.Fleet).bind fun r5 =>
   if r5 then (
    (f_spec_RegimeOk a0.Regime).bind fun r7 =>
    if r7 then (
     (f_spec_CrewOk a0.Crew).bind fun r9 =>
     some r9)
    else (
     some false))
   else (
    some false))
  else (
   some false))
 else (
  some false)
/- spec_PicksOk -/
def f_spec_PicksOk_1 (a0 : List Int) : Nat → Int → Option Bool
 | 0, _ => none
 | n + 1, v3 =>
  if (decide (v3 < (a0.length : Int))) then (
   (ix a0 v3).bind fun x5 =>
   (f_spec_l01In x5 (0 : Int) (1000 : Int)).bind fun r6 =>
   if r6 then (
    f_spec_PicksOk_1 a0 n (IntKind.i64.wrap (v3 + (1 : Int))))
   else (
    some false))
  else (
   some true)
def f_spec_PicksOk (a0 : List Int) : Option Bool :=
 (f_spec_l01In (a0.length : Int) (1 : Int) (48 : Int)).bind fun r1 =>
 if r1 then (
  f_spec_PicksOk_1 a0 bigN (0 : Int))
 else (
  some false)
/- spec_l06Minutes -/
def f_spec_l06Minutes (a0 : XSegment) (a1 : XShip) : Option Int :=
 if a1.Slow then (
  some (IntKind.i64.wrap ((2 : Int) * a0.Minutes)))
 else (
  some a0.Minutes)
/- spec_MinutesOn -/
def f_spec_MinutesOn (a0 : XChart) (a1 : Int) (a2 : XShip) : Option Int :=
 (f_spec_ChartOk a0).bind fun r1 =>
 if r1 then (
  (f_spec_ShipOk a2).bind fun r3 =>
  if r3 then (
   (f_spec_l01In a1 (0 : Int) (IntKind.i64.wrap ((a0.Segments.length : Int) - (1 : Int)))).bind fun r5 =>
   if r5 then (
    (ix a0.Segments a1).bind fun x7 =>
    (f_spec_l06Minutes x7 a2).bind fun r8 =>
    some r8)
   else (
    some (0 : Int)))
  else (
   some (0 : Int)))
 else (
  some (0 : Int))
/- spec_PassageOk -/
def f_spec_PassageOk (a0 : XChart) (a1 : List XShip) (a2 : XPassage) : Option Bool :=
 (f_spec_ChartOk a0).bind fun r1 =>
 if r1 then (
  (f_spec_FleetOk a1).bind fun r3 =>
  if r3 then (
   (f_spec_l01In a2.Ship (0 : Int) (IntKind.i64.wrap ((a1.length : Int) - (1 : Int)))).bind fun r5 =>
   if r5 then (
    (f_spec_l01In a2.Segment (0 : Int) (IntKind.i64.wrap ((a0.Segments.length : Int) - (1 : Int)))).bind fun r7 =>
    if r7 then (
     (f_spec_l01In a2.Start (0 : Int) (2880 : Int)).bind fun r9 =>
     if r9 then (
      (ix a1 a2.Ship).bind fun x11 =>
      (f_spec_MinutesOn a0 a2.Segment x11).bind fun r12 =>
      if (a2.End == (IntKind.i64.wrap (a2.Start + r12))) then (
       some (decide (a2.End ≤ (2880 : Int))))
      else (
       some false))
     else (
      some false))
    else (
     some false))
   else (
    some false))
  else (
   some false))
 else (
  some false)
/- spec_l07Ok -/
def f_spec_l07Ok (a0 : XChart) (a1 : Int) (a2 : XShip) : Option Bool :=
 (f_spec_ChartOk a0).bind fun r1 =>
 if r1 then (
  (f_spec_ShipOk a2).bind fun r3 =>
  if r3 then (
   (f_spec_l01In a1 (0 : Int) (IntKind.i64.wrap ((a0.Segments.length : Int) - (1 : Int)))).bind fun r5 =>
   some r5)
  else (
   some false))
 else (
  some false)
/- spec_SquatOf -/
def f_spec_SquatOf (a0 : XShip) : Option Int :=
 (f_spec_ShipOk a0).bind fun r1 =>
 if r1 then (
  if a0.Slow then (
   some (IntKind.i64.wrap (Int.tdiv a0.Draught (50 : Int))))
  else (
   some (IntKind.i64.wrap (Int.tdiv a0.Draught (20 : Int)))))
 else (
  some (0 : Int))
/- spec_NeedOf -/
def f_spec_NeedOf (a0 : XShip) : Option Int :=
 (f_spec_ShipOk a0).bind fun r1 =>
 if r1 then (
  (f_spec_SquatOf a0).bind fun r3 =>
  some (IntKind.i64.wrap ((IntKind.i64.wrap (a0.Draught + r3)) + (50 : Int))))
 else (
  some (0 : Int))
/- spec_LevelFor -/
def f_spec_LevelFor (a0 : XChart) (a1 : Int) (a2 : XShip) : Option Int :=
 (f_spec_l07Ok a0 a1 a2).bind fun r1 =>
 if r1 then (
  (f_spec_NeedOf a2).bind fun r3 =>
  (ix a0.Segments a1).bind fun x4 =>
  some (IntKind.i64.wrap (r3 - x4.Depth)))
 else (
  some (0 : Int))
/- spec_l03Surge -/
def f_spec_l03Surge_1 (a1 : Int) (a0 : XForecast) : Nat → Int → Int → Int → Int → Option XSurge
 | 0, _, _, _, _ => none
 | n + 1, v2, v3, v4, v5 =>
  if (decide (v2 < (a0.Surges.length : Int))) then (
   (ix a0.Surges v2).bind fun x7 =>
   if (decide (x7.From ≤ a1)) then (
    f_spec_l03Surge_1 a1 a0 n (IntKind.i64.wrap (v2 + (1 : Int))) x7.From x7.Low x7.High)
   else (
    f_spec_l03Surge_1 a1 a0 n (IntKind.i64.wrap (v2 + (1 : Int))) v3 v4 v5))
  else (
   some (⟨v3, v4, v5⟩ : XSurge))
def f_spec_l03Surge (a0 : XForecast) (a1 : Int) : Option XSurge :=
 (ix a0.Surges (0 : Int)).bind fun x1 =>
 f_spec_l03Surge_1 a1 a0 bigN (0 : Int) x1.From x1.Low x1.High
/- spec_Wave -/
def f_spec_Wave_1 (a1 : Int) (v6 : Int) : Option Int :=
 if (decide (v6 < (IntKind.i64.wrap (Int.tdiv a1 (2 : Int))))) then (
  if (IntKind.i64.wrap ((IntKind.i64.wrap (Int.tdiv a1 (2 : Int))) * (IntKind.i64.wrap (Int.tdiv a1 (2 : Int))))) == 0 then none else
  some (IntKind.i64.wrap (Int.tdiv (IntKind.i64.wrap ((IntKind.i64.wrap ((40000 : Int) * v6)) * (IntKind.i64.wrap ((IntKind.i64.wrap (Int.tdiv a1 (2 : Int))) - v6)))) (IntKind.i64.wrap ((IntKind.i64.wrap (Int.tdiv a1 (2 : Int))) * (IntKind.i64.wrap (Int.tdiv a1 (2 : Int))))))))
 else (
  if (IntKind.i64.wrap ((IntKind.i64.wrap (Int.tdiv a1 (2 : Int))) * (IntKind.i64.wrap (Int.tdiv a1 (2 : Int))))) == 0 then none else
  some (IntKind.i64.wrap (0 - (IntKind.i64.wrap (Int.tdiv (IntKind.i64.wrap ((IntKind.i64.wrap ((40000 : Int) * (IntKind.i64.wrap (v6 - (IntKind.i64.wrap (Int.tdiv a1 (2 : Int))))))) * (IntKind.i64.wrap ((IntKind.i64.wrap (Int.tdiv a1 (2 : Int))) - (IntKind.i64.wrap (v6 - (IntKind.i64.wrap (Int.tdiv a1 (2 : Int))))))))) (IntKind.i64.wrap ((IntKind.i64.wrap (Int.tdiv a1 (2 : Int))) * (IntKind.i64.wrap (Int.tdiv a1 (2 : Int))))))))))
def f_spec_Wave (a0 : Int) (a1 : Int) : Option Int :=
 if (decide (a1 < (4 : Int))) then (
  some (0 : Int))
 else (
  if (decide ((2880 : Int) < a1)) then (
   some (0 : Int))
  else (
   if ((IntKind.i64.wrap (Int.tmod a1 (4 : Int))) != (0 : Int)) then (
    some (0 : Int))
   else (
    if a1 == 0 then none else
    if (decide ((IntKind.i64.wrap (Int.tmod a0 a1)) < (0 : Int))) then (
     f_spec_Wave_1 a1 (IntKind.i64.wrap ((IntKind.i64.wrap (Int.tmod a0 a1)) + a1)))
    else (
     f_spec_Wave_1 a1 (IntKind.i64.wrap (Int.tmod a0 a1))))))
/- spec_l02Level -/
def f_spec_l02Level_1 (a1 : Int) (a0 : XTide) : Nat → Int → Int → Option Int
 | 0, _, _ => none
 | n + 1, v1, v2 =>
  if (decide (v2 < (a0.Parts.length : Int))) then (
   (ix a0.Parts v2).bind fun x4 =>
   (f_spec_Wave (IntKind.i64.wrap (a1 + x4.Phase)) x4.Period).bind fun r5 =>
   f_spec_l02Level_1 a1 a0 n (IntKind.i64.wrap (v1 + (IntKind.i64.wrap (Int.tdiv (IntKind.i64.wrap (x4.Amp * r5)) (10000 : Int))))) (IntKind.i64.wrap (v2 + (1 : Int))))
  else (
   some v1)
def f_spec_l02Level (a0 : XTide) (a1 : Int) : Option Int :=
 f_spec_l02Level_1 a1 a0 bigN a0.Mean (0 : Int)
/- spec_l24Level -/
def f_spec_l24Level (a0 : XForecast) (a1 : List Int) (a2 : Int) : Option Int :=
 (f_spec_l03Surge a0 a2).bind fun r1 =>
 (ix a1 (if (IntKind.i64.wrap ((a1.length : Int) - (1 : Int))) < (IntKind.i64.wrap (Int.tdiv a2 (60 : Int))) then (IntKind.i64.wrap ((a1.length : Int) - (1 : Int))) else (IntKind.i64.wrap (Int.tdiv a2 (60 : Int))))).bind fun x2 =>
 (f_spec_l02Level a0.Tide a2).bind fun r3 =>
 some (IntKind.i64.wrap ((IntKind.i64.wrap (r3 + r1.Low)) + (IntKind.i64.wrap (Int.tdiv (IntKind.i64.wrap ((IntKind.i64.wrap (r1.High - r1.Low)) * x2)) (1000 : Int)))))
/- spec_l24Least -/
def f_spec_l24Least_1 (a2 : List Int) (r2 : Int) (a0 : XHarbour) (a1 : XPassage) : Nat → Int → Int → Option Int
 | 0, _, _ => none
 | n + 1, v4, v5 =>
  if (decide (v5 ≤ a1.End)) then (
   (f_spec_l24Level a0.Forecast a2 v5).bind fun r7 =>
   f_spec_l24Least_1 a2 r2 a0 a1 n (if (IntKind.i64.wrap (r7 - r2)) < v4 then (IntKind.i64.wrap (r7 - r2)) else v4) (IntKind.i64.wrap (v5 + (1 : Int))))
  else (
   some v4)
def f_spec_l24Least (a0 : XHarbour) (a1 : XPassage) (a2 : List Int) : Option Int :=
 (ix a0.Fleet a1.Ship).bind fun x1 =>
 (f_spec_LevelFor a0.Chart a1.Segment x1).bind fun r2 =>
 (f_spec_l24Level a0.Forecast a2 a1.Start).bind fun r3 =>
 f_spec_l24Least_1 a2 r2 a0 a1 bigN (IntKind.i64.wrap (r3 - r2)) a1.Start
/- spec_ClearanceOn -/
def f_spec_ClearanceOn_1 (a2 : List Int) (a0 : XHarbour) (a1 : XPassage) (v6 : Bool) : Option (Int × Bool) :=
 if v6 then (
  some ((0 : Int), false))
 else (
  (f_spec_l24Least a0 a1 a2).bind fun r8 =>
  some (r8, true))
def f_spec_ClearanceOn (a0 : XHarbour) (a1 : XPassage) (a2 : List Int) : Option (Int × Bool) :=
 (f_spec_HarbourOk a0).bind fun r1 =>
 if r1 then (
  (f_spec_PicksOk a2).bind fun r3 =>
  if r3 then (
   (f_spec_PassageOk a0.Chart a0.Fleet a1).bind fun r5 =>
   f_spec_ClearanceOn_1 a2 a0 a1 (!r5))
  else (
   f_spec_ClearanceOn_1 a2 a0 a1 true))
 else (
  f_spec_ClearanceOn_1 a2 a0 a1 true)
/- spec_HoldsOn -/
def f_spec_HoldsOn_2 (a2 : List Int) (a1 : List XOption) (v1 : Int) (x3 : XOption) (a0 : XHarbour) (k_spec_HoldsOn_1 : Int → Option Bool) : Nat → Int → Option Bool
 | 0, _ => none
 | n + 1, v4 =>
  if (decide (v4 < (x3.Passages.length : Int))) then (
   (ix x3.Passages v4).bind fun x6 =>
   (f_spec_ClearanceOn a0 x6 a2).bind fun r7 =>
   if r7.2 then (
    if (decide (r7.1 < (0 : Int))) then (
     some false)
    else (
     f_spec_HoldsOn_2 a2 a1 v1 x3 a0 k_spec_HoldsOn_1 n (IntKind.i64.wrap (v4 + (1 : Int)))))
   else (
    some false))
  else (
   k_spec_HoldsOn_1 (IntKind.i64.wrap (v1 + (1 : Int))))
def f_spec_HoldsOn_1 (a2 : List Int) (a1 : List XOption) (a0 : XHarbour) : Nat → Int → Option Bool
 | 0, _ => none
 | n + 1, v1 =>
  if (decide (v1 < (a1.length : Int))) then (
   (ix a1 v1).bind fun x3 =>
   f_spec_HoldsOn_2 a2 a1 v1 x3 a0 (f_spec_HoldsOn_1 a2 a1 a0 n) bigN (0 : Int))
  else (
   some true)
def f_spec_HoldsOn (a0 : XHarbour) (a1 : List XOption) (a2 : List Int) : Option Bool :=
 f_spec_HoldsOn_1 a2 a1 a0 bigN (0 : Int)
/- impl_within -/
def f_impl_within (a0 : Int) (a1 : Int) (a2 : Int) : Option Bool :=
 if (decide (a1 ≤ a0)) then (
  some (decide (a0 ≤ a2)))
 else (
  some false)
/- impl_isPeriod -/
def f_impl_isPeriod (a0 : Int) : Option Bool :=
 (f_impl_within a0 (4 : Int) (2880 : Int)).bind fun r1 =>
 if r1 then (
  some ((IntKind.i64.wrap (Int.tmod a0 (4 : Int))) == (0 : Int)))
 else (
  some false)
/- impl_PartOk -/
def f_impl_PartOk (a0 : XPart) : Option Bool :=
 (f_impl_within a0.Amp (0 : Int) (1000 : Int)).bind fun r1 =>
 if r1 then (
  (f_impl_isPeriod a0.Period).bind fun r3 =>
  if r3 then (
   (f_impl_within a0.Phase (0 : Int) (IntKind.i64.wrap (a0.Period - (1 : Int)))).bind fun r5 =>
   some r5)
  else (
   some false))
 else (
  some false)
/- impl_TideOk -/
def f_impl_TideOk_1 (a0 : XTide) : Nat → Int → Option Bool
 | 0, _ => none
 | n + 1, v4 =>
  if (decide (v4 < (a0.Parts.length : Int))) then (
   (ix a0.Parts v4).bind fun x6 =>
   (f_impl_PartOk x6).bind fun r7 =>
   if r7 then (
    f_impl_TideOk_1 a0 n (IntKind.i64.wrap (v4 + (1 : Int))))
   else (
    some false))
  else (
   some true)
def f_impl_TideOk (a0 : XTide) : Option Bool :=
 (f_impl_within a0.Mean (-1000 : Int) (1000 : Int)).bind fun r1 =>
 if r1 then (
  if (decide ((4 : Int) < (a0.Parts.length : Int))) then (
   some false)
  else (
   f_impl_TideOk_1 a0 bigN (0 : Int)))
 else (
  some false)
/- impl_isMinute -/
def f_impl_isMinute (a0 : Int) : Option Bool :=
 (f_impl_within a0 (0 : Int) (2880 : Int)).bind fun r1 =>
 some r1
/- impl_SurgeOk -/
def f_impl_SurgeOk (a0 : XSurge) : Option Bool :=
 (f_impl_isMinute a0.From).bind fun r1 =>
 if r1 then (
  if (decide ((-500 : Int) ≤ a0.Low)) then (
   if (decide (a0.Low ≤ a0.High)) then (
    some (decide (a0.High ≤ (500 : Int))))
   else (
    some false))
  else (
   some false))
 else (
  some false)
/- impl_ForecastOk -/
def f_impl_ForecastOk_1 (a0 : XForecast) : Nat → Int → Option Bool
 | 0, _ => none
 | n + 1, v7 =>
  if (decide (v7 < (a0.Surges.length : Int))) then (
   (ix a0.Surges v7).bind fun x9 =>
   (f_impl_SurgeOk x9).bind fun r10 =>
   if r10 then (
    if (decide ((0 : Int) < v7)) then (
     (ix a0.Surges (IntKind.i64.wrap (v7 - (1 : Int)))).bind fun x13 =>
     if (decide (x9.From ≤ x13.From)) then (
      some false)
     else (
      f_impl_ForecastOk_1 a0 n (IntKind.i64.wrap (v7 + (1 : Int)))))
    else (
     f_impl_ForecastOk_1 a0 n (IntKind.i64.wrap (v7 + (1 : Int)))))
   else (
    some false))
  else (
   some true)
def f_impl_ForecastOk (a0 : XForecast) : Option Bool :=
 (f_impl_TideOk a0.Tide).bind fun r1 =>
 if r1 then (
  (f_impl_within (a0.Surges.length : Int) (1 : Int) (6 : Int)).bind fun r3 =>
  if r3 then (
   (ix a0.Surges (0 : Int)).bind fun x5 =>
   if (x5.From != (0 : Int)) then (
    some false)
   else (
    f_impl_ForecastOk_1 a0 bigN (0 : Int)))
  else (
   some false))
 else (
  some false)
/- impl_IsName -/
def f_impl_IsName_3 (a0 : List UInt8) (v3 : Int) (k_impl_IsName_1 : Int → Option Bool) : Option Bool :=
 k_impl_IsName_1 (IntKind.i64.wrap (v3 + (1 : Int)))
def f_impl_IsName_2 (a0 : List UInt8) (v3 : Int) (k_impl_IsName_1 : Int → Option Bool) (v7 : Bool) : Option Bool :=
 if v7 then (
  f_impl_IsName_3 a0 v3 k_impl_IsName_1)
 else (
  if (v3 == (0 : Int)) then (
   some false)
  else (
   (ix a0 v3).bind fun b10 =>
   if (decide ((b10.toNat : Int) < (48 : Int))) then (
    some false)
   else (
    if (decide ((57 : Int) < (b10.toNat : Int))) then (
     some false)
    else (
     f_impl_IsName_3 a0 v3 k_impl_IsName_1))))
def f_impl_IsName_1 (a0 : List UInt8) : Nat → Int → Option Bool
 | 0, _ => none
 | n + 1, v3 =>
  if (decide (v3 < (a0.length : Int))) then (
   (ix a0 v3).bind fun b5 =>
   if (decide ((97 : Int) ≤ (b5.toNat : Int))) then (
    f_impl_IsName_2 a0 v3 (f_impl_IsName_1 a0 n) (decide ((b5.toNat : Int) ≤ (122 : Int))))
   else (
    f_impl_IsName_2 a0 v3 (f_impl_IsName_1 a0 n) false))
  else (
   some true)
def f_impl_IsName (a0 : List UInt8) : Option Bool :=
 (f_impl_within (a0.length : Int) (1 : Int) (8 : Int)).bind fun r1 =>
 if r1 then (
  f_impl_IsName_1 a0 bigN (0 : Int))
 else (
  some false)
/- impl_PointNamed -/
def f_impl_PointNamed_1 (a1 : List UInt8) (a0 : XChart) : Nat → Int → Option Int
 | 0, _ => none
 | n + 1, v1 =>
  if (decide (v1 < (a0.Points.length : Int))) then (
   (ix a0.Points v1).bind fun x3 =>
   if (x3.Name == a1) then (
    some v1)
   else (
    f_impl_PointNamed_1 a1 a0 n (IntKind.i64.wrap (v1 + (1 : Int)))))
  else (
   some (-1 : Int))
def f_impl_PointNamed (a0 : XChart) (a1 : List UInt8) : Option Int :=
 f_impl_PointNamed_1 a1 a0 bigN (0 : Int)
/- impl_isIndex -/
def f_impl_isIndex (a0 : Int) (a1 : Int) : Option Bool :=
 if (decide ((0 : Int) ≤ a0)) then (
  some (decide (a0 < a1)))
 else (
  some false)
/- impl_Segment_joins -/
def f_impl_Segment_joins (a0 : XSegment) (a1 : Int) (a2 : Int) : Option Bool :=
 if (a0.A == a1) then (
  if (a0.B == a2) then (
   some true)
  else (
   if (a0.A == a2) then (
    some (a0.B == a1))
   else (
    some false)))
 else (
  if (a0.A == a2) then (
   some (a0.B == a1))
  else (
   some false))
/- impl_ChartOk -/
def f_impl_ChartOk_3 (a0 : XChart) (v10 : Int) (x12 : XSegment) (y23 : List XSegment) (y24 : Int) (k_impl_ChartOk_2 : Int → Option Bool) : Nat → Int → Option Bool
 | 0, _ => none
 | n + 1, v25 =>
  if (decide (v25 < y24)) then (
   (ix y23 v25).bind fun x27 =>
   (f_impl_Segment_joins x27 x12.A x12.B).bind fun r28 =>
   if r28 then (
    some false)
   else (
    f_impl_ChartOk_3 a0 v10 x12 y23 y24 k_impl_ChartOk_2 n (IntKind.i64.wrap (v25 + (1 : Int)))))
  else (
   k_impl_ChartOk_2 (IntKind.i64.wrap (v10 + (1 : Int))))
def f_impl_ChartOk_2 (a0 : XChart) : Nat → Int → Option Bool
 | 0, _ => none
 | n + 1, v10 =>
  if (decide (v10 < (a0.Segments.length : Int))) then (
   (ix a0.Segments v10).bind fun x12 =>
   (f_impl_isIndex x12.A (a0.Points.length : Int)).bind fun r13 =>
   if r13 then (
    (f_impl_isIndex x12.B (a0.Points.length : Int)).bind fun r15 =>
    if r15 then (
     if (x12.A == x12.B) then (
      some false)
     else (
      (f_impl_within x12.Depth (0 : Int) (3000 : Int)).bind fun r18 =>
      if r18 then (
       (f_impl_within x12.Minutes (1 : Int) (240 : Int)).bind fun r20 =>
       if r20 then (
        (bnd (a0.Segments.length : Int) v10 (0 : Int) a0.Segments.length).bind fun p22 =>
        f_impl_ChartOk_3 a0 v10 x12 ((a0.Segments.drop p22.1).take (p22.2 - p22.1)) (((a0.Segments.drop p22.1).take (p22.2 - p22.1)).length : Int) (f_impl_ChartOk_2 a0 n) bigN (0 : Int))
       else (
        some false))
      else (
       some false)))
    else (
     some false))
   else (
    some false))
  else (
   some true)
def f_impl_ChartOk_1 (a0 : XChart) : Nat → Int → Option Bool
 | 0, _ => none
 | n + 1, v3 =>
  if (decide (v3 < (a0.Points.length : Int))) then (
   (ix a0.Points v3).bind fun x5 =>
   (f_impl_IsName x5.Name).bind fun r6 =>
   if r6 then (
    (f_impl_PointNamed a0 x5.Name).bind fun r8 =>
    if (r8 != v3) then (
     some false)
    else (
     f_impl_ChartOk_1 a0 n (IntKind.i64.wrap (v3 + (1 : Int)))))
   else (
    some false))
  else (
   f_impl_ChartOk_2 a0 bigN (0 : Int))
def f_impl_ChartOk (a0 : XChart) : Option Bool :=
 if (decide ((8 : Int) < (a0.Points.length : Int))) then (
  some false)
 else (
  if (decide ((10 : Int) < (a0.Segments.length : Int))) then (
   some false)
  else (
   f_impl_ChartOk_1 a0 bigN (0 : Int)))
/- impl_ShipOk -/
def f_impl_ShipOk (a0 : XShip) : Option Bool :=
 (f_impl_IsName a0.Name).bind fun r1 =>
 if r1 then (
  (f_impl_within a0.Length (10 : Int) (400 : Int)).bind fun r3 =>
  if r3 then (
   (f_impl_within a0.Draught (100 : Int) (2000 : Int)).bind fun r5 =>
   if r5 then (
    (f_impl_isIndex a0.Line (4 : Int)).bind fun r7 =>
    if r7 then (
     (f_impl_within a0.Tugs (0 : Int) (4 : Int)).bind fun r9 =>
     some r9)
    else (
     some false))
   else (
    some false))
  else (
   some false))
 else (
  some false)
/- impl_ShipNamed -/
def f_impl_ShipNamed_1 (a1 : List UInt8) (a0 : List XShip) : Nat → Int → Option Int
 | 0, _ => none
 | n + 1, v1 =>
  if (decide (v1 < (a0.length : Int))) then (
   (ix a0 v1).bind fun x3 =>
   if (x3.Name == a1) then (
    some v1)
   else (
    f_impl_ShipNamed_1 a1 a0 n (IntKind.i64.wrap (v1 + (1 : Int)))))
  else (
   some (-1 : Int))
def f_impl_ShipNamed (a0 : List XShip) (a1 : List UInt8) : Option Int :=
 f_impl_ShipNamed_1 a1 a0 bigN (0 : Int)
/- impl_FleetOk -/
def f_impl_FleetOk_1 (a0 : List XShip) : Nat → Int → Option Bool
 | 0, _ => none
 | n + 1, v2 =>
  if (decide (v2 < (a0.length : Int))) then (
   (ix a0 v2).bind fun x4 =>
   (f_impl_ShipOk x4).bind fun r5 =>
   if r5 then (
    (f_impl_ShipNamed a0 x4.Name).bind fun r7 =>
    if (r7 != v2) then (
     some false)
    else (
     f_impl_FleetOk_1 a0 n (IntKind.i64.wrap (v2 + (1 : Int)))))
   else (
    some false))
  else (
   some true)
def f_impl_FleetOk (a0 : List XShip) : Option Bool :=
 if (decide ((6 : Int) < (a0.length : Int))) then (
  some false)
 else (
  f_impl_FleetOk_1 a0 bigN (0 : Int))
/- impl_RegimeOk -/
def f_impl_RegimeOk (a0 : XRegime) : Option Bool :=
 (f_impl_within a0.Gap (0 : Int) (60 : Int)).bind fun r1 =>
 some r1
/- impl_movesOk -/
def f_impl_movesOk_1 (a0 : List Int) : Nat → Int → Option Bool
 | 0, _ => none
 | n + 1, v2 =>
  if (decide (v2 < (a0.length : Int))) then (
   (ix a0 v2).bind fun x4 =>
   (f_impl_within x4 (0 : Int) (240 : Int)).bind fun r5 =>
   if r5 then (
    f_impl_movesOk_1 a0 n (IntKind.i64.wrap (v2 + (1 : Int))))
   else (
    some false))
  else (
   some true)
def f_impl_movesOk (a0 : List Int) : Option Bool :=
 if ((a0.length : Int) != (64 : Int)) then (
  some false)
 else (
  f_impl_movesOk_1 a0 bigN (0 : Int))
/- impl_CrewOk -/
def f_impl_CrewOk (a0 : XCrew) : Option Bool :=
 (f_impl_within a0.Tugs (0 : Int) (12 : Int)).bind fun r1 =>
 if r1 then (
  (f_impl_within a0.Pilots (0 : Int) (12 : Int)).bind fun r3 =>
  if r3 then (
   (f_impl_isMinute a0.Rest).bind fun r5 =>
   if r5 then (
    (f_impl_movesOk a0.Moves).bind fun r7 =>
    some r7)
   else (
    some false))
  else (
   some false))
 else (
  some false)
/- impl_HarbourOk -/
def f_impl_HarbourOk (a0 : XHarbour) : Option Bool :=
 (f_impl_ForecastOk a0.Forecast).bind fun r1 =>
 if r1 then (
  (f_impl_ChartOk a0.Chart).bind fun r3 =>
  if r3 then (
   (f_impl_FleetOk a0.Fleet).bind fun r5 =>
   if r5 then (
    (f_impl_RegimeOk a0.Regime).bind fun r7 =>
    if r7 then (
     (f_impl_CrewOk a0.Crew).bind fun r9 =>
     some r9)
    else (
     some false))
   else (
    some false))
  else (
   some false))
 else (
  some false)
/- impl_PicksOk -/
def f_impl_PicksOk_1 (a0 : List Int) : Nat → Int → Option Bool
 | 0, _ => none
 | n + 1, v3 =>
  if (decide (v3 < (a0.length : Int))) then (
   (ix a0 v3).bind fun x5 =>
   (f_impl_within x5 (0 : Int) (1000 : Int)).bind fun r6 =>
   if r6 then (
    f_impl_PicksOk_1 a0 n (IntKind.i64.wrap (v3 + (1 : Int))))
   else (
    some false))
  else (
   some true)
def f_impl_PicksOk (a0 : List Int) : Option Bool :=
 (f_impl_within (a0.length : Int) (1 : Int) (48 : Int)).bind fun r1 =>
 if r1 then (
  f_impl_PicksOk_1 a0 bigN (0 : Int))
 else (
  some false)
/- impl_Ship_minutes -/
def f_impl_Ship_minutes (a0 : XShip) (a1 : XSegment) : Option Int :=
 if a0.Slow then (
  some (IntKind.i64.wrap ((2 : Int) * a1.Minutes)))
 else (
  some a1.Minutes)
/- impl_passageOk -/
def f_impl_passageOk (a0 : XChart) (a1 : List XShip) (a2 : XPassage) : Option Bool :=
 (f_impl_isIndex a2.Ship (a1.length : Int)).bind fun r1 =>
 if r1 then (
  (f_impl_isIndex a2.Segment (a0.Segments.length : Int)).bind fun r3 =>
  if r3 then (
   (f_impl_isMinute a2.Start).bind fun r5 =>
   if r5 then (
    if (decide ((2880 : Int) < a2.End)) then (
     some false)
    else (
     (ix a1 a2.Ship).bind fun x8 =>
     (ix a0.Segments a2.Segment).bind fun x9 =>
     (f_impl_Ship_minutes x8 x9).bind fun r10 =>
     some (a2.End == (IntKind.i64.wrap (a2.Start + r10)))))
   else (
    some false))
  else (
   some false))
 else (
  some false)
/- impl_Wave -/
def f_impl_Wave (a0 : Int) (a1 : Int) : Option Int :=
 (f_impl_isPeriod a1).bind fun r1 =>
 if r1 then (
  if a1 == 0 then none else
  if a1 == 0 then none else
  if (decide ((IntKind.i64.wrap (Int.tdiv a1 (2 : Int))) ≤ (IntKind.i64.wrap (Int.tmod (IntKind.i64.wrap ((IntKind.i64.wrap (Int.tmod a0 a1)) + a1)) a1)))) then (
   if (IntKind.i64.wrap ((IntKind.i64.wrap (Int.tdiv a1 (2 : Int))) * (IntKind.i64.wrap (Int.tdiv a1 (2 : Int))))) == 0 then none else
   some (IntKind.i64.wrap (0 - (IntKind.i64.wrap (Int.tdiv (IntKind.i64.wrap ((IntKind.i64.wrap ((40000 : Int) * (IntKind.i64.wrap ((IntKind.i64.wrap (Int.tmod (IntKind.i64.wrap ((IntKind.i64.wrap (Int.tmod a0 a1)) + a1)) a1)) - (IntKind.i64.wrap (Int.tdiv a1 (2 : Int))))))) * (IntKind.i64.wrap ((IntKind.i64.wrap (Int.tdiv a1 (2 : Int))) - (IntKind.i64.wrap ((IntKind.i64.wrap (Int.tmod (IntKind.i64.wrap ((IntKind.i64.wrap (Int.tmod a0 a1)) + a1)) a1)) - (IntKind.i64.wrap (Int.tdiv a1 (2 : Int))))))))) (IntKind.i64.wrap ((IntKind.i64.wrap (Int.tdiv a1 (2 : Int))) * (IntKind.i64.wrap (Int.tdiv a1 (2 : Int))))))))))
  else (
   if (IntKind.i64.wrap ((IntKind.i64.wrap (Int.tdiv a1 (2 : Int))) * (IntKind.i64.wrap (Int.tdiv a1 (2 : Int))))) == 0 then none else
   some (IntKind.i64.wrap (Int.tdiv (IntKind.i64.wrap ((IntKind.i64.wrap ((40000 : Int) * (IntKind.i64.wrap (Int.tmod (IntKind.i64.wrap ((IntKind.i64.wrap (Int.tmod a0 a1)) + a1)) a1)))) * (IntKind.i64.wrap ((IntKind.i64.wrap (Int.tdiv a1 (2 : Int))) - (IntKind.i64.wrap (Int.tmod (IntKind.i64.wrap ((IntKind.i64.wrap (Int.tmod a0 a1)) + a1)) a1)))))) (IntKind.i64.wrap ((IntKind.i64.wrap (Int.tdiv a1 (2 : Int))) * (IntKind.i64.wrap (Int.tdiv a1 (2 : Int)))))))))
 else (
  some (0 : Int))
/- impl_Tide_level -/
def f_impl_Tide_level_1 (a1 : Int) (a0 : XTide) : Nat → Int → Int → Option Int
 | 0, _, _ => none
 | n + 1, v1, v2 =>
  if (decide (v2 < (a0.Parts.length : Int))) then (
   (ix a0.Parts v2).bind fun x4 =>
   (f_impl_Wave (IntKind.i64.wrap (a1 + x4.Phase)) x4.Period).bind fun r5 =>
   f_impl_Tide_level_1 a1 a0 n (IntKind.i64.wrap (v1 + (IntKind.i64.wrap (Int.tdiv (IntKind.i64.wrap (x4.Amp * r5)) (10000 : Int))))) (IntKind.i64.wrap (v2 + (1 : Int))))
  else (
   some v1)
def f_impl_Tide_level (a0 : XTide) (a1 : Int) : Option Int :=
 f_impl_Tide_level_1 a1 a0 bigN a0.Mean (0 : Int)
/- impl_Forecast_surge -/
def f_impl_Forecast_surge_1 (a1 : Int) (a0 : XForecast) : Nat → Int → Int → Option Int
 | 0, _, _ => none
 | n + 1, v1, v2 =>
  if (decide (v2 < (a0.Surges.length : Int))) then (
   (ix a0.Surges v2).bind fun x4 =>
   if (decide (x4.From ≤ a1)) then (
    f_impl_Forecast_surge_1 a1 a0 n v2 (IntKind.i64.wrap (v2 + (1 : Int))))
   else (
    f_impl_Forecast_surge_1 a1 a0 n v1 (IntKind.i64.wrap (v2 + (1 : Int)))))
  else (
   some v1)
def f_impl_Forecast_surge (a0 : XForecast) (a1 : Int) : Option Int :=
 f_impl_Forecast_surge_1 a1 a0 bigN (0 : Int) (0 : Int)
/- impl_Forecast_low -/
def f_impl_Forecast_low (a0 : XForecast) (a1 : Int) : Option Int :=
 (f_impl_Tide_level a0.Tide a1).bind fun r1 =>
 (f_impl_Forecast_surge a0 a1).bind fun r2 =>
 (ix a0.Surges r2).bind fun x3 =>
 some (IntKind.i64.wrap (r1 + x3.Low))
/- impl_Forecast_high -/
def f_impl_Forecast_high (a0 : XForecast) (a1 : Int) : Option Int :=
 (f_impl_Tide_level a0.Tide a1).bind fun r1 =>
 (f_impl_Forecast_surge a0 a1).bind fun r2 =>
 (ix a0.Surges r2).bind fun x3 =>
 some (IntKind.i64.wrap (r1 + x3.High))
/- impl_pickOf -/
def f_impl_pickOf (a0 : List Int) (a1 : Int) : Option Int :=
 (ix a0 (if (IntKind.i64.wrap ((a0.length : Int) - (1 : Int))) < a1 then (IntKind.i64.wrap ((a0.length : Int) - (1 : Int))) else a1)).bind fun x1 =>
 some x1
/- impl_levelOn -/
def f_impl_levelOn (a0 : XForecast) (a1 : List Int) (a2 : Int) : Option Int :=
 (f_impl_Forecast_low a0 a2).bind fun r1 =>
 (f_impl_Forecast_high a0 a2).bind fun r2 =>
 (f_impl_pickOf a1 (IntKind.i64.wrap (Int.tdiv a2 (60 : Int)))).bind fun r3 =>
 some (IntKind.i64.wrap (r1 + (IntKind.i64.wrap (Int.tdiv (IntKind.i64.wrap ((IntKind.i64.wrap (r2 - r1)) * r3)) (1000 : Int)))))
/- impl_onSegment -/
def f_impl_onSegment (a0 : XChart) (a1 : Int) (a2 : XShip) : Option Bool :=
 (f_impl_ChartOk a0).bind fun r1 =>
 if r1 then (
  (f_impl_ShipOk a2).bind fun r3 =>
  if r3 then (
   (f_impl_isIndex a1 (a0.Segments.length : Int)).bind fun r5 =>
   some r5)
  else (
   some false))
 else (
  some false)
/- impl_Ship_squat -/
def f_impl_Ship_squat (a0 : XShip) : Option Int :=
 if a0.Slow then (
  some (IntKind.i64.wrap (Int.tdiv a0.Draught (50 : Int))))
 else (
  some (IntKind.i64.wrap (Int.tdiv a0.Draught (20 : Int))))
/- impl_Ship_need -/
def f_impl_Ship_need (a0 : XShip) : Option Int :=
 (f_impl_Ship_squat a0).bind fun r1 =>
 some (IntKind.i64.wrap ((IntKind.i64.wrap (a0.Draught + r1)) + (50 : Int)))
/- impl_LevelFor -/
def f_impl_LevelFor (a0 : XChart) (a1 : Int) (a2 : XShip) : Option Int :=
 (f_impl_onSegment a0 a1 a2).bind fun r1 =>
 if r1 then (
  (f_impl_Ship_need a2).bind fun r3 =>
  (ix a0.Segments a1).bind fun x4 =>
  some (IntKind.i64.wrap (r3 - x4.Depth)))
 else (
  some (0 : Int))
/- impl_ClearanceOn -/
def f_impl_ClearanceOn_2 (a2 : List Int) (a0 : XHarbour) (a1 : XPassage) : Nat → Int → Int → Option (Int × Bool)
 | 0, _, _ => none
 | n + 1, v9, v10 =>
  if (decide (v10 ≤ a1.End)) then (
   (f_impl_levelOn a0.Forecast a2 v10).bind fun r12 =>
   f_impl_ClearanceOn_2 a2 a0 a1 n (if r12 < v9 then r12 else v9) (IntKind.i64.wrap (v10 + (1 : Int))))
  else (
   (ix a0.Fleet a1.Ship).bind fun x13 =>
   (f_impl_LevelFor a0.Chart a1.Segment x13).bind fun r14 =>
   some ((IntKind.i64.wrap (v9 - r14)), true))
def f_impl_ClearanceOn_1 (a2 : List Int) (a0 : XHarbour) (a1 : XPassage) (v6 : Bool) : Option (Int × Bool) :=
 if v6 then (
  some ((0 : Int), false))
 else (
  (f_impl_levelOn a0.Forecast a2 a1.Start).bind fun r8 =>
  f_impl_ClearanceOn_2 a2 a0 a1 bigN r8 a1.Start)
def f_impl_ClearanceOn (a0 : XHarbour) (a1 : XPassage) (a2 : List Int) : Option (Int × Bool) :=
 (f_impl_HarbourOk a0).bind fun r1 =>
 if r1 then (
  (f_impl_PicksOk a2).bind fun r3 =>
  if r3 then (
   (f_impl_passageOk a0.Chart a0.Fleet a1).bind fun r5 =>
   f_impl_ClearanceOn_1 a2 a0 a1 (!r5))
  else (
   f_impl_ClearanceOn_1 a2 a0 a1 true))
 else (
  f_impl_ClearanceOn_1 a2 a0 a1 true)
/- impl_HoldsOn -/
def f_impl_HoldsOn_2 (a2 : List Int) (a1 : List XOption) (v1 : Int) (x3 : XOption) (a0 : XHarbour) (k_impl_HoldsOn_1 : Int → Option Bool) : Nat → Int → Option Bool
 | 0, _ => none
 | n + 1, v4 =>
  if (decide (v4 < (x3.Passages.length : Int))) then (
   (ix x3.Passages v4).bind fun x6 =>
   (f_impl_ClearanceOn a0 x6 a2).bind fun r7 =>
   if r7.2 then (
    if (decide (r7.1 < (0 : Int))) then (
     some false)
    else (
     f_impl_HoldsOn_2 a2 a1 v1 x3 a0 k_impl_HoldsOn_1 n (IntKind.i64.wrap (v4 + (1 : Int)))))
   else (
    some false))
  else (
   k_impl_HoldsOn_1 (IntKind.i64.wrap (v1 + (1 : Int))))
def f_impl_HoldsOn_1 (a2 : List Int) (a1 : List XOption) (a0 : XHarbour) : Nat → Int → Option Bool
 | 0, _ => none
 | n + 1, v1 =>
  if (decide (v1 < (a1.length : Int))) then (
   (ix a1 v1).bind fun x3 =>
   f_impl_HoldsOn_2 a2 a1 v1 x3 a0 (f_impl_HoldsOn_1 a2 a1 a0 n) bigN (0 : Int))
  else (
   some true)
def f_impl_HoldsOn (a0 : XHarbour) (a1 : List XOption) (a2 : List Int) : Option Bool :=
 f_impl_HoldsOn_1 a2 a1 a0 bigN (0 : Int)
/- laws_eqPart -/
def f_laws_eqPart (a0 : XPart) (a1 : XPart) : Option Bool :=
 if (a0.Amp != a1.Amp) then (
  some false)
 else (
  if (a0.Period != a1.Period) then (
   some false)
  else (
   if (a0.Phase != a1.Phase) then (
    some false)
   else (
    some true)))
/- laws_eqPartS -/
def f_laws_eqPartS_1 (a0 : List XPart) (a1 : List XPart) : Nat → Int → Option Bool
 | 0, _ => none
 | n + 1, v2 =>
  if (decide (v2 < (a0.length : Int))) then (
   (ix a0 v2).bind fun x4 =>
   (ix a1 v2).bind fun x5 =>
   (f_laws_eqPart x4 x5).bind fun r6 =>
   if r6 then (
    f_laws_eqPartS_1 a0 a1 n (IntKind.i64.wrap (v2 + (1 : Int))))
   else (
    some false))
  else (
   some true)
def f_laws_eqPartS (a0 : List XPart) (a1 : List XPart) : Option Bool :=
 if ((a0.length : Int) != (a1.length : Int)) then (
  some false)
 else (
  f_laws_eqPartS_1 a0 a1 bigN (0 : Int))
/- laws_eqTide -/
def f_laws_eqTide (a0 : XTide) (a1 : XTide) : Option Bool :=
 if (a0.Mean != a1.Mean) then (
  some false)
 else (
  (f_laws_eqPartS a0.Parts a1.Parts).bind fun r2 =>
  if r2 then (
   some true)
  else (
   some false))
/- laws_eqSurge -/
def f_laws_eqSurge (a0 : XSurge) (a1 : XSurge) : Option Bool :=
 if (a0.From != a1.From) then (
  some false)
 else (
  if (a0.Low != a1.Low) then (
   some false)
  else (
   if (a0.High != a1.High) then (
    some false)
   else (
    some true)))
/- laws_eqSurgeS -/
def f_laws_eqSurgeS_1 (a0 : List XSurge) (a1 : List XSurge) : Nat → Int → Option Bool
 | 0, _ => none
 | n + 1, v2 =>
  if (decide (v2 < (a0.length : Int))) then (
   (ix a0 v2).bind fun x4 =>
   (ix a1 v2).bind fun x5 =>
   (f_laws_eqSurge x4 x5).bind fun r6 =>
   if r6 then (
    f_laws_eqSurgeS_1 a0 a1 n (IntKind.i64.wrap (v2 + (1 : Int))))
   else (
    some false))
  else (
   some true)
def f_laws_eqSurgeS (a0 : List XSurge) (a1 : List XSurge) : Option Bool :=
 if ((a0.length : Int) != (a1.length : Int)) then (
  some false)
 else (
  f_laws_eqSurgeS_1 a0 a1 bigN (0 : Int))
/- laws_eqForecast -/
def f_laws_eqForecast (a0 : XForecast) (a1 : XForecast) : Option Bool :=
 (f_laws_eqTide a0.Tide a1.Tide).bind fun r1 =>
 if r1 then (
  (f_laws_eqSurgeS a0.Surges a1.Surges).bind fun r3 =>
  if r3 then (
   some true)
  else (
   some false))
 else (
  some false)
/- laws_eqPoint -/
def f_laws_eqPoint (a0 : XPoint) (a1 : XPoint) : Option Bool :=
 if (a0.Name == a1.Name) then (
  if (a0.Wait == a1.Wait) then (
   some true)
  else (
   some false))
 else (
  some false)
/- laws_eqPointS -/
def f_laws_eqPointS_1 (a0 : List XPoint) (a1 : List XPoint) : Nat → Int → Option Bool
 | 0, _ => none
 | n + 1, v2 =>
  if (decide (v2 < (a0.length : Int))) then (
   (ix a0 v2).bind fun x4 =>
   (ix a1 v2).bind fun x5 =>
   (f_laws_eqPoint x4 x5).bind fun r6 =>
   if r6 then (
    f_laws_eqPointS_1 a0 a1 n (IntKind.i64.wrap (v2 + (1 : Int))))
   else (
    some false))
  else (
   some true)
def f_laws_eqPointS (a0 : List XPoint) (a1 : List XPoint) : Option Bool :=
 if ((a0.length : Int) != (a1.length : Int)) then (
  some false)
 else (
  f_laws_eqPointS_1 a0 a1 bigN (0 : Int))
/- laws_eqSegment -/
def f_laws_eqSegment (a0 : XSegment) (a1 : XSegment) : Option Bool :=
 if (a0.A != a1.A) then (
  some false)
 else (
  if (a0.B != a1.B) then (
   some false)
  else (
   if (a0.Depth != a1.Depth) then (
    some false)
   else (
    if (a0.Minutes != a1.Minutes) then (
     some false)
    else (
     if (a0.Meet == a1.Meet) then (
      some true)
     else (
      some false)))))
/- laws_eqSegmentS -/
def f_laws_eqSegmentS_1 (a0 : List XSegment) (a1 : List XSegment) : Nat → Int → Option Bool
 | 0, _ => none
 | n + 1, v2 =>
  if (decide (v2 < (a0.length : Int))) then (
   (ix a0 v2).bind fun x4 =>
   (ix a1 v2).bind fun x5 =>
   (f_laws_eqSegment x4 x5).bind fun r6 =>
   if r6 then (
    f_laws_eqSegmentS_1 a0 a1 n (IntKind.i64.wrap (v2 + (1 : Int))))
   else (
    some false))
  else (
   some true)
def f_laws_eqSegmentS (a0 : List XSegment) (a1 : List XSegment) : Option Bool :=
 if ((a0.length : Int) != (a1.length : Int)) then (
  some false)
 else (
  f_laws_eqSegmentS_1 a0 a1 bigN (0 : Int))
/- laws_eqChart -/
def f_laws_eqChart (a0 : XChart) (a1 : XChart) : Option Bool :=
 (f_laws_eqPointS a0.Points a1.Points).bind fun r1 =>
 if r1 then (
  (f_laws_eqSegmentS a0.Segments a1.Segments).bind fun r3 =>
  if r3 then (
   some true)
  else (
   some false))
 else (
  some false)
/- laws_eqShip -/
def f_laws_eqShip (a0 : XShip) (a1 : XShip) : Option Bool :=
 if (a0.Name == a1.Name) then (
  if (a0.Length != a1.Length) then (
   some false)
  else (
   if (a0.Draught != a1.Draught) then (
    some false)
   else (
    if (a0.Line != a1.Line) then (
     some false)
    else (
     if (a0.Tugs != a1.Tugs) then (
      some false)
     else (
      if (a0.Slow == a1.Slow) then (
       some true)
      else (
       some false))))))
 else (
  some false)
/- laws_eqShipS -/
def f_laws_eqShipS_1 (a0 : List XShip) (a1 : List XShip) : Nat → Int → Option Bool
 | 0, _ => none
 | n + 1, v2 =>
  if (decide (v2 < (a0.length : Int))) then (
   (ix a0 v2).bind fun x4 =>
   (ix a1 v2).bind fun x5 =>
   (f_laws_eqShip x4 x5).bind fun r6 =>
   if r6 then (
    f_laws_eqShipS_1 a0 a1 n (IntKind.i64.wrap (v2 + (1 : Int))))
   else (
    some false))
  else (
   some true)
def f_laws_eqShipS (a0 : List XShip) (a1 : List XShip) : Option Bool :=
 if ((a0.length : Int) != (a1.length : Int)) then (
  some false)
 else (
  f_laws_eqShipS_1 a0 a1 bigN (0 : Int))
/- laws_eqRegime -/
def f_laws_eqRegime (a0 : XRegime) (a1 : XRegime) : Option Bool :=
 if (a0.Gap != a1.Gap) then (
  some false)
 else (
  if (a0.NoMeet == a1.NoMeet) then (
   some true)
  else (
   some false))
/- laws_eqIntS -/
def f_laws_eqIntS_1 (a0 : List Int) (a1 : List Int) : Nat → Int → Option Bool
 | 0, _ => none
 | n + 1, v2 =>
  if (decide (v2 < (a0.length : Int))) then (
   (ix a0 v2).bind fun x4 =>
   (ix a1 v2).bind fun x5 =>
   if (x4 != x5) then (
    some false)
   else (
    f_laws_eqIntS_1 a0 a1 n (IntKind.i64.wrap (v2 + (1 : Int)))))
  else (
   some true)
def f_laws_eqIntS (a0 : List Int) (a1 : List Int) : Option Bool :=
 if ((a0.length : Int) != (a1.length : Int)) then (
  some false)
 else (
  f_laws_eqIntS_1 a0 a1 bigN (0 : Int))
/- laws_eqCrew -/
def f_laws_eqCrew (a0 : XCrew) (a1 : XCrew) : Option Bool :=
 if (a0.Tugs != a1.Tugs) then (
  some false)
 else (
  if (a0.Pilots != a1.Pilots) then (
   some false)
  else (
   if (a0.Rest != a1.Rest) then (
    some false)
   else (
    (f_laws_eqIntS a0.Moves a1.Moves).bind fun r4 =>
    if r4 then (
     some true)
    else (
     some false))))
/- laws_eqHarbour -/
def f_laws_eqHarbour (a0 : XHarbour) (a1 : XHarbour) : Option Bool :=
 (f_laws_eqForecast a0.Forecast a1.Forecast).bind fun r1 =>
 if r1 then (
  (f_laws_eqChart a0.Chart a1.Chart).bind fun r3 =>
  if r3 then (
   (f_laws_eqShipS a0.Fleet a1.Fleet).bind fun r5 =>
   if r5 then (
    (f_laws_eqRegime a0.Regime a1.Regime).bind fun r7 =>
    if r7 then (
     (f_laws_eqCrew a0.Crew a1.Crew).bind fun r9 =>
     if r9 then (
      some true)
     else (
      some false))
    else (
     some false))
   else (
    some false))
  else (
   some false))
 else (
  some false)
/- laws_eqPassage -/
def f_laws_eqPassage (a0 : XPassage) (a1 : XPassage) : Option Bool :=
 if (a0.Ship != a1.Ship) then (
  some false)
 else (
  if (a0.Segment != a1.Segment) then (
   some false)
  else (
   if (a0.Toward == a1.Toward) then (
    if (a0.Start != a1.Start) then (
     some false)
    else (
     if (a0.End != a1.End) then (
      some false)
     else (
      some true)))
   else (
    some false)))
/- laws_eqPassageS -/
def f_laws_eqPassageS_1 (a0 : List XPassage) (a1 : List XPassage) : Nat → Int → Option Bool
 | 0, _ => none
 | n + 1, v2 =>
  if (decide (v2 < (a0.length : Int))) then (
   (ix a0 v2).bind fun x4 =>
   (ix a1 v2).bind fun x5 =>
   (f_laws_eqPassage x4 x5).bind fun r6 =>
   if r6 then (
    f_laws_eqPassageS_1 a0 a1 n (IntKind.i64.wrap (v2 + (1 : Int))))
   else (
    some false))
  else (
   some true)
def f_laws_eqPassageS (a0 : List XPassage) (a1 : List XPassage) : Option Bool :=
 if ((a0.length : Int) != (a1.length : Int)) then (
  some false)
 else (
  f_laws_eqPassageS_1 a0 a1 bigN (0 : Int))
/- laws_eqOption -/
def f_laws_eqOption (a0 : XOption) (a1 : XOption) : Option Bool :=
 if (a0.Start != a1.Start) then (
  some false)
 else (
  if (a0.Arrival != a1.Arrival) then (
   some false)
  else (
   if (a0.Cost != a1.Cost) then (
    some false)
   else (
    (f_laws_eqPassageS a0.Passages a1.Passages).bind fun r4 =>
    if r4 then (
     some true)
    else (
     some false))))
/- laws_eqOptionS -/
def f_laws_eqOptionS_1 (a0 : List XOption) (a1 : List XOption) : Nat → Int → Option Bool
 | 0, _ => none
 | n + 1, v2 =>
  if (decide (v2 < (a0.length : Int))) then (
   (ix a0 v2).bind fun x4 =>
   (ix a1 v2).bind fun x5 =>
   (f_laws_eqOption x4 x5).bind fun r6 =>
   if r6 then (
    f_laws_eqOptionS_1 a0 a1 n (IntKind.i64.wrap (v2 + (1 : Int))))
   else (
    some false))
  else (
   some true)
def f_laws_eqOptionS (a0 : List XOption) (a1 : List XOption) : Option Bool :=
 if ((a0.length : Int) != (a1.length : Int)) then (
  some false)
 else (
  f_laws_eqOptionS_1 a0 a1 bigN (0 : Int))
/- laws_FnExactHoldsOn -/
def f_laws_FnExactHoldsOn (a0 : XHarbour) (a1 : List XOption) (a2 : List Int) : Option Bool :=
 if (decide ((1048576 : Int) < (a2.length : Int))) then (
  some true)
 else (
  (f_laws_szHarbour a0 (1048576 : Int)).bind fun r2 =>
  if (decide (r2 < (0 : Int))) then (
   some true)
  else (
   (f_laws_szOptionS a1 r2).bind fun r4 =>
   if (decide (r4 < (0 : Int))) then (
    some true)
   else (
    (f_laws_toHarbour a0).bind fun r6 =>
    (f_laws_toOptionS a1).bind fun r7 =>
    (f_laws_toIntS a2).bind fun r8 =>
    (f_spec_HoldsOn r6 r7 r8).bind fun r9 =>
    (f_laws_toHarbour a0).bind fun r10 =>
    (f_laws_toOptionS a1).bind fun r11 =>
    (f_laws_toIntS a2).bind fun r12 =>
    (f_impl_HoldsOn r10 r11 r12).bind fun r13 =>
    if (r13 == r9) then (
     (f_laws_toHarbour a0).bind fun r15 =>
     (f_laws_eqHarbour r10 r15).bind fun r16 =>
     if r16 then (
      (f_laws_toOptionS a1).bind fun r18 =>
      (f_laws_eqOptionS r11 r18).bind fun r19 =>
      if r19 then (
       (f_laws_toIntS a2).bind fun r21 =>
       (f_laws_eqIntS r12 r21).bind fun r22 =>
       if r22 then (
        some true)
       else (
        some false))
      else (
       some false))
     else (
      some false))
    else (
     some false))))
/- spec_LeastClearance -/
def f_spec_LeastClearance_3 (a2 : List Int) (v6 : Int) (r11 : Int × Bool) (a1 : List XOption) (v3 : Int) (x5 : XOption) (v8 : Int) (a0 : XHarbour) (k_spec_LeastClearance_2 : Int → Bool → Int → Option (Int × Bool)) (v14 : Bool) (v15 : Bool) : Option (Int × Bool) :=
 if v15 then (
  k_spec_LeastClearance_2 r11.1 true (IntKind.i64.wrap (v8 + (1 : Int))))
 else (
  k_spec_LeastClearance_2 v6 v14 (IntKind.i64.wrap (v8 + (1 : Int))))
def f_spec_LeastClearance_2 (a2 : List Int) (a1 : List XOption) (v3 : Int) (x5 : XOption) (a0 : XHarbour) (k_spec_LeastClearance_1 : Int → Bool → Int → Option (Int × Bool)) : Nat → Int → Bool → Int → Option (Int × Bool)
 | 0, _, _, _ => none
 | n + 1, v6, v7, v8 =>
  if (decide (v8 < (x5.Passages.length : Int))) then (
   (ix x5.Passages v8).bind fun x10 =>
   (f_spec_ClearanceOn a0 x10 a2).bind fun r11 =>
   if r11.2 then (
    if v7 then (
     f_spec_LeastClearance_3 a2 v6 r11 a1 v3 x5 v8 a0 (f_spec_LeastClearance_2 a2 a1 v3 x5 a0 k_spec_LeastClearance_1 n) true (decide (r11.1 < v6)))
    else (
     f_spec_LeastClearance_3 a2 v6 r11 a1 v3 x5 v8 a0 (f_spec_LeastClearance_2 a2 a1 v3 x5 a0 k_spec_LeastClearance_1 n) false true))
   else (
    some ((0 : Int), false)))
  else (
   k_spec_LeastClearance_1 v6 v7 (IntKind.i64.wrap (v3 + (1 : Int))))
def f_spec_LeastClearance_1 (a2 : List Int) (a1 : List XOption) (a0 : XHarbour) : Nat → Int → Bool → Int → Option (Int × Bool)
 | 0, _, _, _ => none
 | n + 1, v1, v2, v3 =>
  if (decide (v3 < (a1.length : Int))) then (
   (ix a1 v3).bind fun x5 =>
   f_spec_LeastClearance_2 a2 a1 v3 x5 a0 (f_spec_LeastClearance_1 a2 a1 a0 n) bigN v1 v2 (0 : Int))
  else (
   some (v1, v2))
def f_spec_LeastClearance (a0 : XHarbour) (a1 : List XOption) (a2 : List Int) : Option (Int × Bool) :=
 f_spec_LeastClearance_1 a2 a1 a0 bigN (0 : Int) false (0 : Int)
/- impl_LeastClearance -/
def f_impl_LeastClearance_3 (a2 : List Int) (v6 : Int) (r11 : Int × Bool) (a1 : List XOption) (v3 : Int) (x5 : XOption) (v8 : Int) (a0 : XHarbour) (k_impl_LeastClearance_2 : Int → Bool → Int → Option (Int × Bool)) (v14 : Bool) (v15 : Bool) : Option (Int × Bool) :=
 if v15 then (
  k_impl_LeastClearance_2 r11.1 true (IntKind.i64.wrap (v8 + (1 : Int))))
 else (
  k_impl_LeastClearance_2 v6 v14 (IntKind.i64.wrap (v8 + (1 : Int))))
def f_impl_LeastClearance_2 (a2 : List Int) (a1 : List XOption) (v3 : Int) (x5 : XOption) (a0 : XHarbour) (k_impl_LeastClearance_1 : Int → Bool → Int → Option (Int × Bool)) : Nat → Int → Bool → Int → Option (Int × Bool)
 | 0, _, _, _ => none
 | n + 1, v6, v7, v8 =>
  if (decide (v8 < (x5.Passages.length : Int))) then (
   (ix x5.Passages v8).bind fun x10 =>
   (f_impl_ClearanceOn a0 x10 a2).bind fun r11 =>
   if r11.2 then (
    if v7 then (
     f_impl_LeastClearance_3 a2 v6 r11 a1 v3 x5 v8 a0 (f_impl_LeastClearance_2 a2 a1 v3 x5 a0 k_impl_LeastClearance_1 n) true (decide (r11.1 < v6)))
    else (
     f_impl_LeastClearance_3 a2 v6 r11 a1 v3 x5 v8 a0 (f_impl_LeastClearance_2 a2 a1 v3 x5 a0 k_impl_LeastClearance_1 n) false true))
   else (
    some ((0 : Int), false)))
  else (
   k_impl_LeastClearance_1 v6 v7 (IntKind.i64.wrap (v3 + (1 : Int))))
def f_impl_LeastClearance_1 (a2 : List Int) (a1 : List XOption) (a0 : XHarbour) : Nat → Int → Bool → Int → Option (Int × Bool)
 | 0, _, _, _ => none
 | n + 1, v1, v2, v3 =>
  if (decide (v3 < (a1.length : Int))) then (
   (ix a1 v3).bind fun x5 =>
   f_impl_LeastClearance_2 a2 a1 v3 x5 a0 (f_impl_LeastClearance_1 a2 a1 a0 n) bigN v1 v2 (0 : Int))
  else (
   some (v1, v2))
def f_impl_LeastClearance (a0 : XHarbour) (a1 : List XOption) (a2 : List Int) : Option (Int × Bool) :=
 f_impl_LeastClearance_1 a2 a1 a0 bigN (0 : Int) false (0 : Int)
/- laws_FnExactLeastClearance -/
def f_laws_FnExactLeastClearance (a0 : XHarbour) (a1 : List XOption) (a2 : List Int) : Option Bool :=
 if (decide ((1048576 : Int) < (a2.length : Int))) then (
  some true)
 else (
  (f_laws_szHarbour a0 (1048576 : Int)).bind fun r2 =>
  if (decide (r2 < (0 : Int))) then (
   some true)
  else (
   (f_laws_szOptionS a1 r2).bind fun r4 =>
   if (decide (r4 < (0 : Int))) then (
    some true)
   else (
    (f_laws_toHarbour a0).bind fun r6 =>
    (f_laws_toOptionS a1).bind fun r7 =>
    (f_laws_toIntS a2).bind fun r8 =>
    (f_spec_LeastClearance r6 r7 r8).bind fun r9 =>
    (f_laws_toHarbour a0).bind fun r10 =>
    (f_laws_toOptionS a1).bind fun r11 =>
    (f_laws_toIntS a2).bind fun r12 =>
    (f_impl_LeastClearance r10 r11 r12).bind fun r13 =>
    if (r13.1 != r9.1) then (
     some false)
    else (
     if (r13.2 == r9.2) then (
      (f_laws_toHarbour a0).bind fun r16 =>
      (f_laws_eqHarbour r10 r16).bind fun r17 =>
      if r17 then (
       (f_laws_toOptionS a1).bind fun r19 =>
       (f_laws_eqOptionS r11 r19).bind fun r20 =>
       if r20 then (
        (f_laws_toIntS a2).bind fun r22 =>
        (f_laws_eqIntS r12 r22).bind fun r23 =>
        if r23 then (
         some true)
        else (
         some false))
       else (
        some false))
      else (
       some false))
     else (
      some false)))))
/- spec_FirstGrounding -/
def f_spec_FirstGrounding_3 (a2 : List Int) (v1 : Int) (a1 : List XOption) (x3 : XOption) (v4 : Int) (a0 : XHarbour) (x6 : XPassage) (k_spec_FirstGrounding_2 : Int → Option (Int × Int)) : Nat → Int → Option (Int × Int)
 | 0, _ => none
 | n + 1, v10 =>
  if (decide (v10 ≤ x6.End)) then (
   (f_spec_l24Level a0.Forecast a2 v10).bind fun r12 =>
   (ix a0.Fleet x6.Ship).bind fun x13 =>
   (f_spec_LevelFor a0.Chart x6.Segment x13).bind fun r14 =>
   if (decide (r12 < r14)) then (
    some (v1, v10))
   else (
    f_spec_FirstGrounding_3 a2 v1 a1 x3 v4 a0 x6 k_spec_FirstGrounding_2 n (IntKind.i64.wrap (v10 + (1 : Int)))))
  else (
   k_spec_FirstGrounding_2 (IntKind.i64.wrap (v4 + (1 : Int))))
def f_spec_FirstGrounding_2 (a2 : List Int) (v1 : Int) (a1 : List XOption) (x3 : XOption) (a0 : XHarbour) (k_spec_FirstGrounding_1 : Int → Option (Int × Int)) : Nat → Int → Option (Int × Int)
 | 0, _ => none
 | n + 1, v4 =>
  if (decide (v4 < (x3.Passages.length : Int))) then (
   (ix x3.Passages v4).bind fun x6 =>
   (f_spec_ClearanceOn a0 x6 a2).bind fun r7 =>
   if r7.2 then (
    if (decide ((0 : Int) ≤ r7.1)) then (
     f_spec_FirstGrounding_2 a2 v1 a1 x3 a0 k_spec_FirstGrounding_1 n (IntKind.i64.wrap (v4 + (1 : Int))))
    else (
     f_spec_FirstGrounding_3 a2 v1 a1 x3 v4 a0 x6 (f_spec_FirstGrounding_2 a2 v1 a1 x3 a0 k_spec_FirstGrounding_1 n) bigN x6.Start))
   else (
    f_spec_FirstGrounding_2 a2 v1 a1 x3 a0 k_spec_FirstGrounding_1 n (IntKind.i64.wrap (v4 + (1 : Int)))))
  else (
   k_spec_FirstGrounding_1 (IntKind.i64.wrap (v1 + (1 : Int))))
def f_spec_FirstGrounding_1 (a2 : List Int) (a1 : List XOption) (a0 : XHarbour) : Nat → Int → Option (Int × Int)
 | 0, _ => none
 | n + 1, v1 =>
  if (decide (v1 < (a1.length : Int))) then (
   (ix a1 v1).bind fun x3 =>
   f_spec_FirstGrounding_2 a2 v1 a1 x3 a0 (f_spec_FirstGrounding_1 a2 a1 a0 n) bigN (0 : Int))
  else (
   some ((-1 : Int), (-1 : Int)))
def f_spec_FirstGrounding (a0 : XHarbour) (a1 : List XOption) (a2 : List Int) : Option (Int × Int) :=
 f_spec_FirstGrounding_1 a2 a1 a0 bigN (0 : Int)
/- impl_sailOn -/
def f_impl_sailOn_1 (a1 : Int) (a3 : List Int) (a0 : XHarbour) (a2 : XPassage) : Nat → Int → Option (Option Xgrounded)
 | 0, _ => none
 | n + 1, v4 =>
  if (decide (v4 ≤ a2.End)) then (
   (f_impl_levelOn a0.Forecast a3 v4).bind fun r6 =>
   (ix a0.Fleet a2.Ship).bind fun x7 =>
   (f_impl_LevelFor a0.Chart a2.Segment x7).bind fun r8 =>
   if (decide (r6 < r8)) then (
    some (some (⟨a1, v4⟩ : Xgrounded)))
   else (
    f_impl_sailOn_1 a1 a3 a0 a2 n (IntKind.i64.wrap (v4 + (1 : Int)))))
  else (
   some (none : Option Xgrounded))
def f_impl_sailOn (a0 : XHarbour) (a1 : Int) (a2 : XPassage) (a3 : List Int) : Option (Option Xgrounded) :=
 (f_impl_ClearanceOn a0 a2 a3).bind fun r1 =>
 if r1.2 then (
  if (decide ((0 : Int) ≤ r1.1)) then (
   some (none : Option Xgrounded))
  else (
   f_impl_sailOn_1 a1 a3 a0 a2 bigN a2.Start))
 else (
  some (none : Option Xgrounded))
/- impl_FirstGrounding -/
def f_impl_FirstGrounding_2 (a2 : List Int) (a0 : XHarbour) (v1 : Int) (a1 : List XOption) (x3 : XOption) (k_impl_FirstGrounding_1 : Int → Option (Int × Int)) : Nat → Int → Option (Int × Int)
 | 0, _ => none
 | n + 1, v4 =>
  if (decide (v4 < (x3.Passages.length : Int))) then (
   (ix x3.Passages v4).bind fun x6 =>
   (f_impl_sailOn a0 v1 x6 a2).bind fun r7 =>
   if r7.isSome then (
    (r7).bind fun y9 =>
    some (y9.option, y9.minute))
   else (
    f_impl_FirstGrounding_2 a2 a0 v1 a1 x3 k_impl_FirstGrounding_1 n (IntKind.i64.wrap (v4 + (1 : Int)))))
  else (
   k_impl_FirstGrounding_1 (IntKind.i64.wrap (v1 + (1 : Int))))
def f_impl_FirstGrounding_1 (a2 : List Int) (a0 : XHarbour) (a1 : List XOption) : Nat → Int → Option (Int × Int)
 | 0, _ => none
 | n + 1, v1 =>
  if (decide (v1 < (a1.length : Int))) then (
   (ix a1 v1).bind fun x3 =>
   f_impl_FirstGrounding_2 a2 a0 v1 a1 x3 (f_impl_FirstGrounding_1 a2 a0 a1 n) bigN (0 : Int))
  else (
   some ((-1 : Int), (-1 : Int)))
def f_impl_FirstGrounding (a0 : XHarbour) (a1 : List XOption) (a2 : List Int) : Option (Int × Int) :=
 f_impl_FirstGrounding_1 a2 a0 a1 bigN (0 : Int)
/- laws_FnExactFirstGrounding -/
def f_laws_FnExactFirstGrounding (a0 : XHarbour) (a1 : List XOption) (a2 : List Int) : Option Bool :=
 if (decide ((1048576 : Int) < (a2.length : Int))) then (
  some true)
 else (
  (f_laws_szHarbour a0 (1048576 : Int)).bind fun r2 =>
  if (decide (r2 < (0 : Int))) then (
   some true)
  else (
   (f_laws_szOptionS a1 r2).bind fun r4 =>
   if (decide (r4 < (0 : Int))) then (
    some true)
   else (
    (f_laws_toHarbour a0).bind fun r6 =>
    (f_laws_toOptionS a1).bind fun r7 =>
    (f_laws_toIntS a2).bind fun r8 =>
    (f_spec_FirstGrounding r6 r7 r8).bind fun r9 =>
    (f_laws_toHarbour a0).bind fun r10 =>
    (f_laws_toOptionS a1).bind fun r11 =>
    (f_laws_toIntS a2).bind fun r12 =>
    (f_impl_FirstGrounding r10 r11 r12).bind fun r13 =>
    if (r13.1 != r9.1) then (
     some false)
    else (
     if (r13.2 != r9.2) then (
      some false)
     else (
      (f_laws_toHarbour a0).bind fun r16 =>
      (f_laws_eqHarbour r10 r16).bind fun r17 =>
      if r17 then (
       (f_laws_toOptionS a1).bind fun r19 =>
       (f_laws_eqOptionS r11 r19).bind fun r20 =>
       if r20 then (
        (f_laws_toIntS a2).bind fun r22 =>
        (f_laws_eqIntS r12 r22).bind fun r23 =>
        if r23 then (
         some true)
        else (
         some false))
       else (
        some false))
      else (
       some false))))))
end Go.Vi
