/-
  Plain definitions of functions, by program. No condition.
-/
import Derived.Test.YtldjoojbhbbhdaaVi32
namespace Go.Vi
set_option linter.unusedSimpArgs false
set_option linter.unusedVariables false
structure XDesk where
  Now : Int
  Starts : List Int
  Cleared : List Bool
  deriving DecidableEq
def XDesk.row (x : XDesk) : List D := [.int .i64 x.Now, .sl (List.map rI x.Starts), .sl (List.map rB x.Cleared)]
theorem XDesk.row_eq (x : XDesk) : XDesk.row x = [.int .i64 x.Now, .sl (List.map rI x.Starts), .sl (List.map rB x.Cleared)] := rfl
instance : Row XDesk.row 3 := ⟨fun _ => rfl, Nat.le_of_ble_eq_true rfl⟩
instance : OfTy (.st [(.int .i64), (.sl (.int .i64)), (.sl .bool)]) XDesk.row := ⟨fun ds h => by
  obtain ⟨a0, b0, h0, t0, rfl⟩ := h
  obtain ⟨a1, b1, h1, t1, rfl⟩ := t0
  obtain ⟨a2, b2, h2, t2, rfl⟩ := t1
  obtain rfl := t2
  obtain ⟨x0, rfl⟩ := OfTy.of (row := rI) _ h0
  obtain ⟨x1, rfl⟩ := OfTy.of (row := (rL rI)) _ h1
  obtain ⟨x2, rfl⟩ := OfTy.of (row := (rL rB)) _ h2
  exact ⟨⟨x0, x1, x2⟩, rfl⟩⟩
structure XEntry where
  Kind : Int
  At : Int
  Call : Int
  Value : Int
  deriving DecidableEq
def XEntry.row (x : XEntry) : List D := [.int .i64 x.Kind, .int .i64 x.At, .int .i64 x.Call, .int .i64 x.Value]
theorem XEntry.row_eq (x : XEntry) : XEntry.row x = [.int .i64 x.Kind, .int .i64 x.At, .int .i64 x.Call, .int .i64 x.Value] := rfl
instance : Row XEntry.row 4 := ⟨fun _ => rfl, Nat.le_of_ble_eq_true rfl⟩
instance : FlatRow XEntry.row := ⟨fun x d hd => by simp only [XEntry.row_eq, List.mem_cons, List.not_mem_nil, or_false] at hd; rcases hd with rfl | rfl | rfl | rfl <;> rfl⟩
instance : OfTy (.st [(.int .i64), (.int .i64), (.int .i64), (.int .i64)]) XEntry.row := ⟨fun ds h => by
  obtain ⟨a0, b0, h0, t0, rfl⟩ := h
  obtain ⟨a1, b1, h1, t1, rfl⟩ := t0
  obtain ⟨a2, b2, h2, t2, rfl⟩ := t1
  obtain ⟨a3, b3, h3, t3, rfl⟩ := t2
  obtain rfl := t3
  obtain ⟨x0, rfl⟩ := OfTy.of (row := rI) _ h0
  obtain ⟨x1, rfl⟩ := OfTy.of (row := rI) _ h1
  obtain ⟨x2, rfl⟩ := OfTy.of (row := rI) _ h2
  obtain ⟨x3, rfl⟩ := OfTy.of (row := rI) _ h3
  exact ⟨⟨x0, x1, x2, x3⟩, rfl⟩⟩
structure XPart where
  Amp : Int
  Period : Int
  Phase : Int
  deriving DecidableEq
def XPart.row (x : XPart) : List D := [.int .i64 x.Amp, .int .i64 x.Period, .int .i64 x.Phase]
theorem XPart.row_eq (x : XPart) : XPart.row x = [.int .i64 x.Amp, .int .i64 x.Period, .int .i64 x.Phase] := rfl
instance : Row XPart.row 3 := ⟨fun _ => rfl, Nat.le_of_ble_eq_true rfl⟩
instance : FlatRow XPart.row := ⟨fun x d hd => by simp only [XPart.row_eq, List.mem_cons, List.not_mem_nil, or_false] at hd; rcases hd with rfl | rfl | rfl <;> rfl⟩
instance : OfTy (.st [(.int .i64), (.int .i64), (.int .i64)]) XPart.row := ⟨fun ds h => by
  obtain ⟨a0, b0, h0, t0, rfl⟩ := h
  obtain ⟨a1, b1, h1, t1, rfl⟩ := t0
  obtain ⟨a2, b2, h2, t2, rfl⟩ := t1
  obtain rfl := t2
  obtain ⟨x0, rfl⟩ := OfTy.of (row := rI) _ h0
  obtain ⟨x1, rfl⟩ := OfTy.of (row := rI) _ h1
  obtain ⟨x2, rfl⟩ := OfTy.of (row := rI) _ h2
  exact ⟨⟨x0, x1, x2⟩, rfl⟩⟩
structure XTide where
  Mean : Int
  Parts : List XPart
  deriving DecidableEq
def XTide.row (x : XTide) : List D := [.int .i64 x.Mean, .sl (List.map XPart.row x.Parts)]
theorem XTide.row_eq (x : XTide) : XTide.row x = [.int .i64 x.Mean, .sl (List.map XPart.row x.Parts)] := rfl
instance : Row XTide.row 2 := ⟨fun _ => rfl, Nat.le_of_ble_eq_true rfl⟩
instance : OfTy (.st [(.int .i64), (.sl (.st [(.int .i64), (.int .i64), (.int .i64)]))]) XTide.row := ⟨fun ds h => by
  obtain ⟨a0, b0, h0, t0, rfl⟩ := h
  obtain ⟨a1, b1, h1, t1, rfl⟩ := t0
  obtain rfl := t1
  obtain ⟨x0, rfl⟩ := OfTy.of (row := rI) _ h0
  obtain ⟨x1, rfl⟩ := OfTy.of (row := (rL XPart.row)) _ h1
  exact ⟨⟨x0, x1⟩, rfl⟩⟩
structure XSurge where
  From : Int
  Low : Int
  High : Int
  deriving DecidableEq
def XSurge.row (x : XSurge) : List D := [.int .i64 x.From, .int .i64 x.Low, .int .i64 x.High]
theorem XSurge.row_eq (x : XSurge) : XSurge.row x = [.int .i64 x.From, .int .i64 x.Low, .int .i64 x.High] := rfl
instance : Row XSurge.row 3 := ⟨fun _ => rfl, Nat.le_of_ble_eq_true rfl⟩
instance : FlatRow XSurge.row := ⟨fun x d hd => by simp only [XSurge.row_eq, List.mem_cons, List.not_mem_nil, or_false] at hd; rcases hd with rfl | rfl | rfl <;> rfl⟩
instance : OfTy (.st [(.int .i64), (.int .i64), (.int .i64)]) XSurge.row := ⟨fun ds h => by
  obtain ⟨a0, b0, h0, t0, rfl⟩ := h
  obtain ⟨a1, b1, h1, t1, rfl⟩ := t0
  obtain ⟨a2, b2, h2, t2, rfl⟩ := t1
  obtain rfl := t2
  obtain ⟨x0, rfl⟩ := OfTy.of (row := rI) _ h0
  obtain ⟨x1, rfl⟩ := OfTy.of (row := rI) _ h1
  obtain ⟨x2, rfl⟩ := OfTy.of (row := rI) _ h2
  exact ⟨⟨x0, x1, x2⟩, rfl⟩⟩
structure XForecast where
  Tide : XTide
  Surges : List XSurge
  deriving DecidableEq
def XForecast.row (x : XForecast) : List D := [.int .i64 x.Tide.Mean, .sl (List.map XPart.row x.Tide.Parts), .sl (List.map XSurge.row x.Surges)]
theorem XForecast.row_eq (x : XForecast) : XForecast.row x = [.int .i64 x.Tide.Mean, .sl (List.map XPart.row x.Tide.Parts), .sl (List.map XSurge.row x.Surges)] := rfl
instance : Row XForecast.row 3 := ⟨fun _ => rfl, Nat.le_of_ble_eq_true rfl⟩
instance : OfTy (.st [(.st [(.int .i64), (.sl (.st [(.int .i64), (.int .i64), (.int .i64)]))]), (.sl (.st [(.int .i64), (.int .i64), (.int .i64)]))]) XForecast.row := ⟨fun ds h => by
  obtain ⟨a0, b0, h0, t0, rfl⟩ := h
  obtain ⟨a1, b1, h1, t1, rfl⟩ := t0
  obtain rfl := t1
  obtain ⟨x0, rfl⟩ := OfTy.of (row := XTide.row) _ h0
  obtain ⟨x1, rfl⟩ := OfTy.of (row := (rL XSurge.row)) _ h1
  exact ⟨⟨x0, x1⟩, rfl⟩⟩
structure XPoint where
  Name : List UInt8
  Wait : Bool
  deriving DecidableEq
def XPoint.row (x : XPoint) : List D := [.str x.Name, .bool x.Wait]
theorem XPoint.row_eq (x : XPoint) : XPoint.row x = [.str x.Name, .bool x.Wait] := rfl
instance : Row XPoint.row 2 := ⟨fun _ => rfl, Nat.le_of_ble_eq_true rfl⟩
instance : FlatRow XPoint.row := ⟨fun x d hd => by simp only [XPoint.row_eq, List.mem_cons, List.not_mem_nil, or_false] at hd; rcases hd with rfl | rfl <;> rfl⟩
instance : OfTy (.st [.str, .bool]) XPoint.row := ⟨fun ds h => by
  obtain ⟨a0, b0, h0, t0, rfl⟩ := h
  obtain ⟨a1, b1, h1, t1, rfl⟩ := t0
  obtain rfl := t1
  obtain ⟨x0, rfl⟩ := OfTy.of (row := rS) _ h0
  obtain ⟨x1, rfl⟩ := OfTy.of (row := rB) _ h1
  exact ⟨⟨x0, x1⟩, rfl⟩⟩
structure XSegment where
  A : Int
  B : Int
  Depth : Int
  Minutes : Int
  Meet : Bool
  deriving DecidableEq
def XSegment.row (x : XSegment) : List D := [.int .i64 x.A, .int .i64 x.B, .int .i64 x.Depth, .int .i64 x.Minutes, .bool x.Meet]
theorem XSegment.row_eq (x : XSegment) : XSegment.row x = [.int .i64 x.A, .int .i64 x.B, .int .i64 x.Depth, .int .i64 x.Minutes, .bool x.Meet] := rfl
instance : Row XSegment.row 5 := ⟨fun _ => rfl, Nat.le_of_ble_eq_true rfl⟩
instance : FlatRow XSegment.row := ⟨fun x d hd => by simp only [XSegment.row_eq, List.mem_cons, List.not_mem_nil, or_false] at hd; rcases hd with rfl | rfl | rfl | rfl | rfl <;> rfl⟩
instance : OfTy (.st [(.int .i64), (.int .i64), (.int .i64), (.int .i64), .bool]) XSegment.row := ⟨fun ds h => by
  obtain ⟨a0, b0, h0, t0, rfl⟩ := h
  obtain ⟨a1, b1, h1, t1, rfl⟩ := t0
  obtain ⟨a2, b2, h2, t2, rfl⟩ := t1
  obtain ⟨a3, b3, h3, t3, rfl⟩ := t2
  obtain ⟨a4, b4, h4, t4, rfl⟩ := t3
  obtain rfl := t4
  obtain ⟨x0, rfl⟩ := OfTy.of (row := rI) _ h0
  obtain ⟨x1, rfl⟩ := OfTy.of (row := rI) _ h1
  obtain ⟨x2, rfl⟩ := OfTy.of (row := rI) _ h2
  obtain ⟨x3, rfl⟩ := OfTy.of (row := rI) _ h3
  obtain ⟨x4, rfl⟩ := OfTy.of (row := rB) _ h4
  exact ⟨⟨x0, x1, x2, x3, x4⟩, rfl⟩⟩
structure XChart where
  Points : List XPoint
  Segments : List XSegment
  deriving DecidableEq
def XChart.row (x : XChart) : List D := [.sl (List.map XPoint.row x.Points), .sl (List.map XSegment.row x.Segments)]
theorem XChart.row_eq (x : XChart) : XChart.row x = [.sl (List.map XPoint.row x.Points), .sl (List.map XSegment.row x.Segments)] := rfl
instance : Row XChart.row 2 := ⟨fun _ => rfl, Nat.le_of_ble_eq_true rfl⟩
instance : OfTy (.st [(.sl (.st [.str, .bool])), (.sl (.st [(.int .i64), (.int .i64), (.int .i64), (.int .i64), .bool]))]) XChart.row := ⟨fun ds h => by
  obtain ⟨a0, b0, h0, t0, rfl⟩ := h
  obtain ⟨a1, b1, h1, t1, rfl⟩ := t0
  obtain rfl := t1
  obtain ⟨x0, rfl⟩ := OfTy.of (row := (rL XPoint.row)) _ h0
  obtain ⟨x1, rfl⟩ := OfTy.of (row := (rL XSegment.row)) _ h1
  exact ⟨⟨x0, x1⟩, rfl⟩⟩
structure XShip where
  Name : List UInt8
  Length : Int
  Draught : Int
  Line : Int
  Tugs : Int
  Slow : Bool
  deriving DecidableEq
def XShip.row (x : XShip) : List D := [.str x.Name, .int .i64 x.Length, .int .i64 x.Draught, .int .i64 x.Line, .int .i64 x.Tugs, .bool x.Slow]
theorem XShip.row_eq (x : XShip) : XShip.row x = [.str x.Name, .int .i64 x.Length, .int .i64 x.Draught, .int .i64 x.Line, .int .i64 x.Tugs, .bool x.Slow] := rfl
instance : Row XShip.row 6 := ⟨fun _ => rfl, Nat.le_of_ble_eq_true rfl⟩
instance : FlatRow XShip.row := ⟨fun x d hd => by simp only [XShip.row_eq, List.mem_cons, List.not_mem_nil, or_false] at hd; rcases hd with rfl | rfl | rfl | rfl | rfl | rfl <;> rfl⟩
instance : OfTy (.st [.str, (.int .i64), (.int .i64), (.int .i64), (.int .i64), .bool]) XShip.row := ⟨fun ds h => by
  obtain ⟨a0, b0, h0, t0, rfl⟩ := h
  obtain ⟨a1, b1, h1, t1, rfl⟩ := t0
  obtain ⟨a2, b2, h2, t2, rfl⟩ := t1
  obtain ⟨a3, b3, h3, t3, rfl⟩ := t2
  obtain ⟨a4, b4, h4, t4, rfl⟩ := t3
  obtain ⟨a5, b5, h5, t5, rfl⟩ := t4
  obtain rfl := t5
  obtain ⟨x0, rfl⟩ := OfTy.of (row := rS) _ h0
  obtain ⟨x1, rfl⟩ := OfTy.of (row := rI) _ h1
  obtain ⟨x2, rfl⟩ := OfTy.of (row := rI) _ h2
  obtain ⟨x3, rfl⟩ := OfTy.of (row := rI) _ h3
  obtain ⟨x4, rfl⟩ := OfTy.of (row := rI) _ h4
  obtain ⟨x5, rfl⟩ := OfTy.of (row := rB) _ h5
  exact ⟨⟨x0, x1, x2, x3, x4, x5⟩, rfl⟩⟩
structure XRegime where
  Gap : Int
  NoMeet : Bool
  deriving DecidableEq
def XRegime.row (x : XRegime) : List D := [.int .i64 x.Gap, .bool x.NoMeet]
theorem XRegime.row_eq (x : XRegime) : XRegime.row x = [.int .i64 x.Gap, .bool x.NoMeet] := rfl
instance : Row XRegime.row 2 := ⟨fun _ => rfl, Nat.le_of_ble_eq_true rfl⟩
instance : FlatRow XRegime.row := ⟨fun x d hd => by simp only [XRegime.row_eq, List.mem_cons, List.not_mem_nil, or_false] at hd; rcases hd with rfl | rfl <;> rfl⟩
instance : OfTy (.st [(.int .i64), .bool]) XRegime.row := ⟨fun ds h => by
  obtain ⟨a0, b0, h0, t0, rfl⟩ := h
  obtain ⟨a1, b1, h1, t1, rfl⟩ := t0
  obtain rfl := t1
  obtain ⟨x0, rfl⟩ := OfTy.of (row := rI) _ h0
  obtain ⟨x1, rfl⟩ := OfTy.of (row := rB) _ h1
  exact ⟨⟨x0, x1⟩, rfl⟩⟩
structure XCrew where
  Tugs : Int
  Pilots : Int
  Rest : Int
  Moves : List Int
  deriving DecidableEq
def XCrew.row (x : XCrew) : List D := [.int .i64 x.Tugs, .int .i64 x.Pilots, .int .i64 x.Rest, .sl (List.map rI x.Moves)]
theorem XCrew.row_eq (x : XCrew) : XCrew.row x = [.int .i64 x.Tugs, .int .i64 x.Pilots, .int .i64 x.Rest, .sl (List.map rI x.Moves)] := rfl
instance : Row XCrew.row 4 := ⟨fun _ => rfl, Nat.le_of_ble_eq_true rfl⟩
instance : OfTy (.st [(.int .i64), (.int .i64), (.int .i64), (.sl (.int .i64))]) XCrew.row := ⟨fun ds h => by
  obtain ⟨a0, b0, h0, t0, rfl⟩ := h
  obtain ⟨a1, b1, h1, t1, rfl⟩ := t0
  obtain ⟨a2, b2, h2, t2, rfl⟩ := t1
  obtain ⟨a3, b3, h3, t3, rfl⟩ := t2
  obtain rfl := t3
  obtain ⟨x0, rfl⟩ := OfTy.of (row := rI) _ h0
  obtain ⟨x1, rfl⟩ := OfTy.of (row := rI) _ h1
  obtain ⟨x2, rfl⟩ := OfTy.of (row := rI) _ h2
  obtain ⟨x3, rfl⟩ := OfTy.of (row := (rL rI)) _ h3
  exact ⟨⟨x0, x1, x2, x3⟩, rfl⟩⟩
structure XHarbour where
  Forecast : XForecast
  Chart : XChart
  Fleet : List XShip
  Regime : XRegime
  Crew : XCrew
  deriving DecidableEq
def XHarbour.row (x : XHarbour) : List D := [.int .i64 x.Forecast.Tide.Mean, .sl (List.map XPart.row x.Forecast.Tide.Parts), .sl (List.map XSurge.row x.Forecast.Surges), .sl (List.map XPoint.row x.Chart.Points), .sl (List.map XSegment.row x.Chart.Segments), .sl (List.map XShip.row x.Fleet), .int .i64 x.Regime.Gap, .bool x.Regime.NoMeet, .int .i64 x.Crew.Tugs, .int .i64 x.Crew.Pilots, .int .i64 x.Crew.Rest, .sl (List.map rI x.Crew.Moves)]
theorem XHarbour.row_eq (x : XHarbour) : XHarbour.row x = [.int .i64 x.Forecast.Tide.Mean, .sl (List.map XPart.row x.Forecast.Tide.Parts), .sl (List.map XSurge.row x.Forecast.Surges), .sl (List.map XPoint.row x.Chart.Points), .sl (List.map XSegment.row x.Chart.Segments), .sl (List.map XShip.row x.Fleet), .int .i64 x.Regime.Gap, .bool x.Regime.NoMeet, .int .i64 x.Crew.Tugs, .int .i64 x.Crew.Pilots, .int .i64 x.Crew.Rest, .sl (List.map rI x.Crew.Moves)] := rfl
instance : Row XHarbour.row 12 := ⟨fun _ => rfl, Nat.le_of_ble_eq_true rfl⟩
instance : OfTy (.st [(.st [(.st [(.int .i64), (.sl (.st [(.int .i64), (.int .i64), (.int .i64)]))]), (.sl (.st [(.int .i64), (.int .i64), (.int .i64)]))]), (.st [(.sl (.st [.str, .bool])), (.sl (.st [(.int .i64), (.int .i64), (.int .i64), (.int .i64), .bool]))]), (.sl (.st [.str, (.int .i64), (.int .i64), (.int .i64), (.int .i64), .bool])), (.st [(.int .i64), .bool]), (.st [(.int .i64), (.int .i64), (.int .i64), (.sl (.int .i64))])]) XHarbour.row := ⟨fun ds h => by
  obtain ⟨a0, b0, h0, t0, rfl⟩ := h
  obtain ⟨a1, b1, h1, t1, rfl⟩ := t0
  obtain ⟨a2, b2, h2, t2, rfl⟩ := t1
  obtain ⟨a3, b3, h3, t3, rfl⟩ := t2
  obtain ⟨a4, b4, h4, t4, rfl⟩ := t3
  obtain rfl := t4
  obtain ⟨x0, rfl⟩ := OfTy.of (row := XForecast.row) _ h0
  obtain ⟨x1, rfl⟩ := OfTy.of (row := XChart.row) _ h1
  obtain ⟨x2, rfl⟩ := OfTy.of (row := (rL XShip.row)) _ h2
  obtain ⟨x3, rfl⟩ := OfTy.of (row := XRegime.row) _ h3
  obtain ⟨x4, rfl⟩ := OfTy.of (row := XCrew.row) _ h4
  exact ⟨⟨x0, x1, x2, x3, x4⟩, rfl⟩⟩
structure XCall where
  Ship : Int
  From : Int
  To : Int
  Ready : Int
  Due : Int
  deriving DecidableEq
def XCall.row (x : XCall) : List D := [.int .i64 x.Ship, .int .i64 x.From, .int .i64 x.To, .int .i64 x.Ready, .int .i64 x.Due]
theorem XCall.row_eq (x : XCall) : XCall.row x = [.int .i64 x.Ship, .int .i64 x.From, .int .i64 x.To, .int .i64 x.Ready, .int .i64 x.Due] := rfl
instance : Row XCall.row 5 := ⟨fun _ => rfl, Nat.le_of_ble_eq_true rfl⟩
instance : FlatRow XCall.row := ⟨fun x d hd => by simp only [XCall.row_eq, List.mem_cons, List.not_mem_nil, or_false] at hd; rcases hd with rfl | rfl | rfl | rfl | rfl <;> rfl⟩
instance : OfTy (.st [(.int .i64), (.int .i64), (.int .i64), (.int .i64), (.int .i64)]) XCall.row := ⟨fun ds h => by
  obtain ⟨a0, b0, h0, t0, rfl⟩ := h
  obtain ⟨a1, b1, h1, t1, rfl⟩ := t0
  obtain ⟨a2, b2, h2, t2, rfl⟩ := t1
  obtain ⟨a3, b3, h3, t3, rfl⟩ := t2
  obtain ⟨a4, b4, h4, t4, rfl⟩ := t3
  obtain rfl := t4
  obtain ⟨x0, rfl⟩ := OfTy.of (row := rI) _ h0
  obtain ⟨x1, rfl⟩ := OfTy.of (row := rI) _ h1
  obtain ⟨x2, rfl⟩ := OfTy.of (row := rI) _ h2
  obtain ⟨x3, rfl⟩ := OfTy.of (row := rI) _ h3
  obtain ⟨x4, rfl⟩ := OfTy.of (row := rI) _ h4
  exact ⟨⟨x0, x1, x2, x3, x4⟩, rfl⟩⟩
structure XConsole where
  Harbour : XHarbour
  Calls : List XCall
  Desk : XDesk
  deriving DecidableEq
def XConsole.row (x : XConsole) : List D := [.int .i64 x.Harbour.Forecast.Tide.Mean, .sl (List.map XPart.row x.Harbour.Forecast.Tide.Parts), .sl (List.map XSurge.row x.Harbour.Forecast.Surges), .sl (List.map XPoint.row x.Harbour.Chart.Points), .sl (List.map XSegment.row x.Harbour.Chart.Segments), .sl (List.map XShip.row x.Harbour.Fleet), .int .i64 x.Harbour.Regime.Gap, .bool x.Harbour.Regime.NoMeet, .int .i64 x.Harbour.Crew.Tugs, .int .i64 x.Harbour.Crew.Pilots, .int .i64 x.Harbour.Crew.Rest, .sl (List.map rI x.Harbour.Crew.Moves), .sl (List.map XCall.row x.Calls), .int .i64 x.Desk.Now, .sl (List.map rI x.Desk.Starts), .sl (List.map rB x.Desk.Cleared)]
theorem XConsole.row_eq (x : XConsole) : XConsole.row x = [.int .i64 x.Harbour.Forecast.Tide.Mean, .sl (List.map XPart.row x.Harbour.Forecast.Tide.Parts), .sl (List.map XSurge.row x.Harbour.Forecast.Surges), .sl (List.map XPoint.row x.Harbour.Chart.Points), .sl (List.map XSegment.row x.Harbour.Chart.Segments), .sl (List.map XShip.row x.Harbour.Fleet), .int .i64 x.Harbour.Regime.Gap, .bool x.Harbour.Regime.NoMeet, .int .i64 x.Harbour.Crew.Tugs, .int .i64 x.Harbour.Crew.Pilots, .int .i64 x.Harbour.Crew.Rest, .sl (List.map rI x.Harbour.Crew.Moves), .sl (List.map XCall.row x.Calls), .int .i64 x.Desk.Now, .sl (List.map rI x.Desk.Starts), .sl (List.map rB x.Desk.Cleared)] := rfl
instance : Row XConsole.row 16 := ⟨fun _ => rfl, Nat.le_of_ble_eq_true rfl⟩
instance : OfTy (.st [(.st [(.st [(.st [(.int .i64), (.sl (.st [(.int .i64), (.int .i64), (.int .i64)]))]), (.sl (.st [(.int .i64), (.int .i64), (.int .i64)]))]), (.st [(.sl (.st [.str, .bool])), (.sl (.st [(.int .i64), (.int .i64), (.int .i64), (.int .i64), .bool]))]), (.sl (.st [.str, (.int .i64), (.int .i64), (.int .i64), (.int .i64), .bool])), (.st [(.int .i64), .bool]), (.st [(.int .i64), (.int .i64), (.int .i64), (.sl (.int .i64))])]), (.sl (.st [(.int .i64), (.int .i64), (.int .i64), (.int .i64), (.int .i64)])), (.st [(.int .i64), (.sl (.int .i64)), (.sl .bool)])]) XConsole.row := ⟨fun ds h => by
  obtain ⟨a0, b0, h0, t0, rfl⟩ := h
  obtain ⟨a1, b1, h1, t1, rfl⟩ := t0
  obtain ⟨a2, b2, h2, t2, rfl⟩ := t1
  obtain rfl := t2
  obtain ⟨x0, rfl⟩ := OfTy.of (row := XHarbour.row) _ h0
  obtain ⟨x1, rfl⟩ := OfTy.of (row := (rL XCall.row)) _ h1
  obtain ⟨x2, rfl⟩ := OfTy.of (row := XDesk.row) _ h2
  exact ⟨⟨x0, x1, x2⟩, rfl⟩⟩
theorem rowsX : type_of% (And.intro @rI_eq (And.intro @XDesk.row_eq (And.intro @XEntry.row_eq (And.intro @XPart.row_eq (And.intro @XTide.row_eq (And.intro @XSurge.row_eq (And.intro @XForecast.row_eq (And.intro @XPoint.row_eq (And.intro @XSegment.row_eq (And.intro @XChart.row_eq (And.intro @XShip.row_eq (And.intro @XRegime.row_eq (And.intro @XCrew.row_eq (And.intro @XHarbour.row_eq (And.intro @XCall.row_eq (@XConsole.row_eq)))))))))))))))) := And.intro @rI_eq (And.intro @XDesk.row_eq (And.intro @XEntry.row_eq (And.intro @XPart.row_eq (And.intro @XTide.row_eq (And.intro @XSurge.row_eq (And.intro @XForecast.row_eq (And.intro @XPoint.row_eq (And.intro @XSegment.row_eq (And.intro @XChart.row_eq (And.intro @XShip.row_eq (And.intro @XRegime.row_eq (And.intro @XCrew.row_eq (And.intro @XHarbour.row_eq (And.intro @XCall.row_eq (@XConsole.row_eq)))))))))))))))
/- laws_szIntS -/
def f_laws_szIntS (a0 : List Int) (a1 : Int) : Option Int :=
 if (decide ((IntKind.i64.wrap (a1 - (a0.length : Int))) < (0 : Int))) then (
  some (-1 : Int))
 else (
  some (IntKind.i64.wrap (a1 - (a0.length : Int))))
/- laws_szBoolS -/
def f_laws_szBoolS (a0 : List Bool) (a1 : Int) : Option Int :=
 if (decide ((IntKind.i64.wrap (a1 - (a0.length : Int))) < (0 : Int))) then (
  some (-1 : Int))
 else (
  some (IntKind.i64.wrap (a1 - (a0.length : Int))))
/- laws_szDesk -/
def f_laws_szDesk (a0 : XDesk) (a1 : Int) : Option Int :=
 (f_laws_szIntS a0.Starts a1).bind fun r1 =>
 if (decide (r1 < (0 : Int))) then (
  some (-1 : Int))
 else (
  (f_laws_szBoolS a0.Cleared r1).bind fun r3 =>
  if (decide (r3 < (0 : Int))) then (
   some (-1 : Int))
  else (
   some r3))
/- laws_toIntS -/
def f_laws_toIntS_1 (a0 : List Int) : Nat → Int → (List Int) → Option (List Int)
 | 0, _, _ => none
 | n + 1, v2, v3 =>
  if (decide (v2 < (a0.length : Int))) then (
   (ix a0 v2).bind fun x5 =>
   (ix v3 v2).bind fun x6 =>
   f_laws_toIntS_1 a0 n (IntKind.i64.wrap (v2 + (1 : Int))) (v3.set (Int.toNat v2) x5))
  else (
   some v3)
def f_laws_toIntS (a0 : List Int) : Option (List Int) :=
 (mkS (a0.length : Int) (a0.length : Int) 8).bind fun n1 =>
 f_laws_toIntS_1 a0 bigN (0 : Int) (List.replicate n1 (0 : Int))
/- laws_toBoolS -/
def f_laws_toBoolS_1 (a0 : List Bool) : Nat → Int → (List Bool) → Option (List Bool)
 | 0, _, _ => none
 | n + 1, v2, v3 =>
  if (decide (v2 < (a0.length : Int))) then (
   (ix a0 v2).bind fun x5 =>
   (ix v3 v2).bind fun x6 =>
   f_laws_toBoolS_1 a0 n (IntKind.i64.wrap (v2 + (1 : Int))) (v3.set (Int.toNat v2) x5))
  else (
   some v3)
def f_laws_toBoolS (a0 : List Bool) : Option (List Bool) :=
 (mkS (a0.length : Int) (a0.length : Int) 1).bind fun n1 =>
 f_laws_toBoolS_1 a0 bigN (0 : Int) (List.replicate n1 false)
/- laws_toDesk -/
def f_laws_toDesk (a0 : XDesk) : Option XDesk :=
 (f_laws_toIntS a0.Starts).bind fun r1 =>
 (f_laws_toBoolS a0.Cleared).bind fun r2 =>
 some (⟨a0.Now, r1, r2⟩ : XDesk)
/- laws_toEntry -/
def f_laws_toEntry (a0 : XEntry) : Option XEntry :=
 some a0
/- spec_l23Copy -/
def f_spec_l23Copy (a0 : XDesk) : Option XDesk :=
 if appB 0 a0.Starts.length 8 then (
  if appB 0 a0.Cleared.length 1 then (
   some a0)
  else none)
 else none
/- spec_l01In -/
def f_spec_l01In (a0 : Int) (a1 : Int) (a2 : Int) : Option Bool :=
 if (decide (a1 ≤ a0)) then (
  some (decide (a0 ≤ a2)))
 else (
  some false)
/- spec_DeskOk -/
def f_spec_DeskOk_1 (a0 : XDesk) : Nat → Int → Option Bool
 | 0, _ => none
 | n + 1, v5 =>
  if (decide (v5 < (a0.Starts.length : Int))) then (
   (ix a0.Starts v5).bind fun x7 =>
   (f_spec_l01In x7 (-1 : Int) (2880 : Int)).bind fun r8 =>
   if r8 then (
    (ix a0.Cleared v5).bind fun x10 =>
    if x10 then (
     if (decide (x7 < (0 : Int))) then (
      some false)
     else (
      f_spec_DeskOk_1 a0 n (IntKind.i64.wrap (v5 + (1 : Int)))))
    else (
     f_spec_DeskOk_1 a0 n (IntKind.i64.wrap (v5 + (1 : Int)))))
   else (
    some false))
  else (
   some true)
def f_spec_DeskOk (a0 : XDesk) : Option Bool :=
 (f_spec_l01In a0.Now (0 : Int) (2880 : Int)).bind fun r1 =>
 if r1 then (
  if (decide ((6 : Int) < (a0.Starts.length : Int))) then (
   some false)
  else (
   if ((a0.Cleared.length : Int) != (a0.Starts.length : Int)) then (
    some false)
   else (
    f_spec_DeskOk_1 a0 bigN (0 : Int))))
 else (
  some false)
/- spec_l23Allowed -/
def f_spec_l23Allowed (a0 : XDesk) (a1 : XEntry) : Option Bool :=
 (f_spec_l01In a1.At a0.Now (2880 : Int)).bind fun r1 =>
 if r1 then (
  (f_spec_l01In a1.Kind (1 : Int) (4 : Int)).bind fun r3 =>
  if r3 then (
   if (a1.Kind == (4 : Int)) then (
    if (a1.Call == (0 : Int)) then (
     some (a1.Value == (0 : Int)))
    else (
     some false))
   else (
    (f_spec_l01In a1.Call (0 : Int) (IntKind.i64.wrap ((a0.Starts.length : Int) - (1 : Int)))).bind fun r7 =>
    if r7 then (
     (ix a0.Cleared a1.Call).bind fun x9 =>
     if x9 then (
      some false)
     else (
      if (a1.Kind == (1 : Int)) then (
       (f_spec_l01In a1.Value a1.At (2880 : Int)).bind fun r12 =>
       some r12)
      else (
       if (a1.Value == (0 : Int)) then (
        (ix a0.Starts a1.Call).bind fun x14 =>
        if (decide ((0 : Int) ≤ x14)) then (
         if (a1.Kind == (3 : Int)) then (
          some true)
         else (
          some (decide (a1.At ≤ x14))))
        else (
         some false))
       else (
        some false))))
    else (
     some false)))
  else (
   some false))
 else (
  some false)
/- spec_ApplyEntry -/
def f_spec_ApplyEntry_2 (a1 : XEntry) (v13 : List Int) (v14 : List Bool) : Option (XDesk × Bool) :=
 some ((⟨a1.At, v13, v14⟩ : XDesk), true)
def f_spec_ApplyEntry_1 (a1 : XEntry) (r1 : XDesk) (v5 : Bool) : Option (XDesk × Bool) :=
 if v5 then (
  some (r1, false))
 else (
  if (a1.Kind == (1 : Int)) then (
   (ix r1.Starts a1.Call).bind fun x8 =>
   f_spec_ApplyEntry_2 a1 (r1.Starts.set (Int.toNat a1.Call) a1.Value) r1.Cleared)
  else (
   if (a1.Kind == (2 : Int)) then (
    (ix r1.Cleared a1.Call).bind fun x10 =>
    f_spec_ApplyEntry_2 a1 r1.Starts (r1.Cleared.set (Int.toNat a1.Call) true))
   else (
    if (a1.Kind == (3 : Int)) then (
     (ix r1.Starts a1.Call).bind fun x12 =>
     f_spec_ApplyEntry_2 a1 (r1.Starts.set (Int.toNat a1.Call) (-1 : Int)) r1.Cleared)
    else (
     f_spec_ApplyEntry_2 a1 r1.Starts r1.Cleared))))
def f_spec_ApplyEntry (a0 : XDesk) (a1 : XEntry) : Option (XDesk × Bool) :=
 (f_spec_l23Copy a0).bind fun r1 =>
 (f_spec_DeskOk a0).bind fun r2 =>
 if r2 then (
  (f_spec_l23Allowed a0 a1).bind fun r4 =>
  f_spec_ApplyEntry_1 a1 r1 (!r4))
 else (
  f_spec_ApplyEntry_1 a1 r1 true)
/- impl_clone_int -/
def f_impl_clone_int (a0 : List Int) : Option (List Int) :=
 (mkS (0 : Int) (a0.length : Int) 8).bind fun n1 =>
 if appB (List.replicate n1 (0 : Int)).length a0.length 8 then (
  some ((List.replicate n1 (0 : Int)) ++ a0))
 else none
/- impl_clone_bool -/
def f_impl_clone_bool (a0 : List Bool) : Option (List Bool) :=
 (mkS (0 : Int) (a0.length : Int) 1).bind fun n1 =>
 if appB (List.replicate n1 false).length a0.length 1 then (
  some ((List.replicate n1 false) ++ a0))
 else none
/- impl_copyDesk -/
def f_impl_copyDesk (a0 : XDesk) : Option XDesk :=
 (f_impl_clone_int a0.Starts).bind fun r1 =>
 (f_impl_clone_bool a0.Cleared).bind fun r2 =>
 some (⟨a0.Now, r1, r2⟩ : XDesk)
/- impl_within -/
def f_impl_within (a0 : Int) (a1 : Int) (a2 : Int) : Option Bool :=
 if (decide (a1 ≤ a0)) then (
  some (decide (a0 ≤ a2)))
 else (
  some false)
/- impl_isMinute -/
def f_impl_isMinute (a0 : Int) : Option Bool :=
 (f_impl_within a0 (0 : Int) (2880 : Int)).bind fun r1 =>
 some r1
/- impl_DeskOk -/
def f_impl_DeskOk_1 (a0 : XDesk) : Nat → Int → Option Bool
 | 0, _ => none
 | n + 1, v5 =>
  if (decide (v5 < (a0.Starts.length : Int))) then (
   (ix a0.Starts v5).bind fun x7 =>
   (f_impl_within x7 (-1 : Int) (2880 : Int)).bind fun r8 =>
   if r8 then (
    (ix a0.Cleared v5).bind fun x10 =>
    if x10 then (
     if (decide (x7 < (0 : Int))) then (
      some false)
     else (
      f_impl_DeskOk_1 a0 n (IntKind.i64.wrap (v5 + (1 : Int)))))
    else (
     f_impl_DeskOk_1 a0 n (IntKind.i64.wrap (v5 + (1 : Int)))))
   else (
    some false))
  else (
   some true)
def f_impl_DeskOk (a0 : XDesk) : Option Bool :=
 (f_impl_isMinute a0.Now).bind fun r1 =>
 if r1 then (
  if (decide ((6 : Int) < (a0.Starts.length : Int))) then (
   some false)
  else (
   if ((a0.Cleared.length : Int) != (a0.Starts.length : Int)) then (
    some false)
   else (
    f_impl_DeskOk_1 a0 bigN (0 : Int))))
 else (
  some false)
/- impl_isIndex -/
def f_impl_isIndex (a0 : Int) (a1 : Int) : Option Bool :=
 if (decide ((0 : Int) ≤ a0)) then (
  some (decide (a0 < a1)))
 else (
  some false)
/- impl_applicable -/
def f_impl_applicable (a0 : XDesk) (a1 : XEntry) : Option Bool :=
 (f_impl_within a1.At a0.Now (2880 : Int)).bind fun r1 =>
 if r1 then (
  if (a1.Kind == (4 : Int)) then (
   if (a1.Call == (0 : Int)) then (
    some (a1.Value == (0 : Int)))
   else (
    some false))
  else (
   (f_impl_isIndex a1.Call (a0.Starts.length : Int)).bind fun r5 =>
   if r5 then (
    (ix a0.Cleared a1.Call).bind fun x7 =>
    if x7 then (
     some false)
    else (
     (ix a0.Starts a1.Call).bind fun x9 =>
     if (a1.Kind == (1 : Int)) then (
      (f_impl_within a1.Value a1.At (2880 : Int)).bind fun r11 =>
      some r11)
     else (
      if (a1.Kind == (2 : Int)) then (
       if (a1.Value == (0 : Int)) then (
        some (decide (a1.At ≤ x9)))
       else (
        some false))
      else (
       if (a1.Kind == (3 : Int)) then (
        if (a1.Value == (0 : Int)) then (
         some (decide ((0 : Int) ≤ x9)))
        else (
         some false))
       else (
        some false)))))
   else (
    some false)))
 else (
  some false)
/- impl_ApplyEntry -/
def f_impl_ApplyEntry_2 (a1 : XEntry) (v13 : List Int) (v14 : List Bool) : Option (XDesk × Bool) :=
 some ((⟨a1.At, v13, v14⟩ : XDesk), true)
def f_impl_ApplyEntry_1 (a1 : XEntry) (r1 : XDesk) (v5 : Bool) : Option (XDesk × Bool) :=
 if v5 then (
  some (r1, false))
 else (
  if (a1.Kind == (1 : Int)) then (
   (ix r1.Starts a1.Call).bind fun x8 =>
   f_impl_ApplyEntry_2 a1 (r1.Starts.set (Int.toNat a1.Call) a1.Value) r1.Cleared)
  else (
   if (a1.Kind == (2 : Int)) then (
    (ix r1.Cleared a1.Call).bind fun x10 =>
    f_impl_ApplyEntry_2 a1 r1.Starts (r1.Cleared.set (Int.toNat a1.Call) true))
   else (
    if (a1.Kind == (3 : Int)) then (
     (ix r1.Starts a1.Call).bind fun x12 =>
     f_impl_ApplyEntry_2 a1 (r1.Starts.set (Int.toNat a1.Call) (-1 : Int)) r1.Cleared)
    else (
     f_impl_ApplyEntry_2 a1 r1.Starts r1.Cleared))))
def f_impl_ApplyEntry (a0 : XDesk) (a1 : XEntry) : Option (XDesk × Bool) :=
 (f_impl_copyDesk a0).bind fun r1 =>
 (f_impl_DeskOk a0).bind fun r2 =>
 if r2 then (
  (f_impl_applicable a0 a1).bind fun r4 =>
  f_impl_ApplyEntry_1 a1 r1 (!r4))
 else (
  f_impl_ApplyEntry_1 a1 r1 true)
/- laws_eqIntS -/
def f_laws_eqIntS_1 (a0 : List Int) (a1 : List Int) : Nat → Int → Option Bool
 | 0, _ => none
 | n + 1, v2 =>
  if (decide (v2 < (a0.length : Int))) then (
   (ix a0 v2).bind fun x4 =>
   (ix a1 v2).bind fun x5 =>
   if (x4 != x5) then (
    some false)
   else (
    f_laws_eqIntS_1 a0 a1 n (IntKind.i64.wrap (v2 + (1 : Int)))))
  else (
   some true)
def f_laws_eqIntS (a0 : List Int) (a1 : List Int) : Option Bool :=
 if ((a0.length : Int) != (a1.length : Int)) then (
  some false)
 else (
  f_laws_eqIntS_1 a0 a1 bigN (0 : Int))
/- laws_eqBoolS -/
def f_laws_eqBoolS_1 (a0 : List Bool) (a1 : List Bool) : Nat → Int → Option Bool
 | 0, _ => none
 | n + 1, v2 =>
  if (decide (v2 < (a0.length : Int))) then (
   (ix a0 v2).bind fun x4 =>
   (ix a1 v2).bind fun x5 =>
   if (x4 == x5) then (
    f_laws_eqBoolS_1 a0 a1 n (IntKind.i64.wrap (v2 + (1 : Int))))
   else (
    some false))
  else (
   some true)
def f_laws_eqBoolS (a0 : List Bool) (a1 : List Bool) : Option Bool :=
 if ((a0.length : Int) != (a1.length : Int)) then (
  some false)
 else (
  f_laws_eqBoolS_1 a0 a1 bigN (0 : Int))
/- laws_eqDesk -/
def f_laws_eqDesk (a0 : XDesk) (a1 : XDesk) : Option Bool :=
 if (a0.Now != a1.Now) then (
  some false)
 else (
  (f_laws_eqIntS a0.Starts a1.Starts).bind fun r2 =>
  if r2 then (
   (f_laws_eqBoolS a0.Cleared a1.Cleared).bind fun r4 =>
   if r4 then (
    some true)
   else (
    some false))
  else (
   some false))
/- laws_markIntS -/
def f_laws_markIntS_1 : Nat → Int → Int → (List Int) → Option (Int × List Int)
 | 0, _, _, _ => none
 | n + 1, v1, v2, v3 =>
  if (decide (v2 < (v3.length : Int))) then (
   (ix v3 v2).bind fun x5 =>
   f_laws_markIntS_1 n (IntKind.i64.wrap (v1 + (1 : Int))) (IntKind.i64.wrap (v2 + (1 : Int))) (v3.set (Int.toNat v2) v1))
  else (
   some (v1, v3))
def f_laws_markIntS (a0 : List Int) (a1 : Int) : Option (Int × List Int) :=
 f_laws_markIntS_1 bigN a1 (0 : Int) a0
/- laws_markBoolS -/
def f_laws_markBoolS_1 : Nat → Int → Int → (List Bool) → Option (Int × List Bool)
 | 0, _, _, _ => none
 | n + 1, v1, v2, v3 =>
  if (decide (v2 < (v3.length : Int))) then (
   (ix v3 v2).bind fun x5 =>
   f_laws_markBoolS_1 n (IntKind.i64.wrap (v1 + (1 : Int))) (IntKind.i64.wrap (v2 + (1 : Int))) (v3.set (Int.toNat v2) ((IntKind.i64.wrap (Int.tmod v1 (3 : Int))) == (0 : Int))))
  else (
   some (v1, v3))
def f_laws_markBoolS (a0 : List Bool) (a1 : Int) : Option (Int × List Bool) :=
 f_laws_markBoolS_1 bigN a1 (0 : Int) a0
/- laws_markDesk -/
def f_laws_markDesk (a0 : XDesk) (a1 : Int) : Option (Int × List Int × List Bool) :=
 (f_laws_markIntS a0.Starts a1).bind fun r1 =>
 (f_laws_markBoolS a0.Cleared r1.1).bind fun r2 =>
 some (r2.1, r1.2, r2.2)
/- laws_heldIntS -/
def f_laws_heldIntS_1 (a0 : List Int) : Nat → Int → Int → Option Int
 | 0, _, _ => none
 | n + 1, v1, v2 =>
  if (decide (v2 < (a0.length : Int))) then (
   (ix a0 v2).bind fun x4 =>
   if (x4 != v1) then (
    some (-1 : Int))
   else (
    f_laws_heldIntS_1 a0 n (IntKind.i64.wrap (v1 + (1 : Int))) (IntKind.i64.wrap (v2 + (1 : Int)))))
  else (
   some v1)
def f_laws_heldIntS (a0 : List Int) (a1 : Int) : Option Int :=
 f_laws_heldIntS_1 a0 bigN a1 (0 : Int)
/- laws_heldBoolS -/
def f_laws_heldBoolS_1 (a0 : List Bool) : Nat → Int → Int → Option Int
 | 0, _, _ => none
 | n + 1, v1, v2 =>
  if (decide (v2 < (a0.length : Int))) then (
   (ix a0 v2).bind fun x4 =>
   if (x4 == ((IntKind.i64.wrap (Int.tmod v1 (3 : Int))) == (0 : Int))) then (
    f_laws_heldBoolS_1 a0 n (IntKind.i64.wrap (v1 + (1 : Int))) (IntKind.i64.wrap (v2 + (1 : Int))))
   else (
    some (-1 : Int)))
  else (
   some v1)
def f_laws_heldBoolS (a0 : List Bool) (a1 : Int) : Option Int :=
 f_laws_heldBoolS_1 a0 bigN a1 (0 : Int)
/- laws_heldDesk -/
def f_laws_heldDesk (a0 : XDesk) (a1 : Int) : Option Int :=
 (f_laws_heldIntS a0.Starts a1).bind fun r1 =>
 if (decide (r1 < (0 : Int))) then (
  some (-1 : Int))
 else (
  (f_laws_heldBoolS a0.Cleared r1).bind fun r3 =>
  if (decide (r3 < (0 : Int))) then (
   some (-1 : Int))
  else (
   some r3))
/- laws_FnExactApplyEntry -/
def f_laws_FnExactApplyEntry (a0 : XDesk) (a1 : XEntry) : Option Bool :=
 (f_laws_szDesk a0 (1048576 : Int)).bind fun r1 =>
 if (decide (r1 < (0 : Int))) then (
  some true)
 else (
  (f_laws_toDesk a0).bind fun r3 =>
  (f_laws_toEntry a1).bind fun r4 =>
  (f_spec_ApplyEntry r3 r4).bind fun r5 =>
  (f_laws_toDesk a0).bind fun r6 =>
  (f_laws_toEntry a1).bind fun r7 =>
  (f_impl_ApplyEntry r6 r7).bind fun r8 =>
  (f_laws_eqDesk (⟨r8.1.Now, r8.1.Starts, r8.1.Cleared⟩ : XDesk) (⟨r5.1.Now, r5.1.Starts, r5.1.Cleared⟩ : XDesk)).bind fun r9 =>
  if r9 then (
   if (r8.2 == r5.2) then (
    (f_laws_toDesk a0).bind fun r12 =>
    (f_laws_eqDesk r6 r12).bind fun r13 =>
    if r13 then (
     (f_laws_markDesk r6 (1 : Int)).bind fun r15 =>
     if (decide (r15.1 < (0 : Int))) then (
      some false)
     else (
      (f_laws_eqDesk (⟨r8.1.Now, r8.1.Starts, r8.1.Cleared⟩ : XDesk) (⟨r5.1.Now, r5.1.Starts, r5.1.Cleared⟩ : XDesk)).bind fun r17 =>
      if r17 then (
       (f_laws_markDesk (⟨r8.1.Now, r8.1.Starts, r8.1.Cleared⟩ : XDesk) (1 : Int)).bind fun r19 =>
       (f_laws_heldDesk (⟨r8.1.Now, r19.2.1, r19.2.2⟩ : XDesk) (1 : Int)).bind fun r20 =>
       if (decide (r20 < (0 : Int))) then (
        some false)
       else (
        if (r20 != r19.1) then (
         some false)
        else (
         (f_laws_toDesk a0).bind fun r23 =>
         (f_laws_toEntry a1).bind fun r24 =>
         (f_impl_ApplyEntry r23 r24).bind fun r25 =>
         (f_laws_eqDesk (⟨r25.1.Now, r25.1.Starts, r25.1.Cleared⟩ : XDesk) (⟨r5.1.Now, r5.1.Starts, r5.1.Cleared⟩ : XDesk)).bind fun r26 =>
         if r26 then (
          if (r25.2 == r5.2) then (
           (f_laws_heldDesk (⟨r8.1.Now, r19.2.1, r19.2.2⟩ : XDesk) (1 : Int)).bind fun r29 =>
           if (decide (r29 < (0 : Int))) then (
            some false)
           else (
            if (r29 != r19.1) then (
             some false)
            else (
             some true)))
          else (
           some false))
         else (
          some false))))
      else (
       some false)))
    else (
     some false))
   else (
    some false))
  else (
   some false))
/- spec_DeskNew -/
def f_spec_DeskNew_1 (a0 : Int) : Nat → Int → (List Int) → (List Bool) → Option XDesk
 | 0, _, _, _ => none
 | n + 1, v3, v4, v5 =>
  if (decide (v3 < a0)) then (
   if appB v4.length ([(-1 : Int)] : List Int).length 8 then (
    if appB v5.length ([false] : List Bool).length 1 then (
     f_spec_DeskNew_1 a0 n (IntKind.i64.wrap (v3 + (1 : Int))) (v4 ++ ([(-1 : Int)] : List Int)) (v5 ++ ([false] : List Bool)))
    else none)
   else none)
  else (
   some (⟨(0 : Int), v4, v5⟩ : XDesk))
def f_spec_DeskNew (a0 : Int) : Option XDesk :=
 (f_spec_l01In a0 (0 : Int) (6 : Int)).bind fun r1 =>
 if r1 then (
  f_spec_DeskNew_1 a0 bigN (0 : Int) ([] : List Int) ([] : List Bool))
 else (
  some (⟨(0 : Int), ([] : List Int), ([] : List Bool)⟩ : XDesk))
/- spec_StayingMoves -/
def f_spec_StayingMoves : Option (List Int) :=
 (mkS (64 : Int) (64 : Int) 8).bind fun n1 =>
 some (List.replicate n1 (0 : Int))
/- spec_NewConsole -/
def f_spec_NewConsole : Option XConsole :=
 (f_spec_DeskNew (0 : Int)).bind fun r1 =>
 (f_spec_StayingMoves).bind fun r2 =>
 some (⟨(⟨(⟨(⟨(0 : Int), ([] : List XPart)⟩ : XTide), ([(⟨(0 : Int), (0 : Int), (0 : Int)⟩ : XSurge)] : List XSurge)⟩ : XForecast), (⟨([] : List XPoint), ([] : List XSegment)⟩ : XChart), ([] : List XShip), (⟨(10 : Int), false⟩ : XRegime), (⟨(2 : Int), (2 : Int), (30 : Int), r2⟩ : XCrew)⟩ : XHarbour), ([] : List XCall), r1⟩ : XConsole)
/- impl_StayingMoves -/
def f_impl_StayingMoves : Option (List Int) :=
 (mkS (64 : Int) (64 : Int) 8).bind fun n1 =>
 some (List.replicate n1 (0 : Int))
/- impl_NewConsole -/
def f_impl_NewConsole : Option XConsole :=
 (f_impl_StayingMoves).bind fun r1 =>
 some (⟨(⟨(⟨(⟨(0 : Int), ([] : List XPart)⟩ : XTide), ([(⟨(0 : Int), (0 : Int), (0 : Int)⟩ : XSurge)] : List XSurge)⟩ : XForecast), (⟨([] : List XPoint), ([] : List XSegment)⟩ : XChart), ([] : List XShip), (⟨(10 : Int), false⟩ : XRegime), (⟨(2 : Int), (2 : Int), (30 : Int), r1⟩ : XCrew)⟩ : XHarbour), ([] : List XCall), (⟨(0 : Int), ([] : List Int), ([] : List Bool)⟩ : XDesk)⟩ : XConsole)
/- laws_eqPart -/
def f_laws_eqPart (a0 : XPart) (a1 : XPart) : Option Bool :=
 if (a0.Amp != a1.Amp) then (
  some false)
 else (
  if (a0.Period != a1.Period) then (
   some false)
  else (
   if (a0.Phase != a1.Phase) then (
    some false)
   else (
    some true)))
/- laws_eqPartS -/
def f_laws_eqPartS_1 (a0 : List XPart) (a1 : List XPart) : Nat → Int → Option Bool
 | 0, _ => none
 | n + 1, v2 =>
  if (decide (v2 < (a0.length : Int))) then (
   (ix a0 v2).bind fun x4 =>
   (ix a1 v2).bind fun x5 =>
   (f_laws_eqPart x4 x5).bind fun r6 =>
   if r6 then (
    f_laws_eqPartS_1 a0 a1 n (IntKind.i64.wrap (v2 + (1 : Int))))
   else (
    some false))
  else (
   some true)
def f_laws_eqPartS (a0 : List XPart) (a1 : List XPart) : Option Bool :=
 if ((a0.length : Int) != (a1.length : Int)) then (
  some false)
 else (
  f_laws_eqPartS_1 a0 a1 bigN (0 : Int))
/- laws_eqTide -/
def f_laws_eqTide (a0 : XTide) (a1 : XTide) : Option Bool :=
 if (a0.Mean != a1.Mean) then (
  some false)
 else (
  (f_laws_eqPartS a0.Parts a1.Parts).bind fun r2 =>
  if r2 then (
   some true)
  else (
   some false))
/- laws_eqSurge -/
def f_laws_eqSurge (a0 : XSurge) (a1 : XSurge) : Option Bool :=
 if (a0.From != a1.From) then (
  some false)
 else (
  if (a0.Low != a1.Low) then (
   some false)
  else (
   if (a0.High != a1.High) then (
    some false)
   else (
    some true)))
/- laws_eqSurgeS -/
def f_laws_eqSurgeS_1 (a0 : List XSurge) (a1 : List XSurge) : Nat → Int → Option Bool
 | 0, _ => none
 | n + 1, v2 =>
  if (decide (v2 < (a0.length : Int))) then (
   (ix a0 v2).bind fun x4 =>
   (ix a1 v2).bind fun x5 =>
   (f_laws_eqSurge x4 x5).bind fun r6 =>
   if r6 then (
    f_laws_eqSurgeS_1 a0 a1 n (IntKind.i64.wrap (v2 + (1 : Int))))
   else (
    some false))
  else (
   some true)
def f_laws_eqSurgeS (a0 : List XSurge) (a1 : List XSurge) : Option Bool :=
 if ((a0.length : Int) != (a1.length : Int)) then (
  some false)
 else (
  f_laws_eqSurgeS_1 a0 a1 bigN (0 : Int))
/- laws_eqForecast -/
def f_laws_eqForecast (a0 : XForecast) (a1 : XForecast) : Option Bool :=
 (f_laws_eqTide a0.Tide a1.Tide).bind fun r1 =>
 if r1 then (
  (f_laws_eqSurgeS a0.Surges a1.Surges).bind fun r3 =>
  if r3 then (
   some true)
  else (
   some false))
 else (
  some false)
/- laws_eqPoint -/
def f_laws_eqPoint (a0 : XPoint) (a1 : XPoint) : Option Bool :=
 if (a0.Name == a1.Name) then (
  if (a0.Wait == a1.Wait) then (
   some true)
  else (
   some false))
 else (
  some false)
/- laws_eqPointS -/
def f_laws_eqPointS_1 (a0 : List XPoint) (a1 : List XPoint) : Nat → Int → Option Bool
 | 0, _ => none
 | n + 1, v2 =>
  if (decide (v2 < (a0.length : Int))) then (
   (ix a0 v2).bind fun x4 =>
   (ix a1 v2).bind fun x5 =>
   (f_laws_eqPoint x4 x5).bind fun r6 =>
   if r6 then (
    f_laws_eqPointS_1 a0 a1 n (IntKind.i64.wrap (v2 + (1 : Int))))
   else (
    some false))
  else (
   some true)
def f_laws_eqPointS (a0 : List XPoint) (a1 : List XPoint) : Option Bool :=
 if ((a0.length : Int) != (a1.length : Int)) then (
  some false)
 else (
  f_laws_eqPointS_1 a0 a1 bigN (0 : Int))
/- laws_eqSegment -/
def f_laws_eqSegment (a0 : XSegment) (a1 : XSegment) : Option Bool :=
 if (a0.A != a1.A) then (
  some false)
 else (
  if (a0.B != a1.B) then (
   some false)
  else (
   if (a0.Depth != a1.Depth) then (
    some false)
   else (
    if (a0.Minutes != a1.Minutes) then (
     some false)
    else (
     if (a0.Meet == a1.Meet) then (
      some true)
     else (
      some false)))))
/- laws_eqSegmentS -/
def f_laws_eqSegmentS_1 (a0 : List XSegment) (a1 : List XSegment) : Nat → Int → Option Bool
 | 0, _ => none
 | n + 1, v2 =>
  if (decide (v2 < (a0.length : Int))) then (
   (ix a0 v2).bind fun x4 =>
   (ix a1 v2).bind fun x5 =>
   (f_laws_eqSegment x4 x5).bind fun r6 =>
   if r6 then (
    f_laws_eqSegmentS_1 a0 a1 n (IntKind.i64.wrap (v2 + (1 : Int))))
   else (
    some false))
  else (
   some true)
def f_laws_eqSegmentS (a0 : List XSegment) (a1 : List XSegment) : Option Bool :=
 if ((a0.length : Int) != (a1.length : Int)) then (
  some false)
 else (
  f_laws_eqSegmentS_1 a0 a1 bigN (0 : Int))
/- laws_eqChart -/
def f_laws_eqChart (a0 : XChart) (a1 : XChart) : Option Bool :=
 (f_laws_eqPointS a0.Points a1.Points).bind fun r1 =>
 if r1 then (
  (f_laws_eqSegmentS a0.Segments a1.Segments).bind fun r3 =>
  if r3 then (
   some true)
  else (
   some false))
 else (
  some false)
/- laws_eqShip -/
def f_laws_eqShip (a0 : XShip) (a1 : XShip) : Option Bool :=
 if (a0.Name == a1.Name) then (
  if (a0.Length != a1.Length) then (
   some false)
  else (
   if (a0.Draught != a1.Draught) then (
    some false)
   else (
    if (a0.Line != a1.Line) then (
     some false)
    else (
     if (a0.Tugs != a1.Tugs) then (
      some false)
     else (
      if (a0.Slow == a1.Slow) then (
       some true)
      else (
       some false))))))
 else (
  some false)
/- laws_eqShipS -/
def f_laws_eqShipS_1 (a0 : List XShip) (a1 : List XShip) : Nat → Int → Option Bool
 | 0, _ => none
 | n + 1, v2 =>
  if (decide (v2 < (a0.length : Int))) then (
   (ix a0 v2).bind fun x4 =>
   (ix a1 v2).bind fun x5 =>
   (f_laws_eqShip x4 x5).bind fun r6 =>
   if r6 then (
    f_laws_eqShipS_1 a0 a1 n (IntKind.i64.wrap (v2 + (1 : Int))))
   else (
    some false))
  else (
   some true)
def f_laws_eqShipS (a0 : List XShip) (a1 : List XShip) : Option Bool :=
 if ((a0.length : Int) != (a1.length : Int)) then (
  some false)
 else (
  f_laws_eqShipS_1 a0 a1 bigN (0 : Int))
/- laws_eqRegime -/
def f_laws_eqRegime (a0 : XRegime) (a1 : XRegime) : Option Bool :=
 if (a0.Gap != a1.Gap) then (
  some false)
 else (
  if (a0.NoMeet == a1.NoMeet) then (
   some true)
  else (
   some false))
/- laws_eqCrew -/
def f_laws_eqCrew (a0 : XCrew) (a1 : XCrew) : Option Bool :=
 if (a0.Tugs != a1.Tugs) then (
  some false)
 else (
  if (a0.Pilots != a1.Pilots) then (
   some false)
  else (
   if (a0.Rest != a1.Rest) then (
    some false)
   else (
    (f_laws_eqIntS a0.Moves a1.Moves).bind fun r4 =>
    if r4 then (
     some true)
    else (
     some false))))
/- laws_eqHarbour -/
def f_laws_eqHarbour (a0 : XHarbour) (a1 : XHarbour) : Option Bool :=
 (f_laws_eqForecast a0.Forecast a1.Forecast).bind fun r1 =>
 if r1 then (
  (f_laws_eqChart a0.Chart a1.Chart).bind fun r3 =>
  if r3 then (
   (f_laws_eqShipS a0.Fleet a1.Fleet).bind fun r5 =>
   if r5 then (
    (f_laws_eqRegime a0.Regime a1.Regime).bind fun r7 =>
    if r7 then (
     (f_laws_eqCrew a0.Crew a1.Crew).bind fun r9 =>
     if r9 then (
      some true)
     else (
      some false))
    else (
     some false))
   else (
    some false))
  else (
   some false))
 else (
  some false)
/- laws_eqCall -/
def f_laws_eqCall (a0 : XCall) (a1 : XCall) : Option Bool :=
 if (a0.Ship != a1.Ship) then (
  some false)
 else (
  if (a0.From != a1.From) then (
   some false)
  else (
   if (a0.To != a1.To) then (
    some false)
   else (
    if (a0.Ready != a1.Ready) then (
     some false)
    else (
     if (a0.Due != a1.Due) then (
      some false)
     else (
      some true)))))
/- laws_eqCallS -/
def f_laws_eqCallS_1 (a0 : List XCall) (a1 : List XCall) : Nat → Int → Option Bool
 | 0, _ => none
 | n + 1, v2 =>
  if (decide (v2 < (a0.length : Int))) then (
   (ix a0 v2).bind fun x4 =>
   (ix a1 v2).bind fun x5 =>
   (f_laws_eqCall x4 x5).bind fun r6 =>
   if r6 then (
    f_laws_eqCallS_1 a0 a1 n (IntKind.i64.wrap (v2 + (1 : Int))))
   else (
    some false))
  else (
   some true)
def f_laws_eqCallS (a0 : List XCall) (a1 : List XCall) : Option Bool :=
 if ((a0.length : Int) != (a1.length : Int)) then (
  some false)
 else (
  f_laws_eqCallS_1 a0 a1 bigN (0 : Int))
/- laws_eqConsole -/
def f_laws_eqConsole (a0 : XConsole) (a1 : XConsole) : Option Bool :=
 (f_laws_eqHarbour a0.Harbour a1.Harbour).bind fun r1 =>
 if r1 then (
  (f_laws_eqCallS a0.Calls a1.Calls).bind fun r3 =>
  if r3 then (
   (f_laws_eqDesk a0.Desk a1.Desk).bind fun r5 =>
   if r5 then (
    some true)
   else (
    some false))
  else (
   some false))
 else (
  some false)
/- laws_markPartS -/
def f_laws_markPartS_1 : Nat → Int → Int → (List XPart) → Option (Int × List XPart)
 | 0, _, _, _ => none
 | n + 1, v1, v2, v3 =>
  if (decide (v2 < (v3.length : Int))) then (
   (ix v3 v2).bind fun x5 =>
   (ix (v3.set (Int.toNat v2) (⟨v1, x5.Period, x5.Phase⟩ : XPart)) v2).bind fun x6 =>
   (ix ((v3.set (Int.toNat v2) (⟨v1, x5.Period, x5.Phase⟩ : XPart)).set (Int.toNat v2) (⟨x6.Amp, (IntKind.i64.wrap (v1 + (1 : Int))), x6.Phase⟩ : XPart)) v2).bind fun x7 =>
   f_laws_markPartS_1 n (IntKind.i64.wrap ((IntKind.i64.wrap ((IntKind.i64.wrap (v1 + (1 : Int))) + (1 : Int))) + (1 : Int))) (IntKind.i64.wrap (v2 + (1 : Int))) (((v3.set (Int.toNat v2) (⟨v1, x5.Period, x5.Phase⟩ : XPart)).set (Int.toNat v2) (⟨x6.Amp, (IntKind.i64.wrap (v1 + (1 : Int))), x6.Phase⟩ : XPart)).set (Int.toNat v2) (⟨x7.Amp, x7.Period, (IntKind.i64.wrap ((IntKind.i64.wrap (v1 + (1 : Int))) + (1 : Int)))⟩ : XPart)))
  else (
   some (v1, v3))
def f_laws_markPartS (a0 : List XPart) (a1 : Int) : Option (Int × List XPart) :=
 f_laws_markPartS_1 bigN a1 (0 : Int) a0
/- laws_markTide -/
def f_laws_markTide (a0 : XTide) (a1 : Int) : Option (Int × List XPart) :=
 (f_laws_markPartS a0.Parts a1).bind fun r1 =>
 some (r1.1, r1.2)
/- laws_markSurgeS -/
def f_laws_markSurgeS_1 : Nat → Int → Int → (List XSurge) → Option (Int × List XSurge)
 | 0, _, _, _ => none
 | n + 1, v1, v2, v3 =>
  if (decide (v2 < (v3.length : Int))) then (
   (ix v3 v2).bind fun x5 =>
   (ix (v3.set (Int.toNat v2) (⟨v1, x5.Low, x5.High⟩ : XSurge)) v2).bind fun x6 =>
   (ix ((v3.set (Int.toNat v2) (⟨v1, x5.Low, x5.High⟩ : XSurge)).set (Int.toNat v2) (⟨x6.From, (IntKind.i64.wrap (v1 + (1 : Int))), x6.High⟩ : XSurge)) v2).bind fun x7 =>
   f_laws_markSurgeS_1 n (IntKind.i64.wrap ((IntKind.i64.wrap ((IntKind.i64.wrap (v1 + (1 : Int))) + (1 : Int))) + (1 : Int))) (IntKind.i64.wrap (v2 + (1 : Int))) (((v3.set (Int.toNat v2) (⟨v1, x5.Low, x5.High⟩ : XSurge)).set (Int.toNat v2) (⟨x6.From, (IntKind.i64.wrap (v1 + (1 : Int))), x6.High⟩ : XSurge)).set (Int.toNat v2) (⟨x7.From, x7.Low, (IntKind.i64.wrap ((IntKind.i64.wrap (v1 + (1 : Int))) + (1 : Int)))⟩ : XSurge)))
  else (
   some (v1, v3))
def f_laws_markSurgeS (a0 : List XSurge) (a1 : Int) : Option (Int × List XSurge) :=
 f_laws_markSurgeS_1 bigN a1 (0 : Int) a0
/- laws_markForecast -/
def f_laws_markForecast (a0 : XForecast) (a1 : Int) : Option (Int × List XPart × List XSurge) :=
 (f_laws_markTide a0.Tide a1).bind fun r1 =>
 (f_laws_markSurgeS a0.Surges r1.1).bind fun r2 =>
 some (r2.1, r1.2, r2.2)
/- laws_markText -/
def f_laws_markText_1 : Nat → Int → (List UInt8) → Option (List UInt8)
 | 0, _, _ => none
 | n + 1, v2, v3 =>
  if (decide ((0 : Int) < v2)) then (
   if catB ([(IntKind.u8.wrap (IntKind.i64.wrap ((48 : Int) + (IntKind.i64.wrap (Int.tmod v2 (10 : Int))))))] : List Int).length v3.length then (
    f_laws_markText_1 n (IntKind.i64.wrap (Int.tdiv v2 (10 : Int))) ((List.map toU8 ([(IntKind.u8.wrap (IntKind.i64.wrap ((48 : Int) + (IntKind.i64.wrap (Int.tmod v2 (10 : Int))))))] : List Int)) ++ v3))
   else none)
  else (
   if catB ([109] : List UInt8).length v3.length then (
    some (([109] : List UInt8) ++ v3))
   else none)
def f_laws_markText (a0 : Int) : Option (List UInt8) :=
 if (decide (a0 ≤ (0 : Int))) then (
  some ([109, 48] : List UInt8))
 else (
  f_laws_markText_1 bigN a0 ([] : List UInt8))
/- laws_markPointS -/
def f_laws_markPointS_1 : Nat → Int → Int → (List XPoint) → Option (Int × List XPoint)
 | 0, _, _, _ => none
 | n + 1, v1, v2, v3 =>
  if (decide (v2 < (v3.length : Int))) then (
   (f_laws_markText v1).bind fun r5 =>
   (ix v3 v2).bind fun x6 =>
   (ix (v3.set (Int.toNat v2) (⟨r5, x6.Wait⟩ : XPoint)) v2).bind fun x7 =>
   f_laws_markPointS_1 n (IntKind.i64.wrap ((IntKind.i64.wrap (v1 + (1 : Int))) + (1 : Int))) (IntKind.i64.wrap (v2 + (1 : Int))) ((v3.set (Int.toNat v2) (⟨r5, x6.Wait⟩ : XPoint)).set (Int.toNat v2) (⟨x7.Name, ((IntKind.i64.wrap (Int.tmod (IntKind.i64.wrap (v1 + (1 : Int))) (3 : Int))) == (0 : Int))⟩ : XPoint)))
  else (
   some (v1, v3))
def f_laws_markPointS (a0 : List XPoint) (a1 : Int) : Option (Int × List XPoint) :=
 f_laws_markPointS_1 bigN a1 (0 : Int) a0
/- laws_markSegmentS -/
def f_laws_markSegmentS_1 : Nat → Int → Int → (List XSegment) → Option (Int × List XSegment)
 | 0, _, _, _ => none
 | n + 1, v1, v2, v3 =>
  if (decide (v2 < (v3.length : Int))) then (
   (ix v3 v2).bind fun x5 =>
   (ix (v3.set (Int.toNat v2) (⟨v1, x5.B, x5.Depth, x5.Minutes, x5.Meet⟩ : XSegment)) v2).bind fun x6 =>
   (ix ((v3.set (Int.toNat v2) (⟨v1, x5.B, x5.Depth, x5.Minutes, x5.Meet⟩ : XSegment)).set (Int.toNat v2) (⟨x6.A, (IntKind.i64.wrap (v1 + (1 : Int))), x6.Depth, x6.Minutes, x6.Meet⟩ : XSegment)) v2).bind fun x7 =>
   (ix (((v3.set (Int.toNat v2) (⟨v1, x5.B, x5.Depth, x5.Minutes, x5.Meet⟩ : XSegment)).set (Int.toNat v2) (⟨x6.A, (IntKind.i64.wrap (v1 + (1 : Int))), x6.Depth, x6.Minutes, x6.Meet⟩ : XSegment)).set (Int.toNat v2) (⟨x7.A, x7.B, (IntKind.i64.wrap ((IntKind.i64.wrap (v1 + (1 : Int))) + (1 : Int))), x7.Minutes, x7.Meet⟩ : XSegment)) v2).bind fun x8 =>
   (ix ((((v3.set (Int.toNat v2) (⟨v1, x5.B, x5.Depth, x5.Minutes, x5.Meet⟩ : XSegment)).set (Int.toNat v2) (⟨x6.A, (IntKind.i64.wrap (v1 + (1 : Int))), x6.Depth, x6.Minutes, x6.Meet⟩ : XSegment)).set (Int.toNat v2) (⟨x7.A, x7.B, (IntKind.i64.wrap ((IntKind.i64.wrap (v1 + (1 : Int))) + (1 : Int))), x7.Minutes, x7.Meet⟩ : XSegment)).set (Int.toNat v2) (⟨x8.A, x8.B, x8.Depth, (IntKind.i64.wrap ((IntKind.i64.wrap ((IntKind.i64.wrap (v1 + (1 : Int))) + (1 : Int))) + (1 : Int))), x8.Meet⟩ : XSegment)) v2).bind fun x9 =>
   f_laws_markSegmentS_1 n (IntKind.i64.wrap ((IntKind.i64.wrap ((IntKind.i64.wrap ((IntKind.i64.wrap ((IntKind.i64.wrap (v1 + (1 : Int))) + (1 : Int))) + (1 : Int))) + (1 : Int))) + (1 : Int))) (IntKind.i64.wrap (v2 + (1 : Int))) (((((v3.set (Int.toNat v2) (⟨v1, x5.B, x5.Depth, x5.Minutes, x5.Meet⟩ : XSegment)).set (Int.toNat v2) (⟨x6.A, (IntKind.i64.wrap (v1 + (1 : Int))), x6.Depth, x6.Minutes, x6.Meet⟩ : XSegment)).set (Int.toNat v2) (⟨x7.A, x7.B, (IntKind.i64.wrap ((IntKind.i64.wrap (v1 + (1 : Int))) + (1 : Int))), x7.Minutes, x7.Meet⟩ : XSegment)).set (Int.toNat v2) (⟨x8.A, x8.B, x8.Depth, (IntKind.i64.wrap ((IntKind.i64.wrap ((IntKind.i64.wrap (v1 + (1 : Int))) + (1 : Int))) + (1 : Int))), x8.Meet⟩ : XSegment)).set (Int.toNat v2) (⟨x9.A, x9.B, x9.Depth, x9.Minutes, ((IntKind.i64.wrap (Int.tmod (IntKind.i64.wrap ((IntKind.i64.wrap ((IntKind.i64.wrap ((IntKind.i64.wrap (v1 + (1 : Int))) + (1 : Int))) + (1 : Int))) + (1 : Int))) (3 : Int))) == (0 : Int))⟩ : XSegment)))
  else (
   some (v1, v3))
def f_laws_markSegmentS (a0 : List XSegment) (a1 : Int) : Option (Int × List XSegment) :=
 f_laws_markSegmentS_1 bigN a1 (0 : Int) a0
/- laws_markChart -/
def f_laws_markChart (a0 : XChart) (a1 : Int) : Option (Int × List XPoint × List XSegment) :=
 (f_laws_markPointS a0.Points a1).bind fun r1 =>
 (f_laws_markSegmentS a0.Segments r1.1).bind fun r2 =>
 some (r2.1, r1.2, r2.2)
/- laws_markShipS -/
def f_laws_markShipS_1 : Nat → Int → Int → (List XShip) → Option (Int × List XShip)
 | 0, _, _, _ => none
 | n + 1, v1, v2, v3 =>
  if (decide (v2 < (v3.length : Int))) then (
   (f_laws_markText v1).bind fun r5 =>
   (ix v3 v2).bind fun x6 =>
   (ix (v3.set (Int.toNat v2) (⟨r5, x6.Length, x6.Draught, x6.Line, x6.Tugs, x6.Slow⟩ : XShip)) v2).bind fun x7 =>
   (ix ((v3.set (Int.toNat v2) (⟨r5, x6.Length, x6.Draught, x6.Line, x6.Tugs, x6.Slow⟩ : XShip)).set (Int.toNat v2) (⟨x7.Name, (IntKind.i64.wrap (v1 + (1 : Int))), x7.Draught, x7.Line, x7.Tugs, x7.Slow⟩ : XShip)) v2).bind fun x8 =>
   (ix (((v3.set (Int.toNat v2) (⟨r5, x6.Length, x6.Draught, x6.Line, x6.Tugs, x6.Slow⟩ : XShip)).set (Int.toNat v2) (⟨x7.Name, (IntKind.i64.wrap (v1 + (1 : Int))), x7.Draught, x7.Line, x7.Tugs, x7.Slow⟩ : XShip)).set (Int.toNat v2) (⟨x8.Name, x8.Length, (IntKind.i64.wrap ((IntKind.i64.wrap (v1 + (1 : Int))) + (1 : Int))), x8.Line, x8.Tugs, x8.Slow⟩ : XShip)) v2).bind fun x9 =>
   (ix ((((v3.set (Int.toNat v2) (⟨r5, x6.Length, x6.Draught, x6.Line, x6.Tugs, x6.Slow⟩ : XShip)).set (Int.toNat v2) (⟨x7.Name, (IntKind.i64.wrap (v1 + (1 : Int))), x7.Draught, x7.Line, x7.Tugs, x7.Slow⟩ : XShip)).set (Int.toNat v2) (⟨x8.Name, x8.Length, (IntKind.i64.wrap ((IntKind.i64.wrap (v1 + (1 : Int))) + (1 : Int))), x8.Line, x8.Tugs, x8.Slow⟩ : XShip)).set (Int.toNat v2) (⟨x9.Name, x9.Length, x9.Draught, (IntKind.i64.wrap ((IntKind.i64.wrap ((IntKind.i64.wrap (v1 + (1 : Int))) + (1 : Int))) + (1 : Int))), x9.Tugs, x9.Slow⟩ : XShip)) v2).bind fun x10 =>
   (ix (((((v3.set (Int.toNat v2) (⟨r5, x6.Length, x6.Draught, x6.Line, x6.Tugs, x6.Slow⟩ : XShip)).set (Int.toNat v2) (⟨x7.Name, (IntKind.i64.wrap (v1 + (1 : Int))), x7.Draught, x7.Line, x7.Tugs, x7.Slow⟩ : XShip)).set (Int.toNat v2) (⟨x8.Name, x8.Length, (IntKind.i64.wrap ((IntKind.i64.wrap (v1 + (1 : Int))) + (1 : Int))), x8.Line, x8.Tugs, x8.Slow⟩ : XShip)).set (Int.toNat v2) (⟨x9.Name, x9.Length, x9.Draught, (IntKind.i64.wrap ((IntKind.i64.wrap ((IntKind.i64.wrap (v1 + (1 : Int))) + (1 : Int))) + (1 : Int))), x9.Tugs, x9.Slow⟩ : XShip)).set (Int.toNat v2) (⟨x10.Name, x10.Length, x10.Draught, x10.Line, (IntKind.i64.wrap ((IntKind.i64.wrap ((IntKind.i64.wrap ((IntKind.i64.wrap (v1 + (1 : Int))) + (1 : Int))) + (1 : Int))) + (1 : Int))), x10.Slow⟩ : XShip)) v2).bind fun x11 =>
   f_laws_markShipS_1 n (IntKind.i64.wrap ((IntKind.i64.wrap ((IntKind.i64.wrap ((IntKind.i64.wrap ((IntKind.i64.wrap ((IntKind.i64.wrap (v1 + (1 : Int))) + (1 : Int))) + (1 : Int))) + (1 : Int))) + (1 : Int))) + (1 : Int))) (IntKind.i64.wrap (v2 + (1 : Int))) ((((((v3.set (Int.toNat v2) (⟨r5, x6.Length, x6.Draught, x6.Line, x6.Tugs, x6.Slow⟩ : XShip)).set (Int.toNat v2) (⟨x7.Name, (IntKind.i64.wrap (v1 + (1 : Int))), x7.Draught, x7.Line, x7.Tugs, x7.Slow⟩ : XShip)).set (Int.toNat v2) (⟨x8.Name, x8.Length, (IntKind.i64.wrap ((IntKind.i64.wrap (v1 + (1 : Int))) + (1 : Int))), x8.Line, x8.Tugs, x8.Slow⟩ : XShip)).set (Int.toNat v2) (⟨x9.Name, x9.Length, x9.Draught, (IntKind.i64.wrap ((IntKind.i64.wrap ((IntKind.i64.wrap (v1 + (1 : Int))) + (1 : Int))) + (1 : Int))), x9.Tugs, x9.Slow⟩ : XShip)).set (Int.toNat v2) (⟨x10.Name, x10.Length, x10.Draught, x10.Line, (IntKind.i64.wrap ((IntKind.i64.wrap ((IntKind.i64.wrap ((IntKind.i64.wrap (v1 + (1 : Int))) + (1 : Int))) + (1 : Int))) + (1 : Int))), x10.Slow⟩ : XShip)).set (Int.toNat v2) (⟨x11.Name, x11.Length, x11.Draught, x11.Line, x11.Tugs, ((IntKind.i64.wrap (Int.tmod (IntKind.i64.wrap ((IntKind.i64.wrap ((IntKind.i64.wrap ((IntKind.i64.wrap ((IntKind.i64.wrap (v1 + (1 : Int))) + (1 : Int))) + (1 : Int))) + (1 : Int))) + (1 : Int))) (3 : Int))) == (0 : Int))⟩ : XShip)))
  else (
   some (v1, v3))
def f_laws_markShipS (a0 : List XShip) (a1 : Int) : Option (Int × List XShip) :=
 f_laws_markShipS_1 bigN a1 (0 : Int) a0
/- laws_markCrew -/
def f_laws_markCrew (a0 : XCrew) (a1 : Int) : Option (Int × List Int) :=
 (f_laws_markIntS a0.Moves a1).bind fun r1 =>
 some (r1.1, r1.2)
/- laws_markHarbour -/
def f_laws_markHarbour (a0 : XHarbour) (a1 : Int) : Option (Int × List XPart × List XSurge × List XPoint × List XSegment × List XShip × List Int) :=
 (f_laws_markForecast a0.Forecast a1).bind fun r1 =>
 (f_laws_markChart a0.Chart r1.1).bind fun r2 =>
 (f_laws_markShipS a0.Fleet r2.1).bind fun r3 =>
 (f_laws_markCrew a0.Crew r3.1).bind fun r4 =>
 some (r4.1, r1.2.1, r1.2.2, r2.2.1, r2.2.2, r3.2, r4.2)
/- laws_markCallS -/
def f_laws_markCallS_1 : Nat → Int → Int → (List XCall) → Option (Int × List XCall)
 | 0, _, _, _ => none
 | n + 1, v1, v2, v3 =>
  if (decide (v2 < (v3.length : Int))) then (
   (ix v3 v2).bind fun x5 =>
   (ix (v3.set (Int.toNat v2) (⟨v1, x5.From, x5.To, x5.Ready, x5.Due⟩ : XCall)) v2).bind fun x6 =>
   (ix ((v3.set (Int.toNat v2) (⟨v1, x5.From, x5.To, x5.Ready, x5.Due⟩ : XCall)).set (Int.toNat v2) (⟨x6.Ship, (IntKind.i64.wrap (v1 + (1 : Int))), x6.To, x6.Ready, x6.Due⟩ : XCall)) v2).bind fun x7 =>
   (ix (((v3.set (Int.toNat v2) (⟨v1, x5.From, x5.To, x5.Ready, x5.Due⟩ : XCall)).set (Int.toNat v2) (⟨x6.Ship, (IntKind.i64.wrap (v1 + (1 : Int))), x6.To, x6.Ready, x6.Due⟩ : XCall)).set (Int.toNat v2) (⟨x7.Ship, x7.From, (IntKind.i64.wrap ((IntKind.i64.wrap (v1 + (1 : Int))) + (1 : Int))), x7.Ready, x7.Due⟩ : XCall)) v2).bind fun x8 =>
   (ix ((((v3.set (Int.toNat v2) (⟨v1, x5.From, x5.To, x5.Ready, x5.Due⟩ : XCall)).set (Int.toNat v2) (⟨x6.Ship, (IntKind.i64.wrap (v1 + (1 : Int))), x6.To, x6.Ready, x6.Due⟩ : XCall)).set (Int.toNat v2) (⟨x7.Ship, x7.From, (IntKind.i64.wrap ((IntKind.i64.wrap (v1 + (1 : Int))) + (1 : Int))), x7.Ready, x7.Due⟩ : XCall)).set (Int.toNat v2) (⟨x8.Ship, x8.From, x8.To, (IntKind.i64.wrap ((IntKind.i64.wrap ((IntKind.i64.wrap (v1 + (1 : Int))) + (1 : Int))) + (1 : Int))), x8.Due⟩ : XCall)) v2).bind fun x9 =>
   f_laws_markCallS_1 n (IntKind.i64.wrap ((IntKind.i64.wrap ((IntKind.i64.wrap ((IntKind.i64.wrap ((IntKind.i64.wrap (v1 + (1 : Int))) + (1 : Int))) + (1 : Int))) + (1 : Int))) + (1 : Int))) (IntKind.i64.wrap (v2 + (1 : Int))) (((((v3.set (Int.toNat v2) (⟨v1, x5.From, x5.To, x5.Ready, x5.Due⟩ : XCall)).set (Int.toNat v2) (⟨x6.Ship, (IntKind.i64.wrap (v1 + (1 : Int))), x6.To, x6.Ready, x6.Due⟩ : XCall)).set (Int.toNat v2) (⟨x7.Ship, x7.From, (IntKind.i64.wrap ((IntKind.i64.wrap (v1 + (1 : Int))) + (1 : Int))), x7.Ready, x7.Due⟩ : XCall)).set (Int.toNat v2) (⟨x8.Ship, x8.From, x8.To, (IntKind.i64.wrap ((IntKind.i64.wrap ((IntKind.i64.wrap (v1 + (1 : Int))) + (1 : Int))) + (1 : Int))), x8.Due⟩ : XCall)).set (Int.toNat v2) (⟨x9.Ship, x9.From, x9.To, x9.Ready, (IntKind.i64.wrap ((IntKind.i64.wrap ((IntKind.i64.wrap ((IntKind.i64.wrap (v1 + (1 : Int))) + (1 : Int))) + (1 : Int))) + (1 : Int)))⟩ : XCall)))
  else (
   some (v1, v3))
def f_laws_markCallS (a0 : List XCall) (a1 : Int) : Option (Int × List XCall) :=
 f_laws_markCallS_1 bigN a1 (0 : Int) a0
/- laws_markConsole -/
def f_laws_markConsole (a0 : XConsole) (a1 : Int) : Option (Int × List XPart × List XSurge × List XPoint × List XSegment × List XShip × List Int × List XCall × List Int × List Bool) :=
 (f_laws_markHarbour a0.Harbour a1).bind fun r1 =>
 (f_laws_markCallS a0.Calls r1.1).bind fun r2 =>
 (f_laws_markDesk a0.Desk r2.1).bind fun r3 =>
 some (r3.1, r1.2.1, r1.2.2.1, r1.2.2.2.1, r1.2.2.2.2.1, r1.2.2.2.2.2.1, r1.2.2.2.2.2.2, r2.2, r3.2.1, r3.2.2)
/- laws_heldPartS -/
def f_laws_heldPartS_1 (a0 : List XPart) : Nat → Int → Int → Option Int
 | 0, _, _ => none
 | n + 1, v1, v2 =>
  if (decide (v2 < (a0.length : Int))) then (
   (ix a0 v2).bind fun x4 =>
   if (x4.Amp != v1) then (
    some (-1 : Int))
   else (
    if (x4.Period != (IntKind.i64.wrap (v1 + (1 : Int)))) then (
     some (-1 : Int))
    else (
     if (x4.Phase != (IntKind.i64.wrap ((IntKind.i64.wrap (v1 + (1 : Int))) + (1 : Int)))) then (
      some (-1 : Int))
     else (
      f_laws_heldPartS_1 a0 n (IntKind.i64.wrap ((IntKind.i64.wrap ((IntKind.i64.wrap (v1 + (1 : Int))) + (1 : Int))) + (1 : Int))) (IntKind.i64.wrap (v2 + (1 : Int)))))))
  else (
   some v1)
def f_laws_heldPartS (a0 : List XPart) (a1 : Int) : Option Int :=
 f_laws_heldPartS_1 a0 bigN a1 (0 : Int)
/- laws_heldTide -/
def f_laws_heldTide (a0 : XTide) (a1 : Int) : Option Int :=
 (f_laws_heldPartS a0.Parts a1).bind fun r1 =>
 if (decide (r1 < (0 : Int))) then (
  some (-1 : Int))
 else (
  some r1)
/- laws_heldSurgeS -/
def f_laws_heldSurgeS_1 (a0 : List XSurge) : Nat → Int → Int → Option Int
 | 0, _, _ => none
 | n + 1, v1, v2 =>
  if (decide (v2 < (a0.length : Int))) then (
   (ix a0 v2).bind fun x4 =>
   if (x4.From != v1) then (
    some (-1 : Int))
   else (
    if (x4.Low != (IntKind.i64.wrap (v1 + (1 : Int)))) then (
     some (-1 : Int))
    else (
     if (x4.High != (IntKind.i64.wrap ((IntKind.i64.wrap (v1 + (1 : Int))) + (1 : Int)))) then (
      some (-1 : Int))
     else (
      f_laws_heldSurgeS_1 a0 n (IntKind.i64.wrap ((IntKind.i64.wrap ((IntKind.i64.wrap (v1 + (1 : Int))) + (1 : Int))) + (1 : Int))) (IntKind.i64.wrap (v2 + (1 : Int)))))))
  else (
   some v1)
def f_laws_heldSurgeS (a0 : List XSurge) (a1 : Int) : Option Int :=
 f_laws_heldSurgeS_1 a0 bigN a1 (0 : Int)
/- laws_heldForecast -/
def f_laws_heldForecast (a0 : XForecast) (a1 : Int) : Option Int :=
 (f_laws_heldTide a0.Tide a1).bind fun r1 =>
 if (decide (r1 < (0 : Int))) then (
  some (-1 : Int))
 else (
  (f_laws_heldSurgeS a0.Surges r1).bind fun r3 =>
  if (decide (r3 < (0 : Int))) then (
   some (-1 : Int))
  else (
   some r3))
/- laws_heldPointS -/
def f_laws_heldPointS_1 (a0 : List XPoint) : Nat → Int → Int → Option Int
 | 0, _, _ => none
 | n + 1, v1, v2 =>
  if (decide (v2 < (a0.length : Int))) then (
   (ix a0 v2).bind fun x4 =>
   (f_laws_markText v1).bind fun r5 =>
   if (x4.Name == r5) then (
    if (x4.Wait == ((IntKind.i64.wrap (Int.tmod (IntKind.i64.wrap (v1 + (1 : Int))) (3 : Int))) == (0 : Int))) then (
     f_laws_heldPointS_1 a0 n (IntKind.i64.wrap ((IntKind.i64.wrap (v1 + (1 : Int))) + (1 : Int))) (IntKind.i64.wrap (v2 + (1 : Int))))
    else (
     some (-1 : Int)))
   else (
    some (-1 : Int)))
  else (
   some v1)
def f_laws_heldPointS (a0 : List XPoint) (a1 : Int) : Option Int :=
 f_laws_heldPointS_1 a0 bigN a1 (0 : Int)
/- laws_heldSegmentS -/
def f_laws_heldSegmentS_1 (a0 : List XSegment) : Nat → Int → Int → Option Int
 | 0, _, _ => none
 | n + 1, v1, v2 =>
  if (decide (v2 < (a0.length : Int))) then (
   (ix a0 v2).bind fun x4 =>
   if (x4.A != v1) then (
    some (-1 : Int))
   else (
    if (x4.B != (IntKind.i64.wrap (v1 + (1 : Int)))) then (
     some (-1 : Int))
    else (
     if (x4.Depth != (IntKind.i64.wrap ((IntKind.i64.wrap (v1 + (1 : Int))) + (1 : Int)))) then (
      some (-1 : Int))
     else (
      if (x4.Minutes != (IntKind.i64.wrap ((IntKind.i64.wrap ((IntKind.i64.wrap (v1 + (1 : Int))) + (1 : Int))) + (1 : Int)))) then (
       some (-1 : Int))
      else (
       if (x4.Meet == ((IntKind.i64.wrap (Int.tmod (IntKind.i64.wrap ((IntKind.i64.wrap ((IntKind.i64.wrap ((IntKind.i64.wrap (v1 + (1 : Int))) + (1 : Int))) + (1 : Int))) + (1 : Int))) (3 : Int))) == (0 : Int))) then (
        f_laws_heldSegmentS_1 a0 n (IntKind.i64.wrap ((IntKind.i64.wrap ((IntKind.i64.wrap ((IntKind.i64.wrap ((IntKind.i64.wrap (v1 + (1 : Int))) + (1 : Int))) + (1 : Int))) + (1 : Int))) + (1 : Int))) (IntKind.i64.wrap (v2 + (1 : Int))))
       else (
        some (-1 : Int)))))))
  else (
   some v1)
def f_laws_heldSegmentS (a0 : List XSegment) (a1 : Int) : Option Int :=
 f_laws_heldSegmentS_1 a0 bigN a1 (0 : Int)
/- laws_heldChart -/
def f_laws_heldChart (a0 : XChart) (a1 : Int) : Option Int :=
 (f_laws_heldPointS a0.Points a1).bind fun r1 =>
 if (decide (r1 < (0 : Int))) then (
  some (-1 : Int))
 else (
  (f_laws_heldSegmentS a0.Segments r1).bind fun r3 =>
  if (decide (r3 < (0 : Int))) then (
   some (-1 : Int))
  else (
   some r3))
/- laws_heldShipS -/
def f_laws_heldShipS_1 (a0 : List XShip) : Nat → Int → Int → Option Int
 | 0, _, _ => none
 | n + 1, v1, v2 =>
  if (decide (v2 < (a0.length : Int))) then (
   (ix a0 v2).bind fun x4 =>
   (f_laws_markText v1).bind fun r5 =>
   if (x4.Name == r5) then (
    if (x4.Length != (IntKind.i64.wrap (v1 + (1 : Int)))) then (
     some (-1 : Int))
    else (
     if (x4.Draught != (IntKind.i64.wrap ((IntKind.i64.wrap (v1 + (1 : Int))) + (1 : Int)))) then (
      some (-1 : Int))
     else (
      if (x4.Line != (IntKind.i64.wrap ((IntKind.i64.wrap ((IntKind.i64.wrap (v1 + (1 : Int))) + (1 : Int))) + (1 : Int)))) then (
       some (-1 : Int))
      else (
       if (x4.Tugs != (IntKind.i64.wrap ((IntKind.i64.wrap ((IntKind.i64.wrap ((IntKind.i64.wrap (v1 + (1 : Int))) + (1 : Int))) + (1 : Int))) + (1 : Int)))) then (
        some (-1 : Int))
       else (
        if (x4.Slow == ((IntKind.i64.wrap (Int.tmod (IntKind.i64.wrap ((IntKind.i64.wrap ((IntKind.i64.wrap ((IntKind.i64.wrap ((IntKind.i64.wrap (v1 + (1 : Int))) + (1 : Int))) + (1 : Int))) + (1 : Int))) + (1 : Int))) (3 : Int))) == (0 : Int))) then (
         f_laws_heldShipS_1 a0 n (IntKind.i64.wrap ((IntKind.i64.wrap ((IntKind.i64.wrap ((IntKind.i64.wrap ((IntKind.i64.wrap ((IntKind.i64.wrap (v1 + (1 : Int))) + (1 : Int))) + (1 : Int))) + (1 : Int))) + (1 : Int))) + (1 : Int))) (IntKind.i64.wrap (v2 + (1 : Int))))
        else (
         some (-1 : Int)))))))
   else (
    some (-1 : Int)))
  else (
   some v1)
def f_laws_heldShipS (a0 : List XShip) (a1 : Int) : Option Int :=
 f_laws_heldShipS_1 a0 bigN a1 (0 : Int)
/- laws_heldCrew -/
def f_laws_heldCrew (a0 : XCrew) (a1 : Int) : Option Int :=
 (f_laws_heldIntS a0.Moves a1).bind fun r1 =>
 if (decide (r1 < (0 : Int))) then (
  some (-1 : Int))
 else (
  some r1)
/- laws_heldHarbour -/
def f_laws_heldHarbour (a0 : XHarbour) (a1 : Int) : Option Int :=
 (f_laws_heldForecast a0.Forecast a1).bind fun r1 =>
 if (decide (r1 < (0 : Int))) then (
  some (-1 : Int))
 else (
  (f_laws_heldChart a0.Chart r1).bind fun r3 =>
  if (decide (r3 < (0 : Int))) then (
   some (-1 : Int))
  else (
   (f_laws_heldShipS a0.Fleet r3).bind fun r5 =>
   if (decide (r5 < (0 : Int))) then (
    some (-1 : Int))
   else (
    (f_laws_heldCrew a0.Crew r5).bind fun r7 =>
    if (decide (r7 < (0 : Int))) then (
     some (-1 : Int))
    else (
     some r7))))
/- laws_heldCallS -/
def f_laws_heldCallS_1 (a0 : List XCall) : Nat → Int → Int → Option Int
 | 0, _, _ => none
 | n + 1, v1, v2 =>
  if (decide (v2 < (a0.length : Int))) then (
   (ix a0 v2).bind fun x4 =>
   if (x4.Ship != v1) then (
    some (-1 : Int))
   else (
    if (x4.From != (IntKind.i64.wrap (v1 + (1 : Int)))) then (
     some (-1 : Int))
    else (
     if (x4.To != (IntKind.i64.wrap ((IntKind.i64.wrap (v1 + (1 : Int))) + (1 : Int)))) then (
      some (-1 : Int))
     else (
      if (x4.Ready != (IntKind.i64.wrap ((IntKind.i64.wrap ((IntKind.i64.wrap (v1 + (1 : Int))) + (1 : Int))) + (1 : Int)))) then (
       some (-1 : Int))
      else (
       if (x4.Due != (IntKind.i64.wrap ((IntKind.i64.wrap ((IntKind.i64.wrap ((IntKind.i64.wrap (v1 + (1 : Int))) + (1 : Int))) + (1 : Int))) + (1 : Int)))) then (
        some (-1 : Int))
       else (
        f_laws_heldCallS_1 a0 n (IntKind.i64.wrap ((IntKind.i64.wrap ((IntKind.i64.wrap ((IntKind.i64.wrap ((IntKind.i64.wrap (v1 + (1 : Int))) + (1 : Int))) + (1 : Int))) + (1 : Int))) + (1 : Int))) (IntKind.i64.wrap (v2 + (1 : Int)))))))))
  else (
   some v1)
def f_laws_heldCallS (a0 : List XCall) (a1 : Int) : Option Int :=
 f_laws_heldCallS_1 a0 bigN a1 (0 : Int)
/- laws_heldConsole -/
def f_laws_heldConsole (a0 : XConsole) (a1 : Int) : Option Int :=
 (f_laws_heldHarbour a0.Harbour a1).bind fun r1 =>
 if (decide (r1 < (0 : Int))) then (
  some (-1 : Int))
 else (
  (f_laws_heldCallS a0.Calls r1).bind fun r3 =>
  if (decide (r3 < (0 : Int))) then (
   some (-1 : Int))
  else (
   (f_laws_heldDesk a0.Desk r3).bind fun r5 =>
   if (decide (r5 < (0 : Int))) then (
    some (-1 : Int))
   else (
    some r5)))
/- laws_FnExactNewConsole -/
def f_laws_FnExactNewConsole : Option Bool :=
 (f_spec_NewConsole).bind fun r1 =>
 (f_impl_NewConsole).bind fun r2 =>
 (f_laws_eqConsole r2 r1).bind fun r3 =>
 if r3 then (
  (f_laws_markConsole r2 (1 : Int)).bind fun r5 =>
  (f_laws_heldConsole (⟨(⟨(⟨(⟨r2.Harbour.Forecast.Tide.Mean, r5.2.1⟩ : XTide), r5.2.2.1⟩ : XForecast), (⟨r5.2.2.2.1, r5.2.2.2.2.1⟩ : XChart), r5.2.2.2.2.2.1, r2.Harbour.Regime, (⟨r2.Harbour.Crew.Tugs, r2.Harbour.Crew.Pilots, r2.Harbour.Crew.Rest, r5.2.2.2.2.2.2.1⟩ : XCrew)⟩ : XHarbour), r5.2.2.2.2.2.2.2.1, (⟨r2.Desk.Now, r5.2.2.2.2.2.2.2.2.1, r5.2.2.2.2.2.2.2.2.2⟩ : XDesk)⟩ : XConsole) (1 : Int)).bind fun r6 =>
  if (decide (r6 < (0 : Int))) then (
   some false)
  else (
   if (r6 != r5.1) then (
    some false)
   else (
    (f_impl_NewConsole).bind fun r9 =>
    (f_laws_eqConsole r9 r1).bind fun r10 =>
    if r10 then (
     (f_laws_heldConsole (⟨(⟨(⟨(⟨r2.Harbour.Forecast.Tide.Mean, r5.2.1⟩ : XTide), r5.2.2.1⟩ : XForecast), (⟨r5.2.2.2.1, r5.2.2.2.2.1⟩ : XChart), r5.2.2.2.2.2.1, r2.Harbour.Regime, (⟨r2.Harbour.Crew.Tugs, r2.Harbour.Crew.Pilots, r2.Harbour.Crew.Rest, r5.2.2.2.2.2.2.1⟩ : XCrew)⟩ : XHarbour), r5.2.2.2.2.2.2.2.1, (⟨r2.Desk.Now, r5.2.2.2.2.2.2.2.2.1, r5.2.2.2.2.2.2.2.2.2⟩ : XDesk)⟩ : XConsole) (1 : Int)).bind fun r12 =>
     if (decide (r12 < (0 : Int))) then (
      some false)
     else (
      if (r12 != r5.1) then (
       some false)
      else (
       some true)))
    else (
     some false))))
 else (
  some false)
end Go.Vi
