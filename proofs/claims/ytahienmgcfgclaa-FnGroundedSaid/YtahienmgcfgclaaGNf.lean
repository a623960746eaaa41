/-
  Plain definitions of functions, by program. No condition.
-/
import Derived.Test.YtahienmgcfgclaaGVi39
namespace Go.Vi
set_option linter.unusedSimpArgs false
set_option linter.unusedVariables false
set_option linter.defProp false
def A4f (k : IntKind) (x : Int) (n : Nat) : Int := k.wrap (x.fdiv (2 ^ min n k.bits))
theorem B4q {k : IntKind} {x : Int} : A26 .shr (.v (.sc (.dat (.int k x)))) (.v (.sc (.dat (.int .u64 33)))) = some (.v (.sc (.dat (.int k (A4f k x 33))))) := by simp [A26,L3,A4f]
theorem B4m {k : IntKind} {x : Int} : L3 .shr k x 33 = some (.int k (A4f k x 33)) := by simp [L3,A4f]
theorem B4i {k : IntKind} {x : Int} : A26 .shr (.v (.sc (.dat (.int k x)))) (.v (.sc (.dat (.int .u64 45)))) = some (.v (.sc (.dat (.int k (A4f k x 45))))) := by simp [A26,L3,A4f]
theorem B4h {k : IntKind} {x : Int} : L3 .shr k x 45 = some (.int k (A4f k x 45)) := by simp [L3,A4f]
structure XPart where
 Amp : Int
 Period : Int
 Phase : Int
 deriving DecidableEq
def XPart.row (x : XPart) : List D := [.int .i64 x.Amp,.int .i64 x.Period,.int .i64 x.Phase]
theorem XPart.row_eq (x : XPart) : XPart.row x = [.int .i64 x.Amp,.int .i64 x.Period,.int .i64 x.Phase] := rfl
instance : Row XPart.row 3 := ⟨fun _ => rfl,Nat.le_of_ble_eq_true rfl⟩
instance : FlatRow XPart.row := ⟨fun x d hd => by simp only [XPart.row_eq,List.mem_cons,List.not_mem_nil,or_false] at hd; rcases hd with rfl | rfl | rfl <;> rfl⟩
instance : OfTy (.st [(.int .i64),(.int .i64),(.int .i64)]) XPart.row := ⟨fun ds h => by
 obtain ⟨a0,b0,h0,t0,rfl⟩ := h
 obtain ⟨a1,b1,h1,t1,rfl⟩ := t0
 obtain ⟨a2,b2,h2,t2,rfl⟩ := t1
 obtain rfl := t2
 obtain ⟨x0,rfl⟩ := OfTy.of (row := rI) _ h0
 obtain ⟨x1,rfl⟩ := OfTy.of (row := rI) _ h1
 obtain ⟨x2,rfl⟩ := OfTy.of (row := rI) _ h2
 exact ⟨⟨x0,x1,x2⟩,rfl⟩⟩
structure XTide where
 Mean : Int
 Parts : List XPart
 deriving DecidableEq
def XTide.row (x : XTide) : List D := [.int .i64 x.Mean,.sl (List.map XPart.row x.Parts)]
theorem XTide.row_eq (x : XTide) : XTide.row x = [.int .i64 x.Mean,.sl (List.map XPart.row x.Parts)] := rfl
instance : Row XTide.row 2 := ⟨fun _ => rfl,Nat.le_of_ble_eq_true rfl⟩
instance : OfTy (.st [(.int .i64),(.sl (.st [(.int .i64),(.int .i64),(.int .i64)]))]) XTide.row := ⟨fun ds h => by
 obtain ⟨a0,b0,h0,t0,rfl⟩ := h
 obtain ⟨a1,b1,h1,t1,rfl⟩ := t0
 obtain rfl := t1
 obtain ⟨x0,rfl⟩ := OfTy.of (row := rI) _ h0
 obtain ⟨x1,rfl⟩ := OfTy.of (row := (rL XPart.row)) _ h1
 exact ⟨⟨x0,x1⟩,rfl⟩⟩
structure XSurge where
 From : Int
 Low : Int
 High : Int
 deriving DecidableEq
def XSurge.row (x : XSurge) : List D := [.int .i64 x.From,.int .i64 x.Low,.int .i64 x.High]
theorem XSurge.row_eq (x : XSurge) : XSurge.row x = [.int .i64 x.From,.int .i64 x.Low,.int .i64 x.High] := rfl
instance : Row XSurge.row 3 := ⟨fun _ => rfl,Nat.le_of_ble_eq_true rfl⟩
instance : FlatRow XSurge.row := ⟨fun x d hd => by simp only [XSurge.row_eq,List.mem_cons,List.not_mem_nil,or_false] at hd; rcases hd with rfl | rfl | rfl <;> rfl⟩
instance : OfTy (.st [(.int .i64),(.int .i64),(.int .i64)]) XSurge.row := ⟨fun ds h => by
 obtain ⟨a0,b0,h0,t0,rfl⟩ := h
 obtain ⟨a1,b1,h1,t1,rfl⟩ := t0
 obtain ⟨a2,b2,h2,t2,rfl⟩ := t1
 obtain rfl := t2
 obtain ⟨x0,rfl⟩ := OfTy.of (row := rI) _ h0
 obtain ⟨x1,rfl⟩ := OfTy.of (row := rI) _ h1
 obtain ⟨x2,rfl⟩ := OfTy.of (row := rI) _ h2
 exact ⟨⟨x0,x1,x2⟩,rfl⟩⟩
structure XForecast where
 Tide : XTide
 Surges : List XSurge
 deriving DecidableEq
def XForecast.row (x : XForecast) : List D := [.int .i64 x.Tide.Mean,.sl (List.map XPart.row x.Tide.Parts),.sl (List.map XSurge.row x.Surges)]
theorem XForecast.row_eq (x : XForecast) : XForecast.row x = [.int .i64 x.Tide.Mean,.sl (List.map XPart.row x.Tide.Parts),.sl (List.map XSurge.row x.Surges)] := rfl
instance : Row XForecast.row 3 := ⟨fun _ => rfl,Nat.le_of_ble_eq_true rfl⟩
instance : OfTy (.st [(.st [(.int .i64),(.sl (.st [(.int .i64),(.int .i64),(.int .i64)]))]),(.sl (.st [(.int .i64),(.int .i64),(.int .i64)]))]) XForecast.row := ⟨fun ds h => by
 obtain ⟨a0,b0,h0,t0,rfl⟩ := h
 obtain ⟨a1,b1,h1,t1,rfl⟩ := t0
 obtain rfl := t1
 obtain ⟨x0,rfl⟩ := OfTy.of (row := XTide.row) _ h0
 obtain ⟨x1,rfl⟩ := OfTy.of (row := (rL XSurge.row)) _ h1
 exact ⟨⟨x0,x1⟩,rfl⟩⟩
structure XPoint where
 Name : List UInt8
 Wait : Bool
 deriving DecidableEq
def XPoint.row (x : XPoint) : List D := [.str x.Name,.bool x.Wait]
theorem XPoint.row_eq (x : XPoint) : XPoint.row x = [.str x.Name,.bool x.Wait] := rfl
instance : Row XPoint.row 2 := ⟨fun _ => rfl,Nat.le_of_ble_eq_true rfl⟩
instance : FlatRow XPoint.row := ⟨fun x d hd => by simp only [XPoint.row_eq,List.mem_cons,List.not_mem_nil,or_false] at hd; rcases hd with rfl | rfl <;> rfl⟩
instance : OfTy (.st [.str,.bool]) XPoint.row := ⟨fun ds h => by
 obtain ⟨a0,b0,h0,t0,rfl⟩ := h
 obtain ⟨a1,b1,h1,t1,rfl⟩ := t0
 obtain rfl := t1
 obtain ⟨x0,rfl⟩ := OfTy.of (row := rS) _ h0
 obtain ⟨x1,rfl⟩ := OfTy.of (row := rB) _ h1
 exact ⟨⟨x0,x1⟩,rfl⟩⟩
structure XSegment where
 A : Int
 B : Int
 Depth : Int
 Minutes : Int
 Meet : Bool
 deriving DecidableEq
def XSegment.row (x : XSegment) : List D := [.int .i64 x.A,.int .i64 x.B,.int .i64 x.Depth,.int .i64 x.Minutes,.bool x.Meet]
theorem XSegment.row_eq (x : XSegment) : XSegment.row x = [.int .i64 x.A,.int .i64 x.B,.int .i64 x.Depth,.int .i64 x.Minutes,.bool x.Meet] := rfl
instance : Row XSegment.row 5 := ⟨fun _ => rfl,Nat.le_of_ble_eq_true rfl⟩
instance : FlatRow XSegment.row := ⟨fun x d hd => by simp only [XSegment.row_eq,List.mem_cons,List.not_mem_nil,or_false] at hd; rcases hd with rfl | rfl | rfl | rfl | rfl <;> rfl⟩
instance : OfTy (.st [(.int .i64),(.int .i64),(.int .i64),(.int .i64),.bool]) XSegment.row := ⟨fun ds h => by
 obtain ⟨a0,b0,h0,t0,rfl⟩ := h
 obtain ⟨a1,b1,h1,t1,rfl⟩ := t0
 obtain ⟨a2,b2,h2,t2,rfl⟩ := t1
 obtain ⟨a3,b3,h3,t3,rfl⟩ := t2
 obtain ⟨a4,b4,h4,t4,rfl⟩ := t3
 obtain rfl := t4
 obtain ⟨x0,rfl⟩ := OfTy.of (row := rI) _ h0
 obtain ⟨x1,rfl⟩ := OfTy.of (row := rI) _ h1
 obtain ⟨x2,rfl⟩ := OfTy.of (row := rI) _ h2
 obtain ⟨x3,rfl⟩ := OfTy.of (row := rI) _ h3
 obtain ⟨x4,rfl⟩ := OfTy.of (row := rB) _ h4
 exact ⟨⟨x0,x1,x2,x3,x4⟩,rfl⟩⟩
structure XChart where
 Points : List XPoint
 Segments : List XSegment
 deriving DecidableEq
def XChart.row (x : XChart) : List D := [.sl (List.map XPoint.row x.Points),.sl (List.map XSegment.row x.Segments)]
theorem XChart.row_eq (x : XChart) : XChart.row x = [.sl (List.map XPoint.row x.Points),.sl (List.map XSegment.row x.Segments)] := rfl
instance : Row XChart.row 2 := ⟨fun _ => rfl,Nat.le_of_ble_eq_true rfl⟩
instance : OfTy (.st [(.sl (.st [.str,.bool])),(.sl (.st [(.int .i64),(.int .i64),(.int .i64),(.int .i64),.bool]))]) XChart.row := ⟨fun ds h => by
 obtain ⟨a0,b0,h0,t0,rfl⟩ := h
 obtain ⟨a1,b1,h1,t1,rfl⟩ := t0
 obtain rfl := t1
 obtain ⟨x0,rfl⟩ := OfTy.of (row := (rL XPoint.row)) _ h0
 obtain ⟨x1,rfl⟩ := OfTy.of (row := (rL XSegment.row)) _ h1
 exact ⟨⟨x0,x1⟩,rfl⟩⟩
structure XShip where
 Name : List UInt8
 Length : Int
 Draught : Int
 Line : Int
 Tugs : Int
 Slow : Bool
 deriving DecidableEq
def XShip.row (x : XShip) : List D := [.str x.Name,.int .i64 x.Length,.int .i64 x.Draught,.int .i64 x.Line,.int .i64 x.Tugs,.bool x.Slow]
theorem XShip.row_eq (x : XShip) : XShip.row x = [.str x.Name,.int .i64 x.Length,.int .i64 x.Draught,.int .i64 x.Line,.int .i64 x.Tugs,.bool x.Slow] := rfl
instance : Row XShip.row 6 := ⟨fun _ => rfl,Nat.le_of_ble_eq_true rfl⟩
instance : FlatRow XShip.row := ⟨fun x d hd => by simp only [XShip.row_eq,List.mem_cons,List.not_mem_nil,or_false] at hd; rcases hd with rfl | rfl | rfl | rfl | rfl | rfl <;> rfl⟩
instance : OfTy (.st [.str,(.int .i64),(.int .i64),(.int .i64),(.int .i64),.bool]) XShip.row := ⟨fun ds h => by
 obtain ⟨a0,b0,h0,t0,rfl⟩ := h
 obtain ⟨a1,b1,h1,t1,rfl⟩ := t0
 obtain ⟨a2,b2,h2,t2,rfl⟩ := t1
 obtain ⟨a3,b3,h3,t3,rfl⟩ := t2
 obtain ⟨a4,b4,h4,t4,rfl⟩ := t3
 obtain ⟨a5,b5,h5,t5,rfl⟩ := t4
 obtain rfl := t5
 obtain ⟨x0,rfl⟩ := OfTy.of (row := rS) _ h0
 obtain ⟨x1,rfl⟩ := OfTy.of (row := rI) _ h1
 obtain ⟨x2,rfl⟩ := OfTy.of (row := rI) _ h2
 obtain ⟨x3,rfl⟩ := OfTy.of (row := rI) _ h3
 obtain ⟨x4,rfl⟩ := OfTy.of (row := rI) _ h4
 obtain ⟨x5,rfl⟩ := OfTy.of (row := rB) _ h5
 exact ⟨⟨x0,x1,x2,x3,x4,x5⟩,rfl⟩⟩
structure XRegime where
 Gap : Int
 NoMeet : Bool
 deriving DecidableEq
def XRegime.row (x : XRegime) : List D := [.int .i64 x.Gap,.bool x.NoMeet]
theorem XRegime.row_eq (x : XRegime) : XRegime.row x = [.int .i64 x.Gap,.bool x.NoMeet] := rfl
instance : Row XRegime.row 2 := ⟨fun _ => rfl,Nat.le_of_ble_eq_true rfl⟩
instance : FlatRow XRegime.row := ⟨fun x d hd => by simp only [XRegime.row_eq,List.mem_cons,List.not_mem_nil,or_false] at hd; rcases hd with rfl | rfl <;> rfl⟩
instance : OfTy (.st [(.int .i64),.bool]) XRegime.row := ⟨fun ds h => by
 obtain ⟨a0,b0,h0,t0,rfl⟩ := h
 obtain ⟨a1,b1,h1,t1,rfl⟩ := t0
 obtain rfl := t1
 obtain ⟨x0,rfl⟩ := OfTy.of (row := rI) _ h0
 obtain ⟨x1,rfl⟩ := OfTy.of (row := rB) _ h1
 exact ⟨⟨x0,x1⟩,rfl⟩⟩
structure XCrew where
 Tugs : Int
 Pilots : Int
 Rest : Int
 Moves : List Int
 deriving DecidableEq
def XCrew.row (x : XCrew) : List D := [.int .i64 x.Tugs,.int .i64 x.Pilots,.int .i64 x.Rest,.sl (List.map rI x.Moves)]
theorem XCrew.row_eq (x : XCrew) : XCrew.row x = [.int .i64 x.Tugs,.int .i64 x.Pilots,.int .i64 x.Rest,.sl (List.map rI x.Moves)] := rfl
instance : Row XCrew.row 4 := ⟨fun _ => rfl,Nat.le_of_ble_eq_true rfl⟩
instance : OfTy (.st [(.int .i64),(.int .i64),(.int .i64),(.sl (.int .i64))]) XCrew.row := ⟨fun ds h => by
 obtain ⟨a0,b0,h0,t0,rfl⟩ := h
 obtain ⟨a1,b1,h1,t1,rfl⟩ := t0
 obtain ⟨a2,b2,h2,t2,rfl⟩ := t1
 obtain ⟨a3,b3,h3,t3,rfl⟩ := t2
 obtain rfl := t3
 obtain ⟨x0,rfl⟩ := OfTy.of (row := rI) _ h0
 obtain ⟨x1,rfl⟩ := OfTy.of (row := rI) _ h1
 obtain ⟨x2,rfl⟩ := OfTy.of (row := rI) _ h2
 obtain ⟨x3,rfl⟩ := OfTy.of (row := (rL rI)) _ h3
 exact ⟨⟨x0,x1,x2,x3⟩,rfl⟩⟩
structure XHarbour where
 Forecast : XForecast
 Chart : XChart
 Fleet : List XShip
 Regime : XRegime
 Crew : XCrew
 deriving DecidableEq
def XHarbour.row (x : XHarbour) : List D := [.int .i64 x.Forecast.Tide.Mean,.sl (List.map XPart.row x.Forecast.Tide.Parts),.sl (List.map XSurge.row x.Forecast.Surges),.sl (List.map XPoint.row x.Chart.Points),.sl (List.map XSegment.row x.Chart.Segments),.sl (List.map XShip.row x.Fleet),.int .i64 x.Regime.Gap,.bool x.Regime.NoMeet,.int .i64 x.Crew.Tugs,.int .i64 x.Crew.Pilots,.int .i64 x.Crew.Rest,.sl (List.map rI x.Crew.Moves)]
theorem XHarbour.row_eq (x : XHarbour) : XHarbour.row x = [.int .i64 x.Forecast.Tide.Mean,.sl (List.map XPart.row x.Forecast.Tide.Parts),.sl (List.map XSurge.row x.Forecast.Surges),.sl (List.map XPoint.row x.Chart.Points),.sl (List.map XSegment.row x.Chart.Segments),.sl (List.map XShip.row x.Fleet),.int .i64 x.Regime.Gap,.bool x.Regime.NoMeet,.int .i64 x.Crew.Tugs,.int .i64 x.Crew.Pilots,.int .i64 x.Crew.Rest,.sl (List.map rI x.Crew.Moves)] := rfl
instance : Row XHarbour.row 12 := ⟨fun _ => rfl,Nat.le_of_ble_eq_true rfl⟩
instance : OfTy (.st [(.st [(.st [(.int .i64),(.sl (.st [(.int .i64),(.int .i64),(.int .i64)]))]),(.sl (.st [(.int .i64),(.int .i64),(.int .i64)]))]),(.st [(.sl (.st [.str,.bool])),(.sl (.st [(.int .i64),(.int .i64),(.int .i64),(.int .i64),.bool]))]),(.sl (.st [.str,(.int .i64),(.int .i64),(.int .i64),(.int .i64),.bool])),(.st [(.int .i64),.bool]),(.st [(.int .i64),(.int .i64),(.int .i64),(.sl (.int .i64))])]) XHarbour.row := ⟨fun ds h => by
 obtain ⟨a0,b0,h0,t0,rfl⟩ := h
 obtain ⟨a1,b1,h1,t1,rfl⟩ := t0
 obtain ⟨a2,b2,h2,t2,rfl⟩ := t1
 obtain ⟨a3,b3,h3,t3,rfl⟩ := t2
 obtain ⟨a4,b4,h4,t4,rfl⟩ := t3
 obtain rfl := t4
 obtain ⟨x0,rfl⟩ := OfTy.of (row := XForecast.row) _ h0
 obtain ⟨x1,rfl⟩ := OfTy.of (row := XChart.row) _ h1
 obtain ⟨x2,rfl⟩ := OfTy.of (row := (rL XShip.row)) _ h2
 obtain ⟨x3,rfl⟩ := OfTy.of (row := XRegime.row) _ h3
 obtain ⟨x4,rfl⟩ := OfTy.of (row := XCrew.row) _ h4
 exact ⟨⟨x0,x1,x2,x3,x4⟩,rfl⟩⟩
structure XCall where
 Ship : Int
 From : Int
 To : Int
 Ready : Int
 Due : Int
 deriving DecidableEq
def XCall.row (x : XCall) : List D := [.int .i64 x.Ship,.int .i64 x.From,.int .i64 x.To,.int .i64 x.Ready,.int .i64 x.Due]
theorem XCall.row_eq (x : XCall) : XCall.row x = [.int .i64 x.Ship,.int .i64 x.From,.int .i64 x.To,.int .i64 x.Ready,.int .i64 x.Due] := rfl
instance : Row XCall.row 5 := ⟨fun _ => rfl,Nat.le_of_ble_eq_true rfl⟩
instance : FlatRow XCall.row := ⟨fun x d hd => by simp only [XCall.row_eq,List.mem_cons,List.not_mem_nil,or_false] at hd; rcases hd with rfl | rfl | rfl | rfl | rfl <;> rfl⟩
instance : OfTy (.st [(.int .i64),(.int .i64),(.int .i64),(.int .i64),(.int .i64)]) XCall.row := ⟨fun ds h => by
 obtain ⟨a0,b0,h0,t0,rfl⟩ := h
 obtain ⟨a1,b1,h1,t1,rfl⟩ := t0
 obtain ⟨a2,b2,h2,t2,rfl⟩ := t1
 obtain ⟨a3,b3,h3,t3,rfl⟩ := t2
 obtain ⟨a4,b4,h4,t4,rfl⟩ := t3
 obtain rfl := t4
 obtain ⟨x0,rfl⟩ := OfTy.of (row := rI) _ h0
 obtain ⟨x1,rfl⟩ := OfTy.of (row := rI) _ h1
 obtain ⟨x2,rfl⟩ := OfTy.of (row := rI) _ h2
 obtain ⟨x3,rfl⟩ := OfTy.of (row := rI) _ h3
 obtain ⟨x4,rfl⟩ := OfTy.of (row := rI) _ h4
 exact ⟨⟨x0,x1,x2,x3,x4⟩,rfl⟩⟩
structure Xl01Cur where
 b : List Int
 i : Int
 h : Int
 deriving DecidableEq
def Xl01Cur.row (x : Xl01Cur) : List D := [.sl (List.map r8 x.b),.int .i64 x.i,.int .i64 x.h]
theorem Xl01Cur.row_eq (x : Xl01Cur) : Xl01Cur.row x = [.sl (List.map r8 x.b),.int .i64 x.i,.int .i64 x.h] := rfl
instance : Row Xl01Cur.row 3 := ⟨fun _ => rfl,Nat.le_of_ble_eq_true rfl⟩
instance : OfTy (.st [(.sl (.int .u8)),(.int .i64),(.int .i64)]) Xl01Cur.row := ⟨fun ds h => by
 obtain ⟨a0,b0,h0,t0,rfl⟩ := h
 obtain ⟨a1,b1,h1,t1,rfl⟩ := t0
 obtain ⟨a2,b2,h2,t2,rfl⟩ := t1
 obtain rfl := t2
 obtain ⟨x0,rfl⟩ := OfTy.of (row := (rL r8)) _ h0
 obtain ⟨x1,rfl⟩ := OfTy.of (row := rI) _ h1
 obtain ⟨x2,rfl⟩ := OfTy.of (row := rI) _ h2
 exact ⟨⟨x0,x1,x2⟩,rfl⟩⟩
structure XPassage where
 Ship : Int
 Segment : Int
 Toward : Bool
 Start : Int
 End : Int
 deriving DecidableEq
def XPassage.row (x : XPassage) : List D := [.int .i64 x.Ship,.int .i64 x.Segment,.bool x.Toward,.int .i64 x.Start,.int .i64 x.End]
theorem XPassage.row_eq (x : XPassage) : XPassage.row x = [.int .i64 x.Ship,.int .i64 x.Segment,.bool x.Toward,.int .i64 x.Start,.int .i64 x.End] := rfl
instance : Row XPassage.row 5 := ⟨fun _ => rfl,Nat.le_of_ble_eq_true rfl⟩
instance : FlatRow XPassage.row := ⟨fun x d hd => by simp only [XPassage.row_eq,List.mem_cons,List.not_mem_nil,or_false] at hd; rcases hd with rfl | rfl | rfl | rfl | rfl <;> rfl⟩
instance : OfTy (.st [(.int .i64),(.int .i64),.bool,(.int .i64),(.int .i64)]) XPassage.row := ⟨fun ds h => by
 obtain ⟨a0,b0,h0,t0,rfl⟩ := h
 obtain ⟨a1,b1,h1,t1,rfl⟩ := t0
 obtain ⟨a2,b2,h2,t2,rfl⟩ := t1
 obtain ⟨a3,b3,h3,t3,rfl⟩ := t2
 obtain ⟨a4,b4,h4,t4,rfl⟩ := t3
 obtain rfl := t4
 obtain ⟨x0,rfl⟩ := OfTy.of (row := rI) _ h0
 obtain ⟨x1,rfl⟩ := OfTy.of (row := rI) _ h1
 obtain ⟨x2,rfl⟩ := OfTy.of (row := rB) _ h2
 obtain ⟨x3,rfl⟩ := OfTy.of (row := rI) _ h3
 obtain ⟨x4,rfl⟩ := OfTy.of (row := rI) _ h4
 exact ⟨⟨x0,x1,x2,x3,x4⟩,rfl⟩⟩
structure XOption where
 Start : Int
 Arrival : Int
 Cost : Int
 Passages : List XPassage
 deriving DecidableEq
def XOption.row (x : XOption) : List D := [.int .i64 x.Start,.int .i64 x.Arrival,.int .i64 x.Cost,.sl (List.map XPassage.row x.Passages)]
theorem XOption.row_eq (x : XOption) : XOption.row x = [.int .i64 x.Start,.int .i64 x.Arrival,.int .i64 x.Cost,.sl (List.map XPassage.row x.Passages)] := rfl
instance : Row XOption.row 4 := ⟨fun _ => rfl,Nat.le_of_ble_eq_true rfl⟩
instance : OfTy (.st [(.int .i64),(.int .i64),(.int .i64),(.sl (.st [(.int .i64),(.int .i64),.bool,(.int .i64),(.int .i64)]))]) XOption.row := ⟨fun ds h => by
 obtain ⟨a0,b0,h0,t0,rfl⟩ := h
 obtain ⟨a1,b1,h1,t1,rfl⟩ := t0
 obtain ⟨a2,b2,h2,t2,rfl⟩ := t1
 obtain ⟨a3,b3,h3,t3,rfl⟩ := t2
 obtain rfl := t3
 obtain ⟨x0,rfl⟩ := OfTy.of (row := rI) _ h0
 obtain ⟨x1,rfl⟩ := OfTy.of (row := rI) _ h1
 obtain ⟨x2,rfl⟩ := OfTy.of (row := rI) _ h2
 obtain ⟨x3,rfl⟩ := OfTy.of (row := (rL XPassage.row)) _ h3
 exact ⟨⟨x0,x1,x2,x3⟩,rfl⟩⟩
structure X_8_bool where
 i0 : Bool
 i1 : Bool
 i2 : Bool
 i3 : Bool
 i4 : Bool
 i5 : Bool
 i6 : Bool
 i7 : Bool
 deriving DecidableEq
def X_8_bool.row (x : X_8_bool) : List D := [.bool x.i0,.bool x.i1,.bool x.i2,.bool x.i3,.bool x.i4,.bool x.i5,.bool x.i6,.bool x.i7]
theorem X_8_bool.row_eq (x : X_8_bool) : X_8_bool.row x = [.bool x.i0,.bool x.i1,.bool x.i2,.bool x.i3,.bool x.i4,.bool x.i5,.bool x.i6,.bool x.i7] := rfl
instance : Row X_8_bool.row 8 := ⟨fun _ => rfl,Nat.le_of_ble_eq_true rfl⟩
def X_8_bool.set (x : X_8_bool) (n : Nat) (v : Bool) : X_8_bool := ⟨bif n == 0 then v else x.i0,bif n == 1 then v else x.i1,bif n == 2 then v else x.i2,bif n == 3 then v else x.i3,bif n == 4 then v else x.i4,bif n == 5 then v else x.i5,bif n == 6 then v else x.i6,bif n == 7 then v else x.i7⟩
theorem X_8_bool.set_eq (x : X_8_bool) {n : Nat} {v : Bool} (h : n < 8) : W2 (List.map AC.dat (X_8_bool.row x)) n [.dat (.bool v)] = List.map AC.dat (X_8_bool.row (X_8_bool.set x n v)) := by
 match n,h with
 | 0,_ => rfl
 | 1,_ => rfl
 | 2,_ => rfl
 | 3,_ => rfl
 | 4,_ => rfl
 | 5,_ => rfl
 | 6,_ => rfl
 | 7,_ => rfl
instance : FlatRow X_8_bool.row := ⟨fun x d hd => by simp only [X_8_bool.row_eq,List.mem_cons,List.not_mem_nil,or_false] at hd; rcases hd with rfl | rfl | rfl | rfl | rfl | rfl | rfl | rfl <;> rfl⟩
instance : OfTy (.st [.bool,.bool,.bool,.bool,.bool,.bool,.bool,.bool]) X_8_bool.row := ⟨fun ds h => by
 obtain ⟨a0,b0,h0,t0,rfl⟩ := h
 obtain ⟨a1,b1,h1,t1,rfl⟩ := t0
 obtain ⟨a2,b2,h2,t2,rfl⟩ := t1
 obtain ⟨a3,b3,h3,t3,rfl⟩ := t2
 obtain ⟨a4,b4,h4,t4,rfl⟩ := t3
 obtain ⟨a5,b5,h5,t5,rfl⟩ := t4
 obtain ⟨a6,b6,h6,t6,rfl⟩ := t5
 obtain ⟨a7,b7,h7,t7,rfl⟩ := t6
 obtain rfl := t7
 obtain ⟨x0,rfl⟩ := OfTy.of (row := rB) _ h0
 obtain ⟨x1,rfl⟩ := OfTy.of (row := rB) _ h1
 obtain ⟨x2,rfl⟩ := OfTy.of (row := rB) _ h2
 obtain ⟨x3,rfl⟩ := OfTy.of (row := rB) _ h3
 obtain ⟨x4,rfl⟩ := OfTy.of (row := rB) _ h4
 obtain ⟨x5,rfl⟩ := OfTy.of (row := rB) _ h5
 obtain ⟨x6,rfl⟩ := OfTy.of (row := rB) _ h6
 obtain ⟨x7,rfl⟩ := OfTy.of (row := rB) _ h7
 exact ⟨⟨x0,x1,x2,x3,x4,x5,x6,x7⟩,rfl⟩⟩
structure XWindow where
 From : Int
 To : Int
 deriving DecidableEq
def XWindow.row (x : XWindow) : List D := [.int .i64 x.From,.int .i64 x.To]
theorem XWindow.row_eq (x : XWindow) : XWindow.row x = [.int .i64 x.From,.int .i64 x.To] := rfl
instance : Row XWindow.row 2 := ⟨fun _ => rfl,Nat.le_of_ble_eq_true rfl⟩
instance : FlatRow XWindow.row := ⟨fun x d hd => by simp only [XWindow.row_eq,List.mem_cons,List.not_mem_nil,or_false] at hd; rcases hd with rfl | rfl <;> rfl⟩
instance : OfTy (.st [(.int .i64),(.int .i64)]) XWindow.row := ⟨fun ds h => by
 obtain ⟨a0,b0,h0,t0,rfl⟩ := h
 obtain ⟨a1,b1,h1,t1,rfl⟩ := t0
 obtain rfl := t1
 obtain ⟨x0,rfl⟩ := OfTy.of (row := rI) _ h0
 obtain ⟨x1,rfl⟩ := OfTy.of (row := rI) _ h1
 exact ⟨⟨x0,x1⟩,rfl⟩⟩
structure Xvoyage where
 waits : List Bool
 minutes : List Int
 sure : List (List XWindow)
 deriving DecidableEq
def Xvoyage.row (x : Xvoyage) : List D := [.sl (List.map rB x.waits),.sl (List.map rI x.minutes),.sl (List.map (rL XWindow.row) x.sure)]
theorem Xvoyage.row_eq (x : Xvoyage) : Xvoyage.row x = [.sl (List.map rB x.waits),.sl (List.map rI x.minutes),.sl (List.map (rL XWindow.row) x.sure)] := rfl
instance : Row Xvoyage.row 3 := ⟨fun _ => rfl,Nat.le_of_ble_eq_true rfl⟩
instance : OfTy (.st [(.sl .bool),(.sl (.int .i64)),(.sl (.sl (.st [(.int .i64),(.int .i64)])))]) Xvoyage.row := ⟨fun ds h => by
 obtain ⟨a0,b0,h0,t0,rfl⟩ := h
 obtain ⟨a1,b1,h1,t1,rfl⟩ := t0
 obtain ⟨a2,b2,h2,t2,rfl⟩ := t1
 obtain rfl := t2
 obtain ⟨x0,rfl⟩ := OfTy.of (row := (rL rB)) _ h0
 obtain ⟨x1,rfl⟩ := OfTy.of (row := (rL rI)) _ h1
 obtain ⟨x2,rfl⟩ := OfTy.of (row := (rL (rL XWindow.row))) _ h2
 exact ⟨⟨x0,x1,x2⟩,rfl⟩⟩
structure Xgrounded where
 option : Int
 minute : Int
 deriving DecidableEq
def Xgrounded.row (x : Xgrounded) : List D := [.int .i64 x.option,.int .i64 x.minute]
theorem Xgrounded.row_eq (x : Xgrounded) : Xgrounded.row x = [.int .i64 x.option,.int .i64 x.minute] := rfl
instance : Row Xgrounded.row 2 := ⟨fun _ => rfl,Nat.le_of_ble_eq_true rfl⟩
instance : FlatRow Xgrounded.row := ⟨fun x d hd => by simp only [Xgrounded.row_eq,List.mem_cons,List.not_mem_nil,or_false] at hd; rcases hd with rfl | rfl <;> rfl⟩
instance : OfTy (.st [(.int .i64),(.int .i64)]) Xgrounded.row := ⟨fun ds h => by
 obtain ⟨a0,b0,h0,t0,rfl⟩ := h
 obtain ⟨a1,b1,h1,t1,rfl⟩ := t0
 obtain rfl := t1
 obtain ⟨x0,rfl⟩ := OfTy.of (row := rI) _ h0
 obtain ⟨x1,rfl⟩ := OfTy.of (row := rI) _ h1
 exact ⟨⟨x0,x1⟩,rfl⟩⟩
def A79 (x : Xgrounded) : D := .ifs 89 x.row
theorem C0j {x : Option Xgrounded} (h : x.isSome = false) : x = none := by cases x with | none => rfl | some _ => cases h
def D8v := And.intro @C81 (And.intro @B4q (And.intro @B4m (And.intro @B4i (And.intro @B4h (And.intro @XPart.row_eq (And.intro @XTide.row_eq (And.intro @XSurge.row_eq (And.intro @XForecast.row_eq (And.intro @XPoint.row_eq (And.intro @XSegment.row_eq (And.intro @XChart.row_eq (And.intro @XShip.row_eq (And.intro @XRegime.row_eq (And.intro @XCrew.row_eq (And.intro @XHarbour.row_eq (And.intro @XCall.row_eq (And.intro @Xl01Cur.row_eq (And.intro @XPassage.row_eq (And.intro @XOption.row_eq (And.intro @X_8_bool.row_eq (And.intro @XWindow.row_eq (And.intro @Xvoyage.row_eq (@Xgrounded.row_eq)))))))))))))))))))))))
def RR := And.intro D5y (And.intro D3k (And.intro D3u (And.intro D5i D8v)))
/- spec_l01New -/
def U2 (a0 : List Int) (v1 : Int) : Option Xl01Cur :=
some (⟨a0,(0 : Int),v1⟩ : Xl01Cur)
def P3 (a0 : List Int) : Nat → Int → Int → Option Xl01Cur
| 0,_,_ => none
| n + 1,v1,v2 =>
 if (decide (v2 < (a0.length : Int))) then (
 if (decide (v2 < (4000 : Int))) then (
  (ix a0 v2).bind fun x5 =>
  P3 a0 n (A0k .and .i64 (IntKind.i64.wrap ((IntKind.i64.wrap ((IntKind.i64.wrap (v1 * (79 : Int))) + (IntKind.i64.wrap x5))) + (7 : Int))) (1073741823 : Int)) (IntKind.i64.wrap (v2 + (1 : Int))))
 else (
  U2 a0 v1))
 else (
 U2 a0 v1)
def A09 (a0 : List Int) : Option Xl01Cur :=
P3 a0 bigN (IntKind.i64.wrap ((1976 : Int) + (a0.length : Int))) (0 : Int)
/- spec_l01Byte -/
def M7 (a0 : Xl01Cur) : Option (Int × Xl01Cur) :=
if (decide (a0.i < (a0.b.length : Int))) then (
 (ix a0.b a0.i).bind fun x2 =>
 some ((A0k .and .i64 (IntKind.i64.wrap ((A0k .and .i64 (A0k .xor .i64 (A4f .i64 (IntKind.i64.wrap ((IntKind.i64.wrap (a0.h * (6364136223846793005 : Int))) + (1442695040888963407 : Int))) 33) (A4f .i64 (IntKind.i64.wrap ((IntKind.i64.wrap (a0.h * (6364136223846793005 : Int))) + (1442695040888963407 : Int))) 45)) (255 : Int)) + (IntKind.i64.wrap x2))) (255 : Int)),(⟨a0.b,(IntKind.i64.wrap (a0.i + (1 : Int))),(IntKind.i64.wrap ((IntKind.i64.wrap (a0.h * (6364136223846793005 : Int))) + (1442695040888963407 : Int)))⟩ : Xl01Cur)))
else (
 some ((A0k .and .i64 (A0k .xor .i64 (A4f .i64 (IntKind.i64.wrap ((IntKind.i64.wrap (a0.h * (6364136223846793005 : Int))) + (1442695040888963407 : Int))) 33) (A4f .i64 (IntKind.i64.wrap ((IntKind.i64.wrap (a0.h * (6364136223846793005 : Int))) + (1442695040888963407 : Int))) 45)) (255 : Int)),(⟨a0.b,a0.i,(IntKind.i64.wrap ((IntKind.i64.wrap (a0.h * (6364136223846793005 : Int))) + (1442695040888963407 : Int)))⟩ : Xl01Cur)))
/- spec_l01Below -/
def A5 (a0 : Xl01Cur) (a1 : Int) : Option (Int × Xl01Cur) :=
if (decide (a1 ≤ (0 : Int))) then (
 some ((0 : Int),a0))
else (
 if (decide (a1 ≤ (256 : Int))) then (
 (M7 a0).bind fun r3 =>
 if a1 == 0 then none else
 some ((IntKind.i64.wrap (Int.tmod r3.1 a1)),r3.2))
 else (
 (M7 a0).bind fun r5 =>
 (M7 r5.2).bind fun r6 =>
 (M7 r6.2).bind fun r7 =>
 (M7 r7.2).bind fun r9 =>
 if a1 == 0 then none else
 some ((IntKind.i64.wrap (Int.tmod (IntKind.i64.wrap ((IntKind.i64.wrap ((IntKind.i64.wrap ((IntKind.i64.wrap (r5.1 * (16777216 : Int))) + (IntKind.i64.wrap (r6.1 * (65536 : Int))))) + (IntKind.i64.wrap (r7.1 * (256 : Int))))) + r9.1)) a1)),r9.2)))
/- spec_l01Pick -/
def A0t (a0 : Xl01Cur) (a1 : List Int) : Option (Int × Xl01Cur) :=
(A5 a0 (a1.length : Int)).bind fun r1 =>
(ix a1 r1.1).bind fun x2 =>
some (x2,r1.2)
/- spec_l02Part -/
def I3 (a0 : Xl01Cur) : Option (XPart × Xl01Cur) :=
(A5 a0 (300 : Int)).bind fun r1 =>
(A0t r1.2 ([(744 : Int),(720 : Int),(1440 : Int),(372 : Int),(240 : Int)] : List Int)).bind fun r2 =>
(A5 r2.2 r2.1).bind fun r3 =>
some ((⟨r1.1,r2.1,r3.1⟩ : XPart),r3.2)
/- spec_l02Draw -/
def N7 (r1 : Int × Xl01Cur) : Nat → Int → (List Int) → Int → Int → (List XPart) → Option (XTide × Xl01Cur)
| 0,_,_,_,_,_ => none
| n + 1,v3,v4,v5,v6,v7 =>
 if (decide ((0 : Int) < v3)) then (
 (I3 (⟨v4,v5,v6⟩ : Xl01Cur)).bind fun r9 =>
 if E1 v7.length ([r9.1] : List XPart).length 24 then (
  N7 r1 n (IntKind.i64.wrap (v3 - (1 : Int))) r9.2.b r9.2.i r9.2.h (v7 ++ ([r9.1] : List XPart)))
 else none)
 else (
 some ((⟨r1.1,v7⟩ : XTide),(⟨v4,v5,v6⟩ : Xl01Cur)))
def A0v (a0 : Xl01Cur) : Option (XTide × Xl01Cur) :=
(A5 a0 (300 : Int)).bind fun r1 =>
(A5 r1.2 (2 : Int)).bind fun r2 =>
N7 r1 bigN (IntKind.i64.wrap ((1 : Int) + r2.1)) r2.2.b r2.2.i r2.2.h ([] : List XPart)
/- spec_l03Draw -/
def J3 (r1 : XTide × Xl01Cur) : Nat → Int → Int → (List Int) → Int → Int → (List XSurge) → Option (XForecast × Xl01Cur)
| 0,_,_,_,_,_,_ => none
| n + 1,v3,v4,v5,v6,v7,v8 =>
 if (decide ((0 : Int) < v4)) then (
 (A5 (⟨v5,v6,v7⟩ : Xl01Cur) (60 : Int)).bind fun r10 =>
 (A5 r10.2 (60 : Int)).bind fun r11 =>
 if E1 v8.length ([(⟨v3,(IntKind.i64.wrap (r10.1 - (40 : Int))),(IntKind.i64.wrap ((IntKind.i64.wrap (r10.1 - (40 : Int))) + r11.1))⟩ : XSurge)] : List XSurge).length 24 then (
  (A5 r11.2 (700 : Int)).bind fun r13 =>
  J3 r1 n (IntKind.i64.wrap ((IntKind.i64.wrap (v3 + (100 : Int))) + r13.1)) (IntKind.i64.wrap (v4 - (1 : Int))) r13.2.b r13.2.i r13.2.h (v8 ++ ([(⟨v3,(IntKind.i64.wrap (r10.1 - (40 : Int))),(IntKind.i64.wrap ((IntKind.i64.wrap (r10.1 - (40 : Int))) + r11.1))⟩ : XSurge)] : List XSurge)))
 else none)
 else (
 some ((⟨r1.1,v8⟩ : XForecast),(⟨v5,v6,v7⟩ : Xl01Cur)))
def X1 (a0 : Xl01Cur) : Option (XForecast × Xl01Cur) :=
(A0v a0).bind fun r1 =>
(A5 r1.2 (3 : Int)).bind fun r2 =>
J3 r1 bigN (0 : Int) (IntKind.i64.wrap ((1 : Int) + r2.1)) r2.2.b r2.2.i r2.2.h ([] : List XSurge)
/- spec_l01Once -/
def G2 (a0 : Xl01Cur) (a1 : Int) : Option (Bool × Xl01Cur) :=
(A5 a0 a1).bind fun r1 =>
some ((r1.1 == (0 : Int)),r1.2)
/- spec_l05Draw -/
def S7 (v15 : List Int) (v16 : Int) (v17 : Int) (v18 : List XPoint) (v19 : List XSegment) : Option (XChart × Xl01Cur) :=
(G2 (⟨v15,v16,v17⟩ : Xl01Cur) (3 : Int)).bind fun r20 =>
if r20.1 then (
 if E1 v18.length ([(⟨([100,111,99,107] : List UInt8),true⟩ : XPoint)] : List XPoint).length 24 then (
 (A5 r20.2 (300 : Int)).bind fun r23 =>
 if E1 v19.length ([(⟨(2 : Int),(4 : Int),(IntKind.i64.wrap ((800 : Int) + r23.1)),(15 : Int),false⟩ : XSegment)] : List XSegment).length 40 then (
  some ((⟨(v18 ++ ([(⟨([100,111,99,107] : List UInt8),true⟩ : XPoint)] : List XPoint)),(v19 ++ ([(⟨(2 : Int),(4 : Int),(IntKind.i64.wrap ((800 : Int) + r23.1)),(15 : Int),false⟩ : XSegment)] : List XSegment))⟩ : XChart),r23.2))
 else none)
 else none)
else (
 some ((⟨v18,v19⟩ : XChart),r20.2))
def A0y (a0 : Xl01Cur) : Option (XChart × Xl01Cur) :=
(G2 a0 (2 : Int)).bind fun r1 =>
(A5 r1.2 (300 : Int)).bind fun r2 =>
(A5 r2.2 (40 : Int)).bind fun r3 =>
(A5 r3.2 (300 : Int)).bind fun r4 =>
(A5 r4.2 (30 : Int)).bind fun r5 =>
(G2 r5.2 (2 : Int)).bind fun r6 =>
(A5 r6.2 (200 : Int)).bind fun r7 =>
(A5 r7.2 (20 : Int)).bind fun r9 =>
(G2 r9.2 (3 : Int)).bind fun r10 =>
if r10.1 then (
 (A5 r10.2 (300 : Int)).bind fun r12 =>
 (A5 r12.2 (30 : Int)).bind fun r13 =>
 if E1 ([(⟨(0 : Int),(1 : Int),(IntKind.i64.wrap ((900 : Int) + r2.1)),(IntKind.i64.wrap ((10 : Int) + r3.1)),false⟩ : XSegment),(⟨(1 : Int),(2 : Int),(IntKind.i64.wrap ((800 : Int) + r4.1)),(IntKind.i64.wrap ((10 : Int) + r5.1)),r6.1⟩ : XSegment),(⟨(2 : Int),(3 : Int),(IntKind.i64.wrap ((900 : Int) + r7.1)),(IntKind.i64.wrap ((5 : Int) + r9.1)),false⟩ : XSegment)] : List XSegment).length ([(⟨(3 : Int),(1 : Int),(IntKind.i64.wrap ((700 : Int) + r12.1)),(IntKind.i64.wrap ((20 : Int) + r13.1)),true⟩ : XSegment)] : List XSegment).length 40 then (
 S7 r13.2.b r13.2.i r13.2.h ([(⟨([115,101,97] : List UInt8),true⟩ : XPoint),(⟨([98,97,114] : List UInt8),false⟩ : XPoint),(⟨([114,111,97,100] : List UInt8),r1.1⟩ : XPoint),(⟨([113,117,97,121] : List UInt8),true⟩ : XPoint)] : List XPoint) (([(⟨(0 : Int),(1 : Int),(IntKind.i64.wrap ((900 : Int) + r2.1)),(IntKind.i64.wrap ((10 : Int) + r3.1)),false⟩ : XSegment),(⟨(1 : Int),(2 : Int),(IntKind.i64.wrap ((800 : Int) + r4.1)),(IntKind.i64.wrap ((10 : Int) + r5.1)),r6.1⟩ : XSegment),(⟨(2 : Int),(3 : Int),(IntKind.i64.wrap ((900 : Int) + r7.1)),(IntKind.i64.wrap ((5 : Int) + r9.1)),false⟩ : XSegment)] : List XSegment) ++ ([(⟨(3 : Int),(1 : Int),(IntKind.i64.wrap ((700 : Int) + r12.1)),(IntKind.i64.wrap ((20 : Int) + r13.1)),true⟩ : XSegment)] : List XSegment)))
 else none)
else (
 S7 r10.2.b r10.2.i r10.2.h ([(⟨([115,101,97] : List UInt8),true⟩ : XPoint),(⟨([98,97,114] : List UInt8),false⟩ : XPoint),(⟨([114,111,97,100] : List UInt8),r1.1⟩ : XPoint),(⟨([113,117,97,121] : List UInt8),true⟩ : XPoint)] : List XPoint) ([(⟨(0 : Int),(1 : Int),(IntKind.i64.wrap ((900 : Int) + r2.1)),(IntKind.i64.wrap ((10 : Int) + r3.1)),false⟩ : XSegment),(⟨(1 : Int),(2 : Int),(IntKind.i64.wrap ((800 : Int) + r4.1)),(IntKind.i64.wrap ((10 : Int) + r5.1)),r6.1⟩ : XSegment),(⟨(2 : Int),(3 : Int),(IntKind.i64.wrap ((900 : Int) + r7.1)),(IntKind.i64.wrap ((5 : Int) + r9.1)),false⟩ : XSegment)] : List XSegment))
/- spec_FormatInt -/
def A0c (rec_ : Int → Option (List UInt8)) : Nat → Int → (List UInt8) → Option (List UInt8)
| 0,_,_ => none
| n + 1,v6,v7 =>
 if (decide ((9 : Int) < v6)) then (
 if A9y ([(IntKind.u8.wrap (IntKind.i64.wrap ((48 : Int) + (IntKind.i64.wrap (Int.tmod v6 (10 : Int))))))] : List Int).length v7.length then (
  A0c rec_ n (IntKind.i64.wrap (Int.tdiv v6 (10 : Int))) ((List.map B7c ([(IntKind.u8.wrap (IntKind.i64.wrap ((48 : Int) + (IntKind.i64.wrap (Int.tmod v6 (10 : Int))))))] : List Int)) ++ v7))
 else none)
 else (
 if A9y ([(IntKind.u8.wrap (IntKind.i64.wrap ((48 : Int) + v6)))] : List Int).length v7.length then (
  some ((List.map B7c ([(IntKind.u8.wrap (IntKind.i64.wrap ((48 : Int) + v6)))] : List Int)) ++ v7))
 else none)
def A1s (rec_ : Int → Option (List UInt8)) (a0 : Int) : Option (List UInt8) :=
if (decide (a0 < (0 : Int))) then (
 if ((IntKind.i64.wrap (Int.tdiv a0 (10 : Int))) == (0 : Int)) then (
 if A9y ([45] : List UInt8).length ([(IntKind.u8.wrap (IntKind.i64.wrap ((48 : Int) - a0)))] : List Int).length then (
  some (([45] : List UInt8) ++ (List.map B7c ([(IntKind.u8.wrap (IntKind.i64.wrap ((48 : Int) - a0)))] : List Int))))
 else none)
 else (
 (rec_ (IntKind.i64.wrap (Int.tdiv a0 (10 : Int)))).bind fun r4 =>
 if A9y r4.length ([(IntKind.u8.wrap (IntKind.i64.wrap ((48 : Int) - (IntKind.i64.wrap (Int.tmod a0 (10 : Int))))))] : List Int).length then (
  some (r4 ++ (List.map B7c ([(IntKind.u8.wrap (IntKind.i64.wrap ((48 : Int) - (IntKind.i64.wrap (Int.tmod a0 (10 : Int))))))] : List Int))))
 else none))
else (
 A0c rec_ bigN a0 ([] : List UInt8))
def T7 : Nat → Int → Option (List UInt8)
| 0,_ => none
| n + 1,a0 => A1s (T7 n) a0
def A2t (a0 : Int) : Option (List UInt8) := T7 bigN a0
/- spec_l06Ship -/
def W8 (a0 : Xl01Cur) (a1 : Int) : Option (XShip × Xl01Cur) :=
(A2t a1).bind fun r1 =>
if A9y ([115] : List UInt8).length r1.length then (
 (A5 a0 (200 : Int)).bind fun r3 =>
 (A5 r3.2 (500 : Int)).bind fun r4 =>
 (A5 r4.2 (4 : Int)).bind fun r5 =>
 (A5 r5.2 (3 : Int)).bind fun r6 =>
 (G2 r6.2 (4 : Int)).bind fun r7 =>
 some ((⟨(([115] : List UInt8) ++ r1),(IntKind.i64.wrap ((40 : Int) + r3.1)),(IntKind.i64.wrap ((600 : Int) + r4.1)),r5.1,r6.1,r7.1⟩ : XShip),r7.2))
else none
/- spec_l06Fleet -/
def N0 : Nat → Int → (List Int) → Int → Int → (List XShip) → Option ((List XShip) × Xl01Cur)
| 0,_,_,_,_,_ => none
| n + 1,v2,v3,v4,v5,v6 =>
 if (decide ((0 : Int) < v2)) then (
 (W8 (⟨v3,v4,v5⟩ : Xl01Cur) (v6.length : Int)).bind fun r9 =>
 if E1 v6.length ([r9.1] : List XShip).length 56 then (
  N0 n (IntKind.i64.wrap (v2 - (1 : Int))) r9.2.b r9.2.i r9.2.h (v6 ++ ([r9.1] : List XShip)))
 else none)
 else (
 some (v6,(⟨v3,v4,v5⟩ : Xl01Cur)))
def Z3 (a0 : Xl01Cur) (a1 : Int) : Option ((List XShip) × Xl01Cur) :=
(A5 a0 a1).bind fun r1 =>
N0 bigN (IntKind.i64.wrap ((1 : Int) + r1.1)) r1.2.b r1.2.i r1.2.h ([] : List XShip)
/- spec_l09Regime -/
def X4 (a0 : Xl01Cur) : Option (XRegime × Xl01Cur) :=
(A5 a0 (30 : Int)).bind fun r1 =>
(G2 r1.2 (4 : Int)).bind fun r2 =>
some ((⟨r1.1,r2.1⟩ : XRegime),r2.2)
/- spec_StayingMoves -/
def Y5 : Option (List Int) :=
(mkS (64 : Int) (64 : Int) 8).bind fun n1 =>
some (List.replicate n1 (0 : Int))
/- spec_l13Moves -/
def K0 (r1 : (List Int)) : Nat → Int → (List Int) → Int → Int → (List Int) → Option ((List Int) × Xl01Cur)
| 0,_,_,_,_,_ => none
| n + 1,v2,v3,v4,v5,v6 =>
 if (decide (v2 < (r1.length : Int))) then (
 if ((IntKind.i64.wrap (Int.tmod v2 (9 : Int))) != (0 : Int)) then (
  (A5 (⟨v3,v4,v5⟩ : Xl01Cur) (5 : Int)).bind fun r9 =>
  (ix v6 v2).bind fun x10 =>
  K0 r1 n (IntKind.i64.wrap (v2 + (1 : Int))) r9.2.b r9.2.i r9.2.h (v6.set (Int.toNat v2) (IntKind.i64.wrap ((5 : Int) * r9.1))))
 else (
  K0 r1 n (IntKind.i64.wrap (v2 + (1 : Int))) v3 v4 v5 v6))
 else (
 some (v6,(⟨v3,v4,v5⟩ : Xl01Cur)))
def A0a (a0 : Xl01Cur) : Option ((List Int) × Xl01Cur) :=
(Y5).bind fun r1 =>
K0 r1 bigN (0 : Int) a0.b a0.i a0.h r1
/- spec_l14Crew -/
def A0r (a0 : Xl01Cur) : Option (XCrew × Xl01Cur) :=
(A5 a0 (4 : Int)).bind fun r1 =>
(A5 r1.2 (3 : Int)).bind fun r2 =>
(A5 r2.2 (60 : Int)).bind fun r3 =>
(A0a r3.2).bind fun r4 =>
some ((⟨(IntKind.i64.wrap ((1 : Int) + r1.1)),(IntKind.i64.wrap ((1 : Int) + r2.1)),r3.1,r4.1⟩ : XCrew),r4.2)
/- spec_l15Harbour -/
def K1 (r3 : (List XShip) × Xl01Cur) (r5 : XCrew × Xl01Cur) (r1 : XForecast × Xl01Cur) (r2 : XChart × Xl01Cur) (r4 : XRegime × Xl01Cur) (y7 : Int) : Nat → Int → (List XShip) → Option (XHarbour × Xl01Cur)
| 0,_,_ => none
| n + 1,v6,v8 =>
 if (decide (v6 < (r3.1.length : Int))) then (
 (ix v8 v6).bind fun x10 =>
 K1 r3 r5 r1 r2 r4 y7 n (IntKind.i64.wrap (v6 + (1 : Int))) (v8.set (Int.toNat v6) (⟨x10.Name,x10.Length,x10.Draught,x10.Line,(if (1 : Int) < x10.Tugs then (1 : Int) else x10.Tugs),x10.Slow⟩ : XShip)))
 else (
 some ((⟨(⟨(⟨y7,r1.1.Tide.Parts⟩ : XTide),r1.1.Surges⟩ : XForecast),r2.1,v8,r4.1,r5.1⟩ : XHarbour),r5.2))
def V2 (a0 : Xl01Cur) : Option (XHarbour × Xl01Cur) :=
(X1 a0).bind fun r1 =>
(A0y r1.2).bind fun r2 =>
(Z3 r2.2 (3 : Int)).bind fun r3 =>
(X4 r3.2).bind fun r4 =>
(A0r r4.2).bind fun r5 =>
K1 r3 r5 r1 r2 r4 (IntKind.i64.wrap (r1.1.Tide.Mean + (150 : Int))) bigN (0 : Int) r3.1
/- spec_l15Call -/
def X8 (r2 : Bool × Xl01Cur) (a1 : Int) (v4 : Int) (v5 : Int) (v6 : Int) : Option (XCall × Xl01Cur) :=
(A5 r2.2 (400 : Int)).bind fun r7 =>
some ((⟨a1,v4,v5,v6,(IntKind.i64.wrap ((IntKind.i64.wrap (v6 + (60 : Int))) + r7.1))⟩ : XCall),r7.2)
def J9 (a0 : Xl01Cur) (a1 : Int) : Option (XCall × Xl01Cur) :=
(A5 a0 (30 : Int)).bind fun r1 =>
(G2 r1.2 (3 : Int)).bind fun r2 =>
if r2.1 then (
 X8 r2 a1 (3 : Int) (0 : Int) (IntKind.i64.wrap ((15 : Int) * r1.1)))
else (
 X8 r2 a1 (0 : Int) (3 : Int) (IntKind.i64.wrap ((15 : Int) * r1.1)))
/- spec_MakeCall -/
def A0d (a0 : List Int) : Option (XHarbour × XCall) :=
(A09 a0).bind fun r1 =>
(V2 r1).bind fun r2 =>
(A5 r2.2 (r2.1.Fleet.length : Int)).bind fun r3 =>
(J9 r3.2 r3.1).bind fun r4 =>
some (r2.1,r4.1)
/- impl_within -/
def C5 (a0 : Int) (a1 : Int) (a2 : Int) : Option Bool :=
if (decide (a1 ≤ a0)) then (
 some (decide (a0 ≤ a2)))
else (
 some false)
/- impl_isPeriod -/
def U7 (a0 : Int) : Option Bool :=
(C5 a0 (4 : Int) (2880 : Int)).bind fun r1 =>
if r1 then (
 some ((IntKind.i64.wrap (Int.tmod a0 (4 : Int))) == (0 : Int)))
else (
 some false)
/- impl_PartOk -/
def A1d (a0 : XPart) : Option Bool :=
(C5 a0.Amp (0 : Int) (1000 : Int)).bind fun r1 =>
if r1 then (
 (U7 a0.Period).bind fun r3 =>
 if r3 then (
 (C5 a0.Phase (0 : Int) (IntKind.i64.wrap (a0.Period - (1 : Int)))).bind fun r5 =>
 some r5)
 else (
 some false))
else (
 some false)
/- impl_TideOk -/
def P6 (a0 : XTide) : Nat → Int → Option Bool
| 0,_ => none
| n + 1,v4 =>
 if (decide (v4 < (a0.Parts.length : Int))) then (
 (ix a0.Parts v4).bind fun x6 =>
 (A1d x6).bind fun r7 =>
 if r7 then (
  P6 a0 n (IntKind.i64.wrap (v4 + (1 : Int))))
 else (
  some false))
 else (
 some true)
def A07 (a0 : XTide) : Option Bool :=
(C5 a0.Mean (-1000 : Int) (1000 : Int)).bind fun r1 =>
if r1 then (
 if (decide ((4 : Int) < (a0.Parts.length : Int))) then (
 some false)
 else (
 P6 a0 bigN (0 : Int)))
else (
 some false)
/- impl_isMinute -/
def G3 (a0 : Int) : Option Bool :=
(C5 a0 (0 : Int) (2880 : Int)).bind fun r1 =>
some r1
/- impl_SurgeOk -/
def A0x (a0 : XSurge) : Option Bool :=
(G3 a0.From).bind fun r1 =>
if r1 then (
 if (decide ((-500 : Int) ≤ a0.Low)) then (
 if (decide (a0.Low ≤ a0.High)) then (
  some (decide (a0.High ≤ (500 : Int))))
 else (
  some false))
 else (
 some false))
else (
 some false)
/- impl_ForecastOk -/
def H7 (a0 : XForecast) : Nat → Int → Option Bool
| 0,_ => none
| n + 1,v7 =>
 if (decide (v7 < (a0.Surges.length : Int))) then (
 (ix a0.Surges v7).bind fun x9 =>
 (A0x x9).bind fun r10 =>
 if r10 then (
  if (decide ((0 : Int) < v7)) then (
  (ix a0.Surges (IntKind.i64.wrap (v7 - (1 : Int)))).bind fun x13 =>
  if (decide (x9.From ≤ x13.From)) then (
   some false)
  else (
   H7 a0 n (IntKind.i64.wrap (v7 + (1 : Int)))))
  else (
  H7 a0 n (IntKind.i64.wrap (v7 + (1 : Int)))))
 else (
  some false))
 else (
 some true)
def H8 (a0 : XForecast) : Option Bool :=
(A07 a0.Tide).bind fun r1 =>
if r1 then (
 (C5 (a0.Surges.length : Int) (1 : Int) (6 : Int)).bind fun r3 =>
 if r3 then (
 (ix a0.Surges (0 : Int)).bind fun x5 =>
 if (x5.From != (0 : Int)) then (
  some false)
 else (
  H7 a0 bigN (0 : Int)))
 else (
 some false))
else (
 some false)
/- impl_IsName -/
def Z8 (a0 : List UInt8) (v3 : Int) (k_impl_IsName_1 : Int → Option Bool) : Option Bool :=
k_impl_IsName_1 (IntKind.i64.wrap (v3 + (1 : Int)))
def Z9 (a0 : List UInt8) (v3 : Int) (k_impl_IsName_1 : Int → Option Bool) (v7 : Bool) : Option Bool :=
if v7 then (
 Z8 a0 v3 k_impl_IsName_1)
else (
 if (v3 == (0 : Int)) then (
 some false)
 else (
 (ix a0 v3).bind fun b10 =>
 if (decide ((b10.toNat : Int) < (48 : Int))) then (
  some false)
 else (
  if (decide ((57 : Int) < (b10.toNat : Int))) then (
  some false)
  else (
  Z8 a0 v3 k_impl_IsName_1))))
def I6 (a0 : List UInt8) : Nat → Int → Option Bool
| 0,_ => none
| n + 1,v3 =>
 if (decide (v3 < (a0.length : Int))) then (
 (ix a0 v3).bind fun b5 =>
 if (decide ((97 : Int) ≤ (b5.toNat : Int))) then (
  Z9 a0 v3 (I6 a0 n) (decide ((b5.toNat : Int) ≤ (122 : Int))))
 else (
  Z9 a0 v3 (I6 a0 n) false))
 else (
 some true)
def Y8 (a0 : List UInt8) : Option Bool :=
(C5 (a0.length : Int) (1 : Int) (8 : Int)).bind fun r1 =>
if r1 then (
 I6 a0 bigN (0 : Int))
else (
 some false)
/- impl_PointNamed -/
def K7 (a1 : List UInt8) (a0 : XChart) : Nat → Int → Option Int
| 0,_ => none
| n + 1,v1 =>
 if (decide (v1 < (a0.Points.length : Int))) then (
 (ix a0.Points v1).bind fun x3 =>
 if (x3.Name == a1) then (
  some v1)
 else (
  K7 a1 a0 n (IntKind.i64.wrap (v1 + (1 : Int)))))
 else (
 some (-1 : Int))
def V7 (a0 : XChart) (a1 : List UInt8) : Option Int :=
K7 a1 a0 bigN (0 : Int)
/- impl_isIndex -/
def C7 (a0 : Int) (a1 : Int) : Option Bool :=
if (decide ((0 : Int) ≤ a0)) then (
 some (decide (a0 < a1)))
else (
 some false)
/- impl_Segment_joins -/
def Q3 (a0 : XSegment) (a1 : Int) (a2 : Int) : Option Bool :=
if (a0.A == a1) then (
 if (a0.B == a2) then (
 some true)
 else (
 if (a0.A == a2) then (
  some (a0.B == a1))
 else (
  some false)))
else (
 if (a0.A == a2) then (
 some (a0.B == a1))
 else (
 some false))
/- impl_ChartOk -/
def N8 (a0 : XChart) (v11 : Int) (x13 : XSegment) (y24 : List XSegment) (y25 : Int) (k_impl_ChartOk_2 : Int → Option Bool) : Nat → Int → Option Bool
| 0,_ => none
| n + 1,v26 =>
 if (decide (v26 < y25)) then (
 (ix y24 v26).bind fun x28 =>
 (Q3 x28 x13.A x13.B).bind fun r29 =>
 if r29 then (
  some false)
 else (
  N8 a0 v11 x13 y24 y25 k_impl_ChartOk_2 n (IntKind.i64.wrap (v26 + (1 : Int)))))
 else (
 k_impl_ChartOk_2 (IntKind.i64.wrap (v11 + (1 : Int))))
def G4 (a0 : XChart) : Nat → Int → Option Bool
| 0,_ => none
| n + 1,v11 =>
 if (decide (v11 < (a0.Segments.length : Int))) then (
 (ix a0.Segments v11).bind fun x13 =>
 (C7 x13.A (a0.Points.length : Int)).bind fun r14 =>
 if r14 then (
  (C7 x13.B (a0.Points.length : Int)).bind fun r16 =>
  if r16 then (
  if (x13.A == x13.B) then (
   some false)
  else (
   (C5 x13.Depth (0 : Int) (3000 : Int)).bind fun r19 =>
   if r19 then (
   (C5 x13.Minutes (1 : Int) (240 : Int)).bind fun r21 =>
   if r21 then (
    (bnd (a0.Segments.length : Int) v11 (0 : Int) a0.Segments.length).bind fun p23 =>
    N8 a0 v11 x13 ((a0.Segments.drop p23.1).take (p23.2 - p23.1)) (((a0.Segments.drop p23.1).take (p23.2 - p23.1)).length : Int) (G4 a0 n) bigN (0 : Int))
   else (
    some false))
   else (
   some false)))
  else (
  some false))
 else (
  some false))
 else (
 some true)
def N9 (a0 : XChart) : Nat → Int → Option Bool
| 0,_ => none
| n + 1,v3 =>
 if (decide (v3 < (a0.Points.length : Int))) then (
 (ix a0.Points v3).bind fun x5 =>
 (Y8 x5.Name).bind fun r6 =>
 if r6 then (
  (V7 a0 x5.Name).bind fun r9 =>
  if (r9 != v3) then (
  some false)
  else (
  N9 a0 n (IntKind.i64.wrap (v3 + (1 : Int)))))
 else (
  some false))
 else (
 G4 a0 bigN (0 : Int))
def I2 (a0 : XChart) : Option Bool :=
if (decide ((8 : Int) < (a0.Points.length : Int))) then (
 some false)
else (
 if (decide ((10 : Int) < (a0.Segments.length : Int))) then (
 some false)
 else (
 N9 a0 bigN (0 : Int)))
/- impl_ShipOk -/
def M1 (a0 : XShip) : Option Bool :=
(Y8 a0.Name).bind fun r1 =>
if r1 then (
 (C5 a0.Length (10 : Int) (400 : Int)).bind fun r3 =>
 if r3 then (
 (C5 a0.Draught (100 : Int) (2000 : Int)).bind fun r5 =>
 if r5 then (
  (C7 a0.Line (4 : Int)).bind fun r7 =>
  if r7 then (
  (C5 a0.Tugs (0 : Int) (4 : Int)).bind fun r9 =>
  some r9)
  else (
  some false))
 else (
  some false))
 else (
 some false))
else (
 some false)
/- impl_ShipNamed -/
def M0 (a1 : List UInt8) (a0 : List XShip) : Nat → Int → Option Int
| 0,_ => none
| n + 1,v1 =>
 if (decide (v1 < (a0.length : Int))) then (
 (ix a0 v1).bind fun x3 =>
 if (x3.Name == a1) then (
  some v1)
 else (
  M0 a1 a0 n (IntKind.i64.wrap (v1 + (1 : Int)))))
 else (
 some (-1 : Int))
def Y2 (a0 : List XShip) (a1 : List UInt8) : Option Int :=
M0 a1 a0 bigN (0 : Int)
/- impl_FleetOk -/
def O0 (a0 : List XShip) : Nat → Int → Option Bool
| 0,_ => none
| n + 1,v2 =>
 if (decide (v2 < (a0.length : Int))) then (
 (ix a0 v2).bind fun x4 =>
 (M1 x4).bind fun r5 =>
 if r5 then (
  (Y2 a0 x4.Name).bind fun r7 =>
  if (r7 != v2) then (
  some false)
  else (
  O0 a0 n (IntKind.i64.wrap (v2 + (1 : Int)))))
 else (
  some false))
 else (
 some true)
def A0q (a0 : List XShip) : Option Bool :=
if (decide ((6 : Int) < (a0.length : Int))) then (
 some false)
else (
 O0 a0 bigN (0 : Int))
/- impl_RegimeOk -/
def A1o (a0 : XRegime) : Option Bool :=
(C5 a0.Gap (0 : Int) (60 : Int)).bind fun r1 =>
some r1
/- impl_movesOk -/
def L7 (a0 : List Int) : Nat → Int → Option Bool
| 0,_ => none
| n + 1,v2 =>
 if (decide (v2 < (a0.length : Int))) then (
 (ix a0 v2).bind fun x4 =>
 (C5 x4 (0 : Int) (240 : Int)).bind fun r5 =>
 if r5 then (
  L7 a0 n (IntKind.i64.wrap (v2 + (1 : Int))))
 else (
  some false))
 else (
 some true)
def A15 (a0 : List Int) : Option Bool :=
if ((a0.length : Int) != (64 : Int)) then (
 some false)
else (
 L7 a0 bigN (0 : Int))
/- impl_CrewOk -/
def A08 (a0 : XCrew) : Option Bool :=
(C5 a0.Tugs (0 : Int) (12 : Int)).bind fun r1 =>
if r1 then (
 (C5 a0.Pilots (0 : Int) (12 : Int)).bind fun r3 =>
 if r3 then (
 (G3 a0.Rest).bind fun r5 =>
 if r5 then (
  (A15 a0.Moves).bind fun r7 =>
  some r7)
 else (
  some false))
 else (
 some false))
else (
 some false)
/- impl_HarbourOk -/
def S9 (a0 : XHarbour) : Option Bool :=
(H8 a0.Forecast).bind fun r1 =>
if r1 then (
 (I2 a0.Chart).bind fun r3 =>
 if r3 then (
 (A0q a0.Fleet).bind fun r5 =>
 if r5 then (
  (A1o a0.Regime).bind fun r7 =>
  if r7 then (
  (A08 a0.Crew).bind fun r9 =>
  some r9)
  else (
  some false))
 else (
  some false))
 else (
 some false))
else (
 some false)
/- impl_callOk -/
def A1f (a0 : XHarbour) (a1 : XCall) : Option Bool :=
(C7 a1.Ship (a0.Fleet.length : Int)).bind fun r1 =>
if r1 then (
 (C7 a1.From (a0.Chart.Points.length : Int)).bind fun r3 =>
 if r3 then (
 (C7 a1.To (a0.Chart.Points.length : Int)).bind fun r5 =>
 if r5 then (
  if (a1.From != a1.To) then (
  (G3 a1.Ready).bind fun r9 =>
  if r9 then (
   (C5 a1.Due a1.Ready (2880 : Int)).bind fun r11 =>
   some r11)
  else (
   some false))
  else (
  some false))
 else (
  some false))
 else (
 some false))
else (
 some false)
/- impl_CallOk -/
def U9 (a0 : XHarbour) (a1 : XCall) : Option Bool :=
(S9 a0).bind fun r1 =>
if r1 then (
 (A1f a0 a1).bind fun r3 =>
 some r3)
else (
 some false)
/- impl_clone_int -/
def C8 (a0 : List Int) : Option (List Int) :=
(mkS (0 : Int) (a0.length : Int) 8).bind fun n1 =>
if E1 (List.replicate n1 (0 : Int)).length a0.length 8 then (
 some ((List.replicate n1 (0 : Int)) ++ a0))
else none
/- impl_Segment_end -/
def O4 (a0 : XSegment) (a1 : Int) : Option Int :=
if (a1 == a0.A) then (
 some a0.B)
else (
 if (a1 == a0.B) then (
 some a0.A)
 else (
 some (-1 : Int)))
/- impl_Chart_routesFrom -/
def F7 (rec_ : XChart → Int → Int → (List Int) → X_8_bool → (List (List Int)) → Option (List (List Int))) (a1 : Int) (a2 : Int) (a3 : List Int) (v6 : Int) (r11 : Int) (a0 : XChart) (y7 : X_8_bool) (v8 : List (List Int)) (k_impl_Chart_routesFrom_1 : Int → (List (List Int)) → Option (List (List Int))) (v16 : Bool) : Option (List (List Int)) :=
if v16 then (
 (C8 a3).bind fun r18 =>
 if E1 r18.length ([v6] : List Int).length 8 then (
 (rec_ a0 r11 a2 (r18 ++ ([v6] : List Int)) y7 v8).bind fun r20 =>
 k_impl_Chart_routesFrom_1 (IntKind.i64.wrap (v6 + (1 : Int))) r20)
 else none)
else (
 k_impl_Chart_routesFrom_1 (IntKind.i64.wrap (v6 + (1 : Int))) v8)
def C6 (rec_ : XChart → Int → Int → (List Int) → X_8_bool → (List (List Int)) → Option (List (List Int))) (a1 : Int) (a2 : Int) (a3 : List Int) (a0 : XChart) (y7 : X_8_bool) : Nat → Int → (List (List Int)) → Option (List (List Int))
| 0,_,_ => none
| n + 1,v6,v8 =>
 if (decide (v6 < (a0.Segments.length : Int))) then (
 (ix a0.Segments v6).bind fun x10 =>
 (O4 x10 a1).bind fun r11 =>
 if (decide ((0 : Int) ≤ r11)) then (
  if decide ((0 : Int) ≤ r11) && decide (r11 < (8 : Int)) then (
  (ix ([y7.i0,y7.i1,y7.i2,y7.i3,y7.i4,y7.i5,y7.i6,y7.i7] : List Bool) r11).bind fun x14 =>
  F7 rec_ a1 a2 a3 v6 r11 a0 y7 v8 (C6 rec_ a1 a2 a3 a0 y7 n) (!x14))
  else none)
 else (
  F7 rec_ a1 a2 a3 v6 r11 a0 y7 v8 (C6 rec_ a1 a2 a3 a0 y7 n) false))
 else (
 some v8)
def P0 (rec_ : XChart → Int → Int → (List Int) → X_8_bool → (List (List Int)) → Option (List (List Int))) (a0 : XChart) (a1 : Int) (a2 : Int) (a3 : List Int) (a4 : X_8_bool) (a5 : List (List Int)) : Option (List (List Int)) :=
if (a1 == a2) then (
 (C8 a3).bind fun r2 =>
 if E1 a5.length ([r2] : List (List Int)).length 24 then (
 some (a5 ++ ([r2] : List (List Int))))
 else none)
else (
 if decide ((0 : Int) ≤ a1) && decide (a1 < (8 : Int)) then (
 C6 rec_ a1 a2 a3 a0 (⟨((X_8_bool.set a4 (Int.toNat a1) true)).i0,((X_8_bool.set a4 (Int.toNat a1) true)).i1,((X_8_bool.set a4 (Int.toNat a1) true)).i2,((X_8_bool.set a4 (Int.toNat a1) true)).i3,((X_8_bool.set a4 (Int.toNat a1) true)).i4,((X_8_bool.set a4 (Int.toNat a1) true)).i5,((X_8_bool.set a4 (Int.toNat a1) true)).i6,((X_8_bool.set a4 (Int.toNat a1) true)).i7⟩ : X_8_bool) bigN (0 : Int) a5)
 else none)
def E0 : Nat → XChart → Int → Int → (List Int) → X_8_bool → (List (List Int)) → Option (List (List Int))
| 0,_,_,_,_,_,_ => none
| n + 1,a0,a1,a2,a3,a4,a5 => P0 (E0 n) a0 a1 a2 a3 a4 a5
def Y7 (a0 : XChart) (a1 : Int) (a2 : Int) (a3 : List Int) (a4 : X_8_bool) (a5 : List (List Int)) : Option (List (List Int)) := E0 bigN a0 a1 a2 a3 a4 a5
/- impl_RoutesBetween -/
def P2 (a0 : XChart) (a1 : Int) (a2 : Int) : Option (List (List Int)) :=
(I2 a0).bind fun r1 =>
if r1 then (
 (C7 a1 (a0.Points.length : Int)).bind fun r3 =>
 if r3 then (
 (C7 a2 (a0.Points.length : Int)).bind fun r5 =>
 if r5 then (
  (Y7 a0 a1 a2 ([] : List Int) (⟨false,false,false,false,false,false,false,false⟩ : X_8_bool) ([] : List (List Int))).bind fun r7 =>
  some r7)
 else (
  some ([] : List (List Int))))
 else (
 some ([] : List (List Int))))
else (
 some ([] : List (List Int)))
/- impl_RouteMinutes -/
def H9 (a1 : List Int) (a0 : XChart) : Nat → Int → Int → Option Int
| 0,_,_ => none
| n + 1,v3,v4 =>
 if (decide (v4 < (a1.length : Int))) then (
 (ix a1 v4).bind fun x6 =>
 (C7 x6 (a0.Segments.length : Int)).bind fun r7 =>
 if r7 then (
  (ix a0.Segments x6).bind fun x9 =>
  H9 a1 a0 n (IntKind.i64.wrap (v3 + x9.Minutes)) (IntKind.i64.wrap (v4 + (1 : Int))))
 else (
  some (-1 : Int)))
 else (
 some v3)
def K5 (a0 : XChart) (a1 : List Int) : Option Int :=
(I2 a0).bind fun r1 =>
if r1 then (
 H9 a1 a0 bigN (0 : Int) (0 : Int))
else (
 some (-1 : Int))
/- impl_BestRoute -/
def J1 (r1 : (List (List Int))) (a0 : XChart) : Nat → (List Int) → Int → Option ((List Int) × Bool)
| 0,_,_ => none
| n + 1,v4,v5 =>
 if (decide (v5 < (r1.length : Int))) then (
 (ix r1 v5).bind fun x7 =>
 (K5 a0 x7).bind fun r9 =>
 (K5 a0 v4).bind fun r10 =>
 if (decide (r9 < r10)) then (
  J1 r1 a0 n x7 (IntKind.i64.wrap (v5 + (1 : Int))))
 else (
  J1 r1 a0 n v4 (IntKind.i64.wrap (v5 + (1 : Int)))))
 else (
 some (v4,true))
def X2 (a0 : XChart) (a1 : Int) (a2 : Int) : Option ((List Int) × Bool) :=
(P2 a0 a1 a2).bind fun r1 =>
if ((r1.length : Int) == (0 : Int)) then (
 some (([] : List Int),false))
else (
 (ix r1 (0 : Int)).bind fun x3 =>
 J1 r1 a0 bigN x3 (0 : Int))
/- impl_Chart_points -/
def I0 (r14 : Int) (a2 : List Int) (v6 : Int) (a0 : XChart) (v7 : X_8_bool) (v8 : List Int) (k_impl_Chart_points_1 : Int → Int → X_8_bool → (List Int) → Option ((List Int) × Bool)) (v19 : Bool) : Option ((List Int) × Bool) :=
if v19 then (
 some (([] : List Int),false))
else (
 if decide ((0 : Int) ≤ r14) && decide (r14 < (8 : Int)) then (
 if E1 v8.length ([r14] : List Int).length 8 then (
  k_impl_Chart_points_1 r14 (IntKind.i64.wrap (v6 + (1 : Int))) (⟨((X_8_bool.set v7 (Int.toNat r14) true)).i0,((X_8_bool.set v7 (Int.toNat r14) true)).i1,((X_8_bool.set v7 (Int.toNat r14) true)).i2,((X_8_bool.set v7 (Int.toNat r14) true)).i3,((X_8_bool.set v7 (Int.toNat r14) true)).i4,((X_8_bool.set v7 (Int.toNat r14) true)).i5,((X_8_bool.set v7 (Int.toNat r14) true)).i6,((X_8_bool.set v7 (Int.toNat r14) true)).i7⟩ : X_8_bool) (v8 ++ ([r14] : List Int)))
 else none)
 else none)
def E5 (a2 : List Int) (a0 : XChart) : Nat → Int → Int → X_8_bool → (List Int) → Option ((List Int) × Bool)
| 0,_,_,_,_ => none
| n + 1,v5,v6,v7,v8 =>
 if (decide (v6 < (a2.length : Int))) then (
 (ix a2 v6).bind fun x10 =>
 (C7 x10 (a0.Segments.length : Int)).bind fun r11 =>
 if r11 then (
  (ix a0.Segments x10).bind fun x13 =>
  (O4 x13 v5).bind fun r14 =>
  if (decide (r14 < (0 : Int))) then (
  I0 r14 a2 v6 a0 v7 v8 (E5 a2 a0 n) true)
  else (
  if decide ((0 : Int) ≤ r14) && decide (r14 < (8 : Int)) then (
   (ix ([v7.i0,v7.i1,v7.i2,v7.i3,v7.i4,v7.i5,v7.i6,v7.i7] : List Bool) r14).bind fun x17 =>
   I0 r14 a2 v6 a0 v7 v8 (E5 a2 a0 n) x17)
  else none))
 else (
  some (([] : List Int),false)))
 else (
 some (v8,true))
def K2 (a0 : XChart) (a1 : Int) (a2 : List Int) : Option ((List Int) × Bool) :=
(C7 a1 (a0.Points.length : Int)).bind fun r1 =>
if r1 then (
 if decide ((0 : Int) ≤ a1) && decide (a1 < (8 : Int)) then (
 E5 a2 a0 bigN a1 (0 : Int) (⟨((X_8_bool.set (⟨false,false,false,false,false,false,false,false⟩ : X_8_bool) (Int.toNat a1) true)).i0,((X_8_bool.set (⟨false,false,false,false,false,false,false,false⟩ : X_8_bool) (Int.toNat a1) true)).i1,((X_8_bool.set (⟨false,false,false,false,false,false,false,false⟩ : X_8_bool) (Int.toNat a1) true)).i2,((X_8_bool.set (⟨false,false,false,false,false,false,false,false⟩ : X_8_bool) (Int.toNat a1) true)).i3,((X_8_bool.set (⟨false,false,false,false,false,false,false,false⟩ : X_8_bool) (Int.toNat a1) true)).i4,((X_8_bool.set (⟨false,false,false,false,false,false,false,false⟩ : X_8_bool) (Int.toNat a1) true)).i5,((X_8_bool.set (⟨false,false,false,false,false,false,false,false⟩ : X_8_bool) (Int.toNat a1) true)).i6,((X_8_bool.set (⟨false,false,false,false,false,false,false,false⟩ : X_8_bool) (Int.toNat a1) true)).i7⟩ : X_8_bool) ([a1] : List Int))
 else none)
else (
 some (([] : List Int),false))
/- impl_RoutePoints -/
def H5 (a0 : XChart) (a1 : Int) (a2 : List Int) : Option (List Int) :=
(I2 a0).bind fun r1 =>
if r1 then (
 (K2 a0 a1 a2).bind fun r3 =>
 some r3.1)
else (
 some ([] : List Int))
/- impl_RouteOk -/
def T0 (a0 : XChart) (a1 : Int) (a2 : List Int) : Option Bool :=
(I2 a0).bind fun r1 =>
if r1 then (
 (K2 a0 a1 a2).bind fun r3 =>
 some r3.2)
else (
 some false)
/- impl_Ship_minutes -/
def G5 (a0 : XShip) (a1 : XSegment) : Option Int :=
if a0.Slow then (
 some (IntKind.i64.wrap ((2 : Int) * a1.Minutes)))
else (
 some a1.Minutes)
/- impl_onSegment -/
def L6 (a0 : XChart) (a1 : Int) (a2 : XShip) : Option Bool :=
(I2 a0).bind fun r1 =>
if r1 then (
 (M1 a2).bind fun r3 =>
 if r3 then (
 (C7 a1 (a0.Segments.length : Int)).bind fun r5 =>
 some r5)
 else (
 some false))
else (
 some false)
/- impl_Ship_squat -/
def A0i (a0 : XShip) : Option Int :=
if a0.Slow then (
 some (IntKind.i64.wrap (Int.tdiv a0.Draught (50 : Int))))
else (
 some (IntKind.i64.wrap (Int.tdiv a0.Draught (20 : Int))))
/- impl_Ship_need -/
def A04 (a0 : XShip) : Option Int :=
(A0i a0).bind fun r1 =>
some (IntKind.i64.wrap ((IntKind.i64.wrap (a0.Draught + r1)) + (50 : Int)))
/- impl_LevelFor -/
def H4 (a0 : XChart) (a1 : Int) (a2 : XShip) : Option Int :=
(L6 a0 a1 a2).bind fun r1 =>
if r1 then (
 (A04 a2).bind fun r3 =>
 (ix a0.Segments a1).bind fun x4 =>
 some (IntKind.i64.wrap (r3 - x4.Depth)))
else (
 some (0 : Int))
/- impl_windowsOf -/
def L5 (a0 : Int → Option Bool) (v2 : Int) (k_impl_windowsOf_1 : Bool → Int → (List XWindow) → Option (List XWindow)) (v11 : Bool) (v12 : List XWindow) : Option (List XWindow) :=
k_impl_windowsOf_1 v11 (IntKind.i64.wrap (v2 + (1 : Int))) v12
def O3 (a0 : Int → Option Bool) (v2 : Int) (k_impl_windowsOf_1 : Bool → Int → (List XWindow) → Option (List XWindow)) (v9 : List XWindow) : Option (List XWindow) :=
(ix v9 (IntKind.i64.wrap ((v9.length : Int) - (1 : Int)))).bind fun x10 =>
L5 a0 v2 k_impl_windowsOf_1 true (v9.set (Int.toNat (IntKind.i64.wrap ((v9.length : Int) - (1 : Int)))) (⟨x10.From,v2⟩ : XWindow))
def E4 (a0 : Int → Option Bool) : Nat → Bool → Int → (List XWindow) → Option (List XWindow)
| 0,_,_,_ => none
| n + 1,v1,v2,v3 =>
 if (decide (v2 ≤ (2880 : Int))) then (
 (a0 v2).bind fun r5 =>
 if r5 then (
  if v1 then (
  O3 a0 v2 (E4 a0 n) v3)
  else (
  if E1 v3.length ([(⟨v2,(0 : Int)⟩ : XWindow)] : List XWindow).length 16 then (
   O3 a0 v2 (E4 a0 n) (v3 ++ ([(⟨v2,(0 : Int)⟩ : XWindow)] : List XWindow)))
  else none))
 else (
  L5 a0 v2 (E4 a0 n) false v3))
 else (
 some v3)
def A06 (a0 : Int → Option Bool) : Option (List XWindow) :=
E4 a0 bigN false (0 : Int) ([] : List XWindow)
/- impl_Wave -/
def A2j (a0 : Int) (a1 : Int) : Option Int :=
(U7 a1).bind fun r1 =>
if r1 then (
 if a1 == 0 then none else
 if a1 == 0 then none else
 if (decide ((IntKind.i64.wrap (Int.tdiv a1 (2 : Int))) ≤ (IntKind.i64.wrap (Int.tmod (IntKind.i64.wrap ((IntKind.i64.wrap (Int.tmod a0 a1)) + a1)) a1)))) then (
 if (IntKind.i64.wrap ((IntKind.i64.wrap (Int.tdiv a1 (2 : Int))) * (IntKind.i64.wrap (Int.tdiv a1 (2 : Int))))) == 0 then none else
 some (IntKind.i64.wrap (0 - (IntKind.i64.wrap (Int.tdiv (IntKind.i64.wrap ((IntKind.i64.wrap ((40000 : Int) * (IntKind.i64.wrap ((IntKind.i64.wrap (Int.tmod (IntKind.i64.wrap ((IntKind.i64.wrap (Int.tmod a0 a1)) + a1)) a1)) - (IntKind.i64.wrap (Int.tdiv a1 (2 : Int))))))) * (IntKind.i64.wrap ((IntKind.i64.wrap (Int.tdiv a1 (2 : Int))) - (IntKind.i64.wrap ((IntKind.i64.wrap (Int.tmod (IntKind.i64.wrap ((IntKind.i64.wrap (Int.tmod a0 a1)) + a1)) a1)) - (IntKind.i64.wrap (Int.tdiv a1 (2 : Int))))))))) (IntKind.i64.wrap ((IntKind.i64.wrap (Int.tdiv a1 (2 : Int))) * (IntKind.i64.wrap (Int.tdiv a1 (2 : Int))))))))))
 else (
 if (IntKind.i64.wrap ((IntKind.i64.wrap (Int.tdiv a1 (2 : Int))) * (IntKind.i64.wrap (Int.tdiv a1 (2 : Int))))) == 0 then none else
 some (IntKind.i64.wrap (Int.tdiv (IntKind.i64.wrap ((IntKind.i64.wrap ((40000 : Int) * (IntKind.i64.wrap (Int.tmod (IntKind.i64.wrap ((IntKind.i64.wrap (Int.tmod a0 a1)) + a1)) a1)))) * (IntKind.i64.wrap ((IntKind.i64.wrap (Int.tdiv a1 (2 : Int))) - (IntKind.i64.wrap (Int.tmod (IntKind.i64.wrap ((IntKind.i64.wrap (Int.tmod a0 a1)) + a1)) a1)))))) (IntKind.i64.wrap ((IntKind.i64.wrap (Int.tdiv a1 (2 : Int))) * (IntKind.i64.wrap (Int.tdiv a1 (2 : Int)))))))))
else (
 some (0 : Int))
/- impl_Tide_level -/
def L0 (a1 : Int) (a0 : XTide) : Nat → Int → Int → Option Int
| 0,_,_ => none
| n + 1,v1,v2 =>
 if (decide (v2 < (a0.Parts.length : Int))) then (
 (ix a0.Parts v2).bind fun x4 =>
 (A2j (IntKind.i64.wrap (a1 + x4.Phase)) x4.Period).bind fun r5 =>
 L0 a1 a0 n (IntKind.i64.wrap (v1 + (IntKind.i64.wrap (Int.tdiv (IntKind.i64.wrap (x4.Amp * r5)) (10000 : Int))))) (IntKind.i64.wrap (v2 + (1 : Int))))
 else (
 some v1)
def V8 (a0 : XTide) (a1 : Int) : Option Int :=
L0 a1 a0 bigN a0.Mean (0 : Int)
/- impl_Forecast_surge -/
def E6 (a1 : Int) (a0 : XForecast) : Nat → Int → Int → Option Int
| 0,_,_ => none
| n + 1,v1,v2 =>
 if (decide (v2 < (a0.Surges.length : Int))) then (
 (ix a0.Surges v2).bind fun x4 =>
 if (decide (x4.From ≤ a1)) then (
  E6 a1 a0 n v2 (IntKind.i64.wrap (v2 + (1 : Int))))
 else (
  E6 a1 a0 n v1 (IntKind.i64.wrap (v2 + (1 : Int)))))
 else (
 some v1)
def O6 (a0 : XForecast) (a1 : Int) : Option Int :=
E6 a1 a0 bigN (0 : Int) (0 : Int)
/- impl_Forecast_low -/
def E7 (a0 : XForecast) (a1 : Int) : Option Int :=
(V8 a0.Tide a1).bind fun r1 =>
(O6 a0 a1).bind fun r2 =>
(ix a0.Surges r2).bind fun x3 =>
some (IntKind.i64.wrap (r1 + x3.Low))
/- impl_LowWindows_1 -/
def Q8 (a0 : Int) (c0 : XForecast) (c1 : Int) : Option Bool :=
(E7 c0 a0).bind fun r1 =>
some (decide (c1 ≤ r1))
/- impl_LowWindows -/
def A0g (a0 : XForecast) (a1 : Int) : Option (List XWindow) :=
(H8 a0).bind fun r1 =>
if r1 then (
 (A06 (fun z0 => Q8 z0 a0 a1)).bind fun r3 =>
 some r3)
else (
 some ([] : List XWindow))
/- impl_MinutesOn -/
def R9 (a0 : XChart) (a1 : Int) (a2 : XShip) : Option Int :=
(I2 a0).bind fun r1 =>
if r1 then (
 (M1 a2).bind fun r3 =>
 if r3 then (
 (C7 a1 (a0.Segments.length : Int)).bind fun r5 =>
 if r5 then (
  (ix a0.Segments a1).bind fun x7 =>
  (G5 a2 x7).bind fun r9 =>
  some r9)
 else (
  some (0 : Int)))
 else (
 some (0 : Int)))
else (
 some (0 : Int))
/- impl_WindowsOk -/
def I9 (a0 : List XWindow) : Nat → Int → Option Bool
| 0,_ => none
| n + 1,v1 =>
 if (decide (v1 < (a0.length : Int))) then (
 (ix a0 v1).bind fun x3 =>
 if (decide (x3.From < (0 : Int))) then (
  some false)
 else (
  if (decide (x3.To < x3.From)) then (
  some false)
  else (
  if (decide ((2880 : Int) < x3.To)) then (
   some false)
  else (
   if (decide ((0 : Int) < v1)) then (
   (ix a0 (IntKind.i64.wrap (v1 - (1 : Int)))).bind fun x8 =>
   if (decide (x3.From ≤ (IntKind.i64.wrap (x8.To + (1 : Int))))) then (
    some false)
   else (
    I9 a0 n (IntKind.i64.wrap (v1 + (1 : Int)))))
   else (
   I9 a0 n (IntKind.i64.wrap (v1 + (1 : Int))))))))
 else (
 some true)
def X5 (a0 : List XWindow) : Option Bool :=
I9 a0 bigN (0 : Int)
/- impl_ShrinkWindows -/
def G0 (a1 : Int) (a0 : List XWindow) : Nat → Int → (List XWindow) → Option (List XWindow)
| 0,_,_ => none
| n + 1,v5,v6 =>
 if (decide (v5 < (a0.length : Int))) then (
 (ix a0 v5).bind fun x8 =>
 if (decide (a1 ≤ (IntKind.i64.wrap (x8.To - x8.From)))) then (
  if E1 v6.length ([(⟨x8.From,(IntKind.i64.wrap (x8.To - a1))⟩ : XWindow)] : List XWindow).length 16 then (
  G0 a1 a0 n (IntKind.i64.wrap (v5 + (1 : Int))) (v6 ++ ([(⟨x8.From,(IntKind.i64.wrap (x8.To - a1))⟩ : XWindow)] : List XWindow)))
  else none)
 else (
  G0 a1 a0 n (IntKind.i64.wrap (v5 + (1 : Int))) v6))
 else (
 some v6)
def P5 (a0 : List XWindow) (a1 : Int) : Option (List XWindow) :=
(X5 a0).bind fun r1 =>
if r1 then (
 (G3 a1).bind fun r3 =>
 if r3 then (
 G0 a1 a0 bigN (0 : Int) ([] : List XWindow))
 else (
 some ([] : List XWindow)))
else (
 some ([] : List XWindow))
/- impl_SureStarts -/
def V6 (a0 : XForecast) (a1 : XChart) (a2 : Int) (a3 : XShip) : Option (List XWindow) :=
(H8 a0).bind fun r1 =>
if r1 then (
 (L6 a1 a2 a3).bind fun r3 =>
 if r3 then (
 (H4 a1 a2 a3).bind fun r5 =>
 (A0g a0 r5).bind fun r6 =>
 (R9 a1 a2 a3).bind fun r7 =>
 (P5 r6 r7).bind fun r9 =>
 some r9)
 else (
 some ([] : List XWindow)))
else (
 some ([] : List XWindow))
/- impl_voyageOf -/
def N1 (a4 : List Int) (a0 : XForecast) (a1 : XChart) (a2 : XShip) (y11 : List Int) (y12 : Int) : Nat → Int → (List Bool) → (List Int) → (List (List XWindow)) → Option (Xvoyage × Bool)
| 0,_,_,_,_ => none
| n + 1,v13,v14,v15,v16 =>
 if (decide (v13 < y12)) then (
 (ix y11 v13).bind fun x18 =>
 (ix a1.Points x18).bind fun x19 =>
 if E1 v14.length ([x19.Wait] : List Bool).length 1 then (
  (ix a4 v13).bind fun x21 =>
  (ix a1.Segments x21).bind fun x22 =>
  (G5 a2 x22).bind fun r23 =>
  if E1 v15.length ([r23] : List Int).length 8 then (
  (V6 a0 a1 x21 a2).bind fun r25 =>
  if E1 v16.length ([r25] : List (List XWindow)).length 24 then (
   N1 a4 a0 a1 a2 y11 y12 n (IntKind.i64.wrap (v13 + (1 : Int))) (v14 ++ ([x19.Wait] : List Bool)) (v15 ++ ([r23] : List Int)) (v16 ++ ([r25] : List (List XWindow))))
  else none)
  else none)
 else none)
 else (
 some ((⟨v14,v15,v16⟩ : Xvoyage),true))
def N2 (a3 : Int) (a4 : List Int) (a0 : XForecast) (a1 : XChart) (a2 : XShip) (v7 : Bool) : Option (Xvoyage × Bool) :=
if v7 then (
 some ((⟨([] : List Bool),([] : List Int),([] : List (List XWindow))⟩ : Xvoyage),false))
else (
 (H5 a1 a3 a4).bind fun r9 =>
 (bnd (r9.length : Int) (a4.length : Int) (0 : Int) r9.length).bind fun p10 =>
 N1 a4 a0 a1 a2 ((r9.drop p10.1).take (p10.2 - p10.1)) (((r9.drop p10.1).take (p10.2 - p10.1)).length : Int) bigN (0 : Int) ([] : List Bool) ([] : List Int) ([] : List (List XWindow)))
def Z4 (a0 : XForecast) (a1 : XChart) (a2 : XShip) (a3 : Int) (a4 : List Int) : Option (Xvoyage × Bool) :=
(H8 a0).bind fun r1 =>
if r1 then (
 (M1 a2).bind fun r3 =>
 if r3 then (
 (T0 a1 a3 a4).bind fun r5 =>
 if r5 then (
  N2 a3 a4 a0 a1 a2 ((a4.length : Int) == (0 : Int)))
 else (
  N2 a3 a4 a0 a1 a2 true))
 else (
 N2 a3 a4 a0 a1 a2 true))
else (
 N2 a3 a4 a0 a1 a2 true)
/- impl_callVoyage -/
def N6 (a2 : List Int) (a0 : XHarbour) (a1 : XCall) (v4 : Bool) : Option (Xvoyage × Bool) :=
if v4 then (
 some ((⟨([] : List Bool),([] : List Int),([] : List (List XWindow))⟩ : Xvoyage),false))
else (
 (ix a0.Fleet a1.Ship).bind fun x6 =>
 (Z4 a0.Forecast a0.Chart x6 a1.From a2).bind fun r7 =>
 some (r7.1,r7.2))
def W1 (a0 : XHarbour) (a1 : XCall) (a2 : List Int) : Option (Xvoyage × Bool) :=
(H5 a0.Chart a1.From a2).bind fun r1 =>
if ((r1.length : Int) == (0 : Int)) then (
 N6 a2 a0 a1 true)
else (
 (ix r1 (IntKind.i64.wrap ((r1.length : Int) - (1 : Int)))).bind fun x3 =>
 N6 a2 a0 a1 (x3 != a1.To))
/- impl_HasMinute -/
def L8 (a1 : Int) (a0 : List XWindow) : Nat → Int → Option Bool
| 0,_ => none
| n + 1,v1 =>
 if (decide (v1 < (a0.length : Int))) then (
 (ix a0 v1).bind fun x3 =>
 (C5 a1 x3.From x3.To).bind fun r4 =>
 if r4 then (
  some true)
 else (
  L8 a1 a0 n (IntKind.i64.wrap (v1 + (1 : Int)))))
 else (
 some false)
def A02 (a0 : List XWindow) (a1 : Int) : Option Bool :=
L8 a1 a0 bigN (0 : Int)
/- impl_NextMinute -/
def K6 (a1 : Int) (a0 : List XWindow) : Nat → Int → Option Int
| 0,_ => none
| n + 1,v3 =>
 if (decide (v3 < (a0.length : Int))) then (
 (ix a0 v3).bind fun x5 =>
 if (decide (a1 ≤ x5.To)) then (
  some (if x5.From < a1 then a1 else x5.From))
 else (
  K6 a1 a0 n (IntKind.i64.wrap (v3 + (1 : Int)))))
 else (
 some (-1 : Int))
def W0 (a0 : List XWindow) (a1 : Int) : Option Int :=
(X5 a0).bind fun r1 =>
if r1 then (
 K6 a1 a0 bigN (0 : Int))
else (
 some (-1 : Int))
/- impl_voyage_sail -/
def F8 (v4 : Int) (r10 : Int) (a0 : Xvoyage) (v5 : List Int) (k_impl_voyage_sail_1 : Int → (List Int) → Option ((List Int) × Bool)) (v14 : Bool) : Option ((List Int) × Bool) :=
if v14 then (
 some (([] : List Int),false))
else (
 if E1 v5.length ([r10] : List Int).length 8 then (
 k_impl_voyage_sail_1 (IntKind.i64.wrap (v4 + (1 : Int))) (v5 ++ ([r10] : List Int)))
 else none)
def D1 (a0 : Xvoyage) : Nat → Int → (List Int) → Option ((List Int) × Bool)
| 0,_,_ => none
| n + 1,v4,v5 =>
 if (decide (v4 < (a0.sure.length : Int))) then (
 (ix v5 (IntKind.i64.wrap (v4 - (1 : Int)))).bind fun x7 =>
 (ix a0.minutes (IntKind.i64.wrap (v4 - (1 : Int)))).bind fun x8 =>
 (ix a0.sure v4).bind fun x9 =>
 (W0 x9 (IntKind.i64.wrap (x7 + x8))).bind fun r10 =>
 if (decide (r10 < (0 : Int))) then (
  F8 v4 r10 a0 v5 (D1 a0 n) true)
 else (
  if (decide ((IntKind.i64.wrap (x7 + x8)) < r10)) then (
  (ix a0.waits v4).bind fun x13 =>
  F8 v4 r10 a0 v5 (D1 a0 n) (!x13))
  else (
  F8 v4 r10 a0 v5 (D1 a0 n) false)))
 else (
 some (v5,true))
def T6 (a0 : Xvoyage) (a1 : Int) : Option ((List Int) × Bool) :=
(ix a0.sure (0 : Int)).bind fun x1 =>
(A02 x1 a1).bind fun r2 =>
if r2 then (
 D1 a0 bigN (1 : Int) ([a1] : List Int))
else (
 some (([] : List Int),false))
/- impl_PassagesOf -/
def K4 (a1 : Int) (a5 : List Int) (a4 : List Int) (a0 : XChart) (a2 : XShip) (r6 : (List Int)) : Nat → Int → (List XPassage) → Option (List XPassage)
| 0,_,_ => none
| n + 1,v7,v8 =>
 if (decide (v7 < (a4.length : Int))) then (
 (ix a4 v7).bind fun x10 =>
 (ix a5 v7).bind fun x11 =>
 (G3 x11).bind fun r12 =>
 if r12 then (
  (ix a0.Segments x10).bind fun x14 =>
  (ix r6 v7).bind fun x15 =>
  (G5 a2 x14).bind fun r16 =>
  if E1 v8.length ([(⟨a1,x10,(x15 == x14.A),x11,(IntKind.i64.wrap (x11 + r16))⟩ : XPassage)] : List XPassage).length 40 then (
  K4 a1 a5 a4 a0 a2 r6 n (IntKind.i64.wrap (v7 + (1 : Int))) (v8 ++ ([(⟨a1,x10,(x15 == x14.A),x11,(IntKind.i64.wrap (x11 + r16))⟩ : XPassage)] : List XPassage)))
  else none)
 else (
  some ([] : List XPassage)))
 else (
 some v8)
def V9 (a0 : XChart) (a1 : Int) (a2 : XShip) (a3 : Int) (a4 : List Int) (a5 : List Int) : Option (List XPassage) :=
(T0 a0 a3 a4).bind fun r1 =>
if r1 then (
 (M1 a2).bind fun r3 =>
 if r3 then (
 if ((a4.length : Int) != (a5.length : Int)) then (
  some ([] : List XPassage))
 else (
  (H5 a0 a3 a4).bind fun r6 =>
  K4 a1 a5 a4 a0 a2 r6 bigN (0 : Int) ([] : List XPassage)))
 else (
 some ([] : List XPassage)))
else (
 some ([] : List XPassage))
/- impl_ArrivalOf -/
def X7 (a0 : XChart) (a1 : XShip) (a2 : List Int) (a3 : List Int) : Option Int :=
(K5 a0 a2).bind fun r1 =>
if (decide (r1 < (0 : Int))) then (
 some (-1 : Int))
else (
 (M1 a1).bind fun r3 =>
 if r3 then (
 if ((a2.length : Int) == (0 : Int)) then (
  some (-1 : Int))
 else (
  if ((a2.length : Int) != (a3.length : Int)) then (
  some (-1 : Int))
  else (
  (ix a3 (IntKind.i64.wrap ((a2.length : Int) - (1 : Int)))).bind fun x7 =>
  (G3 x7).bind fun r9 =>
  if r9 then (
   (ix a2 (IntKind.i64.wrap ((a2.length : Int) - (1 : Int)))).bind fun x11 =>
   (ix a0.Segments x11).bind fun x12 =>
   (G5 a1 x12).bind fun r13 =>
   some (IntKind.i64.wrap (x7 + r13)))
  else (
   some (-1 : Int)))))
 else (
 some (-1 : Int)))
/- impl_option -/
def Q1 (a2 : Xvoyage) (a4 : Int) (r5 : Int) (r4 : (List XPassage)) : Nat → Int → Int → Option (XOption × Bool)
| 0,_,_ => none
| n + 1,v6,v7 =>
 if (decide (v6 < (a2.minutes.length : Int))) then (
 (ix a2.minutes v6).bind fun x9 =>
 Q1 a2 a4 r5 r4 n (IntKind.i64.wrap (v6 + (1 : Int))) (IntKind.i64.wrap (v7 - x9)))
 else (
 some ((⟨a4,r5,v7,r4⟩ : XOption),(decide (r5 ≤ (2880 : Int)))))
def A1c (a0 : XHarbour) (a1 : XCall) (a2 : Xvoyage) (a3 : List Int) (a4 : Int) : Option (XOption × Bool) :=
(T6 a2 a4).bind fun r1 =>
if r1.2 then (
 (ix a0.Fleet a1.Ship).bind fun x3 =>
 (V9 a0.Chart a1.Ship x3 a1.From a3 r1.1).bind fun r4 =>
 (X7 a0.Chart x3 a3 r1.1).bind fun r5 =>
 Q1 a2 a4 r5 r4 bigN (0 : Int) (IntKind.i64.wrap (r5 - a1.Ready)))
else (
 some ((⟨(0 : Int),(0 : Int),(0 : Int),([] : List XPassage)⟩ : XOption),false))
/- impl_OptionsOf -/
def O7 (r3 : (List Int) × Bool) (v7 : Int) (a0 : XHarbour) (a1 : XCall) (r4 : Xvoyage × Bool) (k_impl_OptionsOf_1 : Int → (List XOption) → Option (List XOption)) (v14 : List XOption) : Option (List XOption) :=
k_impl_OptionsOf_1 (IntKind.i64.wrap (v7 + (15 : Int))) v14
def F9 (r3 : (List Int) × Bool) (a0 : XHarbour) (a1 : XCall) (r4 : Xvoyage × Bool) : Nat → Int → (List XOption) → Option (List XOption)
| 0,_,_ => none
| n + 1,v7,v8 =>
 if (decide (v7 ≤ a1.Due)) then (
 if (decide ((v8.length : Int) < (8 : Int))) then (
  (A1c a0 a1 r4.1 r3.1 v7).bind fun r11 =>
  if r11.2 then (
  if E1 v8.length ([r11.1] : List XOption).length 48 then (
   O7 r3 v7 a0 a1 r4 (F9 r3 a0 a1 r4 n) (v8 ++ ([r11.1] : List XOption)))
  else none)
  else (
  O7 r3 v7 a0 a1 r4 (F9 r3 a0 a1 r4 n) v8))
 else (
  some v8))
 else (
 some v8)
def S4 (a0 : XHarbour) (a1 : XCall) : Option (List XOption) :=
(U9 a0 a1).bind fun r1 =>
if r1 then (
 (X2 a0.Chart a1.From a1.To).bind fun r3 =>
 (W1 a0 a1 r3.1).bind fun r4 =>
 if r3.2 then (
 if r4.2 then (
  F9 r3 a0 a1 r4 bigN a1.Ready ([] : List XOption))
 else (
  some ([] : List XOption)))
 else (
 some ([] : List XOption)))
else (
 some ([] : List XOption))
/- impl_CheapestOption -/
def Q7 (a0 : List XOption) (v1 : Int) (v2 : Int) (k_impl_CheapestOption_1 : Int → Int → Option Int) (v7 : Bool) : Option Int :=
if v7 then (
 k_impl_CheapestOption_1 v2 (IntKind.i64.wrap (v2 + (1 : Int))))
else (
 k_impl_CheapestOption_1 v1 (IntKind.i64.wrap (v2 + (1 : Int))))
def H0 (a0 : List XOption) : Nat → Int → Int → Option Int
| 0,_,_ => none
| n + 1,v1,v2 =>
 if (decide (v2 < (a0.length : Int))) then (
 (ix a0 v2).bind fun x4 =>
 if (decide (v1 < (0 : Int))) then (
  Q7 a0 v1 v2 (H0 a0 n) true)
 else (
  (ix a0 v1).bind fun x6 =>
  Q7 a0 v1 v2 (H0 a0 n) (decide (x4.Cost < x6.Cost))))
 else (
 some v1)
def A0z (a0 : List XOption) : Option Int :=
H0 a0 bigN (-1 : Int) (0 : Int)
/- impl_FloorOf -/
def A13 (a0 : XHarbour) (a1 : XCall) : Option Int :=
(S4 a0 a1).bind fun r1 =>
if ((r1.length : Int) == (0 : Int)) then (
 some (-1 : Int))
else (
 (A0z r1).bind fun r3 =>
 (ix r1 r3).bind fun x4 =>
 some x4.Cost)
/- impl_DraughtFor -/
def K3 (a2 : Int) (v11 : Int) (a1 : XChart) (a3 : XShip) : Nat → Int → Option Int
| 0,_ => none
| n + 1,v15 =>
 if (decide ((100 : Int) ≤ v15)) then (
 (H4 a1 a2 (⟨a3.Name,a3.Length,v15,a3.Line,a3.Tugs,a3.Slow⟩ : XShip)).bind fun r17 =>
 if (decide (r17 ≤ v11)) then (
  some v15)
 else (
  K3 a2 v11 a1 a3 n (IntKind.i64.wrap (v15 - (1 : Int)))))
 else (
 some (0 : Int))
def K9 (a2 : Int) (a0 : XForecast) (a1 : XChart) (a3 : XShip) (y10 : Int) : Nat → Int → Int → Option Int
| 0,_,_ => none
| n + 1,v11,v12 =>
 if (decide (v12 ≤ y10)) then (
 (E7 a0 v12).bind fun r14 =>
 K9 a2 a0 a1 a3 y10 n (if r14 < v11 then r14 else v11) (IntKind.i64.wrap (v12 + (1 : Int))))
 else (
 K3 a2 v11 a1 a3 bigN (2000 : Int))
def V0 (a0 : XForecast) (a1 : XChart) (a2 : Int) (a3 : XShip) (a4 : Int) : Option Int :=
(H8 a0).bind fun r1 =>
if r1 then (
 (L6 a1 a2 a3).bind fun r3 =>
 if r3 then (
 (G3 a4).bind fun r5 =>
 if r5 then (
  (R9 a1 a2 a3).bind fun r7 =>
  if (decide ((2880 : Int) < (IntKind.i64.wrap (a4 + r7)))) then (
  some (0 : Int))
  else (
  (E7 a0 a4).bind fun r9 =>
  K9 a2 a0 a1 a3 (IntKind.i64.wrap (a4 + r7)) bigN r9 a4))
 else (
  some (0 : Int)))
 else (
 some (0 : Int)))
else (
 some (0 : Int))
/- impl_PicksOk -/
def O1 (a0 : List Int) : Nat → Int → Option Bool
| 0,_ => none
| n + 1,v3 =>
 if (decide (v3 < (a0.length : Int))) then (
 (ix a0 v3).bind fun x5 =>
 (C5 x5 (0 : Int) (1000 : Int)).bind fun r6 =>
 if r6 then (
  O1 a0 n (IntKind.i64.wrap (v3 + (1 : Int))))
 else (
  some false))
 else (
 some true)
def A0w (a0 : List Int) : Option Bool :=
(C5 (a0.length : Int) (1 : Int) (48 : Int)).bind fun r1 =>
if r1 then (
 O1 a0 bigN (0 : Int))
else (
 some false)
/- impl_passageOk -/
def Y3 (a0 : XChart) (a1 : List XShip) (a2 : XPassage) : Option Bool :=
(C7 a2.Ship (a1.length : Int)).bind fun r1 =>
if r1 then (
 (C7 a2.Segment (a0.Segments.length : Int)).bind fun r3 =>
 if r3 then (
 (G3 a2.Start).bind fun r5 =>
 if r5 then (
  if (decide ((2880 : Int) < a2.End)) then (
  some false)
  else (
  (ix a1 a2.Ship).bind fun x8 =>
  (ix a0.Segments a2.Segment).bind fun x9 =>
  (G5 x8 x9).bind fun r10 =>
  some (a2.End == (IntKind.i64.wrap (a2.Start + r10)))))
 else (
  some false))
 else (
 some false))
else (
 some false)
/- impl_Forecast_high -/
def P9 (a0 : XForecast) (a1 : Int) : Option Int :=
(V8 a0.Tide a1).bind fun r1 =>
(O6 a0 a1).bind fun r2 =>
(ix a0.Surges r2).bind fun x3 =>
some (IntKind.i64.wrap (r1 + x3.High))
/- impl_pickOf -/
def A2l (a0 : List Int) (a1 : Int) : Option Int :=
(ix a0 (if (IntKind.i64.wrap ((a0.length : Int) - (1 : Int))) < a1 then (IntKind.i64.wrap ((a0.length : Int) - (1 : Int))) else a1)).bind fun x1 =>
some x1
/- impl_levelOn -/
def O9 (a0 : XForecast) (a1 : List Int) (a2 : Int) : Option Int :=
(E7 a0 a2).bind fun r1 =>
(P9 a0 a2).bind fun r2 =>
(A2l a1 (IntKind.i64.wrap (Int.tdiv a2 (60 : Int)))).bind fun r3 =>
some (IntKind.i64.wrap (r1 + (IntKind.i64.wrap (Int.tdiv (IntKind.i64.wrap ((IntKind.i64.wrap (r2 - r1)) * r3)) (1000 : Int)))))
/- impl_ClearanceOn -/
def J4 (a2 : List Int) (a0 : XHarbour) (a1 : XPassage) : Nat → Int → Int → Option (Int × Bool)
| 0,_,_ => none
| n + 1,v10,v11 =>
 if (decide (v11 ≤ a1.End)) then (
 (O9 a0.Forecast a2 v11).bind fun r13 =>
 J4 a2 a0 a1 n (if r13 < v10 then r13 else v10) (IntKind.i64.wrap (v11 + (1 : Int))))
 else (
 (ix a0.Fleet a1.Ship).bind fun x14 =>
 (H4 a0.Chart a1.Segment x14).bind fun r15 =>
 some ((IntKind.i64.wrap (v10 - r15)),true))
def M5 (a2 : List Int) (a0 : XHarbour) (a1 : XPassage) (v6 : Bool) : Option (Int × Bool) :=
if v6 then (
 some ((0 : Int),false))
else (
 (O9 a0.Forecast a2 a1.Start).bind fun r9 =>
 J4 a2 a0 a1 bigN r9 a1.Start)
def H3 (a0 : XHarbour) (a1 : XPassage) (a2 : List Int) : Option (Int × Bool) :=
(S9 a0).bind fun r1 =>
if r1 then (
 (A0w a2).bind fun r3 =>
 if r3 then (
 (Y3 a0.Chart a0.Fleet a1).bind fun r5 =>
 M5 a2 a0 a1 (!r5))
 else (
 M5 a2 a0 a1 true))
else (
 M5 a2 a0 a1 true)
/- impl_sailOn -/
def P4 (a1 : Int) (a3 : List Int) (a0 : XHarbour) (a2 : XPassage) : Nat → Int → Option (Option Xgrounded)
| 0,_ => none
| n + 1,v4 =>
 if (decide (v4 ≤ a2.End)) then (
 (O9 a0.Forecast a3 v4).bind fun r6 =>
 (ix a0.Fleet a2.Ship).bind fun x7 =>
 (H4 a0.Chart a2.Segment x7).bind fun r9 =>
 if (decide (r6 < r9)) then (
  some (some (⟨a1,v4⟩ : Xgrounded)))
 else (
  P4 a1 a3 a0 a2 n (IntKind.i64.wrap (v4 + (1 : Int)))))
 else (
 some (none : Option Xgrounded))
def A1e (a0 : XHarbour) (a1 : Int) (a2 : XPassage) (a3 : List Int) : Option (Option Xgrounded) :=
(H3 a0 a2 a3).bind fun r1 =>
if r1.2 then (
 if (decide ((0 : Int) ≤ r1.1)) then (
 some (none : Option Xgrounded))
 else (
 P4 a1 a3 a0 a2 bigN a2.Start))
else (
 some (none : Option Xgrounded))
/- impl_FirstGrounding -/
def M8 (a2 : List Int) (a0 : XHarbour) (v1 : Int) (a1 : List XOption) (x3 : XOption) (k_impl_FirstGrounding_1 : Int → Option (Int × Int)) : Nat → Int → Option (Int × Int)
| 0,_ => none
| n + 1,v4 =>
 if (decide (v4 < (x3.Passages.length : Int))) then (
 (ix x3.Passages v4).bind fun x6 =>
 (A1e a0 v1 x6 a2).bind fun r7 =>
 if r7.isSome then (
  (r7).bind fun y9 =>
  some (y9.option,y9.minute))
 else (
  M8 a2 a0 v1 a1 x3 k_impl_FirstGrounding_1 n (IntKind.i64.wrap (v4 + (1 : Int)))))
 else (
 k_impl_FirstGrounding_1 (IntKind.i64.wrap (v1 + (1 : Int))))
def J2 (a2 : List Int) (a0 : XHarbour) (a1 : List XOption) : Nat → Int → Option (Int × Int)
| 0,_ => none
| n + 1,v1 =>
 if (decide (v1 < (a1.length : Int))) then (
 (ix a1 v1).bind fun x3 =>
 M8 a2 a0 v1 a1 x3 (J2 a2 a0 a1 n) bigN (0 : Int))
 else (
 some ((-1 : Int),(-1 : Int)))
def O5 (a0 : XHarbour) (a1 : List XOption) (a2 : List Int) : Option (Int × Int) :=
J2 a2 a0 a1 bigN (0 : Int)
/- impl_HoldsOn -/
def X3 (a2 : List Int) (a1 : List XOption) (v1 : Int) (x3 : XOption) (a0 : XHarbour) (k_impl_HoldsOn_1 : Int → Option Bool) : Nat → Int → Option Bool
| 0,_ => none
| n + 1,v4 =>
 if (decide (v4 < (x3.Passages.length : Int))) then (
 (ix x3.Passages v4).bind fun x6 =>
 (H3 a0 x6 a2).bind fun r7 =>
 if r7.2 then (
  if (decide (r7.1 < (0 : Int))) then (
  some false)
  else (
  X3 a2 a1 v1 x3 a0 k_impl_HoldsOn_1 n (IntKind.i64.wrap (v4 + (1 : Int)))))
 else (
  some false))
 else (
 k_impl_HoldsOn_1 (IntKind.i64.wrap (v1 + (1 : Int))))
def S5 (a2 : List Int) (a1 : List XOption) (a0 : XHarbour) : Nat → Int → Option Bool
| 0,_ => none
| n + 1,v1 =>
 if (decide (v1 < (a1.length : Int))) then (
 (ix a1 v1).bind fun x3 =>
 X3 a2 a1 v1 x3 a0 (S5 a2 a1 a0 n) bigN (0 : Int))
 else (
 some true)
def A0n (a0 : XHarbour) (a1 : List XOption) (a2 : List Int) : Option Bool :=
S5 a2 a1 a0 bigN (0 : Int)
/- laws_FnGrounded -/
def R4 (r3 : (List XOption)) (x8 : XOption) (r12 : Int) (r2 : XHarbour × XCall) (v14 : Bool) : Option Bool :=
if v14 then (
 some (decide ((2000 : Int) ≤ r12)))
else (
 if E1 ([] : List XShip).length r2.1.Fleet.length 56 then (
 (ix r2.1.Fleet r2.2.Ship).bind fun x17 =>
 (ix x8.Passages (0 : Int)).bind fun x18 =>
 (H3 (⟨r2.1.Forecast,r2.1.Chart,(r2.1.Fleet.set (Int.toNat r2.2.Ship) (⟨x17.Name,x17.Length,r12,x17.Line,x17.Tugs,x17.Slow⟩ : XShip)),r2.1.Regime,r2.1.Crew⟩ : XHarbour) x18 ([(0 : Int)] : List Int)).bind fun r19 =>
 (ix (r2.1.Fleet.set (Int.toNat r2.2.Ship) (⟨x17.Name,x17.Length,r12,x17.Line,x17.Tugs,x17.Slow⟩ : XShip)) r2.2.Ship).bind fun x20 =>
 (H3 (⟨r2.1.Forecast,r2.1.Chart,((r2.1.Fleet.set (Int.toNat r2.2.Ship) (⟨x17.Name,x17.Length,r12,x17.Line,x17.Tugs,x17.Slow⟩ : XShip)).set (Int.toNat r2.2.Ship) (⟨x20.Name,x20.Length,(IntKind.i64.wrap (r12 + (1 : Int))),x20.Line,x20.Tugs,x20.Slow⟩ : XShip)),r2.1.Regime,r2.1.Crew⟩ : XHarbour) x18 ([(0 : Int)] : List Int)).bind fun r21 =>
 (bnd (r3.length : Int) (1 : Int) (0 : Int) r3.length).bind fun p22 =>
 (O5 (⟨r2.1.Forecast,r2.1.Chart,((r2.1.Fleet.set (Int.toNat r2.2.Ship) (⟨x17.Name,x17.Length,r12,x17.Line,x17.Tugs,x17.Slow⟩ : XShip)).set (Int.toNat r2.2.Ship) (⟨x20.Name,x20.Length,(IntKind.i64.wrap (r12 + (1 : Int))),x20.Line,x20.Tugs,x20.Slow⟩ : XShip)),r2.1.Regime,r2.1.Crew⟩ : XHarbour) ((r3.drop p22.1).take (p22.2 - p22.1)) ([(0 : Int)] : List Int)).bind fun r23 =>
 if r19.2 then (
  if r21.2 then (
  if (decide ((0 : Int) ≤ r19.1)) then (
   if (decide (r21.1 < (0 : Int))) then (
   if (r23.1 == (0 : Int)) then (
    if (decide (x18.Start ≤ r23.2)) then (
    if (decide (r23.2 ≤ x18.End)) then (
     (A0n (⟨r2.1.Forecast,r2.1.Chart,((r2.1.Fleet.set (Int.toNat r2.2.Ship) (⟨x17.Name,x17.Length,r12,x17.Line,x17.Tugs,x17.Slow⟩ : XShip)).set (Int.toNat r2.2.Ship) (⟨x20.Name,x20.Length,(IntKind.i64.wrap (r12 + (1 : Int))),x20.Line,x20.Tugs,x20.Slow⟩ : XShip)),r2.1.Regime,r2.1.Crew⟩ : XHarbour) ((r3.drop p22.1).take (p22.2 - p22.1)) ([(0 : Int)] : List Int)).bind fun r31 =>
     some (!r31))
    else (
     some false))
    else (
    some false))
   else (
    some false))
   else (
   some false))
  else (
   some false))
  else (
  some false))
 else (
  some false))
 else none)
def A0j (a0 : List Int) : Option Bool :=
if (decide ((1048576 : Int) < (a0.length : Int))) then (
 some true)
else (
 (A0d a0).bind fun r2 =>
 (S4 r2.1 r2.2).bind fun r3 =>
 (U9 r2.1 r2.2).bind fun r4 =>
 if r4 then (
 if ((r3.length : Int) == (0 : Int)) then (
  (A13 r2.1 r2.2).bind fun r7 =>
  some (r7 == (-1 : Int)))
 else (
  (ix r3 (0 : Int)).bind fun x8 =>
  if ((x8.Passages.length : Int) == (0 : Int)) then (
  some false)
  else (
  (ix x8.Passages (0 : Int)).bind fun x10 =>
  (ix r2.1.Fleet r2.2.Ship).bind fun x11 =>
  (V0 r2.1.Forecast r2.1.Chart x10.Segment x11 x10.Start).bind fun r12 =>
  if (decide (r12 < x11.Draught)) then (
   R4 r3 x8 r12 r2 true)
  else (
   R4 r3 x8 r12 r2 (decide ((2000 : Int) ≤ r12))))))
 else (
 some false))
end Go.Vi
