/-
  Plain definitions of functions, by program. No condition.
-/
import Derived.Test.YtoipbdhhdpgdkaaGreatDoorCVi35
import Derived.Test.YtoipbdhhdpgdkaaGreatDoorCLa
namespace Go.Vi
set_option linter.unusedSimpArgs false
set_option linter.unusedVariables false
set_option linter.defProp false
def shrV (k : IntKind) (x : Int) (n : Nat) : Int := k.wrap (x.fdiv (2 ^ min n k.bits))
theorem bin_shr_u648 {k : IntKind} {x : Int} : binV .shr (.v (.sc (.dat (.int k x)))) (.v (.sc (.dat (.int .u64 8)))) = some (.v (.sc (.dat (.int k (shrV k x 8))))) := by simp [binV,intV,shrV]
theorem int_shr_u648 {k : IntKind} {x : Int} : intV .shr k x 8 = some (.int k (shrV k x 8)) := by simp [intV,shrV]
theorem bin_shr_u6416 {k : IntKind} {x : Int} : binV .shr (.v (.sc (.dat (.int k x)))) (.v (.sc (.dat (.int .u64 16)))) = some (.v (.sc (.dat (.int k (shrV k x 16))))) := by simp [binV,intV,shrV]
theorem int_shr_u6416 {k : IntKind} {x : Int} : intV .shr k x 16 = some (.int k (shrV k x 16)) := by simp [intV,shrV]
theorem bin_shr_u6432 {k : IntKind} {x : Int} : binV .shr (.v (.sc (.dat (.int k x)))) (.v (.sc (.dat (.int .u64 32)))) = some (.v (.sc (.dat (.int k (shrV k x 32))))) := by simp [binV,intV,shrV]
theorem int_shr_u6432 {k : IntKind} {x : Int} : intV .shr k x 32 = some (.int k (shrV k x 32)) := by simp [intV,shrV]
structure XAny where
 isS : Bool
 s : List UInt8
 n : Int
 deriving DecidableEq
def anyD (x : XAny) : D := .ifc (bif x.isS then 9 else 3) (bif x.isS then .str x.s else .int .i64 x.n)
theorem any_t {t : TypeId} {zc : AC} {x : XAny} : tassV t zc (.v (.sc (.dat (anyD x)))) = tassV t zc (.v (.sc (.dat (.ifc (bif x.isS then 9 else 3) (bif x.isS then .str x.s else .int .i64 x.n))))) := rfl
def rA (x : XAny) : List D := [anyD x]
theorem rA_eq (x : XAny) : rA x = [anyD x] := rfl
instance : Row rA 1 := ⟨fun _ => rfl,Nat.le_of_ble_eq_true rfl⟩
structure XPart where
 Amp : Int
 Period : Int
 Phase : Int
 deriving DecidableEq
def XPart.row (x : XPart) : List D := [.int .i64 x.Amp,.int .i64 x.Period,.int .i64 x.Phase]
theorem XPart.row_eq (x : XPart) : XPart.row x = [.int .i64 x.Amp,.int .i64 x.Period,.int .i64 x.Phase] := rfl
instance : Row XPart.row 3 := ⟨fun _ => rfl,Nat.le_of_ble_eq_true rfl⟩
instance : FlatRow XPart.row := ⟨fun x d hd => by simp only [XPart.row_eq,List.mem_cons,List.not_mem_nil,or_false] at hd; rcases hd with rfl | rfl | rfl <;> rfl⟩
instance : OfTy (.st [(.int .i64),(.int .i64),(.int .i64)]) XPart.row := ⟨fun ds h => by
 obtain ⟨a0,b0,h0,t0,rfl⟩ := h
 obtain ⟨a1,b1,h1,t1,rfl⟩ := t0
 obtain ⟨a2,b2,h2,t2,rfl⟩ := t1
 obtain rfl := t2
 obtain ⟨x0,rfl⟩ := OfTy.of (row := rI) _ h0
 obtain ⟨x1,rfl⟩ := OfTy.of (row := rI) _ h1
 obtain ⟨x2,rfl⟩ := OfTy.of (row := rI) _ h2
 exact ⟨⟨x0,x1,x2⟩,rfl⟩⟩
structure XTide where
 Mean : Int
 Parts : List XPart
 deriving DecidableEq
def XTide.row (x : XTide) : List D := [.int .i64 x.Mean,.sl (List.map XPart.row x.Parts)]
theorem XTide.row_eq (x : XTide) : XTide.row x = [.int .i64 x.Mean,.sl (List.map XPart.row x.Parts)] := rfl
instance : Row XTide.row 2 := ⟨fun _ => rfl,Nat.le_of_ble_eq_true rfl⟩
instance : OfTy (.st [(.int .i64),(.sl (.st [(.int .i64),(.int .i64),(.int .i64)]))]) XTide.row := ⟨fun ds h => by
 obtain ⟨a0,b0,h0,t0,rfl⟩ := h
 obtain ⟨a1,b1,h1,t1,rfl⟩ := t0
 obtain rfl := t1
 obtain ⟨x0,rfl⟩ := OfTy.of (row := rI) _ h0
 obtain ⟨x1,rfl⟩ := OfTy.of (row := (rL XPart.row)) _ h1
 exact ⟨⟨x0,x1⟩,rfl⟩⟩
structure XSurge where
 From : Int
 Low : Int
 High : Int
 deriving DecidableEq
def XSurge.row (x : XSurge) : List D := [.int .i64 x.From,.int .i64 x.Low,.int .i64 x.High]
theorem XSurge.row_eq (x : XSurge) : XSurge.row x = [.int .i64 x.From,.int .i64 x.Low,.int .i64 x.High] := rfl
instance : Row XSurge.row 3 := ⟨fun _ => rfl,Nat.le_of_ble_eq_true rfl⟩
instance : FlatRow XSurge.row := ⟨fun x d hd => by simp only [XSurge.row_eq,List.mem_cons,List.not_mem_nil,or_false] at hd; rcases hd with rfl | rfl | rfl <;> rfl⟩
instance : OfTy (.st [(.int .i64),(.int .i64),(.int .i64)]) XSurge.row := ⟨fun ds h => by
 obtain ⟨a0,b0,h0,t0,rfl⟩ := h
 obtain ⟨a1,b1,h1,t1,rfl⟩ := t0
 obtain ⟨a2,b2,h2,t2,rfl⟩ := t1
 obtain rfl := t2
 obtain ⟨x0,rfl⟩ := OfTy.of (row := rI) _ h0
 obtain ⟨x1,rfl⟩ := OfTy.of (row := rI) _ h1
 obtain ⟨x2,rfl⟩ := OfTy.of (row := rI) _ h2
 exact ⟨⟨x0,x1,x2⟩,rfl⟩⟩
structure XForecast where
 Tide : XTide
 Surges : List XSurge
 deriving DecidableEq
def XForecast.row (x : XForecast) : List D := [.int .i64 x.Tide.Mean,.sl (List.map XPart.row x.Tide.Parts),.sl (List.map XSurge.row x.Surges)]
theorem XForecast.row_eq (x : XForecast) : XForecast.row x = [.int .i64 x.Tide.Mean,.sl (List.map XPart.row x.Tide.Parts),.sl (List.map XSurge.row x.Surges)] := rfl
instance : Row XForecast.row 3 := ⟨fun _ => rfl,Nat.le_of_ble_eq_true rfl⟩
instance : OfTy (.st [(.st [(.int .i64),(.sl (.st [(.int .i64),(.int .i64),(.int .i64)]))]),(.sl (.st [(.int .i64),(.int .i64),(.int .i64)]))]) XForecast.row := ⟨fun ds h => by
 obtain ⟨a0,b0,h0,t0,rfl⟩ := h
 obtain ⟨a1,b1,h1,t1,rfl⟩ := t0
 obtain rfl := t1
 obtain ⟨x0,rfl⟩ := OfTy.of (row := XTide.row) _ h0
 obtain ⟨x1,rfl⟩ := OfTy.of (row := (rL XSurge.row)) _ h1
 exact ⟨⟨x0,x1⟩,rfl⟩⟩
structure XPoint where
 Name : List UInt8
 Wait : Bool
 deriving DecidableEq
def XPoint.row (x : XPoint) : List D := [.str x.Name,.bool x.Wait]
theorem XPoint.row_eq (x : XPoint) : XPoint.row x = [.str x.Name,.bool x.Wait] := rfl
instance : Row XPoint.row 2 := ⟨fun _ => rfl,Nat.le_of_ble_eq_true rfl⟩
instance : FlatRow XPoint.row := ⟨fun x d hd => by simp only [XPoint.row_eq,List.mem_cons,List.not_mem_nil,or_false] at hd; rcases hd with rfl | rfl <;> rfl⟩
instance : OfTy (.st [.str,.bool]) XPoint.row := ⟨fun ds h => by
 obtain ⟨a0,b0,h0,t0,rfl⟩ := h
 obtain ⟨a1,b1,h1,t1,rfl⟩ := t0
 obtain rfl := t1
 obtain ⟨x0,rfl⟩ := OfTy.of (row := rS) _ h0
 obtain ⟨x1,rfl⟩ := OfTy.of (row := rB) _ h1
 exact ⟨⟨x0,x1⟩,rfl⟩⟩
structure XSegment where
 A : Int
 B : Int
 Depth : Int
 Minutes : Int
 Meet : Bool
 deriving DecidableEq
def XSegment.row (x : XSegment) : List D := [.int .i64 x.A,.int .i64 x.B,.int .i64 x.Depth,.int .i64 x.Minutes,.bool x.Meet]
theorem XSegment.row_eq (x : XSegment) : XSegment.row x = [.int .i64 x.A,.int .i64 x.B,.int .i64 x.Depth,.int .i64 x.Minutes,.bool x.Meet] := rfl
instance : Row XSegment.row 5 := ⟨fun _ => rfl,Nat.le_of_ble_eq_true rfl⟩
instance : FlatRow XSegment.row := ⟨fun x d hd => by simp only [XSegment.row_eq,List.mem_cons,List.not_mem_nil,or_false] at hd; rcases hd with rfl | rfl | rfl | rfl | rfl <;> rfl⟩
instance : OfTy (.st [(.int .i64),(.int .i64),(.int .i64),(.int .i64),.bool]) XSegment.row := ⟨fun ds h => by
 obtain ⟨a0,b0,h0,t0,rfl⟩ := h
 obtain ⟨a1,b1,h1,t1,rfl⟩ := t0
 obtain ⟨a2,b2,h2,t2,rfl⟩ := t1
 obtain ⟨a3,b3,h3,t3,rfl⟩ := t2
 obtain ⟨a4,b4,h4,t4,rfl⟩ := t3
 obtain rfl := t4
 obtain ⟨x0,rfl⟩ := OfTy.of (row := rI) _ h0
 obtain ⟨x1,rfl⟩ := OfTy.of (row := rI) _ h1
 obtain ⟨x2,rfl⟩ := OfTy.of (row := rI) _ h2
 obtain ⟨x3,rfl⟩ := OfTy.of (row := rI) _ h3
 obtain ⟨x4,rfl⟩ := OfTy.of (row := rB) _ h4
 exact ⟨⟨x0,x1,x2,x3,x4⟩,rfl⟩⟩
structure XChart where
 Points : List XPoint
 Segments : List XSegment
 deriving DecidableEq
def XChart.row (x : XChart) : List D := [.sl (List.map XPoint.row x.Points),.sl (List.map XSegment.row x.Segments)]
theorem XChart.row_eq (x : XChart) : XChart.row x = [.sl (List.map XPoint.row x.Points),.sl (List.map XSegment.row x.Segments)] := rfl
instance : Row XChart.row 2 := ⟨fun _ => rfl,Nat.le_of_ble_eq_true rfl⟩
instance : OfTy (.st [(.sl (.st [.str,.bool])),(.sl (.st [(.int .i64),(.int .i64),(.int .i64),(.int .i64),.bool]))]) XChart.row := ⟨fun ds h => by
 obtain ⟨a0,b0,h0,t0,rfl⟩ := h
 obtain ⟨a1,b1,h1,t1,rfl⟩ := t0
 obtain rfl := t1
 obtain ⟨x0,rfl⟩ := OfTy.of (row := (rL XPoint.row)) _ h0
 obtain ⟨x1,rfl⟩ := OfTy.of (row := (rL XSegment.row)) _ h1
 exact ⟨⟨x0,x1⟩,rfl⟩⟩
structure XShip where
 Name : List UInt8
 Length : Int
 Draught : Int
 Line : Int
 Tugs : Int
 Slow : Bool
 deriving DecidableEq
def XShip.row (x : XShip) : List D := [.str x.Name,.int .i64 x.Length,.int .i64 x.Draught,.int .i64 x.Line,.int .i64 x.Tugs,.bool x.Slow]
theorem XShip.row_eq (x : XShip) : XShip.row x = [.str x.Name,.int .i64 x.Length,.int .i64 x.Draught,.int .i64 x.Line,.int .i64 x.Tugs,.bool x.Slow] := rfl
instance : Row XShip.row 6 := ⟨fun _ => rfl,Nat.le_of_ble_eq_true rfl⟩
instance : FlatRow XShip.row := ⟨fun x d hd => by simp only [XShip.row_eq,List.mem_cons,List.not_mem_nil,or_false] at hd; rcases hd with rfl | rfl | rfl | rfl | rfl | rfl <;> rfl⟩
instance : OfTy (.st [.str,(.int .i64),(.int .i64),(.int .i64),(.int .i64),.bool]) XShip.row := ⟨fun ds h => by
 obtain ⟨a0,b0,h0,t0,rfl⟩ := h
 obtain ⟨a1,b1,h1,t1,rfl⟩ := t0
 obtain ⟨a2,b2,h2,t2,rfl⟩ := t1
 obtain ⟨a3,b3,h3,t3,rfl⟩ := t2
 obtain ⟨a4,b4,h4,t4,rfl⟩ := t3
 obtain ⟨a5,b5,h5,t5,rfl⟩ := t4
 obtain rfl := t5
 obtain ⟨x0,rfl⟩ := OfTy.of (row := rS) _ h0
 obtain ⟨x1,rfl⟩ := OfTy.of (row := rI) _ h1
 obtain ⟨x2,rfl⟩ := OfTy.of (row := rI) _ h2
 obtain ⟨x3,rfl⟩ := OfTy.of (row := rI) _ h3
 obtain ⟨x4,rfl⟩ := OfTy.of (row := rI) _ h4
 obtain ⟨x5,rfl⟩ := OfTy.of (row := rB) _ h5
 exact ⟨⟨x0,x1,x2,x3,x4,x5⟩,rfl⟩⟩
structure XRegime where
 Gap : Int
 NoMeet : Bool
 deriving DecidableEq
def XRegime.row (x : XRegime) : List D := [.int .i64 x.Gap,.bool x.NoMeet]
theorem XRegime.row_eq (x : XRegime) : XRegime.row x = [.int .i64 x.Gap,.bool x.NoMeet] := rfl
instance : Row XRegime.row 2 := ⟨fun _ => rfl,Nat.le_of_ble_eq_true rfl⟩
instance : FlatRow XRegime.row := ⟨fun x d hd => by simp only [XRegime.row_eq,List.mem_cons,List.not_mem_nil,or_false] at hd; rcases hd with rfl | rfl <;> rfl⟩
instance : OfTy (.st [(.int .i64),.bool]) XRegime.row := ⟨fun ds h => by
 obtain ⟨a0,b0,h0,t0,rfl⟩ := h
 obtain ⟨a1,b1,h1,t1,rfl⟩ := t0
 obtain rfl := t1
 obtain ⟨x0,rfl⟩ := OfTy.of (row := rI) _ h0
 obtain ⟨x1,rfl⟩ := OfTy.of (row := rB) _ h1
 exact ⟨⟨x0,x1⟩,rfl⟩⟩
structure XCrew where
 Tugs : Int
 Pilots : Int
 Rest : Int
 Moves : List Int
 deriving DecidableEq
def XCrew.row (x : XCrew) : List D := [.int .i64 x.Tugs,.int .i64 x.Pilots,.int .i64 x.Rest,.sl (List.map rI x.Moves)]
theorem XCrew.row_eq (x : XCrew) : XCrew.row x = [.int .i64 x.Tugs,.int .i64 x.Pilots,.int .i64 x.Rest,.sl (List.map rI x.Moves)] := rfl
instance : Row XCrew.row 4 := ⟨fun _ => rfl,Nat.le_of_ble_eq_true rfl⟩
instance : OfTy (.st [(.int .i64),(.int .i64),(.int .i64),(.sl (.int .i64))]) XCrew.row := ⟨fun ds h => by
 obtain ⟨a0,b0,h0,t0,rfl⟩ := h
 obtain ⟨a1,b1,h1,t1,rfl⟩ := t0
 obtain ⟨a2,b2,h2,t2,rfl⟩ := t1
 obtain ⟨a3,b3,h3,t3,rfl⟩ := t2
 obtain rfl := t3
 obtain ⟨x0,rfl⟩ := OfTy.of (row := rI) _ h0
 obtain ⟨x1,rfl⟩ := OfTy.of (row := rI) _ h1
 obtain ⟨x2,rfl⟩ := OfTy.of (row := rI) _ h2
 obtain ⟨x3,rfl⟩ := OfTy.of (row := (rL rI)) _ h3
 exact ⟨⟨x0,x1,x2,x3⟩,rfl⟩⟩
structure XHarbour where
 Forecast : XForecast
 Chart : XChart
 Fleet : List XShip
 Regime : XRegime
 Crew : XCrew
 deriving DecidableEq
def XHarbour.row (x : XHarbour) : List D := [.int .i64 x.Forecast.Tide.Mean,.sl (List.map XPart.row x.Forecast.Tide.Parts),.sl (List.map XSurge.row x.Forecast.Surges),.sl (List.map XPoint.row x.Chart.Points),.sl (List.map XSegment.row x.Chart.Segments),.sl (List.map XShip.row x.Fleet),.int .i64 x.Regime.Gap,.bool x.Regime.NoMeet,.int .i64 x.Crew.Tugs,.int .i64 x.Crew.Pilots,.int .i64 x.Crew.Rest,.sl (List.map rI x.Crew.Moves)]
theorem XHarbour.row_eq (x : XHarbour) : XHarbour.row x = [.int .i64 x.Forecast.Tide.Mean,.sl (List.map XPart.row x.Forecast.Tide.Parts),.sl (List.map XSurge.row x.Forecast.Surges),.sl (List.map XPoint.row x.Chart.Points),.sl (List.map XSegment.row x.Chart.Segments),.sl (List.map XShip.row x.Fleet),.int .i64 x.Regime.Gap,.bool x.Regime.NoMeet,.int .i64 x.Crew.Tugs,.int .i64 x.Crew.Pilots,.int .i64 x.Crew.Rest,.sl (List.map rI x.Crew.Moves)] := rfl
instance : Row XHarbour.row 12 := ⟨fun _ => rfl,Nat.le_of_ble_eq_true rfl⟩
instance : OfTy (.st [(.st [(.st [(.int .i64),(.sl (.st [(.int .i64),(.int .i64),(.int .i64)]))]),(.sl (.st [(.int .i64),(.int .i64),(.int .i64)]))]),(.st [(.sl (.st [.str,.bool])),(.sl (.st [(.int .i64),(.int .i64),(.int .i64),(.int .i64),.bool]))]),(.sl (.st [.str,(.int .i64),(.int .i64),(.int .i64),(.int .i64),.bool])),(.st [(.int .i64),.bool]),(.st [(.int .i64),(.int .i64),(.int .i64),(.sl (.int .i64))])]) XHarbour.row := ⟨fun ds h => by
 obtain ⟨a0,b0,h0,t0,rfl⟩ := h
 obtain ⟨a1,b1,h1,t1,rfl⟩ := t0
 obtain ⟨a2,b2,h2,t2,rfl⟩ := t1
 obtain ⟨a3,b3,h3,t3,rfl⟩ := t2
 obtain ⟨a4,b4,h4,t4,rfl⟩ := t3
 obtain rfl := t4
 obtain ⟨x0,rfl⟩ := OfTy.of (row := XForecast.row) _ h0
 obtain ⟨x1,rfl⟩ := OfTy.of (row := XChart.row) _ h1
 obtain ⟨x2,rfl⟩ := OfTy.of (row := (rL XShip.row)) _ h2
 obtain ⟨x3,rfl⟩ := OfTy.of (row := XRegime.row) _ h3
 obtain ⟨x4,rfl⟩ := OfTy.of (row := XCrew.row) _ h4
 exact ⟨⟨x0,x1,x2,x3,x4⟩,rfl⟩⟩
structure XPassage where
 Ship : Int
 Segment : Int
 Toward : Bool
 Start : Int
 End : Int
 deriving DecidableEq
def XPassage.row (x : XPassage) : List D := [.int .i64 x.Ship,.int .i64 x.Segment,.bool x.Toward,.int .i64 x.Start,.int .i64 x.End]
theorem XPassage.row_eq (x : XPassage) : XPassage.row x = [.int .i64 x.Ship,.int .i64 x.Segment,.bool x.Toward,.int .i64 x.Start,.int .i64 x.End] := rfl
instance : Row XPassage.row 5 := ⟨fun _ => rfl,Nat.le_of_ble_eq_true rfl⟩
instance : FlatRow XPassage.row := ⟨fun x d hd => by simp only [XPassage.row_eq,List.mem_cons,List.not_mem_nil,or_false] at hd; rcases hd with rfl | rfl | rfl | rfl | rfl <;> rfl⟩
instance : OfTy (.st [(.int .i64),(.int .i64),.bool,(.int .i64),(.int .i64)]) XPassage.row := ⟨fun ds h => by
 obtain ⟨a0,b0,h0,t0,rfl⟩ := h
 obtain ⟨a1,b1,h1,t1,rfl⟩ := t0
 obtain ⟨a2,b2,h2,t2,rfl⟩ := t1
 obtain ⟨a3,b3,h3,t3,rfl⟩ := t2
 obtain ⟨a4,b4,h4,t4,rfl⟩ := t3
 obtain rfl := t4
 obtain ⟨x0,rfl⟩ := OfTy.of (row := rI) _ h0
 obtain ⟨x1,rfl⟩ := OfTy.of (row := rI) _ h1
 obtain ⟨x2,rfl⟩ := OfTy.of (row := rB) _ h2
 obtain ⟨x3,rfl⟩ := OfTy.of (row := rI) _ h3
 obtain ⟨x4,rfl⟩ := OfTy.of (row := rI) _ h4
 exact ⟨⟨x0,x1,x2,x3,x4⟩,rfl⟩⟩
structure XOption where
 Start : Int
 Arrival : Int
 Cost : Int
 Passages : List XPassage
 deriving DecidableEq
def XOption.row (x : XOption) : List D := [.int .i64 x.Start,.int .i64 x.Arrival,.int .i64 x.Cost,.sl (List.map XPassage.row x.Passages)]
theorem XOption.row_eq (x : XOption) : XOption.row x = [.int .i64 x.Start,.int .i64 x.Arrival,.int .i64 x.Cost,.sl (List.map XPassage.row x.Passages)] := rfl
instance : Row XOption.row 4 := ⟨fun _ => rfl,Nat.le_of_ble_eq_true rfl⟩
instance : OfTy (.st [(.int .i64),(.int .i64),(.int .i64),(.sl (.st [(.int .i64),(.int .i64),.bool,(.int .i64),(.int .i64)]))]) XOption.row := ⟨fun ds h => by
 obtain ⟨a0,b0,h0,t0,rfl⟩ := h
 obtain ⟨a1,b1,h1,t1,rfl⟩ := t0
 obtain ⟨a2,b2,h2,t2,rfl⟩ := t1
 obtain ⟨a3,b3,h3,t3,rfl⟩ := t2
 obtain rfl := t3
 obtain ⟨x0,rfl⟩ := OfTy.of (row := rI) _ h0
 obtain ⟨x1,rfl⟩ := OfTy.of (row := rI) _ h1
 obtain ⟨x2,rfl⟩ := OfTy.of (row := rI) _ h2
 obtain ⟨x3,rfl⟩ := OfTy.of (row := (rL XPassage.row)) _ h3
 exact ⟨⟨x0,x1,x2,x3⟩,rfl⟩⟩
structure XDuty where
 From : Int
 To : Int
 A : Int
 B : Int
 deriving DecidableEq
def XDuty.row (x : XDuty) : List D := [.int .i64 x.From,.int .i64 x.To,.int .i64 x.A,.int .i64 x.B]
theorem XDuty.row_eq (x : XDuty) : XDuty.row x = [.int .i64 x.From,.int .i64 x.To,.int .i64 x.A,.int .i64 x.B] := rfl
instance : Row XDuty.row 4 := ⟨fun _ => rfl,Nat.le_of_ble_eq_true rfl⟩
instance : FlatRow XDuty.row := ⟨fun x d hd => by simp only [XDuty.row_eq,List.mem_cons,List.not_mem_nil,or_false] at hd; rcases hd with rfl | rfl | rfl | rfl <;> rfl⟩
instance : OfTy (.st [(.int .i64),(.int .i64),(.int .i64),(.int .i64)]) XDuty.row := ⟨fun ds h => by
 obtain ⟨a0,b0,h0,t0,rfl⟩ := h
 obtain ⟨a1,b1,h1,t1,rfl⟩ := t0
 obtain ⟨a2,b2,h2,t2,rfl⟩ := t1
 obtain ⟨a3,b3,h3,t3,rfl⟩ := t2
 obtain rfl := t3
 obtain ⟨x0,rfl⟩ := OfTy.of (row := rI) _ h0
 obtain ⟨x1,rfl⟩ := OfTy.of (row := rI) _ h1
 obtain ⟨x2,rfl⟩ := OfTy.of (row := rI) _ h2
 obtain ⟨x3,rfl⟩ := OfTy.of (row := rI) _ h3
 exact ⟨⟨x0,x1,x2,x3⟩,rfl⟩⟩
structure Xcoverer where
 sets : List Int
 most : Int
 groups : List Int
 who : List Int
 deriving DecidableEq
def Xcoverer.row (x : Xcoverer) : List D := [.sl (List.map rU x.sets),.int .i64 x.most,.sl (List.map rU x.groups),.sl (List.map rI x.who)]
theorem Xcoverer.row_eq (x : Xcoverer) : Xcoverer.row x = [.sl (List.map rU x.sets),.int .i64 x.most,.sl (List.map rU x.groups),.sl (List.map rI x.who)] := rfl
instance : Row Xcoverer.row 4 := ⟨fun _ => rfl,Nat.le_of_ble_eq_true rfl⟩
instance : OfTy (.st [(.sl (.int .u64)),(.int .i64),(.sl (.int .u64)),(.sl (.int .i64))]) Xcoverer.row := ⟨fun ds h => by
 obtain ⟨a0,b0,h0,t0,rfl⟩ := h
 obtain ⟨a1,b1,h1,t1,rfl⟩ := t0
 obtain ⟨a2,b2,h2,t2,rfl⟩ := t1
 obtain ⟨a3,b3,h3,t3,rfl⟩ := t2
 obtain rfl := t3
 obtain ⟨x0,rfl⟩ := OfTy.of (row := (rL rU)) _ h0
 obtain ⟨x1,rfl⟩ := OfTy.of (row := rI) _ h1
 obtain ⟨x2,rfl⟩ := OfTy.of (row := (rL rU)) _ h2
 obtain ⟨x3,rfl⟩ := OfTy.of (row := (rL rI)) _ h3
 exact ⟨⟨x0,x1,x2,x3⟩,rfl⟩⟩
def rowsX := And.intro @rI_eq (And.intro @bin_shr_u648 (And.intro @int_shr_u648 (And.intro @bin_shr_u6416 (And.intro @int_shr_u6416 (And.intro @bin_shr_u6432 (And.intro @int_shr_u6432 (And.intro @any_t (And.intro @rA_eq (And.intro @XPart.row_eq (And.intro @XTide.row_eq (And.intro @XSurge.row_eq (And.intro @XForecast.row_eq (And.intro @XPoint.row_eq (And.intro @XSegment.row_eq (And.intro @XChart.row_eq (And.intro @XShip.row_eq (And.intro @XRegime.row_eq (And.intro @XCrew.row_eq (And.intro @XHarbour.row_eq (And.intro @XPassage.row_eq (And.intro @XOption.row_eq (And.intro @XDuty.row_eq (@Xcoverer.row_eq)))))))))))))))))))))))
def RR := And.intro rules2 (And.intro rulesX (And.intro rulesZ rowsX))
/- laws_szPartS -/
def f_laws_szPartS (a0 : List XPart) (a1 : Int) : Option Int :=
if (decide ((IntKind.i64.wrap (a1 - (a0.length : Int))) < (0 : Int))) then (
 some (-1 : Int))
else (
 some (IntKind.i64.wrap (a1 - (a0.length : Int))))
/- laws_szTide -/
def f_laws_szTide (a0 : XTide) (a1 : Int) : Option Int :=
(f_laws_szPartS a0.Parts a1).bind fun r1 =>
if (decide (r1 < (0 : Int))) then (
 some (-1 : Int))
else (
 some r1)
/- laws_szSurgeS -/
def f_laws_szSurgeS (a0 : List XSurge) (a1 : Int) : Option Int :=
if (decide ((IntKind.i64.wrap (a1 - (a0.length : Int))) < (0 : Int))) then (
 some (-1 : Int))
else (
 some (IntKind.i64.wrap (a1 - (a0.length : Int))))
/- laws_szForecast -/
def f_laws_szForecast (a0 : XForecast) (a1 : Int) : Option Int :=
(f_laws_szTide a0.Tide a1).bind fun r1 =>
if (decide (r1 < (0 : Int))) then (
 some (-1 : Int))
else (
 (f_laws_szSurgeS a0.Surges r1).bind fun r3 =>
 if (decide (r3 < (0 : Int))) then (
 some (-1 : Int))
 else (
 some r3))
/- laws_szPoint -/
def f_laws_szPoint (a0 : XPoint) (a1 : Int) : Option Int :=
if (decide ((IntKind.i64.wrap (a1 - (a0.Name.length : Int))) < (0 : Int))) then (
 some (-1 : Int))
else (
 some (IntKind.i64.wrap (a1 - (a0.Name.length : Int))))
/- laws_szPointS -/
def f_laws_szPointS_1 (a0 : List XPoint) : Nat → Int → Int → Option Int
| 0,_,_ => none
| n + 1,v2,v3 =>
 if (decide (v3 < (a0.length : Int))) then (
 (ix a0 v3).bind fun x5 =>
 (f_laws_szPoint x5 v2).bind fun r6 =>
 if (decide (r6 < (0 : Int))) then (
  some (-1 : Int))
 else (
  f_laws_szPointS_1 a0 n r6 (IntKind.i64.wrap (v3 + (1 : Int)))))
 else (
 some v2)
def f_laws_szPointS (a0 : List XPoint) (a1 : Int) : Option Int :=
if (decide ((IntKind.i64.wrap (a1 - (a0.length : Int))) < (0 : Int))) then (
 some (-1 : Int))
else (
 f_laws_szPointS_1 a0 bigN (IntKind.i64.wrap (a1 - (a0.length : Int))) (0 : Int))
/- laws_szSegmentS -/
def f_laws_szSegmentS (a0 : List XSegment) (a1 : Int) : Option Int :=
if (decide ((IntKind.i64.wrap (a1 - (a0.length : Int))) < (0 : Int))) then (
 some (-1 : Int))
else (
 some (IntKind.i64.wrap (a1 - (a0.length : Int))))
/- laws_szChart -/
def f_laws_szChart (a0 : XChart) (a1 : Int) : Option Int :=
(f_laws_szPointS a0.Points a1).bind fun r1 =>
if (decide (r1 < (0 : Int))) then (
 some (-1 : Int))
else (
 (f_laws_szSegmentS a0.Segments r1).bind fun r3 =>
 if (decide (r3 < (0 : Int))) then (
 some (-1 : Int))
 else (
 some r3))
/- laws_szShip -/
def f_laws_szShip (a0 : XShip) (a1 : Int) : Option Int :=
if (decide ((IntKind.i64.wrap (a1 - (a0.Name.length : Int))) < (0 : Int))) then (
 some (-1 : Int))
else (
 some (IntKind.i64.wrap (a1 - (a0.Name.length : Int))))
/- laws_szShipS -/
def f_laws_szShipS_1 (a0 : List XShip) : Nat → Int → Int → Option Int
| 0,_,_ => none
| n + 1,v2,v3 =>
 if (decide (v3 < (a0.length : Int))) then (
 (ix a0 v3).bind fun x5 =>
 (f_laws_szShip x5 v2).bind fun r6 =>
 if (decide (r6 < (0 : Int))) then (
  some (-1 : Int))
 else (
  f_laws_szShipS_1 a0 n r6 (IntKind.i64.wrap (v3 + (1 : Int)))))
 else (
 some v2)
def f_laws_szShipS (a0 : List XShip) (a1 : Int) : Option Int :=
if (decide ((IntKind.i64.wrap (a1 - (a0.length : Int))) < (0 : Int))) then (
 some (-1 : Int))
else (
 f_laws_szShipS_1 a0 bigN (IntKind.i64.wrap (a1 - (a0.length : Int))) (0 : Int))
/- laws_szIntS -/
def f_laws_szIntS (a0 : List Int) (a1 : Int) : Option Int :=
if (decide ((IntKind.i64.wrap (a1 - (a0.length : Int))) < (0 : Int))) then (
 some (-1 : Int))
else (
 some (IntKind.i64.wrap (a1 - (a0.length : Int))))
/- laws_szCrew -/
def f_laws_szCrew (a0 : XCrew) (a1 : Int) : Option Int :=
(f_laws_szIntS a0.Moves a1).bind fun r1 =>
if (decide (r1 < (0 : Int))) then (
 some (-1 : Int))
else (
 some r1)
/- laws_szHarbour -/
def f_laws_szHarbour (a0 : XHarbour) (a1 : Int) : Option Int :=
(f_laws_szForecast a0.Forecast a1).bind fun r1 =>
if (decide (r1 < (0 : Int))) then (
 some (-1 : Int))
else (
 (f_laws_szChart a0.Chart r1).bind fun r3 =>
 if (decide (r3 < (0 : Int))) then (
 some (-1 : Int))
 else (
 (f_laws_szShipS a0.Fleet r3).bind fun r5 =>
 if (decide (r5 < (0 : Int))) then (
  some (-1 : Int))
 else (
  (f_laws_szCrew a0.Crew r5).bind fun r7 =>
  if (decide (r7 < (0 : Int))) then (
  some (-1 : Int))
  else (
  some r7))))
/- laws_szPassageS -/
def f_laws_szPassageS (a0 : List XPassage) (a1 : Int) : Option Int :=
if (decide ((IntKind.i64.wrap (a1 - (a0.length : Int))) < (0 : Int))) then (
 some (-1 : Int))
else (
 some (IntKind.i64.wrap (a1 - (a0.length : Int))))
/- laws_szOption -/
def f_laws_szOption (a0 : XOption) (a1 : Int) : Option Int :=
(f_laws_szPassageS a0.Passages a1).bind fun r1 =>
if (decide (r1 < (0 : Int))) then (
 some (-1 : Int))
else (
 some r1)
/- laws_szOptionS -/
def f_laws_szOptionS_1 (a0 : List XOption) : Nat → Int → Int → Option Int
| 0,_,_ => none
| n + 1,v2,v3 =>
 if (decide (v3 < (a0.length : Int))) then (
 (ix a0 v3).bind fun x5 =>
 (f_laws_szOption x5 v2).bind fun r6 =>
 if (decide (r6 < (0 : Int))) then (
  some (-1 : Int))
 else (
  f_laws_szOptionS_1 a0 n r6 (IntKind.i64.wrap (v3 + (1 : Int)))))
 else (
 some v2)
def f_laws_szOptionS (a0 : List XOption) (a1 : Int) : Option Int :=
if (decide ((IntKind.i64.wrap (a1 - (a0.length : Int))) < (0 : Int))) then (
 some (-1 : Int))
else (
 f_laws_szOptionS_1 a0 bigN (IntKind.i64.wrap (a1 - (a0.length : Int))) (0 : Int))
/- laws_toPart -/
def f_laws_toPart (a0 : XPart) : Option XPart :=
some a0
/- laws_toPartS -/
def f_laws_toPartS_1 (a0 : List XPart) : Nat → Int → (List XPart) → Option (List XPart)
| 0,_,_ => none
| n + 1,v2,v3 =>
 if (decide (v2 < (a0.length : Int))) then (
 (ix a0 v2).bind fun x5 =>
 (f_laws_toPart x5).bind fun r6 =>
 (ix v3 v2).bind fun x7 =>
 f_laws_toPartS_1 a0 n (IntKind.i64.wrap (v2 + (1 : Int))) (v3.set (Int.toNat v2) r6))
 else (
 some v3)
def f_laws_toPartS (a0 : List XPart) : Option (List XPart) :=
(mkS (a0.length : Int) (a0.length : Int) 24).bind fun n1 =>
f_laws_toPartS_1 a0 bigN (0 : Int) (List.replicate n1 (⟨(0 : Int),(0 : Int),(0 : Int)⟩ : XPart))
/- laws_toTide -/
def f_laws_toTide (a0 : XTide) : Option XTide :=
(f_laws_toPartS a0.Parts).bind fun r1 =>
some (⟨a0.Mean,r1⟩ : XTide)
/- laws_toSurge -/
def f_laws_toSurge (a0 : XSurge) : Option XSurge :=
some a0
/- laws_toSurgeS -/
def f_laws_toSurgeS_1 (a0 : List XSurge) : Nat → Int → (List XSurge) → Option (List XSurge)
| 0,_,_ => none
| n + 1,v2,v3 =>
 if (decide (v2 < (a0.length : Int))) then (
 (ix a0 v2).bind fun x5 =>
 (f_laws_toSurge x5).bind fun r6 =>
 (ix v3 v2).bind fun x7 =>
 f_laws_toSurgeS_1 a0 n (IntKind.i64.wrap (v2 + (1 : Int))) (v3.set (Int.toNat v2) r6))
 else (
 some v3)
def f_laws_toSurgeS (a0 : List XSurge) : Option (List XSurge) :=
(mkS (a0.length : Int) (a0.length : Int) 24).bind fun n1 =>
f_laws_toSurgeS_1 a0 bigN (0 : Int) (List.replicate n1 (⟨(0 : Int),(0 : Int),(0 : Int)⟩ : XSurge))
/- laws_toForecast -/
def f_laws_toForecast (a0 : XForecast) : Option XForecast :=
(f_laws_toTide a0.Tide).bind fun r1 =>
(f_laws_toSurgeS a0.Surges).bind fun r2 =>
some (⟨r1,r2⟩ : XForecast)
/- laws_toPoint -/
def f_laws_toPoint (a0 : XPoint) : Option XPoint :=
some a0
/- laws_toPointS -/
def f_laws_toPointS_1 (a0 : List XPoint) : Nat → Int → (List XPoint) → Option (List XPoint)
| 0,_,_ => none
| n + 1,v2,v3 =>
 if (decide (v2 < (a0.length : Int))) then (
 (ix a0 v2).bind fun x5 =>
 (f_laws_toPoint x5).bind fun r6 =>
 (ix v3 v2).bind fun x7 =>
 f_laws_toPointS_1 a0 n (IntKind.i64.wrap (v2 + (1 : Int))) (v3.set (Int.toNat v2) r6))
 else (
 some v3)
def f_laws_toPointS (a0 : List XPoint) : Option (List XPoint) :=
(mkS (a0.length : Int) (a0.length : Int) 24).bind fun n1 =>
f_laws_toPointS_1 a0 bigN (0 : Int) (List.replicate n1 (⟨([] : List UInt8),false⟩ : XPoint))
/- laws_toSegment -/
def f_laws_toSegment (a0 : XSegment) : Option XSegment :=
some a0
/- laws_toSegmentS -/
def f_laws_toSegmentS_1 (a0 : List XSegment) : Nat → Int → (List XSegment) → Option (List XSegment)
| 0,_,_ => none
| n + 1,v2,v3 =>
 if (decide (v2 < (a0.length : Int))) then (
 (ix a0 v2).bind fun x5 =>
 (f_laws_toSegment x5).bind fun r6 =>
 (ix v3 v2).bind fun x7 =>
 f_laws_toSegmentS_1 a0 n (IntKind.i64.wrap (v2 + (1 : Int))) (v3.set (Int.toNat v2) r6))
 else (
 some v3)
def f_laws_toSegmentS (a0 : List XSegment) : Option (List XSegment) :=
(mkS (a0.length : Int) (a0.length : Int) 40).bind fun n1 =>
f_laws_toSegmentS_1 a0 bigN (0 : Int) (List.replicate n1 (⟨(0 : Int),(0 : Int),(0 : Int),(0 : Int),false⟩ : XSegment))
/- laws_toChart -/
def f_laws_toChart (a0 : XChart) : Option XChart :=
(f_laws_toPointS a0.Points).bind fun r1 =>
(f_laws_toSegmentS a0.Segments).bind fun r2 =>
some (⟨r1,r2⟩ : XChart)
/- laws_toShip -/
def f_laws_toShip (a0 : XShip) : Option XShip :=
some a0
/- laws_toShipS -/
def f_laws_toShipS_1 (a0 : List XShip) : Nat → Int → (List XShip) → Option (List XShip)
| 0,_,_ => none
| n + 1,v2,v3 =>
 if (decide (v2 < (a0.length : Int))) then (
 (ix a0 v2).bind fun x5 =>
 (f_laws_toShip x5).bind fun r6 =>
 (ix v3 v2).bind fun x7 =>
 f_laws_toShipS_1 a0 n (IntKind.i64.wrap (v2 + (1 : Int))) (v3.set (Int.toNat v2) r6))
 else (
 some v3)
def f_laws_toShipS (a0 : List XShip) : Option (List XShip) :=
(mkS (a0.length : Int) (a0.length : Int) 56).bind fun n1 =>
f_laws_toShipS_1 a0 bigN (0 : Int) (List.replicate n1 (⟨([] : List UInt8),(0 : Int),(0 : Int),(0 : Int),(0 : Int),false⟩ : XShip))
/- laws_toRegime -/
def f_laws_toRegime (a0 : XRegime) : Option XRegime :=
some a0
/- laws_toIntS -/
def f_laws_toIntS_1 (a0 : List Int) : Nat → Int → (List Int) → Option (List Int)
| 0,_,_ => none
| n + 1,v2,v3 =>
 if (decide (v2 < (a0.length : Int))) then (
 (ix a0 v2).bind fun x5 =>
 (ix v3 v2).bind fun x6 =>
 f_laws_toIntS_1 a0 n (IntKind.i64.wrap (v2 + (1 : Int))) (v3.set (Int.toNat v2) x5))
 else (
 some v3)
def f_laws_toIntS (a0 : List Int) : Option (List Int) :=
(mkS (a0.length : Int) (a0.length : Int) 8).bind fun n1 =>
f_laws_toIntS_1 a0 bigN (0 : Int) (List.replicate n1 (0 : Int))
/- laws_toCrew -/
def f_laws_toCrew (a0 : XCrew) : Option XCrew :=
(f_laws_toIntS a0.Moves).bind fun r1 =>
some (⟨a0.Tugs,a0.Pilots,a0.Rest,r1⟩ : XCrew)
/- laws_toHarbour -/
def f_laws_toHarbour (a0 : XHarbour) : Option XHarbour :=
(f_laws_toForecast a0.Forecast).bind fun r1 =>
(f_laws_toChart a0.Chart).bind fun r2 =>
(f_laws_toShipS a0.Fleet).bind fun r3 =>
(f_laws_toRegime a0.Regime).bind fun r4 =>
(f_laws_toCrew a0.Crew).bind fun r5 =>
some (⟨r1,r2,r3,r4,r5⟩ : XHarbour)
/- laws_toPassage -/
def f_laws_toPassage (a0 : XPassage) : Option XPassage :=
some a0
/- laws_toPassageS -/
def f_laws_toPassageS_1 (a0 : List XPassage) : Nat → Int → (List XPassage) → Option (List XPassage)
| 0,_,_ => none
| n + 1,v2,v3 =>
 if (decide (v2 < (a0.length : Int))) then (
 (ix a0 v2).bind fun x5 =>
 (f_laws_toPassage x5).bind fun r6 =>
 (ix v3 v2).bind fun x7 =>
 f_laws_toPassageS_1 a0 n (IntKind.i64.wrap (v2 + (1 : Int))) (v3.set (Int.toNat v2) r6))
 else (
 some v3)
def f_laws_toPassageS (a0 : List XPassage) : Option (List XPassage) :=
(mkS (a0.length : Int) (a0.length : Int) 40).bind fun n1 =>
f_laws_toPassageS_1 a0 bigN (0 : Int) (List.replicate n1 (⟨(0 : Int),(0 : Int),false,(0 : Int),(0 : Int)⟩ : XPassage))
/- laws_toOption -/
def f_laws_toOption (a0 : XOption) : Option XOption :=
(f_laws_toPassageS a0.Passages).bind fun r1 =>
some (⟨a0.Start,a0.Arrival,a0.Cost,r1⟩ : XOption)
/- laws_toOptionS -/
def f_laws_toOptionS_1 (a0 : List XOption) : Nat → Int → (List XOption) → Option (List XOption)
| 0,_,_ => none
| n + 1,v2,v3 =>
 if (decide (v2 < (a0.length : Int))) then (
 (ix a0 v2).bind fun x5 =>
 (f_laws_toOption x5).bind fun r6 =>
 (ix v3 v2).bind fun x7 =>
 f_laws_toOptionS_1 a0 n (IntKind.i64.wrap (v2 + (1 : Int))) (v3.set (Int.toNat v2) r6))
 else (
 some v3)
def f_laws_toOptionS (a0 : List XOption) : Option (List XOption) :=
(mkS (a0.length : Int) (a0.length : Int) 48).bind fun n1 =>
f_laws_toOptionS_1 a0 bigN (0 : Int) (List.replicate n1 (⟨(0 : Int),(0 : Int),(0 : Int),([] : List XPassage)⟩ : XOption))
/- spec_l01In -/
def f_spec_l01In (a0 : Int) (a1 : Int) (a2 : Int) : Option Bool :=
if (decide (a1 ≤ a0)) then (
 some (decide (a0 ≤ a2)))
else (
 some false)
/- spec_PartOk -/
def f_spec_PartOk (a0 : XPart) : Option Bool :=
(f_spec_l01In a0.Amp (0 : Int) (1000 : Int)).bind fun r1 =>
if r1 then (
 (f_spec_l01In a0.Period (4 : Int) (2880 : Int)).bind fun r3 =>
 if r3 then (
 if ((IntKind.i64.wrap (Int.tmod a0.Period (4 : Int))) == (0 : Int)) then (
  (f_spec_l01In a0.Phase (0 : Int) (IntKind.i64.wrap (a0.Period - (1 : Int)))).bind fun r6 =>
  some r6)
 else (
  some false))
 else (
 some false))
else (
 some false)
/- spec_TideOk -/
def f_spec_TideOk_1 (a0 : XTide) : Nat → Int → Option Bool
| 0,_ => none
| n + 1,v4 =>
 if (decide (v4 < (a0.Parts.length : Int))) then (
 (ix a0.Parts v4).bind fun x6 =>
 (f_spec_PartOk x6).bind fun r7 =>
 if r7 then (
  f_spec_TideOk_1 a0 n (IntKind.i64.wrap (v4 + (1 : Int))))
 else (
  some false))
 else (
 some true)
def f_spec_TideOk (a0 : XTide) : Option Bool :=
(f_spec_l01In a0.Mean (-1000 : Int) (1000 : Int)).bind fun r1 =>
if r1 then (
 if (decide ((4 : Int) < (a0.Parts.length : Int))) then (
 some false)
 else (
 f_spec_TideOk_1 a0 bigN (0 : Int)))
else (
 some false)
/- spec_SurgeOk -/
def f_spec_SurgeOk (a0 : XSurge) : Option Bool :=
(f_spec_l01In a0.From (0 : Int) (2880 : Int)).bind fun r1 =>
if r1 then (
 (f_spec_l01In a0.Low (-500 : Int) (500 : Int)).bind fun r3 =>
 if r3 then (
 (f_spec_l01In a0.High a0.Low (500 : Int)).bind fun r5 =>
 some r5)
 else (
 some false))
else (
 some false)
/- spec_ForecastOk -/
def f_spec_ForecastOk_1 (a0 : XForecast) : Nat → Int → Option Bool
| 0,_ => none
| n + 1,v7 =>
 if (decide (v7 < (a0.Surges.length : Int))) then (
 (ix a0.Surges v7).bind fun x9 =>
 (f_spec_SurgeOk x9).bind fun r10 =>
 if r10 then (
  if (decide ((0 : Int) < v7)) then (
  (ix a0.Surges (IntKind.i64.wrap (v7 - (1 : Int)))).bind fun x13 =>
  if (decide (x9.From ≤ x13.From)) then (
   some false)
  else (
   f_spec_ForecastOk_1 a0 n (IntKind.i64.wrap (v7 + (1 : Int)))))
  else (
  f_spec_ForecastOk_1 a0 n (IntKind.i64.wrap (v7 + (1 : Int)))))
 else (
  some false))
 else (
 some true)
def f_spec_ForecastOk (a0 : XForecast) : Option Bool :=
(f_spec_TideOk a0.Tide).bind fun r1 =>
if r1 then (
 (f_spec_l01In (a0.Surges.length : Int) (1 : Int) (6 : Int)).bind fun r3 =>
 if r3 then (
 (ix a0.Surges (0 : Int)).bind fun x5 =>
 if (x5.From != (0 : Int)) then (
  some false)
 else (
  f_spec_ForecastOk_1 a0 bigN (0 : Int)))
 else (
 some false))
else (
 some false)
/- spec_IsName -/
def f_spec_IsName_3 (a0 : List UInt8) (v1 : Int) (k_spec_IsName_1 : Int → Option Bool) : Option Bool :=
k_spec_IsName_1 (IntKind.i64.wrap (v1 + (1 : Int)))
def f_spec_IsName_2 (a0 : List UInt8) (v1 : Int) (k_spec_IsName_1 : Int → Option Bool) (v5 : Bool) : Option Bool :=
if v5 then (
 f_spec_IsName_3 a0 v1 k_spec_IsName_1)
else (
 if (v1 == (0 : Int)) then (
 some false)
 else (
 (ix a0 v1).bind fun b8 =>
 if (decide ((b8.toNat : Int) < (48 : Int))) then (
  some false)
 else (
  if (decide ((57 : Int) < (b8.toNat : Int))) then (
  some false)
  else (
  f_spec_IsName_3 a0 v1 k_spec_IsName_1))))
def f_spec_IsName_1 (a0 : List UInt8) : Nat → Int → Option Bool
| 0,_ => none
| n + 1,v1 =>
 if (decide (v1 < (a0.length : Int))) then (
 (ix a0 v1).bind fun b3 =>
 if (decide ((97 : Int) ≤ (b3.toNat : Int))) then (
  f_spec_IsName_2 a0 v1 (f_spec_IsName_1 a0 n) (decide ((b3.toNat : Int) ≤ (122 : Int))))
 else (
  f_spec_IsName_2 a0 v1 (f_spec_IsName_1 a0 n) false))
 else (
 (f_spec_l01In (a0.length : Int) (1 : Int) (8 : Int)).bind fun r11 =>
 some r11)
def f_spec_IsName (a0 : List UInt8) : Option Bool :=
f_spec_IsName_1 a0 bigN (0 : Int)
/- spec_PointNamed -/
def f_spec_PointNamed_1 (a1 : List UInt8) (a0 : XChart) : Nat → Int → Option Int
| 0,_ => none
| n + 1,v1 =>
 if (decide (v1 < (a0.Points.length : Int))) then (
 (ix a0.Points v1).bind fun x3 =>
 if (x3.Name == a1) then (
  some v1)
 else (
  f_spec_PointNamed_1 a1 a0 n (IntKind.i64.wrap (v1 + (1 : Int)))))
 else (
 some (-1 : Int))
def f_spec_PointNamed (a0 : XChart) (a1 : List UInt8) : Option Int :=
f_spec_PointNamed_1 a1 a0 bigN (0 : Int)
/- spec_l05Joins -/
def f_spec_l05Joins (a0 : XSegment) (a1 : Int) (a2 : Int) : Option Bool :=
if (a0.A == a1) then (
 if (a0.B == a2) then (
 some true)
 else (
 if (a0.A == a2) then (
  some (a0.B == a1))
 else (
  some false)))
else (
 if (a0.A == a2) then (
 some (a0.B == a1))
 else (
 some false))
/- spec_ChartOk -/
def f_spec_ChartOk_3 (a0 : XChart) (v11 : Int) (x13 : XSegment) (y24 : List XSegment) (y25 : Int) (k_spec_ChartOk_2 : Int → Option Bool) : Nat → Int → Option Bool
| 0,_ => none
| n + 1,v26 =>
 if (decide (v26 < y25)) then (
 (ix y24 v26).bind fun x28 =>
 (f_spec_l05Joins x28 x13.A x13.B).bind fun r29 =>
 if r29 then (
  some false)
 else (
  f_spec_ChartOk_3 a0 v11 x13 y24 y25 k_spec_ChartOk_2 n (IntKind.i64.wrap (v26 + (1 : Int)))))
 else (
 k_spec_ChartOk_2 (IntKind.i64.wrap (v11 + (1 : Int))))
def f_spec_ChartOk_2 (a0 : XChart) : Nat → Int → Option Bool
| 0,_ => none
| n + 1,v11 =>
 if (decide (v11 < (a0.Segments.length : Int))) then (
 (ix a0.Segments v11).bind fun x13 =>
 (f_spec_l01In x13.A (0 : Int) (IntKind.i64.wrap ((a0.Points.length : Int) - (1 : Int)))).bind fun r14 =>
 if r14 then (
  (f_spec_l01In x13.B (0 : Int) (IntKind.i64.wrap ((a0.Points.length : Int) - (1 : Int)))).bind fun r16 =>
  if r16 then (
  if (x13.A == x13.B) then (
   some false)
  else (
   (f_spec_l01In x13.Depth (0 : Int) (3000 : Int)).bind fun r19 =>
   if r19 then (
   (f_spec_l01In x13.Minutes (1 : Int) (240 : Int)).bind fun r21 =>
   if r21 then (
    (bnd (a0.Segments.length : Int) v11 (0 : Int) a0.Segments.length).bind fun p23 =>
    f_spec_ChartOk_3 a0 v11 x13 ((a0.Segments.drop p23.1).take (p23.2 - p23.1)) (((a0.Segments.drop p23.1).take (p23.2 - p23.1)).length : Int) (f_spec_ChartOk_2 a0 n) bigN (0 : Int))
   else (
    some false))
   else (
   some false)))
  else (
  some false))
 else (
  some false))
 else (
 some true)
def f_spec_ChartOk_1 (a0 : XChart) : Nat → Int → Option Bool
| 0,_ => none
| n + 1,v3 =>
 if (decide (v3 < (a0.Points.length : Int))) then (
 (ix a0.Points v3).bind fun x5 =>
 (f_spec_IsName x5.Name).bind fun r6 =>
 if r6 then (
  (f_spec_PointNamed a0 x5.Name).bind fun r9 =>
  if (r9 != v3) then (
  some false)
  else (
  f_spec_ChartOk_1 a0 n (IntKind.i64.wrap (v3 + (1 : Int)))))
 else (
  some false))
 else (
 f_spec_ChartOk_2 a0 bigN (0 : Int))
def f_spec_ChartOk (a0 : XChart) : Option Bool :=
if (decide ((8 : Int) < (a0.Points.length : Int))) then (
 some false)
else (
 if (decide ((10 : Int) < (a0.Segments.length : Int))) then (
 some false)
 else (
 f_spec_ChartOk_1 a0 bigN (0 : Int)))
/- spec_ShipOk -/
def f_spec_ShipOk (a0 : XShip) : Option Bool :=
(f_spec_IsName a0.Name).bind fun r1 =>
if r1 then (
 (f_spec_l01In a0.Length (10 : Int) (400 : Int)).bind fun r3 =>
 if r3 then (
 (f_spec_l01In a0.Draught (100 : Int) (2000 : Int)).bind fun r5 =>
 if r5 then (
  (f_spec_l01In a0.Line (0 : Int) (3 : Int)).bind fun r7 =>
  if r7 then (
  (f_spec_l01In a0.Tugs (0 : Int) (4 : Int)).bind fun r9 =>
  some r9)
  else (
  some false))
 else (
  some false))
 else (
 some false))
else (
 some false)
/- spec_ShipNamed -/
def f_spec_ShipNamed_1 (a1 : List UInt8) (a0 : List XShip) : Nat → Int → Option Int
| 0,_ => none
| n + 1,v1 =>
 if (decide (v1 < (a0.length : Int))) then (
 (ix a0 v1).bind fun x3 =>
 if (x3.Name == a1) then (
  some v1)
 else (
  f_spec_ShipNamed_1 a1 a0 n (IntKind.i64.wrap (v1 + (1 : Int)))))
 else (
 some (-1 : Int))
def f_spec_ShipNamed (a0 : List XShip) (a1 : List UInt8) : Option Int :=
f_spec_ShipNamed_1 a1 a0 bigN (0 : Int)
/- spec_FleetOk -/
def f_spec_FleetOk_1 (a0 : List XShip) : Nat → Int → Option Bool
| 0,_ => none
| n + 1,v2 =>
 if (decide (v2 < (a0.length : Int))) then (
 (ix a0 v2).bind fun x4 =>
 (f_spec_ShipOk x4).bind fun r5 =>
 if r5 then (
  (f_spec_ShipNamed a0 x4.Name).bind fun r7 =>
  if (r7 != v2) then (
  some false)
  else (
  f_spec_FleetOk_1 a0 n (IntKind.i64.wrap (v2 + (1 : Int)))))
 else (
  some false))
 else (
 some true)
def f_spec_FleetOk (a0 : List XShip) : Option Bool :=
if (decide ((6 : Int) < (a0.length : Int))) then (
 some false)
else (
 f_spec_FleetOk_1 a0 bigN (0 : Int))
/- spec_RegimeOk -/
def f_spec_RegimeOk (a0 : XRegime) : Option Bool :=
(f_spec_l01In a0.Gap (0 : Int) (60 : Int)).bind fun r1 =>
some r1
/- spec_l13Table -/
def f_spec_l13Table_1 (a1 : List Int) : Nat → Int → Option Bool
| 0,_ => none
| n + 1,v4 =>
 if (decide (v4 < (a1.length : Int))) then (
 (ix a1 v4).bind fun x6 =>
 (f_spec_l01In x6 (0 : Int) (240 : Int)).bind fun r7 =>
 if r7 then (
  f_spec_l13Table_1 a1 n (IntKind.i64.wrap (v4 + (1 : Int))))
 else (
  some false))
 else (
 some true)
def f_spec_l13Table (a0 : Int) (a1 : List Int) : Option Bool :=
(f_spec_l01In a0 (0 : Int) (2880 : Int)).bind fun r1 =>
if r1 then (
 if ((a1.length : Int) != (64 : Int)) then (
 some false)
 else (
 f_spec_l13Table_1 a1 bigN (0 : Int)))
else (
 some false)
/- spec_CrewOk -/
def f_spec_CrewOk (a0 : XCrew) : Option Bool :=
(f_spec_l01In a0.Tugs (0 : Int) (12 : Int)).bind fun r1 =>
if r1 then (
 (f_spec_l01In a0.Pilots (0 : Int) (12 : Int)).bind fun r3 =>
 if r3 then (
 (f_spec_l13Table a0.Rest a0.Moves).bind fun r5 =>
 some r5)
 else (
 some false))
else (
 some false)
/- spec_HarbourOk -/
def f_spec_HarbourOk (a0 : XHarbour) : Option Bool :=
(f_spec_ForecastOk a0.Forecast).bind fun r1 =>
if r1 then (
 (f_spec_ChartOk a0.Chart).bind fun r3 =>
 if r3 then (
 (f_spec_FleetOk a0.Fleet).bind fun r5 =>
 if r5 then (
  (f_spec_RegimeOk a0.Regime).bind fun r7 =>
  if r7 then (
  (f_spec_CrewOk a0.Crew).bind fun r9 =>
  some r9)
  else (
  some false))
 else (
  some false))
 else (
 some false))
else (
 some false)
/- spec_ChainsOf -/
def f_spec_ChainsOf_1 (a0 : List XOption) : Nat → Int → (List (List XPassage)) → Option (List (List XPassage))
| 0,_,_ => none
| n + 1,v1,v2 =>
 if (decide (v1 < (a0.length : Int))) then (
 (ix a0 v1).bind fun x4 =>
 if appB ([] : List XPassage).length x4.Passages.length 40 then (
  if appB v2.length ([(([] : List XPassage) ++ x4.Passages)] : List (List XPassage)).length 24 then (
  f_spec_ChainsOf_1 a0 n (IntKind.i64.wrap (v1 + (1 : Int))) (v2 ++ ([(([] : List XPassage) ++ x4.Passages)] : List (List XPassage))))
  else none)
 else none)
 else (
 some v2)
def f_spec_ChainsOf (a0 : List XOption) : Option (List (List XPassage)) :=
f_spec_ChainsOf_1 a0 bigN (0 : Int) ([] : List (List XPassage))
/- spec_l06Minutes -/
def f_spec_l06Minutes (a0 : XSegment) (a1 : XShip) : Option Int :=
if a1.Slow then (
 some (IntKind.i64.wrap ((2 : Int) * a0.Minutes)))
else (
 some a0.Minutes)
/- spec_MinutesOn -/
def f_spec_MinutesOn (a0 : XChart) (a1 : Int) (a2 : XShip) : Option Int :=
(f_spec_ChartOk a0).bind fun r1 =>
if r1 then (
 (f_spec_ShipOk a2).bind fun r3 =>
 if r3 then (
 (f_spec_l01In a1 (0 : Int) (IntKind.i64.wrap ((a0.Segments.length : Int) - (1 : Int)))).bind fun r5 =>
 if r5 then (
  (ix a0.Segments a1).bind fun x7 =>
  (f_spec_l06Minutes x7 a2).bind fun r9 =>
  some r9)
 else (
  some (0 : Int)))
 else (
 some (0 : Int)))
else (
 some (0 : Int))
/- spec_PassageOk -/
def f_spec_PassageOk (a0 : XChart) (a1 : List XShip) (a2 : XPassage) : Option Bool :=
(f_spec_ChartOk a0).bind fun r1 =>
if r1 then (
 (f_spec_FleetOk a1).bind fun r3 =>
 if r3 then (
 (f_spec_l01In a2.Ship (0 : Int) (IntKind.i64.wrap ((a1.length : Int) - (1 : Int)))).bind fun r5 =>
 if r5 then (
  (f_spec_l01In a2.Segment (0 : Int) (IntKind.i64.wrap ((a0.Segments.length : Int) - (1 : Int)))).bind fun r7 =>
  if r7 then (
  (f_spec_l01In a2.Start (0 : Int) (2880 : Int)).bind fun r9 =>
  if r9 then (
   (ix a1 a2.Ship).bind fun x11 =>
   (f_spec_MinutesOn a0 a2.Segment x11).bind fun r12 =>
   if (a2.End == (IntKind.i64.wrap (a2.Start + r12))) then (
   some (decide (a2.End ≤ (2880 : Int))))
   else (
   some false))
  else (
   some false))
  else (
  some false))
 else (
  some false))
 else (
 some false))
else (
 some false)
/- spec_l08Ends -/
def f_spec_l08Ends (a0 : XChart) (a1 : XPassage) : Option (Int × Int) :=
(ix a0.Segments a1.Segment).bind fun x1 =>
if a1.Toward then (
 some (x1.A,x1.B))
else (
 some (x1.B,x1.A))
/- spec_l14Tugs -/
def f_spec_l14Tugs_2 (a1 : List XShip) (r7 : Int × Int) (a2 : List XPassage) (v1 : Int) (a0 : XChart) (x4 : XPassage) (k_spec_l14Tugs_1 : Int → (List XDuty) → Option ((List XDuty) × Bool)) : Nat → Int → (List XDuty) → Option ((List XDuty) × Bool)
| 0,_,_ => none
| n + 1,v8,v9 =>
 (ix a1 x4.Ship).bind fun x10 =>
 if (decide (v8 < x10.Tugs)) then (
 if appB v9.length ([(⟨x4.Start,x4.End,r7.1,r7.2⟩ : XDuty)] : List XDuty).length 32 then (
  f_spec_l14Tugs_2 a1 r7 a2 v1 a0 x4 k_spec_l14Tugs_1 n (IntKind.i64.wrap (v8 + (1 : Int))) (v9 ++ ([(⟨x4.Start,x4.End,r7.1,r7.2⟩ : XDuty)] : List XDuty)))
 else none)
 else (
 if (decide ((12 : Int) < (v9.length : Int))) then (
  some (([] : List XDuty),false))
 else (
  k_spec_l14Tugs_1 (IntKind.i64.wrap (v1 + (1 : Int))) v9))
def f_spec_l14Tugs_1 (a1 : List XShip) (a2 : List XPassage) (a0 : XChart) : Nat → Int → (List XDuty) → Option ((List XDuty) × Bool)
| 0,_,_ => none
| n + 1,v1,v2 =>
 if (decide (v1 < (a2.length : Int))) then (
 (ix a2 v1).bind fun x4 =>
 (f_spec_PassageOk a0 a1 x4).bind fun r5 =>
 if r5 then (
  (f_spec_l08Ends a0 x4).bind fun r7 =>
  f_spec_l14Tugs_2 a1 r7 a2 v1 a0 x4 (f_spec_l14Tugs_1 a1 a2 a0 n) bigN (0 : Int) v2)
 else (
  some (([] : List XDuty),false)))
 else (
 some (v2,true))
def f_spec_l14Tugs (a0 : XChart) (a1 : List XShip) (a2 : List XPassage) : Option ((List XDuty) × Bool) :=
f_spec_l14Tugs_1 a1 a2 a0 bigN (0 : Int) ([] : List XDuty)
/- spec_l13Duty -/
def f_spec_l13Duty (a0 : XDuty) : Option Bool :=
(f_spec_l01In a0.From (0 : Int) (2880 : Int)).bind fun r1 =>
if r1 then (
 if (decide (a0.From < a0.To)) then (
 if (decide (a0.To ≤ (2880 : Int))) then (
  (f_spec_l01In a0.A (0 : Int) (7 : Int)).bind fun r5 =>
  if r5 then (
  (f_spec_l01In a0.B (0 : Int) (7 : Int)).bind fun r7 =>
  some r7)
  else (
  some false))
 else (
  some false))
 else (
 some false))
else (
 some false)
/- spec_DutiesOk -/
def f_spec_DutiesOk_1 (a0 : List XDuty) : Nat → Int → Option Bool
| 0,_ => none
| n + 1,v2 =>
 if (decide (v2 < (a0.length : Int))) then (
 (ix a0 v2).bind fun x4 =>
 (f_spec_l13Duty x4).bind fun r5 =>
 if r5 then (
  f_spec_DutiesOk_1 a0 n (IntKind.i64.wrap (v2 + (1 : Int))))
 else (
  some false))
 else (
 some true)
def f_spec_DutiesOk (a0 : List XDuty) : Option Bool :=
if (decide ((12 : Int) < (a0.length : Int))) then (
 some false)
else (
 f_spec_DutiesOk_1 a0 bigN (0 : Int))
/- spec_Gap -/
def f_spec_Gap_1 (a0 : Int) (a1 : List Int) (a2 : XDuty) (a3 : XDuty) (v6 : Bool) : Option (Int × Bool) :=
if v6 then (
 some ((0 : Int),false))
else (
 (ix a1 (IntKind.i64.wrap ((IntKind.i64.wrap (a2.B * (8 : Int))) + a3.A))).bind fun x8 =>
 some ((IntKind.i64.wrap (a0 + x8)),true))
def f_spec_Gap (a0 : Int) (a1 : List Int) (a2 : XDuty) (a3 : XDuty) : Option (Int × Bool) :=
(f_spec_l13Table a0 a1).bind fun r1 =>
if r1 then (
 (f_spec_l01In a2.B (0 : Int) (7 : Int)).bind fun r3 =>
 if r3 then (
 (f_spec_l01In a3.A (0 : Int) (7 : Int)).bind fun r5 =>
 f_spec_Gap_1 a0 a1 a2 a3 (!r5))
 else (
 f_spec_Gap_1 a0 a1 a2 a3 true))
else (
 f_spec_Gap_1 a0 a1 a2 a3 true)
/- spec_CanFollow -/
def f_spec_CanFollow (a0 : Int) (a1 : List Int) (a2 : XDuty) (a3 : XDuty) : Option Bool :=
(f_spec_Gap a0 a1 a2 a3).bind fun r1 =>
if r1.2 then (
 (f_spec_l13Duty a2).bind fun r3 =>
 if r3 then (
 (f_spec_l13Duty a3).bind fun r5 =>
 if r5 then (
  some (decide ((IntKind.i64.wrap (a2.To + r1.1)) ≤ a3.From)))
 else (
  some false))
 else (
 some false))
else (
 some false)
/- spec_l13Both -/
def f_spec_l13Both_2 (a0 : Int) (a1 : List Int) (a2 : List XDuty) (v1 : Int) (x4 : XDuty) (v2 : List (List Bool)) (k_spec_l13Both_1 : Int → (List (List Bool)) → Option (List (List Bool))) : Nat → Int → (List Bool) → Option (List (List Bool))
| 0,_,_ => none
| n + 1,v5,v6 =>
 if (decide (v5 < (a2.length : Int))) then (
 (ix a2 v5).bind fun x8 =>
 (f_spec_CanFollow a0 a1 x4 x8).bind fun r9 =>
 if r9 then (
  if appB v6.length ([true] : List Bool).length 1 then (
  f_spec_l13Both_2 a0 a1 a2 v1 x4 v2 k_spec_l13Both_1 n (IntKind.i64.wrap (v5 + (1 : Int))) (v6 ++ ([true] : List Bool)))
  else none)
 else (
  (f_spec_CanFollow a0 a1 x8 x4).bind fun r12 =>
  if appB v6.length ([r12] : List Bool).length 1 then (
  f_spec_l13Both_2 a0 a1 a2 v1 x4 v2 k_spec_l13Both_1 n (IntKind.i64.wrap (v5 + (1 : Int))) (v6 ++ ([r12] : List Bool)))
  else none))
 else (
 if appB v2.length ([v6] : List (List Bool)).length 24 then (
  k_spec_l13Both_1 (IntKind.i64.wrap (v1 + (1 : Int))) (v2 ++ ([v6] : List (List Bool))))
 else none)
def f_spec_l13Both_1 (a0 : Int) (a1 : List Int) (a2 : List XDuty) : Nat → Int → (List (List Bool)) → Option (List (List Bool))
| 0,_,_ => none
| n + 1,v1,v2 =>
 if (decide (v1 < (a2.length : Int))) then (
 (ix a2 v1).bind fun x4 =>
 f_spec_l13Both_2 a0 a1 a2 v1 x4 v2 (f_spec_l13Both_1 a0 a1 a2 n) bigN (0 : Int) ([] : List Bool))
 else (
 some v2)
def f_spec_l13Both (a0 : Int) (a1 : List Int) (a2 : List XDuty) : Option (List (List Bool)) :=
f_spec_l13Both_1 a0 a1 a2 bigN (0 : Int) ([] : List (List Bool))
/- spec_l13Search -/
def f_spec_l13Search_4 (rec_ : (List (List Bool)) → (List Int) → Int → Option ((List Int) × Bool)) (a0 : List (List Bool)) (a1 : List Int) (a2 : Int) (v2 : Int) (v6 : Int) (k_spec_l13Search_2 : Int → Option ((List Int) × Bool)) : Option ((List Int) × Bool) :=
k_spec_l13Search_2 (IntKind.i64.wrap (v6 + (1 : Int)))
def f_spec_l13Search_3 (rec_ : (List (List Bool)) → (List Int) → Int → Option ((List Int) × Bool)) (a0 : List (List Bool)) (a1 : List Int) (a2 : Int) (v2 : Int) (v6 : Int) (k_spec_l13Search_2 : Int → Option ((List Int) × Bool)) : Nat → Bool → Int → Option ((List Int) × Bool)
| 0,_,_ => none
| n + 1,v9,v10 =>
 if (decide (v10 < (a1.length : Int))) then (
 (ix a1 v10).bind fun x12 =>
 if (x12 == v6) then (
  (ix a0 (a1.length : Int)).bind fun x14 =>
  (ix x14 v10).bind fun x15 =>
  if x15 then (
  f_spec_l13Search_3 rec_ a0 a1 a2 v2 v6 k_spec_l13Search_2 n v9 (IntKind.i64.wrap (v10 + (1 : Int))))
  else (
  f_spec_l13Search_3 rec_ a0 a1 a2 v2 v6 k_spec_l13Search_2 n false (IntKind.i64.wrap (v10 + (1 : Int)))))
 else (
  f_spec_l13Search_3 rec_ a0 a1 a2 v2 v6 k_spec_l13Search_2 n v9 (IntKind.i64.wrap (v10 + (1 : Int)))))
 else (
 if v9 then (
  if appB ([] : List Int).length a1.length 8 then (
  if appB (([] : List Int) ++ a1).length ([v6] : List Int).length 8 then (
   (rec_ a0 ((([] : List Int) ++ a1) ++ ([v6] : List Int)) a2).bind fun r20 =>
   if r20.2 then (
   some (r20.1,true))
   else (
   f_spec_l13Search_4 rec_ a0 a1 a2 v2 v6 k_spec_l13Search_2))
  else none)
  else none)
 else (
  f_spec_l13Search_4 rec_ a0 a1 a2 v2 v6 k_spec_l13Search_2))
def f_spec_l13Search_2 (rec_ : (List (List Bool)) → (List Int) → Int → Option ((List Int) × Bool)) (a0 : List (List Bool)) (a1 : List Int) (a2 : Int) (v2 : Int) : Nat → Int → Option ((List Int) × Bool)
| 0,_ => none
| n + 1,v6 =>
 if (decide (v6 ≤ v2)) then (
 if (decide (v6 < a2)) then (
  f_spec_l13Search_3 rec_ a0 a1 a2 v2 v6 (f_spec_l13Search_2 rec_ a0 a1 a2 v2 n) bigN true (0 : Int))
 else (
  some (([] : List Int),false)))
 else (
 some (([] : List Int),false))
def f_spec_l13Search_1 (rec_ : (List (List Bool)) → (List Int) → Int → Option ((List Int) × Bool)) (a0 : List (List Bool)) (a1 : List Int) (a2 : Int) : Nat → Int → Int → Option ((List Int) × Bool)
| 0,_,_ => none
| n + 1,v2,v3 =>
 if (decide (v3 < (a1.length : Int))) then (
 (ix a1 v3).bind fun x5 =>
 f_spec_l13Search_1 rec_ a0 a1 a2 n (if v2 < (IntKind.i64.wrap (x5 + (1 : Int))) then (IntKind.i64.wrap (x5 + (1 : Int))) else v2) (IntKind.i64.wrap (v3 + (1 : Int))))
 else (
 f_spec_l13Search_2 rec_ a0 a1 a2 v2 bigN (0 : Int))
def f_spec_l13Search_b (rec_ : (List (List Bool)) → (List Int) → Int → Option ((List Int) × Bool)) (a0 : List (List Bool)) (a1 : List Int) (a2 : Int) : Option ((List Int) × Bool) :=
if ((a1.length : Int) == (a0.length : Int)) then (
 some (a1,true))
else (
 f_spec_l13Search_1 rec_ a0 a1 a2 bigN (0 : Int) (0 : Int))
def f_spec_l13Search_r : Nat → (List (List Bool)) → (List Int) → Int → Option ((List Int) × Bool)
| 0,_,_,_ => none
| n + 1,a0,a1,a2 => f_spec_l13Search_b (f_spec_l13Search_r n) a0 a1 a2
def f_spec_l13Search (a0 : List (List Bool)) (a1 : List Int) (a2 : Int) : Option ((List Int) × Bool) := f_spec_l13Search_r bigN a0 a1 a2
/- spec_LeastCover -/
def f_spec_LeastCover_2 (a2 : List XDuty) (r6 : (List (List Bool))) : Nat → Int → Option ((List Int) × Int × Bool)
| 0,_ => none
| n + 1,v7 =>
 if (decide (v7 ≤ (a2.length : Int))) then (
 (f_spec_l13Search r6 ([] : List Int) v7).bind fun r9 =>
 if r9.2 then (
  some (r9.1,v7,true))
 else (
  f_spec_LeastCover_2 a2 r6 n (IntKind.i64.wrap (v7 + (1 : Int)))))
 else (
 some (([] : List Int),(0 : Int),false))
def f_spec_LeastCover_1 (a0 : Int) (a1 : List Int) (a2 : List XDuty) (v4 : Bool) : Option ((List Int) × Int × Bool) :=
if v4 then (
 some (([] : List Int),(0 : Int),false))
else (
 (f_spec_l13Both a0 a1 a2).bind fun r6 =>
 f_spec_LeastCover_2 a2 r6 bigN (0 : Int))
def f_spec_LeastCover (a0 : Int) (a1 : List Int) (a2 : List XDuty) : Option ((List Int) × Int × Bool) :=
(f_spec_DutiesOk a2).bind fun r1 =>
if r1 then (
 (f_spec_l13Table a0 a1).bind fun r3 =>
 f_spec_LeastCover_1 a0 a1 a2 (!r3))
else (
 f_spec_LeastCover_1 a0 a1 a2 true)
/- spec_TugsNeeded -/
def f_spec_TugsNeeded (a0 : XCrew) (a1 : XChart) (a2 : List XShip) (a3 : List XPassage) : Option Int :=
(f_spec_l14Tugs a1 a2 a3).bind fun r1 =>
(f_spec_CrewOk a0).bind fun r2 =>
if r2 then (
 if r1.2 then (
 (f_spec_LeastCover (0 : Int) a0.Moves r1.1).bind fun r5 =>
 if r5.2.2 then (
  some r5.2.1)
 else (
  some (-1 : Int)))
 else (
 some (-1 : Int)))
else (
 some (-1 : Int))
/- spec_FormatInt -/
def f_spec_FormatInt_1 (rec_ : Int → Option (List UInt8)) : Nat → Int → (List UInt8) → Option (List UInt8)
| 0,_,_ => none
| n + 1,v6,v7 =>
 if (decide ((9 : Int) < v6)) then (
 if catB ([(IntKind.u8.wrap (IntKind.i64.wrap ((48 : Int) + (IntKind.i64.wrap (Int.tmod v6 (10 : Int))))))] : List Int).length v7.length then (
  f_spec_FormatInt_1 rec_ n (IntKind.i64.wrap (Int.tdiv v6 (10 : Int))) ((List.map toU8 ([(IntKind.u8.wrap (IntKind.i64.wrap ((48 : Int) + (IntKind.i64.wrap (Int.tmod v6 (10 : Int))))))] : List Int)) ++ v7))
 else none)
 else (
 if catB ([(IntKind.u8.wrap (IntKind.i64.wrap ((48 : Int) + v6)))] : List Int).length v7.length then (
  some ((List.map toU8 ([(IntKind.u8.wrap (IntKind.i64.wrap ((48 : Int) + v6)))] : List Int)) ++ v7))
 else none)
def f_spec_FormatInt_b (rec_ : Int → Option (List UInt8)) (a0 : Int) : Option (List UInt8) :=
if (decide (a0 < (0 : Int))) then (
 if ((IntKind.i64.wrap (Int.tdiv a0 (10 : Int))) == (0 : Int)) then (
 if catB ([45] : List UInt8).length ([(IntKind.u8.wrap (IntKind.i64.wrap ((48 : Int) - a0)))] : List Int).length then (
  some (([45] : List UInt8) ++ (List.map toU8 ([(IntKind.u8.wrap (IntKind.i64.wrap ((48 : Int) - a0)))] : List Int))))
 else none)
 else (
 (rec_ (IntKind.i64.wrap (Int.tdiv a0 (10 : Int)))).bind fun r4 =>
 if catB r4.length ([(IntKind.u8.wrap (IntKind.i64.wrap ((48 : Int) - (IntKind.i64.wrap (Int.tmod a0 (10 : Int))))))] : List Int).length then (
  some (r4 ++ (List.map toU8 ([(IntKind.u8.wrap (IntKind.i64.wrap ((48 : Int) - (IntKind.i64.wrap (Int.tmod a0 (10 : Int))))))] : List Int))))
 else none))
else (
 f_spec_FormatInt_1 rec_ bigN a0 ([] : List UInt8))
def f_spec_FormatInt_r : Nat → Int → Option (List UInt8)
| 0,_ => none
| n + 1,a0 => f_spec_FormatInt_b (f_spec_FormatInt_r n) a0
def f_spec_FormatInt (a0 : Int) : Option (List UInt8) := f_spec_FormatInt_r bigN a0
/- spec_IsChain -/
def f_spec_IsChain_1 (a1 : List XPassage) (a0 : XChart) : Nat → Int → Option Bool
| 0,_ => none
| n + 1,v3 =>
 if (decide (v3 < (a1.length : Int))) then (
 (ix a1 v3).bind fun x5 =>
 (ix a1 (0 : Int)).bind fun x6 =>
 if (x5.Ship != x6.Ship) then (
  some false)
 else (
  (f_spec_l01In x5.Segment (0 : Int) (IntKind.i64.wrap ((a0.Segments.length : Int) - (1 : Int)))).bind fun r9 =>
  if r9 then (
  if (v3 == (0 : Int)) then (
   f_spec_IsChain_1 a1 a0 n (IntKind.i64.wrap (v3 + (1 : Int))))
  else (
   (f_spec_l08Ends a0 x5).bind fun r12 =>
   (ix a1 (IntKind.i64.wrap (v3 - (1 : Int)))).bind fun x13 =>
   (f_spec_l08Ends a0 x13).bind fun r14 =>
   if (r12.1 != r14.2) then (
   some false)
   else (
   if (decide (x5.Start < x13.End)) then (
    some false)
   else (
    f_spec_IsChain_1 a1 a0 n (IntKind.i64.wrap (v3 + (1 : Int)))))))
  else (
  some false)))
 else (
 some true)
def f_spec_IsChain (a0 : XChart) (a1 : List XPassage) : Option Bool :=
(f_spec_ChartOk a0).bind fun r1 =>
if r1 then (
 f_spec_IsChain_1 a1 a0 bigN (0 : Int))
else (
 some false)
/- spec_PilotDuty -/
def f_spec_PilotDuty_2 (a1 : List XShip) (a2 : List XPassage) (a0 : XChart) : Nat → Int → Option (XDuty × Bool)
| 0,_ => none
| n + 1,v5 =>
 if (decide (v5 < (a2.length : Int))) then (
 (ix a2 v5).bind fun x7 =>
 (f_spec_PassageOk a0 a1 x7).bind fun r9 =>
 if r9 then (
  f_spec_PilotDuty_2 a1 a2 a0 n (IntKind.i64.wrap (v5 + (1 : Int))))
 else (
  some ((⟨(0 : Int),(0 : Int),(0 : Int),(0 : Int)⟩ : XDuty),false)))
 else (
 (ix a2 (IntKind.i64.wrap ((a2.length : Int) - (1 : Int)))).bind fun x11 =>
 (ix a2 (0 : Int)).bind fun x12 =>
 (f_spec_l08Ends a0 x12).bind fun r13 =>
 (f_spec_l08Ends a0 x11).bind fun r14 =>
 some ((⟨x12.Start,x11.End,r13.1,r14.2⟩ : XDuty),true))
def f_spec_PilotDuty_1 (a1 : List XShip) (a2 : List XPassage) (a0 : XChart) (v3 : Bool) : Option (XDuty × Bool) :=
if v3 then (
 some ((⟨(0 : Int),(0 : Int),(0 : Int),(0 : Int)⟩ : XDuty),false))
else (
 f_spec_PilotDuty_2 a1 a2 a0 bigN (0 : Int))
def f_spec_PilotDuty (a0 : XChart) (a1 : List XShip) (a2 : List XPassage) : Option (XDuty × Bool) :=
if ((a2.length : Int) == (0 : Int)) then (
 f_spec_PilotDuty_1 a1 a2 a0 true)
else (
 (f_spec_IsChain a0 a2).bind fun r2 =>
 f_spec_PilotDuty_1 a1 a2 a0 (!r2))
/- spec_PilotsNeeded -/
def f_spec_PilotsNeeded_1 (a2 : List XShip) (a3 : List (List XPassage)) (a0 : XCrew) (a1 : XChart) : Nat → Int → (List XDuty) → Option Int
| 0,_,_ => none
| n + 1,v3,v4 =>
 if (decide (v3 < (a3.length : Int))) then (
 (ix a3 v3).bind fun x6 =>
 if ((x6.length : Int) == (0 : Int)) then (
  f_spec_PilotsNeeded_1 a2 a3 a0 a1 n (IntKind.i64.wrap (v3 + (1 : Int))) v4)
 else (
  (f_spec_PilotDuty a1 a2 x6).bind fun r9 =>
  if r9.2 then (
  if appB v4.length ([r9.1] : List XDuty).length 32 then (
   f_spec_PilotsNeeded_1 a2 a3 a0 a1 n (IntKind.i64.wrap (v3 + (1 : Int))) (v4 ++ ([r9.1] : List XDuty)))
  else none)
  else (
  some (-1 : Int))))
 else (
 (f_spec_LeastCover a0.Rest a0.Moves v4).bind fun r12 =>
 if r12.2.2 then (
  some r12.2.1)
 else (
  some (-1 : Int)))
def f_spec_PilotsNeeded (a0 : XCrew) (a1 : XChart) (a2 : List XShip) (a3 : List (List XPassage)) : Option Int :=
(f_spec_CrewOk a0).bind fun r1 =>
if r1 then (
 f_spec_PilotsNeeded_1 a2 a3 a0 a1 bigN (0 : Int) ([] : List XDuty))
else (
 some (-1 : Int))
/- spec_CrewLine -/
def f_spec_CrewLine_1 (r3 : (List (List XPassage))) (a0 : XHarbour) : Nat → Int → (List XPassage) → Option (List UInt8)
| 0,_,_ => none
| n + 1,v4,v5 =>
 if (decide (v4 < (r3.length : Int))) then (
 (ix r3 v4).bind fun x7 =>
 if appB v5.length x7.length 40 then (
  f_spec_CrewLine_1 r3 a0 n (IntKind.i64.wrap (v4 + (1 : Int))) (v5 ++ x7))
 else none)
 else (
 (f_spec_TugsNeeded a0.Crew a0.Chart a0.Fleet v5).bind fun r9 =>
 (f_spec_FormatInt r9).bind fun r10 =>
 if catB ([116,117,103,115,32] : List UInt8).length r10.length then (
  if catB (([116,117,103,115,32] : List UInt8) ++ r10).length ([32,112,105,108,111,116,115,32] : List UInt8).length then (
  (f_spec_PilotsNeeded a0.Crew a0.Chart a0.Fleet r3).bind fun r13 =>
  (f_spec_FormatInt r13).bind fun r14 =>
  if catB ((([116,117,103,115,32] : List UInt8) ++ r10) ++ ([32,112,105,108,111,116,115,32] : List UInt8)).length r14.length then (
   some (((([116,117,103,115,32] : List UInt8) ++ r10) ++ ([32,112,105,108,111,116,115,32] : List UInt8)) ++ r14))
  else none)
  else none)
 else none)
def f_spec_CrewLine (a0 : XHarbour) (a1 : List XOption) : Option (List UInt8) :=
(f_spec_HarbourOk a0).bind fun r1 =>
if r1 then (
 (f_spec_ChainsOf a1).bind fun r3 =>
 f_spec_CrewLine_1 r3 a0 bigN (0 : Int) ([] : List XPassage))
else (
 some ([] : List UInt8))
/- impl_within -/
def f_impl_within (a0 : Int) (a1 : Int) (a2 : Int) : Option Bool :=
if (decide (a1 ≤ a0)) then (
 some (decide (a0 ≤ a2)))
else (
 some false)
/- impl_isPeriod -/
def f_impl_isPeriod (a0 : Int) : Option Bool :=
(f_impl_within a0 (4 : Int) (2880 : Int)).bind fun r1 =>
if r1 then (
 some ((IntKind.i64.wrap (Int.tmod a0 (4 : Int))) == (0 : Int)))
else (
 some false)
/- impl_PartOk -/
def f_impl_PartOk (a0 : XPart) : Option Bool :=
(f_impl_within a0.Amp (0 : Int) (1000 : Int)).bind fun r1 =>
if r1 then (
 (f_impl_isPeriod a0.Period).bind fun r3 =>
 if r3 then (
 (f_impl_within a0.Phase (0 : Int) (IntKind.i64.wrap (a0.Period - (1 : Int)))).bind fun r5 =>
 some r5)
 else (
 some false))
else (
 some false)
/- impl_TideOk -/
def f_impl_TideOk_1 (a0 : XTide) : Nat → Int → Option Bool
| 0,_ => none
| n + 1,v4 =>
 if (decide (v4 < (a0.Parts.length : Int))) then (
 (ix a0.Parts v4).bind fun x6 =>
 (f_impl_PartOk x6).bind fun r7 =>
 if r7 then (
  f_impl_TideOk_1 a0 n (IntKind.i64.wrap (v4 + (1 : Int))))
 else (
  some false))
 else (
 some true)
def f_impl_TideOk (a0 : XTide) : Option Bool :=
(f_impl_within a0.Mean (-1000 : Int) (1000 : Int)).bind fun r1 =>
if r1 then (
 if (decide ((4 : Int) < (a0.Parts.length : Int))) then (
 some false)
 else (
 f_impl_TideOk_1 a0 bigN (0 : Int)))
else (
 some false)
/- impl_isMinute -/
def f_impl_isMinute (a0 : Int) : Option Bool :=
(f_impl_within a0 (0 : Int) (2880 : Int)).bind fun r1 =>
some r1
/- impl_SurgeOk -/
def f_impl_SurgeOk (a0 : XSurge) : Option Bool :=
(f_impl_isMinute a0.From).bind fun r1 =>
if r1 then (
 if (decide ((-500 : Int) ≤ a0.Low)) then (
 if (decide (a0.Low ≤ a0.High)) then (
  some (decide (a0.High ≤ (500 : Int))))
 else (
  some false))
 else (
 some false))
else (
 some false)
/- impl_ForecastOk -/
def f_impl_ForecastOk_1 (a0 : XForecast) : Nat → Int → Option Bool
| 0,_ => none
| n + 1,v7 =>
 if (decide (v7 < (a0.Surges.length : Int))) then (
 (ix a0.Surges v7).bind fun x9 =>
 (f_impl_SurgeOk x9).bind fun r10 =>
 if r10 then (
  if (decide ((0 : Int) < v7)) then (
  (ix a0.Surges (IntKind.i64.wrap (v7 - (1 : Int)))).bind fun x13 =>
  if (decide (x9.From ≤ x13.From)) then (
   some false)
  else (
   f_impl_ForecastOk_1 a0 n (IntKind.i64.wrap (v7 + (1 : Int)))))
  else (
  f_impl_ForecastOk_1 a0 n (IntKind.i64.wrap (v7 + (1 : Int)))))
 else (
  some false))
 else (
 some true)
def f_impl_ForecastOk (a0 : XForecast) : Option Bool :=
(f_impl_TideOk a0.Tide).bind fun r1 =>
if r1 then (
 (f_impl_within (a0.Surges.length : Int) (1 : Int) (6 : Int)).bind fun r3 =>
 if r3 then (
 (ix a0.Surges (0 : Int)).bind fun x5 =>
 if (x5.From != (0 : Int)) then (
  some false)
 else (
  f_impl_ForecastOk_1 a0 bigN (0 : Int)))
 else (
 some false))
else (
 some false)
/- impl_IsName -/
def f_impl_IsName_3 (a0 : List UInt8) (v3 : Int) (k_impl_IsName_1 : Int → Option Bool) : Option Bool :=
k_impl_IsName_1 (IntKind.i64.wrap (v3 + (1 : Int)))
def f_impl_IsName_2 (a0 : List UInt8) (v3 : Int) (k_impl_IsName_1 : Int → Option Bool) (v7 : Bool) : Option Bool :=
if v7 then (
 f_impl_IsName_3 a0 v3 k_impl_IsName_1)
else (
 if (v3 == (0 : Int)) then (
 some false)
 else (
 (ix a0 v3).bind fun b10 =>
 if (decide ((b10.toNat : Int) < (48 : Int))) then (
  some false)
 else (
  if (decide ((57 : Int) < (b10.toNat : Int))) then (
  some false)
  else (
  f_impl_IsName_3 a0 v3 k_impl_IsName_1))))
def f_impl_IsName_1 (a0 : List UInt8) : Nat → Int → Option Bool
| 0,_ => none
| n + 1,v3 =>
 if (decide (v3 < (a0.length : Int))) then (
 (ix a0 v3).bind fun b5 =>
 if (decide ((97 : Int) ≤ (b5.toNat : Int))) then (
  f_impl_IsName_2 a0 v3 (f_impl_IsName_1 a0 n) (decide ((b5.toNat : Int) ≤ (122 : Int))))
 else (
  f_impl_IsName_2 a0 v3 (f_impl_IsName_1 a0 n) false))
 else (
 some true)
def f_impl_IsName (a0 : List UInt8) : Option Bool :=
(f_impl_within (a0.length : Int) (1 : Int) (8 : Int)).bind fun r1 =>
if r1 then (
 f_impl_IsName_1 a0 bigN (0 : Int))
else (
 some false)
/- impl_PointNamed -/
def f_impl_PointNamed_1 (a1 : List UInt8) (a0 : XChart) : Nat → Int → Option Int
| 0,_ => none
| n + 1,v1 =>
 if (decide (v1 < (a0.Points.length : Int))) then (
 (ix a0.Points v1).bind fun x3 =>
 if (x3.Name == a1) then (
  some v1)
 else (
  f_impl_PointNamed_1 a1 a0 n (IntKind.i64.wrap (v1 + (1 : Int)))))
 else (
 some (-1 : Int))
def f_impl_PointNamed (a0 : XChart) (a1 : List UInt8) : Option Int :=
f_impl_PointNamed_1 a1 a0 bigN (0 : Int)
/- impl_isIndex -/
def f_impl_isIndex (a0 : Int) (a1 : Int) : Option Bool :=
if (decide ((0 : Int) ≤ a0)) then (
 some (decide (a0 < a1)))
else (
 some false)
/- impl_Segment_joins -/
def f_impl_Segment_joins (a0 : XSegment) (a1 : Int) (a2 : Int) : Option Bool :=
if (a0.A == a1) then (
 if (a0.B == a2) then (
 some true)
 else (
 if (a0.A == a2) then (
  some (a0.B == a1))
 else (
  some false)))
else (
 if (a0.A == a2) then (
 some (a0.B == a1))
 else (
 some false))
/- impl_ChartOk -/
def f_impl_ChartOk_3 (a0 : XChart) (v11 : Int) (x13 : XSegment) (y24 : List XSegment) (y25 : Int) (k_impl_ChartOk_2 : Int → Option Bool) : Nat → Int → Option Bool
| 0,_ => none
| n + 1,v26 =>
 if (decide (v26 < y25)) then (
 (ix y24 v26).bind fun x28 =>
 (f_impl_Segment_joins x28 x13.A x13.B).bind fun r29 =>
 if r29 then (
  some false)
 else (
  f_impl_ChartOk_3 a0 v11 x13 y24 y25 k_impl_ChartOk_2 n (IntKind.i64.wrap (v26 + (1 : Int)))))
 else (
 k_impl_ChartOk_2 (IntKind.i64.wrap (v11 + (1 : Int))))
def f_impl_ChartOk_2 (a0 : XChart) : Nat → Int → Option Bool
| 0,_ => none
| n + 1,v11 =>
 if (decide (v11 < (a0.Segments.length : Int))) then (
 (ix a0.Segments v11).bind fun x13 =>
 (f_impl_isIndex x13.A (a0.Points.length : Int)).bind fun r14 =>
 if r14 then (
  (f_impl_isIndex x13.B (a0.Points.length : Int)).bind fun r16 =>
  if r16 then (
  if (x13.A == x13.B) then (
   some false)
  else (
   (f_impl_within x13.Depth (0 : Int) (3000 : Int)).bind fun r19 =>
   if r19 then (
   (f_impl_within x13.Minutes (1 : Int) (240 : Int)).bind fun r21 =>
   if r21 then (
    (bnd (a0.Segments.length : Int) v11 (0 : Int) a0.Segments.length).bind fun p23 =>
    f_impl_ChartOk_3 a0 v11 x13 ((a0.Segments.drop p23.1).take (p23.2 - p23.1)) (((a0.Segments.drop p23.1).take (p23.2 - p23.1)).length : Int) (f_impl_ChartOk_2 a0 n) bigN (0 : Int))
   else (
    some false))
   else (
   some false)))
  else (
  some false))
 else (
  some false))
 else (
 some true)
def f_impl_ChartOk_1 (a0 : XChart) : Nat → Int → Option Bool
| 0,_ => none
| n + 1,v3 =>
 if (decide (v3 < (a0.Points.length : Int))) then (
 (ix a0.Points v3).bind fun x5 =>
 (f_impl_IsName x5.Name).bind fun r6 =>
 if r6 then (
  (f_impl_PointNamed a0 x5.Name).bind fun r9 =>
  if (r9 != v3) then (
  some false)
  else (
  f_impl_ChartOk_1 a0 n (IntKind.i64.wrap (v3 + (1 : Int)))))
 else (
  some false))
 else (
 f_impl_ChartOk_2 a0 bigN (0 : Int))
def f_impl_ChartOk (a0 : XChart) : Option Bool :=
if (decide ((8 : Int) < (a0.Points.length : Int))) then (
 some false)
else (
 if (decide ((10 : Int) < (a0.Segments.length : Int))) then (
 some false)
 else (
 f_impl_ChartOk_1 a0 bigN (0 : Int)))
/- impl_ShipOk -/
def f_impl_ShipOk (a0 : XShip) : Option Bool :=
(f_impl_IsName a0.Name).bind fun r1 =>
if r1 then (
 (f_impl_within a0.Length (10 : Int) (400 : Int)).bind fun r3 =>
 if r3 then (
 (f_impl_within a0.Draught (100 : Int) (2000 : Int)).bind fun r5 =>
 if r5 then (
  (f_impl_isIndex a0.Line (4 : Int)).bind fun r7 =>
  if r7 then (
  (f_impl_within a0.Tugs (0 : Int) (4 : Int)).bind fun r9 =>
  some r9)
  else (
  some false))
 else (
  some false))
 else (
 some false))
else (
 some false)
/- impl_ShipNamed -/
def f_impl_ShipNamed_1 (a1 : List UInt8) (a0 : List XShip) : Nat → Int → Option Int
| 0,_ => none
| n + 1,v1 =>
 if (decide (v1 < (a0.length : Int))) then (
 (ix a0 v1).bind fun x3 =>
 if (x3.Name == a1) then (
  some v1)
 else (
  f_impl_ShipNamed_1 a1 a0 n (IntKind.i64.wrap (v1 + (1 : Int)))))
 else (
 some (-1 : Int))
def f_impl_ShipNamed (a0 : List XShip) (a1 : List UInt8) : Option Int :=
f_impl_ShipNamed_1 a1 a0 bigN (0 : Int)
/- impl_FleetOk -/
def f_impl_FleetOk_1 (a0 : List XShip) : Nat → Int → Option Bool
| 0,_ => none
| n + 1,v2 =>
 if (decide (v2 < (a0.length : Int))) then (
 (ix a0 v2).bind fun x4 =>
 (f_impl_ShipOk x4).bind fun r5 =>
 if r5 then (
  (f_impl_ShipNamed a0 x4.Name).bind fun r7 =>
  if (r7 != v2) then (
  some false)
  else (
  f_impl_FleetOk_1 a0 n (IntKind.i64.wrap (v2 + (1 : Int)))))
 else (
  some false))
 else (
 some true)
def f_impl_FleetOk (a0 : List XShip) : Option Bool :=
if (decide ((6 : Int) < (a0.length : Int))) then (
 some false)
else (
 f_impl_FleetOk_1 a0 bigN (0 : Int))
/- impl_RegimeOk -/
def f_impl_RegimeOk (a0 : XRegime) : Option Bool :=
(f_impl_within a0.Gap (0 : Int) (60 : Int)).bind fun r1 =>
some r1
/- impl_movesOk -/
def f_impl_movesOk_1 (a0 : List Int) : Nat → Int → Option Bool
| 0,_ => none
| n + 1,v2 =>
 if (decide (v2 < (a0.length : Int))) then (
 (ix a0 v2).bind fun x4 =>
 (f_impl_within x4 (0 : Int) (240 : Int)).bind fun r5 =>
 if r5 then (
  f_impl_movesOk_1 a0 n (IntKind.i64.wrap (v2 + (1 : Int))))
 else (
  some false))
 else (
 some true)
def f_impl_movesOk (a0 : List Int) : Option Bool :=
if ((a0.length : Int) != (64 : Int)) then (
 some false)
else (
 f_impl_movesOk_1 a0 bigN (0 : Int))
/- impl_CrewOk -/
def f_impl_CrewOk (a0 : XCrew) : Option Bool :=
(f_impl_within a0.Tugs (0 : Int) (12 : Int)).bind fun r1 =>
if r1 then (
 (f_impl_within a0.Pilots (0 : Int) (12 : Int)).bind fun r3 =>
 if r3 then (
 (f_impl_isMinute a0.Rest).bind fun r5 =>
 if r5 then (
  (f_impl_movesOk a0.Moves).bind fun r7 =>
  some r7)
 else (
  some false))
 else (
 some false))
else (
 some false)
/- impl_HarbourOk -/
def f_impl_HarbourOk (a0 : XHarbour) : Option Bool :=
(f_impl_ForecastOk a0.Forecast).bind fun r1 =>
if r1 then (
 (f_impl_ChartOk a0.Chart).bind fun r3 =>
 if r3 then (
 (f_impl_FleetOk a0.Fleet).bind fun r5 =>
 if r5 then (
  (f_impl_RegimeOk a0.Regime).bind fun r7 =>
  if r7 then (
  (f_impl_CrewOk a0.Crew).bind fun r9 =>
  some r9)
  else (
  some false))
 else (
  some false))
 else (
 some false))
else (
 some false)
/- impl_clone_Passage -/
def f_impl_clone_Passage (a0 : List XPassage) : Option (List XPassage) :=
(mkS (0 : Int) (a0.length : Int) 40).bind fun n1 =>
if appB (List.replicate n1 (⟨(0 : Int),(0 : Int),false,(0 : Int),(0 : Int)⟩ : XPassage)).length a0.length 40 then (
 some ((List.replicate n1 (⟨(0 : Int),(0 : Int),false,(0 : Int),(0 : Int)⟩ : XPassage)) ++ a0))
else none
/- impl_ChainsOf -/
def f_impl_ChainsOf_1 (a0 : List XOption) : Nat → Int → (List (List XPassage)) → Option (List (List XPassage))
| 0,_,_ => none
| n + 1,v1,v2 =>
 if (decide (v1 < (a0.length : Int))) then (
 (ix a0 v1).bind fun x4 =>
 (f_impl_clone_Passage x4.Passages).bind fun r5 =>
 if appB v2.length ([r5] : List (List XPassage)).length 24 then (
  f_impl_ChainsOf_1 a0 n (IntKind.i64.wrap (v1 + (1 : Int))) (v2 ++ ([r5] : List (List XPassage))))
 else none)
 else (
 some v2)
def f_impl_ChainsOf (a0 : List XOption) : Option (List (List XPassage)) :=
f_impl_ChainsOf_1 a0 bigN (0 : Int) ([] : List (List XPassage))
/- impl_Ship_minutes -/
def f_impl_Ship_minutes (a0 : XShip) (a1 : XSegment) : Option Int :=
if a0.Slow then (
 some (IntKind.i64.wrap ((2 : Int) * a1.Minutes)))
else (
 some a1.Minutes)
/- impl_passageOk -/
def f_impl_passageOk (a0 : XChart) (a1 : List XShip) (a2 : XPassage) : Option Bool :=
(f_impl_isIndex a2.Ship (a1.length : Int)).bind fun r1 =>
if r1 then (
 (f_impl_isIndex a2.Segment (a0.Segments.length : Int)).bind fun r3 =>
 if r3 then (
 (f_impl_isMinute a2.Start).bind fun r5 =>
 if r5 then (
  if (decide ((2880 : Int) < a2.End)) then (
  some false)
  else (
  (ix a1 a2.Ship).bind fun x8 =>
  (ix a0.Segments a2.Segment).bind fun x9 =>
  (f_impl_Ship_minutes x8 x9).bind fun r10 =>
  some (a2.End == (IntKind.i64.wrap (a2.Start + r10)))))
 else (
  some false))
 else (
 some false))
else (
 some false)
/- impl_PassageOk -/
def f_impl_PassageOk (a0 : XChart) (a1 : List XShip) (a2 : XPassage) : Option Bool :=
(f_impl_ChartOk a0).bind fun r1 =>
if r1 then (
 (f_impl_FleetOk a1).bind fun r3 =>
 if r3 then (
 (f_impl_passageOk a0 a1 a2).bind fun r5 =>
 some r5)
 else (
 some false))
else (
 some false)
/- impl_Passage_ends -/
def f_impl_Passage_ends (a0 : XPassage) (a1 : XChart) : Option (Int × Int) :=
(ix a1.Segments a0.Segment).bind fun x1 =>
if a0.Toward then (
 some (x1.A,x1.B))
else (
 some (x1.B,x1.A))
/- impl_duty -/
def f_impl_duty (a0 : XChart) (a1 : XPassage) (a2 : XPassage) : Option XDuty :=
(f_impl_Passage_ends a1 a0).bind fun r1 =>
(f_impl_Passage_ends a2 a0).bind fun r2 =>
some (⟨a1.Start,a2.End,r1.1,r2.2⟩ : XDuty)
/- impl_tugDuties -/
def f_impl_tugDuties_2 (a1 : List XShip) (a2 : List XPassage) (v1 : Int) (x7 : XShip) (a0 : XChart) (x4 : XPassage) (k_impl_tugDuties_1 : Int → (List XDuty) → Option ((List XDuty) × Bool)) : Nat → Int → (List XDuty) → Option ((List XDuty) × Bool)
| 0,_,_ => none
| n + 1,v8,v9 =>
 if (decide (v8 < x7.Tugs)) then (
 (f_impl_duty a0 x4 x4).bind fun r11 =>
 if appB v9.length ([r11] : List XDuty).length 32 then (
  f_impl_tugDuties_2 a1 a2 v1 x7 a0 x4 k_impl_tugDuties_1 n (IntKind.i64.wrap (v8 + (1 : Int))) (v9 ++ ([r11] : List XDuty)))
 else none)
 else (
 if (decide ((12 : Int) < (v9.length : Int))) then (
  some (([] : List XDuty),false))
 else (
  k_impl_tugDuties_1 (IntKind.i64.wrap (v1 + (1 : Int))) v9))
def f_impl_tugDuties_1 (a1 : List XShip) (a2 : List XPassage) (a0 : XChart) : Nat → Int → (List XDuty) → Option ((List XDuty) × Bool)
| 0,_,_ => none
| n + 1,v1,v2 =>
 if (decide (v1 < (a2.length : Int))) then (
 (ix a2 v1).bind fun x4 =>
 (f_impl_PassageOk a0 a1 x4).bind fun r5 =>
 if r5 then (
  (ix a1 x4.Ship).bind fun x7 =>
  f_impl_tugDuties_2 a1 a2 v1 x7 a0 x4 (f_impl_tugDuties_1 a1 a2 a0 n) bigN (0 : Int) v2)
 else (
  some (([] : List XDuty),false)))
 else (
 some (v2,true))
def f_impl_tugDuties (a0 : XChart) (a1 : List XShip) (a2 : List XPassage) : Option ((List XDuty) × Bool) :=
f_impl_tugDuties_1 a1 a2 a0 bigN (0 : Int) ([] : List XDuty)
/- impl_DutiesOk -/
def f_impl_DutiesOk_1 (a0 : List XDuty) : Nat → Int → Option Bool
| 0,_ => none
| n + 1,v2 =>
 if (decide (v2 < (a0.length : Int))) then (
 (ix a0 v2).bind fun x4 =>
 if (decide (x4.From < (0 : Int))) then (
  some false)
 else (
  if (decide (x4.To ≤ x4.From)) then (
  some false)
  else (
  if (decide ((2880 : Int) < x4.To)) then (
   some false)
  else (
   (f_impl_isIndex x4.A (8 : Int)).bind fun r9 =>
   if r9 then (
   (f_impl_isIndex x4.B (8 : Int)).bind fun r11 =>
   if r11 then (
    f_impl_DutiesOk_1 a0 n (IntKind.i64.wrap (v2 + (1 : Int))))
   else (
    some false))
   else (
   some false)))))
 else (
 some true)
def f_impl_DutiesOk (a0 : List XDuty) : Option Bool :=
if (decide ((12 : Int) < (a0.length : Int))) then (
 some false)
else (
 f_impl_DutiesOk_1 a0 bigN (0 : Int))
/- impl_coverable -/
def f_impl_coverable (a0 : Int) (a1 : List Int) (a2 : List XDuty) : Option Bool :=
(f_impl_DutiesOk a2).bind fun r1 =>
if r1 then (
 (f_impl_isMinute a0).bind fun r3 =>
 if r3 then (
 (f_impl_movesOk a1).bind fun r5 =>
 some r5)
 else (
 some false))
else (
 some false)
/- impl_Gap -/
def f_impl_Gap_1 (a0 : Int) (a1 : List Int) (a2 : XDuty) (a3 : XDuty) (v8 : Bool) : Option (Int × Bool) :=
if v8 then (
 some ((0 : Int),false))
else (
 (ix a1 (IntKind.i64.wrap ((IntKind.i64.wrap ((8 : Int) * a2.B)) + a3.A))).bind fun x10 =>
 some ((IntKind.i64.wrap (a0 + x10)),true))
def f_impl_Gap (a0 : Int) (a1 : List Int) (a2 : XDuty) (a3 : XDuty) : Option (Int × Bool) :=
(f_impl_isMinute a0).bind fun r1 =>
if r1 then (
 (f_impl_movesOk a1).bind fun r3 =>
 if r3 then (
 (f_impl_isIndex a2.B (8 : Int)).bind fun r5 =>
 if r5 then (
  (f_impl_isIndex a3.A (8 : Int)).bind fun r7 =>
  f_impl_Gap_1 a0 a1 a2 a3 (!r7))
 else (
  f_impl_Gap_1 a0 a1 a2 a3 true))
 else (
 f_impl_Gap_1 a0 a1 a2 a3 true))
else (
 f_impl_Gap_1 a0 a1 a2 a3 true)
/- impl_CanFollow -/
def f_impl_CanFollow (a0 : Int) (a1 : List Int) (a2 : XDuty) (a3 : XDuty) : Option Bool :=
(f_impl_Gap a0 a1 a2 a3).bind fun r1 =>
if r1.2 then (
 (f_impl_DutiesOk ([a2] : List XDuty)).bind fun r3 =>
 if r3 then (
 (f_impl_DutiesOk ([a3] : List XDuty)).bind fun r5 =>
 if r5 then (
  some (decide ((IntKind.i64.wrap (a2.To + r1.1)) ≤ a3.From)))
 else (
  some false))
 else (
 some false))
else (
 some false)
/- impl_partners -/
def f_impl_partners_3 (a0 : Int) (a1 : List Int) (a2 : List XDuty) (v2 : Int) (v6 : Int) (x5 : XDuty) (v7 : List Int) (k_impl_partners_2 : Int → (List Int) → Option (List Int)) (v14 : Bool) : Option (List Int) :=
if v14 then (
 (ix v7 v2).bind fun x16 =>
 if decide (v6 < 0) then none else
 k_impl_partners_2 (IntKind.i64.wrap (v6 + (1 : Int))) (v7.set (Int.toNat v2) (bitsV .or .u64 x16 (shlV .u64 (1 : Int) v6))))
else (
 k_impl_partners_2 (IntKind.i64.wrap (v6 + (1 : Int))) v7)
def f_impl_partners_2 (a0 : Int) (a1 : List Int) (a2 : List XDuty) (v2 : Int) (x5 : XDuty) (k_impl_partners_1 : Int → (List Int) → Option (List Int)) : Nat → Int → (List Int) → Option (List Int)
| 0,_,_ => none
| n + 1,v6,v7 =>
 if (decide (v6 < (a2.length : Int))) then (
 (ix a2 v6).bind fun x9 =>
 if (v2 != v6) then (
  (f_impl_CanFollow a0 a1 x5 x9).bind fun r11 =>
  if r11 then (
  f_impl_partners_3 a0 a1 a2 v2 v6 x5 v7 (f_impl_partners_2 a0 a1 a2 v2 x5 k_impl_partners_1 n) true)
  else (
  (f_impl_CanFollow a0 a1 x9 x5).bind fun r13 =>
  f_impl_partners_3 a0 a1 a2 v2 v6 x5 v7 (f_impl_partners_2 a0 a1 a2 v2 x5 k_impl_partners_1 n) r13))
 else (
  f_impl_partners_3 a0 a1 a2 v2 v6 x5 v7 (f_impl_partners_2 a0 a1 a2 v2 x5 k_impl_partners_1 n) false))
 else (
 k_impl_partners_1 (IntKind.i64.wrap (v2 + (1 : Int))) v7)
def f_impl_partners_1 (a0 : Int) (a1 : List Int) (a2 : List XDuty) : Nat → Int → (List Int) → Option (List Int)
| 0,_,_ => none
| n + 1,v2,v3 =>
 if (decide (v2 < (a2.length : Int))) then (
 (ix a2 v2).bind fun x5 =>
 f_impl_partners_2 a0 a1 a2 v2 x5 (f_impl_partners_1 a0 a1 a2 n) bigN (0 : Int) v3)
 else (
 some v3)
def f_impl_partners (a0 : Int) (a1 : List Int) (a2 : List XDuty) : Option (List Int) :=
(mkS (a2.length : Int) (a2.length : Int) 8).bind fun n1 =>
f_impl_partners_1 a0 a1 a2 bigN (0 : Int) (List.replicate n1 (0 : Int))
/- math_bits_Len64 -/
def f_math_bits_Len64_3 (v8 : Int) (v9 : Int) : Option Int :=
(ix ([0,1,2,2,3,3,3,3,4,4,4,4,4,4,4,4,5,5,5,5,5,5,5,5,5,5,5,5,5,5,5,5,6,6,6,6,6,6,6,6,6,6,6,6,6,6,6,6,6,6,6,6,6,6,6,6,6,6,6,6,6,6,6,6,7,7,7,7,7,7,7,7,7,7,7,7,7,7,7,7,7,7,7,7,7,7,7,7,7,7,7,7,7,7,7,7,7,7,7,7,7,7,7,7,7,7,7,7,7,7,7,7,7,7,7,7,7,7,7,7,7,7,7,7,7,7,7,7,8,8,8,8,8,8,8,8,8,8,8,8,8,8,8,8,8,8,8,8,8,8,8,8,8,8,8,8,8,8,8,8,8,8,8,8,8,8,8,8,8,8,8,8,8,8,8,8,8,8,8,8,8,8,8,8,8,8,8,8,8,8,8,8,8,8,8,8,8,8,8,8,8,8,8,8,8,8,8,8,8,8,8,8,8,8,8,8,8,8,8,8,8,8,8,8,8,8,8,8,8,8,8,8,8,8,8,8,8,8,8,8,8,8,8,8,8,8,8,8,8,8,8,8,8,8,8,8] : List UInt8) (IntKind.u8.wrap v8)).bind fun b10 =>
some (IntKind.i64.wrap (v9 + (IntKind.i64.wrap (b10.toNat : Int))))
def f_math_bits_Len64_2 (v5 : Int) (v6 : Int) : Option Int :=
if (decide ((256 : Int) ≤ v5)) then (
 f_math_bits_Len64_3 (shrV .u64 v5 8) (IntKind.i64.wrap (v6 + (8 : Int))))
else (
 f_math_bits_Len64_3 v5 v6)
def f_math_bits_Len64_1 (v2 : Int) (v3 : Int) : Option Int :=
if (decide ((65536 : Int) ≤ v2)) then (
 f_math_bits_Len64_2 (shrV .u64 v2 16) (IntKind.i64.wrap (v3 + (16 : Int))))
else (
 f_math_bits_Len64_2 v2 v3)
def f_math_bits_Len64 (a0 : Int) : Option Int :=
if (decide ((4294967296 : Int) ≤ a0)) then (
 f_math_bits_Len64_1 (shrV .u64 a0 32) (32 : Int))
else (
 f_math_bits_Len64_1 a0 (0 : Int))
/- math_bits_Len -/
def f_math_bits_Len (a0 : Int) : Option Int :=
(f_math_bits_Len64 a0).bind fun r1 =>
some r1
/- impl_leastPersons -/
def f_impl_leastPersons_4 (a0 : List Int) (y5 : Int) (v6 : Int) (v17 : Int) (v18 : Int) (v21 : Int) (v19 : List Bool) (k_impl_leastPersons_1 : Int → (List Bool) → (List Int) → Option Int) (k_impl_leastPersons_3 : Int → (List Int) → Option Int) (v28 : List Int) : Option Int :=
if (v21 == (0 : Int)) then (
 k_impl_leastPersons_1 (IntKind.i64.wrap (v6 + (1 : Int))) v19 v28)
else (
 k_impl_leastPersons_3 (bitsV .and .i64 (IntKind.i64.wrap (v21 - (1 : Int))) v18) v28)
def f_impl_leastPersons_3 (a0 : List Int) (y5 : Int) (v6 : Int) (v17 : Int) (v18 : Int) (v19 : List Bool) (k_impl_leastPersons_1 : Int → (List Bool) → (List Int) → Option Int) : Nat → Int → (List Int) → Option Int
| 0,_,_ => none
| n + 1,v21,v22 =>
 if decide (v17 < 0) then none else
 (ix v19 (bitsV .or .i64 v21 (shlV .i64 (1 : Int) v17))).bind fun x24 =>
 if x24 then (
 (ix v22 v6).bind fun x26 =>
 (ix v22 (bitsV .andNot .i64 v18 v21)).bind fun x27 =>
 f_impl_leastPersons_4 a0 y5 v6 v17 v18 v21 v19 k_impl_leastPersons_1 (f_impl_leastPersons_3 a0 y5 v6 v17 v18 v19 k_impl_leastPersons_1 n) (v22.set (Int.toNat v6) (if (IntKind.i64.wrap ((1 : Int) + x27)) < x26 then (IntKind.i64.wrap ((1 : Int) + x27)) else x26)))
 else (
 f_impl_leastPersons_4 a0 y5 v6 v17 v18 v21 v19 k_impl_leastPersons_1 (f_impl_leastPersons_3 a0 y5 v6 v17 v18 v19 k_impl_leastPersons_1 n) v22)
def f_impl_leastPersons_2 (a0 : List Int) (y5 : Int) (v6 : Int) (v8 : List Int) (k_impl_leastPersons_1 : Int → (List Bool) → (List Int) → Option Int) (v17 : Int) (v18 : Int) (v19 : List Bool) : Option Int :=
(ix v8 v6).bind fun x20 =>
f_impl_leastPersons_3 a0 y5 v6 v17 v18 v19 k_impl_leastPersons_1 bigN v18 (v8.set (Int.toNat v6) (a0.length : Int))
def f_impl_leastPersons_1 (a0 : List Int) (y5 : Int) : Nat → Int → (List Bool) → (List Int) → Option Int
| 0,_,_,_ => none
| n + 1,v6,v7,v8 =>
 if (decide (v6 < y5)) then (
 (f_math_bits_Len (IntKind.u64.wrap v6)).bind fun r10 =>
 if decide ((IntKind.i64.wrap (r10 - (1 : Int))) < 0) then none else
 (ix v7 (bitsV .andNot .i64 v6 (shlV .i64 (1 : Int) (IntKind.i64.wrap (r10 - (1 : Int)))))).bind fun x12 =>
 if x12 then (
  (ix a0 (IntKind.i64.wrap (r10 - (1 : Int)))).bind fun x14 =>
  (ix v7 v6).bind fun x15 =>
  f_impl_leastPersons_2 a0 y5 v6 v8 (f_impl_leastPersons_1 a0 y5 n) (IntKind.i64.wrap (r10 - (1 : Int))) (bitsV .andNot .i64 v6 (shlV .i64 (1 : Int) (IntKind.i64.wrap (r10 - (1 : Int))))) (v7.set (Int.toNat v6) ((bitsV .andNot .u64 (IntKind.u64.wrap (bitsV .andNot .i64 v6 (shlV .i64 (1 : Int) (IntKind.i64.wrap (r10 - (1 : Int)))))) x14) == (0 : Int))))
 else (
  (ix v7 v6).bind fun x16 =>
  f_impl_leastPersons_2 a0 y5 v6 v8 (f_impl_leastPersons_1 a0 y5 n) (IntKind.i64.wrap (r10 - (1 : Int))) (bitsV .andNot .i64 v6 (shlV .i64 (1 : Int) (IntKind.i64.wrap (r10 - (1 : Int))))) (v7.set (Int.toNat v6) false)))
 else (
 (ix v8 (IntKind.i64.wrap (y5 - (1 : Int)))).bind fun x30 =>
 some x30)
def f_impl_leastPersons (a0 : List Int) : Option Int :=
if decide ((a0.length : Int) < 0) then none else
(mkS (shlV .i64 (1 : Int) (a0.length : Int)) (shlV .i64 (1 : Int) (a0.length : Int)) 1).bind fun n2 =>
(mkS (shlV .i64 (1 : Int) (a0.length : Int)) (shlV .i64 (1 : Int) (a0.length : Int)) 8).bind fun n3 =>
(ix (List.replicate n2 false) (0 : Int)).bind fun x4 =>
f_impl_leastPersons_1 a0 (shlV .i64 (1 : Int) (a0.length : Int)) bigN (1 : Int) ((List.replicate n2 false).set (Int.toNat (0 : Int)) true) (List.replicate n3 (0 : Int))
/- impl_coverer_cover -/
def f_impl_coverer_cover_3 (rec_ : Xcoverer → Option (Bool × Xcoverer)) (a0 : Xcoverer) (v2 : Int) (k_impl_coverer_cover_1 : Int → (List Int) → Int → (List Int) → (List Int) → Option (Bool × Xcoverer)) (v22 : List Int) (v23 : Int) (v24 : List Int) (v25 : List Int) : Option (Bool × Xcoverer) :=
(ix v24 v2).bind fun x26 =>
if (x26 == (0 : Int)) then (
 (bnd (v24.length : Int) v2 0 v24.length).bind fun p28 =>
 some (false,(⟨v22,v23,(v24.take p28.2),v25⟩ : Xcoverer)))
else (
 k_impl_coverer_cover_1 (IntKind.i64.wrap (v2 + (1 : Int))) v22 v23 v24 v25)
def f_impl_coverer_cover_2 (rec_ : Xcoverer → Option (Bool × Xcoverer)) (a0 : Xcoverer) (v2 : Int) (v3 : List Int) (v4 : Int) (v6 : List Int) (k_impl_coverer_cover_1 : Int → (List Int) → Int → (List Int) → (List Int) → Option (Bool × Xcoverer)) (v11 : List Int) : Option (Bool × Xcoverer) :=
(ix v11 v2).bind fun x12 =>
(ix v3 (a0.who.length : Int)).bind fun x13 =>
if ((bitsV .andNot .u64 x12 x13) == (0 : Int)) then (
 if decide ((a0.who.length : Int) < 0) then none else
 if appB v6.length ([v2] : List Int).length 8 then (
 (rec_ (⟨v3,v4,(v11.set (Int.toNat v2) (bitsV .or .u64 x12 (shlV .u64 (1 : Int) (a0.who.length : Int)))),(v6 ++ ([v2] : List Int))⟩ : Xcoverer)).bind fun r17 =>
 if r17.1 then (
  some (true,r17.2))
 else (
  (bnd (r17.2.who.length : Int) (a0.who.length : Int) 0 r17.2.who.length).bind fun p19 =>
  (ix r17.2.groups v2).bind fun x20 =>
  if decide ((a0.who.length : Int) < 0) then none else
  f_impl_coverer_cover_3 rec_ a0 v2 k_impl_coverer_cover_1 r17.2.sets r17.2.most (r17.2.groups.set (Int.toNat v2) (bitsV .andNot .u64 x20 (shlV .u64 (1 : Int) (a0.who.length : Int)))) (r17.2.who.take p19.2)))
 else none)
else (
 f_impl_coverer_cover_3 rec_ a0 v2 k_impl_coverer_cover_1 v3 v4 v11 v6)
def f_impl_coverer_cover_1 (rec_ : Xcoverer → Option (Bool × Xcoverer)) (a0 : Xcoverer) : Nat → Int → (List Int) → Int → (List Int) → (List Int) → Option (Bool × Xcoverer)
| 0,_,_,_,_,_ => none
| n + 1,v2,v3,v4,v5,v6 =>
 if (decide (v2 ≤ (v5.length : Int))) then (
 if (decide (v2 < v4)) then (
  if (v2 == (v5.length : Int)) then (
  if appB v5.length ([(0 : Int)] : List Int).length 8 then (
   f_impl_coverer_cover_2 rec_ a0 v2 v3 v4 v6 (f_impl_coverer_cover_1 rec_ a0 n) (v5 ++ ([(0 : Int)] : List Int)))
  else none)
  else (
  f_impl_coverer_cover_2 rec_ a0 v2 v3 v4 v6 (f_impl_coverer_cover_1 rec_ a0 n) v5))
 else (
  some (false,(⟨v3,v4,v5,v6⟩ : Xcoverer))))
 else (
 some (false,(⟨v3,v4,v5,v6⟩ : Xcoverer)))
def f_impl_coverer_cover_b (rec_ : Xcoverer → Option (Bool × Xcoverer)) (a0 : Xcoverer) : Option (Bool × Xcoverer) :=
if ((a0.who.length : Int) == (a0.sets.length : Int)) then (
 some (true,a0))
else (
 f_impl_coverer_cover_1 rec_ a0 bigN (0 : Int) a0.sets a0.most a0.groups a0.who)
def f_impl_coverer_cover_r : Nat → Xcoverer → Option (Bool × Xcoverer)
| 0,_ => none
| n + 1,a0 => f_impl_coverer_cover_b (f_impl_coverer_cover_r n) a0
def f_impl_coverer_cover (a0 : Xcoverer) : Option (Bool × Xcoverer) := f_impl_coverer_cover_r bigN a0
/- impl_LeastCover -/
def f_impl_LeastCover (a0 : Int) (a1 : List Int) (a2 : List XDuty) : Option ((List Int) × Int × Bool) :=
(f_impl_coverable a0 a1 a2).bind fun r1 =>
if r1 then (
 (f_impl_partners a0 a1 a2).bind fun r3 =>
 (f_impl_leastPersons r3).bind fun r4 =>
 (f_impl_coverer_cover (⟨r3,r4,([] : List Int),([] : List Int)⟩ : Xcoverer)).bind fun r5 =>
 some (r5.2.who,r5.2.most,true))
else (
 some (([] : List Int),(0 : Int),false))
/- impl_TugsNeeded -/
def f_impl_TugsNeeded (a0 : XCrew) (a1 : XChart) (a2 : List XShip) (a3 : List XPassage) : Option Int :=
(f_impl_tugDuties a1 a2 a3).bind fun r1 =>
if r1.2 then (
 (f_impl_CrewOk a0).bind fun r3 =>
 if r3 then (
 (f_impl_LeastCover (0 : Int) a0.Moves r1.1).bind fun r5 =>
 some r5.2.1)
 else (
 some (-1 : Int)))
else (
 some (-1 : Int))
/- impl_IsChain -/
def f_impl_IsChain_1 (a1 : List XPassage) (a0 : XChart) : Nat → Int → Option Bool
| 0,_ => none
| n + 1,v3 =>
 if (decide (v3 < (a1.length : Int))) then (
 (ix a1 v3).bind fun x5 =>
 (ix a1 (0 : Int)).bind fun x6 =>
 if (x5.Ship != x6.Ship) then (
  some false)
 else (
  (f_impl_isIndex x5.Segment (a0.Segments.length : Int)).bind fun r9 =>
  if r9 then (
  if (v3 == (0 : Int)) then (
   f_impl_IsChain_1 a1 a0 n (IntKind.i64.wrap (v3 + (1 : Int))))
  else (
   (ix a1 (IntKind.i64.wrap (v3 - (1 : Int)))).bind fun x12 =>
   (f_impl_Passage_ends x12 a0).bind fun r13 =>
   (f_impl_Passage_ends x5 a0).bind fun r14 =>
   if (r14.1 != r13.2) then (
   some false)
   else (
   if (decide (x5.Start < x12.End)) then (
    some false)
   else (
    f_impl_IsChain_1 a1 a0 n (IntKind.i64.wrap (v3 + (1 : Int)))))))
  else (
  some false)))
 else (
 some true)
def f_impl_IsChain (a0 : XChart) (a1 : List XPassage) : Option Bool :=
(f_impl_ChartOk a0).bind fun r1 =>
if r1 then (
 f_impl_IsChain_1 a1 a0 bigN (0 : Int))
else (
 some false)
/- impl_PilotDuty -/
def f_impl_PilotDuty_2 (a1 : List XShip) (a2 : List XPassage) (a0 : XChart) : Nat → Int → Option (XDuty × Bool)
| 0,_ => none
| n + 1,v5 =>
 if (decide (v5 < (a2.length : Int))) then (
 (ix a2 v5).bind fun x7 =>
 (f_impl_PassageOk a0 a1 x7).bind fun r9 =>
 if r9 then (
  f_impl_PilotDuty_2 a1 a2 a0 n (IntKind.i64.wrap (v5 + (1 : Int))))
 else (
  some ((⟨(0 : Int),(0 : Int),(0 : Int),(0 : Int)⟩ : XDuty),false)))
 else (
 (ix a2 (0 : Int)).bind fun x11 =>
 (ix a2 (IntKind.i64.wrap ((a2.length : Int) - (1 : Int)))).bind fun x12 =>
 (f_impl_duty a0 x11 x12).bind fun r13 =>
 some (r13,true))
def f_impl_PilotDuty_1 (a1 : List XShip) (a2 : List XPassage) (a0 : XChart) (v3 : Bool) : Option (XDuty × Bool) :=
if v3 then (
 some ((⟨(0 : Int),(0 : Int),(0 : Int),(0 : Int)⟩ : XDuty),false))
else (
 f_impl_PilotDuty_2 a1 a2 a0 bigN (0 : Int))
def f_impl_PilotDuty (a0 : XChart) (a1 : List XShip) (a2 : List XPassage) : Option (XDuty × Bool) :=
if ((a2.length : Int) == (0 : Int)) then (
 f_impl_PilotDuty_1 a1 a2 a0 true)
else (
 (f_impl_IsChain a0 a2).bind fun r2 =>
 f_impl_PilotDuty_1 a1 a2 a0 (!r2))
/- impl_PilotsNeeded -/
def f_impl_PilotsNeeded_1 (a2 : List XShip) (a3 : List (List XPassage)) (a0 : XCrew) (a1 : XChart) : Nat → Int → (List XDuty) → Option Int
| 0,_,_ => none
| n + 1,v1,v2 =>
 if (decide (v1 < (a3.length : Int))) then (
 (ix a3 v1).bind fun x4 =>
 if ((x4.length : Int) == (0 : Int)) then (
  f_impl_PilotsNeeded_1 a2 a3 a0 a1 n (IntKind.i64.wrap (v1 + (1 : Int))) v2)
 else (
  (f_impl_PilotDuty a1 a2 x4).bind fun r6 =>
  if r6.2 then (
  if appB v2.length ([r6.1] : List XDuty).length 32 then (
   f_impl_PilotsNeeded_1 a2 a3 a0 a1 n (IntKind.i64.wrap (v1 + (1 : Int))) (v2 ++ ([r6.1] : List XDuty)))
  else none)
  else (
  some (-1 : Int))))
 else (
 (f_impl_CrewOk a0).bind fun r9 =>
 if r9 then (
  if (decide ((12 : Int) < (v2.length : Int))) then (
  some (-1 : Int))
  else (
  (f_impl_LeastCover a0.Rest a0.Moves v2).bind fun r12 =>
  some r12.2.1))
 else (
  some (-1 : Int)))
def f_impl_PilotsNeeded (a0 : XCrew) (a1 : XChart) (a2 : List XShip) (a3 : List (List XPassage)) : Option Int :=
f_impl_PilotsNeeded_1 a2 a3 a0 a1 bigN (0 : Int) ([] : List XDuty)
/- impl_FormatInt -/
def f_impl_FormatInt (a0 : Int) : Option (List UInt8) :=
(f_strconv_Itoa a0).bind fun r1 =>
some r1
/- impl_word -/
def f_impl_word (a0 : XAny) : Option (List UInt8) :=
if a0.isS then (
 some a0.s)
else (
 (f_impl_FormatInt a0.n).bind fun r2 =>
 some r2)
/- impl_Join -/
def f_impl_Join (a0 : List (List UInt8)) (a1 : List UInt8) : Option (List UInt8) :=
(f_strings_Join a0 a1).bind fun r1 =>
some r1
/- impl_words -/
def f_impl_words_1 (a0 : List XAny) : Nat → Int → (List (List UInt8)) → Option (List UInt8)
| 0,_,_ => none
| n + 1,v1,v2 =>
 if (decide (v1 < (a0.length : Int))) then (
 (ix a0 v1).bind fun x4 =>
 (f_impl_word x4).bind fun r5 =>
 if appB v2.length ([r5] : List (List UInt8)).length 16 then (
  f_impl_words_1 a0 n (IntKind.i64.wrap (v1 + (1 : Int))) (v2 ++ ([r5] : List (List UInt8))))
 else none)
 else (
 (f_impl_Join v2 ([32] : List UInt8)).bind fun r7 =>
 some r7)
def f_impl_words (a0 : List XAny) : Option (List UInt8) :=
f_impl_words_1 a0 bigN (0 : Int) ([] : List (List UInt8))
/- impl_CrewLine -/
def f_impl_CrewLine_1 (r3 : (List (List XPassage))) (a0 : XHarbour) : Nat → Int → (List XPassage) → Option (List UInt8)
| 0,_,_ => none
| n + 1,v4,v5 =>
 if (decide (v4 < (r3.length : Int))) then (
 (ix r3 v4).bind fun x7 =>
 if appB v5.length x7.length 40 then (
  f_impl_CrewLine_1 r3 a0 n (IntKind.i64.wrap (v4 + (1 : Int))) (v5 ++ x7))
 else none)
 else (
 (f_impl_TugsNeeded a0.Crew a0.Chart a0.Fleet v5).bind fun r9 =>
 (f_impl_PilotsNeeded a0.Crew a0.Chart a0.Fleet r3).bind fun r10 =>
 (f_impl_words ([(⟨true,([116,117,103,115] : List UInt8),0⟩ : XAny),(⟨false,[],r9⟩ : XAny),(⟨true,([112,105,108,111,116,115] : List UInt8),0⟩ : XAny),(⟨false,[],r10⟩ : XAny)] : List XAny)).bind fun r11 =>
 some r11)
def f_impl_CrewLine (a0 : XHarbour) (a1 : List XOption) : Option (List UInt8) :=
(f_impl_HarbourOk a0).bind fun r1 =>
if r1 then (
 (f_impl_ChainsOf a1).bind fun r3 =>
 f_impl_CrewLine_1 r3 a0 bigN (0 : Int) ([] : List XPassage))
else (
 some ([] : List UInt8))
/- laws_eqPart -/
def f_laws_eqPart (a0 : XPart) (a1 : XPart) : Option Bool :=
if (a0.Amp != a1.Amp) then (
 some false)
else (
 if (a0.Period != a1.Period) then (
 some false)
 else (
 if (a0.Phase != a1.Phase) then (
  some false)
 else (
  some true)))
/- laws_eqPartS -/
def f_laws_eqPartS_1 (a0 : List XPart) (a1 : List XPart) : Nat → Int → Option Bool
| 0,_ => none
| n + 1,v2 =>
 if (decide (v2 < (a0.length : Int))) then (
 (ix a0 v2).bind fun x4 =>
 (ix a1 v2).bind fun x5 =>
 (f_laws_eqPart x4 x5).bind fun r6 =>
 if r6 then (
  f_laws_eqPartS_1 a0 a1 n (IntKind.i64.wrap (v2 + (1 : Int))))
 else (
  some false))
 else (
 some true)
def f_laws_eqPartS (a0 : List XPart) (a1 : List XPart) : Option Bool :=
if ((a0.length : Int) != (a1.length : Int)) then (
 some false)
else (
 f_laws_eqPartS_1 a0 a1 bigN (0 : Int))
/- laws_eqTide -/
def f_laws_eqTide (a0 : XTide) (a1 : XTide) : Option Bool :=
if (a0.Mean != a1.Mean) then (
 some false)
else (
 (f_laws_eqPartS a0.Parts a1.Parts).bind fun r2 =>
 if r2 then (
 some true)
 else (
 some false))
/- laws_eqSurge -/
def f_laws_eqSurge (a0 : XSurge) (a1 : XSurge) : Option Bool :=
if (a0.From != a1.From) then (
 some false)
else (
 if (a0.Low != a1.Low) then (
 some false)
 else (
 if (a0.High != a1.High) then (
  some false)
 else (
  some true)))
/- laws_eqSurgeS -/
def f_laws_eqSurgeS_1 (a0 : List XSurge) (a1 : List XSurge) : Nat → Int → Option Bool
| 0,_ => none
| n + 1,v2 =>
 if (decide (v2 < (a0.length : Int))) then (
 (ix a0 v2).bind fun x4 =>
 (ix a1 v2).bind fun x5 =>
 (f_laws_eqSurge x4 x5).bind fun r6 =>
 if r6 then (
  f_laws_eqSurgeS_1 a0 a1 n (IntKind.i64.wrap (v2 + (1 : Int))))
 else (
  some false))
 else (
 some true)
def f_laws_eqSurgeS (a0 : List XSurge) (a1 : List XSurge) : Option Bool :=
if ((a0.length : Int) != (a1.length : Int)) then (
 some false)
else (
 f_laws_eqSurgeS_1 a0 a1 bigN (0 : Int))
/- laws_eqForecast -/
def f_laws_eqForecast (a0 : XForecast) (a1 : XForecast) : Option Bool :=
(f_laws_eqTide a0.Tide a1.Tide).bind fun r1 =>
if r1 then (
 (f_laws_eqSurgeS a0.Surges a1.Surges).bind fun r3 =>
 if r3 then (
 some true)
 else (
 some false))
else (
 some false)
/- laws_eqPoint -/
def f_laws_eqPoint (a0 : XPoint) (a1 : XPoint) : Option Bool :=
if (a0.Name == a1.Name) then (
 if (a0.Wait == a1.Wait) then (
 some true)
 else (
 some false))
else (
 some false)
/- laws_eqPointS -/
def f_laws_eqPointS_1 (a0 : List XPoint) (a1 : List XPoint) : Nat → Int → Option Bool
| 0,_ => none
| n + 1,v2 =>
 if (decide (v2 < (a0.length : Int))) then (
 (ix a0 v2).bind fun x4 =>
 (ix a1 v2).bind fun x5 =>
 (f_laws_eqPoint x4 x5).bind fun r6 =>
 if r6 then (
  f_laws_eqPointS_1 a0 a1 n (IntKind.i64.wrap (v2 + (1 : Int))))
 else (
  some false))
 else (
 some true)
def f_laws_eqPointS (a0 : List XPoint) (a1 : List XPoint) : Option Bool :=
if ((a0.length : Int) != (a1.length : Int)) then (
 some false)
else (
 f_laws_eqPointS_1 a0 a1 bigN (0 : Int))
/- laws_eqSegment -/
def f_laws_eqSegment (a0 : XSegment) (a1 : XSegment) : Option Bool :=
if (a0.A != a1.A) then (
 some false)
else (
 if (a0.B != a1.B) then (
 some false)
 else (
 if (a0.Depth != a1.Depth) then (
  some false)
 else (
  if (a0.Minutes != a1.Minutes) then (
  some false)
  else (
  if (a0.Meet == a1.Meet) then (
   some true)
  else (
   some false)))))
/- laws_eqSegmentS -/
def f_laws_eqSegmentS_1 (a0 : List XSegment) (a1 : List XSegment) : Nat → Int → Option Bool
| 0,_ => none
| n + 1,v2 =>
 if (decide (v2 < (a0.length : Int))) then (
 (ix a0 v2).bind fun x4 =>
 (ix a1 v2).bind fun x5 =>
 (f_laws_eqSegment x4 x5).bind fun r6 =>
 if r6 then (
  f_laws_eqSegmentS_1 a0 a1 n (IntKind.i64.wrap (v2 + (1 : Int))))
 else (
  some false))
 else (
 some true)
def f_laws_eqSegmentS (a0 : List XSegment) (a1 : List XSegment) : Option Bool :=
if ((a0.length : Int) != (a1.length : Int)) then (
 some false)
else (
 f_laws_eqSegmentS_1 a0 a1 bigN (0 : Int))
/- laws_eqChart -/
def f_laws_eqChart (a0 : XChart) (a1 : XChart) : Option Bool :=
(f_laws_eqPointS a0.Points a1.Points).bind fun r1 =>
if r1 then (
 (f_laws_eqSegmentS a0.Segments a1.Segments).bind fun r3 =>
 if r3 then (
 some true)
 else (
 some false))
else (
 some false)
/- laws_eqShip -/
def f_laws_eqShip (a0 : XShip) (a1 : XShip) : Option Bool :=
if (a0.Name == a1.Name) then (
 if (a0.Length != a1.Length) then (
 some false)
 else (
 if (a0.Draught != a1.Draught) then (
  some false)
 else (
  if (a0.Line != a1.Line) then (
  some false)
  else (
  if (a0.Tugs != a1.Tugs) then (
   some false)
  else (
   if (a0.Slow == a1.Slow) then (
   some true)
   else (
   some false))))))
else (
 some false)
/- laws_eqShipS -/
def f_laws_eqShipS_1 (a0 : List XShip) (a1 : List XShip) : Nat → Int → Option Bool
| 0,_ => none
| n + 1,v2 =>
 if (decide (v2 < (a0.length : Int))) then (
 (ix a0 v2).bind fun x4 =>
 (ix a1 v2).bind fun x5 =>
 (f_laws_eqShip x4 x5).bind fun r6 =>
 if r6 then (
  f_laws_eqShipS_1 a0 a1 n (IntKind.i64.wrap (v2 + (1 : Int))))
 else (
  some false))
 else (
 some true)
def f_laws_eqShipS (a0 : List XShip) (a1 : List XShip) : Option Bool :=
if ((a0.length : Int) != (a1.length : Int)) then (
 some false)
else (
 f_laws_eqShipS_1 a0 a1 bigN (0 : Int))
/- laws_eqRegime -/
def f_laws_eqRegime (a0 : XRegime) (a1 : XRegime) : Option Bool :=
if (a0.Gap != a1.Gap) then (
 some false)
else (
 if (a0.NoMeet == a1.NoMeet) then (
 some true)
 else (
 some false))
/- laws_eqIntS -/
def f_laws_eqIntS_1 (a0 : List Int) (a1 : List Int) : Nat → Int → Option Bool
| 0,_ => none
| n + 1,v2 =>
 if (decide (v2 < (a0.length : Int))) then (
 (ix a0 v2).bind fun x4 =>
 (ix a1 v2).bind fun x5 =>
 if (x4 != x5) then (
  some false)
 else (
  f_laws_eqIntS_1 a0 a1 n (IntKind.i64.wrap (v2 + (1 : Int)))))
 else (
 some true)
def f_laws_eqIntS (a0 : List Int) (a1 : List Int) : Option Bool :=
if ((a0.length : Int) != (a1.length : Int)) then (
 some false)
else (
 f_laws_eqIntS_1 a0 a1 bigN (0 : Int))
/- laws_eqCrew -/
def f_laws_eqCrew (a0 : XCrew) (a1 : XCrew) : Option Bool :=
if (a0.Tugs != a1.Tugs) then (
 some false)
else (
 if (a0.Pilots != a1.Pilots) then (
 some false)
 else (
 if (a0.Rest != a1.Rest) then (
  some false)
 else (
  (f_laws_eqIntS a0.Moves a1.Moves).bind fun r4 =>
  if r4 then (
  some true)
  else (
  some false))))
/- laws_eqHarbour -/
def f_laws_eqHarbour (a0 : XHarbour) (a1 : XHarbour) : Option Bool :=
(f_laws_eqForecast a0.Forecast a1.Forecast).bind fun r1 =>
if r1 then (
 (f_laws_eqChart a0.Chart a1.Chart).bind fun r3 =>
 if r3 then (
 (f_laws_eqShipS a0.Fleet a1.Fleet).bind fun r5 =>
 if r5 then (
  (f_laws_eqRegime a0.Regime a1.Regime).bind fun r7 =>
  if r7 then (
  (f_laws_eqCrew a0.Crew a1.Crew).bind fun r9 =>
  if r9 then (
   some true)
  else (
   some false))
  else (
  some false))
 else (
  some false))
 else (
 some false))
else (
 some false)
/- laws_eqPassage -/
def f_laws_eqPassage (a0 : XPassage) (a1 : XPassage) : Option Bool :=
if (a0.Ship != a1.Ship) then (
 some false)
else (
 if (a0.Segment != a1.Segment) then (
 some false)
 else (
 if (a0.Toward == a1.Toward) then (
  if (a0.Start != a1.Start) then (
  some false)
  else (
  if (a0.End != a1.End) then (
   some false)
  else (
   some true)))
 else (
  some false)))
/- laws_eqPassageS -/
def f_laws_eqPassageS_1 (a0 : List XPassage) (a1 : List XPassage) : Nat → Int → Option Bool
| 0,_ => none
| n + 1,v2 =>
 if (decide (v2 < (a0.length : Int))) then (
 (ix a0 v2).bind fun x4 =>
 (ix a1 v2).bind fun x5 =>
 (f_laws_eqPassage x4 x5).bind fun r6 =>
 if r6 then (
  f_laws_eqPassageS_1 a0 a1 n (IntKind.i64.wrap (v2 + (1 : Int))))
 else (
  some false))
 else (
 some true)
def f_laws_eqPassageS (a0 : List XPassage) (a1 : List XPassage) : Option Bool :=
if ((a0.length : Int) != (a1.length : Int)) then (
 some false)
else (
 f_laws_eqPassageS_1 a0 a1 bigN (0 : Int))
/- laws_eqOption -/
def f_laws_eqOption (a0 : XOption) (a1 : XOption) : Option Bool :=
if (a0.Start != a1.Start) then (
 some false)
else (
 if (a0.Arrival != a1.Arrival) then (
 some false)
 else (
 if (a0.Cost != a1.Cost) then (
  some false)
 else (
  (f_laws_eqPassageS a0.Passages a1.Passages).bind fun r4 =>
  if r4 then (
  some true)
  else (
  some false))))
/- laws_eqOptionS -/
def f_laws_eqOptionS_1 (a0 : List XOption) (a1 : List XOption) : Nat → Int → Option Bool
| 0,_ => none
| n + 1,v2 =>
 if (decide (v2 < (a0.length : Int))) then (
 (ix a0 v2).bind fun x4 =>
 (ix a1 v2).bind fun x5 =>
 (f_laws_eqOption x4 x5).bind fun r6 =>
 if r6 then (
  f_laws_eqOptionS_1 a0 a1 n (IntKind.i64.wrap (v2 + (1 : Int))))
 else (
  some false))
 else (
 some true)
def f_laws_eqOptionS (a0 : List XOption) (a1 : List XOption) : Option Bool :=
if ((a0.length : Int) != (a1.length : Int)) then (
 some false)
else (
 f_laws_eqOptionS_1 a0 a1 bigN (0 : Int))
/- laws_FnExactCrewLine -/
def f_laws_FnExactCrewLine (a0 : XHarbour) (a1 : List XOption) : Option Bool :=
(f_laws_szHarbour a0 (1048576 : Int)).bind fun r1 =>
if (decide (r1 < (0 : Int))) then (
 some true)
else (
 (f_laws_szOptionS a1 r1).bind fun r3 =>
 if (decide (r3 < (0 : Int))) then (
 some true)
 else (
 (f_laws_toHarbour a0).bind fun r5 =>
 (f_laws_toOptionS a1).bind fun r6 =>
 (f_spec_CrewLine r5 r6).bind fun r7 =>
 (f_laws_toHarbour a0).bind fun r9 =>
 (f_laws_toOptionS a1).bind fun r10 =>
 (f_impl_CrewLine r9 r10).bind fun r11 =>
 if (r11 == r7) then (
  (f_laws_toHarbour a0).bind fun r13 =>
  (f_laws_eqHarbour r9 r13).bind fun r14 =>
  if r14 then (
  (f_laws_toOptionS a1).bind fun r16 =>
  (f_laws_eqOptionS r10 r16).bind fun r17 =>
  if r17 then (
   some true)
  else (
   some false))
  else (
  some false))
 else (
  some false)))
end Go.Vi
