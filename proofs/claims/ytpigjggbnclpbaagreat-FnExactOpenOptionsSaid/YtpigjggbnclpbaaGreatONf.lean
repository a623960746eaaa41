/-
Plain definitions of functions. No condition.
-/
import Derived.Test.YtpigjggbnclpbaaGreatOVi44
namespace Go.Vi
set_option linter.all false
open Int renaming toNat → zB, tdiv → zE, tmod → zF
open Nat renaming le_of_ble_eq_true → zC
open List renaming map → zD, replicate → zH, not_mem_nil → zI, mem_cons → zJ, all_cons → zK, all_nil → zL
open And renaming intro → zG
open IntKind renaming wrap → zM
open Bool renaming true → F, false → E
open Option renaming some → O, none → U
open _root_ renaming List → V, Option → W, Int → X, Bool → Y, Nat → Z, UInt8 → zA
structure Xc where
 Amp:X
 Period:X
 Phase:X
 deriving DecidableEq
def Xc.row(x:Xc):V D:= [.int .i64 x.Amp,.int .i64 x.Period,.int .i64 x.Phase]
theorem Xc.row_eq(x:Xc):Xc.row x= [.int .i64 x.Amp,.int .i64 x.Period,.int .i64 x.Phase]:=rfl
instance:Row Xc.row 3:=⟨fun _=>rfl,zC rfl⟩
instance:FlatRow Xc.row:=⟨fun x d hd=>by simp only[Xc.row_eq,zJ,zI,or_false] at hd; rcases hd with rfl | rfl | rfl<;>rfl⟩
instance:OfTy (.st [(.int .i64),(.int .i64),(.int .i64)]) Xc.row:=⟨fun ds h=>by
 obtain⟨a0,b0,h0,t0,rfl⟩:=h;obtain⟨a1,b1,h1,t1,rfl⟩:=t0;obtain⟨a2,b2,h2,t2,rfl⟩:=t1;obtain rfl:=t2;obtain⟨x0,rfl⟩:=OfTy.of (row:=rI) _ h0;obtain⟨x1,rfl⟩:=OfTy.of (row:=rI) _ h1;obtain⟨x2,rfl⟩:=OfTy.of (row:=rI) _ h2;exact⟨⟨x0,x1,x2⟩,rfl⟩⟩
structure Xh where
 Mean:X
 Parts:V Xc
 deriving DecidableEq
def Xh.row(x:Xh):V D:= [.int .i64 x.Mean,.sl (zD Xc.row x.Parts)]
theorem Xh.row_eq(x:Xh):Xh.row x= [.int .i64 x.Mean,.sl (zD Xc.row x.Parts)]:=rfl
instance:Row Xh.row 2:=⟨fun _=>rfl,zC rfl⟩
instance:OfTy (.st [(.int .i64),(.sl (.st [(.int .i64),(.int .i64),(.int .i64)]))]) Xh.row:=⟨fun ds h=>by
 obtain⟨a0,b0,h0,t0,rfl⟩:=h;obtain⟨a1,b1,h1,t1,rfl⟩:=t0;obtain rfl:=t1;obtain⟨x0,rfl⟩:=OfTy.of (row:=rI) _ h0;obtain⟨x1,rfl⟩:=OfTy.of (row:=(rL Xc.row)) _ h1;exact⟨⟨x0,x1⟩,rfl⟩⟩
structure Xa where
 From:X
 Low:X
 High:X
 deriving DecidableEq
def Xa.row(x:Xa):V D:= [.int .i64 x.From,.int .i64 x.Low,.int .i64 x.High]
theorem Xa.row_eq(x:Xa):Xa.row x= [.int .i64 x.From,.int .i64 x.Low,.int .i64 x.High]:=rfl
instance:Row Xa.row 3:=⟨fun _=>rfl,zC rfl⟩
instance:FlatRow Xa.row:=⟨fun x d hd=>by simp only[Xa.row_eq,zJ,zI,or_false] at hd; rcases hd with rfl | rfl | rfl<;>rfl⟩
instance:OfTy (.st [(.int .i64),(.int .i64),(.int .i64)]) Xa.row:=⟨fun ds h=>by
 obtain⟨a0,b0,h0,t0,rfl⟩:=h;obtain⟨a1,b1,h1,t1,rfl⟩:=t0;obtain⟨a2,b2,h2,t2,rfl⟩:=t1;obtain rfl:=t2;obtain⟨x0,rfl⟩:=OfTy.of (row:=rI) _ h0;obtain⟨x1,rfl⟩:=OfTy.of (row:=rI) _ h1;obtain⟨x2,rfl⟩:=OfTy.of (row:=rI) _ h2;exact⟨⟨x0,x1,x2⟩,rfl⟩⟩
structure Xb where
 Tide:Xh
 Surges:V Xa
 deriving DecidableEq
def Xb.row(x:Xb):V D:= [.int .i64 x.Tide.Mean,.sl (zD Xc.row x.Tide.Parts),.sl (zD Xa.row x.Surges)]
theorem Xb.row_eq(x:Xb):Xb.row x= [.int .i64 x.Tide.Mean,.sl (zD Xc.row x.Tide.Parts),.sl (zD Xa.row x.Surges)]:=rfl
instance:Row Xb.row 3:=⟨fun _=>rfl,zC rfl⟩
instance:OfTy (.st [(.st [(.int .i64),(.sl (.st [(.int .i64),(.int .i64),(.int .i64)]))]),(.sl (.st [(.int .i64),(.int .i64),(.int .i64)]))]) Xb.row:=⟨fun ds h=>by
 obtain⟨a0,b0,h0,t0,rfl⟩:=h;obtain⟨a1,b1,h1,t1,rfl⟩:=t0;obtain rfl:=t1;obtain⟨x0,rfl⟩:=OfTy.of (row:=Xh.row) _ h0;obtain⟨x1,rfl⟩:=OfTy.of (row:=(rL Xa.row)) _ h1;exact⟨⟨x0,x1⟩,rfl⟩⟩
structure X8 where
 Name:V zA
 Wait:Y
 deriving DecidableEq
def X8.row(x:X8):V D:= [.str x.Name,.bool x.Wait]
theorem X8.row_eq(x:X8):X8.row x= [.str x.Name,.bool x.Wait]:=rfl
instance:Row X8.row 2:=⟨fun _=>rfl,zC rfl⟩
instance:FlatRow X8.row:=⟨fun x d hd=>by simp only[X8.row_eq,zJ,zI,or_false] at hd; rcases hd with rfl | rfl<;>rfl⟩
instance:OfTy (.st [.str,.bool]) X8.row:=⟨fun ds h=>by
 obtain⟨a0,b0,h0,t0,rfl⟩:=h;obtain⟨a1,b1,h1,t1,rfl⟩:=t0;obtain rfl:=t1;obtain⟨x0,rfl⟩:=OfTy.of (row:=rS) _ h0;obtain⟨x1,rfl⟩:=OfTy.of (row:=rB) _ h1;exact⟨⟨x0,x1⟩,rfl⟩⟩
structure X1 where
 A:X
 B:X
 Depth:X
 Minutes:X
 Meet:Y
 deriving DecidableEq
def X1.row(x:X1):V D:= [.int .i64 x.A,.int .i64 x.B,.int .i64 x.Depth,.int .i64 x.Minutes,.bool x.Meet]
theorem X1.row_eq(x:X1):X1.row x= [.int .i64 x.A,.int .i64 x.B,.int .i64 x.Depth,.int .i64 x.Minutes,.bool x.Meet]:=rfl
instance:Row X1.row 5:=⟨fun _=>rfl,zC rfl⟩
instance:FlatRow X1.row:=⟨fun x d hd=>by simp only[X1.row_eq,zJ,zI,or_false] at hd; rcases hd with rfl | rfl | rfl | rfl | rfl<;>rfl⟩
instance:OfTy (.st [(.int .i64),(.int .i64),(.int .i64),(.int .i64),.bool]) X1.row:=⟨fun ds h=>by
 obtain⟨a0,b0,h0,t0,rfl⟩:=h;obtain⟨a1,b1,h1,t1,rfl⟩:=t0;obtain⟨a2,b2,h2,t2,rfl⟩:=t1;obtain⟨a3,b3,h3,t3,rfl⟩:=t2;obtain⟨a4,b4,h4,t4,rfl⟩:=t3;obtain rfl:=t4;obtain⟨x0,rfl⟩:=OfTy.of (row:=rI) _ h0;obtain⟨x1,rfl⟩:=OfTy.of (row:=rI) _ h1;obtain⟨x2,rfl⟩:=OfTy.of (row:=rI) _ h2;obtain⟨x3,rfl⟩:=OfTy.of (row:=rI) _ h3;obtain⟨x4,rfl⟩:=OfTy.of (row:=rB) _ h4;exact⟨⟨x0,x1,x2,x3,x4⟩,rfl⟩⟩
structure X0 where
 Points:V X8
 Segments:V X1
 deriving DecidableEq
def X0.row(x:X0):V D:= [.sl (zD X8.row x.Points),.sl (zD X1.row x.Segments)]
theorem X0.row_eq(x:X0):X0.row x= [.sl (zD X8.row x.Points),.sl (zD X1.row x.Segments)]:=rfl
instance:Row X0.row 2:=⟨fun _=>rfl,zC rfl⟩
instance:OfTy (.st [(.sl (.st [.str,.bool])),(.sl (.st [(.int .i64),(.int .i64),(.int .i64),(.int .i64),.bool]))]) X0.row:=⟨fun ds h=>by
 obtain⟨a0,b0,h0,t0,rfl⟩:=h;obtain⟨a1,b1,h1,t1,rfl⟩:=t0;obtain rfl:=t1;obtain⟨x0,rfl⟩:=OfTy.of (row:=(rL X8.row)) _ h0;obtain⟨x1,rfl⟩:=OfTy.of (row:=(rL X1.row)) _ h1;exact⟨⟨x0,x1⟩,rfl⟩⟩
structure X6 where
 Name:V zA
 Length:X
 Draught:X
 Line:X
 Tugs:X
 Slow:Y
 deriving DecidableEq
def X6.row(x:X6):V D:= [.str x.Name,.int .i64 x.Length,.int .i64 x.Draught,.int .i64 x.Line,.int .i64 x.Tugs,.bool x.Slow]
theorem X6.row_eq(x:X6):X6.row x= [.str x.Name,.int .i64 x.Length,.int .i64 x.Draught,.int .i64 x.Line,.int .i64 x.Tugs,.bool x.Slow]:=rfl
instance:Row X6.row 6:=⟨fun _=>rfl,zC rfl⟩
instance:FlatRow X6.row:=⟨fun x d hd=>by simp only[X6.row_eq,zJ,zI,or_false] at hd; rcases hd with rfl | rfl | rfl | rfl | rfl | rfl<;>rfl⟩
instance:OfTy (.st [.str,(.int .i64),(.int .i64),(.int .i64),(.int .i64),.bool]) X6.row:=⟨fun ds h=>by
 obtain⟨a0,b0,h0,t0,rfl⟩:=h;obtain⟨a1,b1,h1,t1,rfl⟩:=t0;obtain⟨a2,b2,h2,t2,rfl⟩:=t1;obtain⟨a3,b3,h3,t3,rfl⟩:=t2;obtain⟨a4,b4,h4,t4,rfl⟩:=t3;obtain⟨a5,b5,h5,t5,rfl⟩:=t4;obtain rfl:=t5;obtain⟨x0,rfl⟩:=OfTy.of (row:=rS) _ h0;obtain⟨x1,rfl⟩:=OfTy.of (row:=rI) _ h1;obtain⟨x2,rfl⟩:=OfTy.of (row:=rI) _ h2;obtain⟨x3,rfl⟩:=OfTy.of (row:=rI) _ h3;obtain⟨x4,rfl⟩:=OfTy.of (row:=rI) _ h4;obtain⟨x5,rfl⟩:=OfTy.of (row:=rB) _ h5;exact⟨⟨x0,x1,x2,x3,x4,x5⟩,rfl⟩⟩
structure Xi where
 Gap:X
 NoMeet:Y
 deriving DecidableEq
def Xi.row(x:Xi):V D:= [.int .i64 x.Gap,.bool x.NoMeet]
theorem Xi.row_eq(x:Xi):Xi.row x= [.int .i64 x.Gap,.bool x.NoMeet]:=rfl
instance:Row Xi.row 2:=⟨fun _=>rfl,zC rfl⟩
instance:FlatRow Xi.row:=⟨fun x d hd=>by simp only[Xi.row_eq,zJ,zI,or_false] at hd; rcases hd with rfl | rfl<;>rfl⟩
instance:OfTy (.st [(.int .i64),.bool]) Xi.row:=⟨fun ds h=>by
 obtain⟨a0,b0,h0,t0,rfl⟩:=h;obtain⟨a1,b1,h1,t1,rfl⟩:=t0;obtain rfl:=t1;obtain⟨x0,rfl⟩:=OfTy.of (row:=rI) _ h0;obtain⟨x1,rfl⟩:=OfTy.of (row:=rB) _ h1;exact⟨⟨x0,x1⟩,rfl⟩⟩
structure Xj where
 Tugs:X
 Pilots:X
 Rest:X
 Moves:V X
 deriving DecidableEq
def Xj.row(x:Xj):V D:= [.int .i64 x.Tugs,.int .i64 x.Pilots,.int .i64 x.Rest,.sl (zD rI x.Moves)]
theorem Xj.row_eq(x:Xj):Xj.row x= [.int .i64 x.Tugs,.int .i64 x.Pilots,.int .i64 x.Rest,.sl (zD rI x.Moves)]:=rfl
instance:Row Xj.row 4:=⟨fun _=>rfl,zC rfl⟩
instance:OfTy (.st [(.int .i64),(.int .i64),(.int .i64),(.sl (.int .i64))]) Xj.row:=⟨fun ds h=>by
 obtain⟨a0,b0,h0,t0,rfl⟩:=h;obtain⟨a1,b1,h1,t1,rfl⟩:=t0;obtain⟨a2,b2,h2,t2,rfl⟩:=t1;obtain⟨a3,b3,h3,t3,rfl⟩:=t2;obtain rfl:=t3;obtain⟨x0,rfl⟩:=OfTy.of (row:=rI) _ h0;obtain⟨x1,rfl⟩:=OfTy.of (row:=rI) _ h1;obtain⟨x2,rfl⟩:=OfTy.of (row:=rI) _ h2;obtain⟨x3,rfl⟩:=OfTy.of (row:=(rL rI)) _ h3;exact⟨⟨x0,x1,x2,x3⟩,rfl⟩⟩
structure X9 where
 Forecast:Xb
 Chart:X0
 Fleet:V X6
 Regime:Xi
 Crew:Xj
 deriving DecidableEq
def X9.row(x:X9):V D:= [.int .i64 x.Forecast.Tide.Mean,.sl (zD Xc.row x.Forecast.Tide.Parts),.sl (zD Xa.row x.Forecast.Surges),.sl (zD X8.row x.Chart.Points),.sl (zD X1.row x.Chart.Segments),.sl (zD X6.row x.Fleet),.int .i64 x.Regime.Gap,.bool x.Regime.NoMeet,.int .i64 x.Crew.Tugs,.int .i64 x.Crew.Pilots,.int .i64 x.Crew.Rest,.sl (zD rI x.Crew.Moves)]
theorem X9.row_eq(x:X9):X9.row x= [.int .i64 x.Forecast.Tide.Mean,.sl (zD Xc.row x.Forecast.Tide.Parts),.sl (zD Xa.row x.Forecast.Surges),.sl (zD X8.row x.Chart.Points),.sl (zD X1.row x.Chart.Segments),.sl (zD X6.row x.Fleet),.int .i64 x.Regime.Gap,.bool x.Regime.NoMeet,.int .i64 x.Crew.Tugs,.int .i64 x.Crew.Pilots,.int .i64 x.Crew.Rest,.sl (zD rI x.Crew.Moves)]:=rfl
instance:Row X9.row 12:=⟨fun _=>rfl,zC rfl⟩
instance:OfTy (.st [(.st [(.st [(.int .i64),(.sl (.st [(.int .i64),(.int .i64),(.int .i64)]))]),(.sl (.st [(.int .i64),(.int .i64),(.int .i64)]))]),(.st [(.sl (.st [.str,.bool])),(.sl (.st [(.int .i64),(.int .i64),(.int .i64),(.int .i64),.bool]))]),(.sl (.st [.str,(.int .i64),(.int .i64),(.int .i64),(.int .i64),.bool])),(.st [(.int .i64),.bool]),(.st [(.int .i64),(.int .i64),(.int .i64),(.sl (.int .i64))])]) X9.row:=⟨fun ds h=>by
 obtain⟨a0,b0,h0,t0,rfl⟩:=h;obtain⟨a1,b1,h1,t1,rfl⟩:=t0;obtain⟨a2,b2,h2,t2,rfl⟩:=t1;obtain⟨a3,b3,h3,t3,rfl⟩:=t2;obtain⟨a4,b4,h4,t4,rfl⟩:=t3;obtain rfl:=t4;obtain⟨x0,rfl⟩:=OfTy.of (row:=Xb.row) _ h0;obtain⟨x1,rfl⟩:=OfTy.of (row:=X0.row) _ h1;obtain⟨x2,rfl⟩:=OfTy.of (row:=(rL X6.row)) _ h2;obtain⟨x3,rfl⟩:=OfTy.of (row:=Xi.row) _ h3;obtain⟨x4,rfl⟩:=OfTy.of (row:=Xj.row) _ h4;exact⟨⟨x0,x1,x2,x3,x4⟩,rfl⟩⟩
structure Xe where
 Ship:X
 From:X
 To:X
 Ready:X
 Due:X
 deriving DecidableEq
def Xe.row(x:Xe):V D:= [.int .i64 x.Ship,.int .i64 x.From,.int .i64 x.To,.int .i64 x.Ready,.int .i64 x.Due]
theorem Xe.row_eq(x:Xe):Xe.row x= [.int .i64 x.Ship,.int .i64 x.From,.int .i64 x.To,.int .i64 x.Ready,.int .i64 x.Due]:=rfl
instance:Row Xe.row 5:=⟨fun _=>rfl,zC rfl⟩
instance:FlatRow Xe.row:=⟨fun x d hd=>by simp only[Xe.row_eq,zJ,zI,or_false] at hd; rcases hd with rfl | rfl | rfl | rfl | rfl<;>rfl⟩
instance:OfTy (.st [(.int .i64),(.int .i64),(.int .i64),(.int .i64),(.int .i64)]) Xe.row:=⟨fun ds h=>by
 obtain⟨a0,b0,h0,t0,rfl⟩:=h;obtain⟨a1,b1,h1,t1,rfl⟩:=t0;obtain⟨a2,b2,h2,t2,rfl⟩:=t1;obtain⟨a3,b3,h3,t3,rfl⟩:=t2;obtain⟨a4,b4,h4,t4,rfl⟩:=t3;obtain rfl:=t4;obtain⟨x0,rfl⟩:=OfTy.of (row:=rI) _ h0;obtain⟨x1,rfl⟩:=OfTy.of (row:=rI) _ h1;obtain⟨x2,rfl⟩:=OfTy.of (row:=rI) _ h2;obtain⟨x3,rfl⟩:=OfTy.of (row:=rI) _ h3;obtain⟨x4,rfl⟩:=OfTy.of (row:=rI) _ h4;exact⟨⟨x0,x1,x2,x3,x4⟩,rfl⟩⟩
structure X7 where
 Segment:X
 From:X
 To:X
 deriving DecidableEq
def X7.row(x:X7):V D:= [.int .i64 x.Segment,.int .i64 x.From,.int .i64 x.To]
theorem X7.row_eq(x:X7):X7.row x= [.int .i64 x.Segment,.int .i64 x.From,.int .i64 x.To]:=rfl
instance:Row X7.row 3:=⟨fun _=>rfl,zC rfl⟩
instance:FlatRow X7.row:=⟨fun x d hd=>by simp only[X7.row_eq,zJ,zI,or_false] at hd; rcases hd with rfl | rfl | rfl<;>rfl⟩
instance:OfTy (.st [(.int .i64),(.int .i64),(.int .i64)]) X7.row:=⟨fun ds h=>by
 obtain⟨a0,b0,h0,t0,rfl⟩:=h;obtain⟨a1,b1,h1,t1,rfl⟩:=t0;obtain⟨a2,b2,h2,t2,rfl⟩:=t1;obtain rfl:=t2;obtain⟨x0,rfl⟩:=OfTy.of (row:=rI) _ h0;obtain⟨x1,rfl⟩:=OfTy.of (row:=rI) _ h1;obtain⟨x2,rfl⟩:=OfTy.of (row:=rI) _ h2;exact⟨⟨x0,x1,x2⟩,rfl⟩⟩
structure X3 where
 Ship:X
 Segment:X
 Toward:Y
 Start:X
 End:X
 deriving DecidableEq
def X3.row(x:X3):V D:= [.int .i64 x.Ship,.int .i64 x.Segment,.bool x.Toward,.int .i64 x.Start,.int .i64 x.End]
theorem X3.row_eq(x:X3):X3.row x= [.int .i64 x.Ship,.int .i64 x.Segment,.bool x.Toward,.int .i64 x.Start,.int .i64 x.End]:=rfl
instance:Row X3.row 5:=⟨fun _=>rfl,zC rfl⟩
instance:FlatRow X3.row:=⟨fun x d hd=>by simp only[X3.row_eq,zJ,zI,or_false] at hd; rcases hd with rfl | rfl | rfl | rfl | rfl<;>rfl⟩
instance:OfTy (.st [(.int .i64),(.int .i64),.bool,(.int .i64),(.int .i64)]) X3.row:=⟨fun ds h=>by
 obtain⟨a0,b0,h0,t0,rfl⟩:=h;obtain⟨a1,b1,h1,t1,rfl⟩:=t0;obtain⟨a2,b2,h2,t2,rfl⟩:=t1;obtain⟨a3,b3,h3,t3,rfl⟩:=t2;obtain⟨a4,b4,h4,t4,rfl⟩:=t3;obtain rfl:=t4;obtain⟨x0,rfl⟩:=OfTy.of (row:=rI) _ h0;obtain⟨x1,rfl⟩:=OfTy.of (row:=rI) _ h1;obtain⟨x2,rfl⟩:=OfTy.of (row:=rB) _ h2;obtain⟨x3,rfl⟩:=OfTy.of (row:=rI) _ h3;obtain⟨x4,rfl⟩:=OfTy.of (row:=rI) _ h4;exact⟨⟨x0,x1,x2,x3,x4⟩,rfl⟩⟩
structure X5 where
 Start:X
 Arrival:X
 Cost:X
 Passages:V X3
 deriving DecidableEq
def X5.row(x:X5):V D:= [.int .i64 x.Start,.int .i64 x.Arrival,.int .i64 x.Cost,.sl (zD X3.row x.Passages)]
theorem X5.row_eq(x:X5):X5.row x= [.int .i64 x.Start,.int .i64 x.Arrival,.int .i64 x.Cost,.sl (zD X3.row x.Passages)]:=rfl
instance:Row X5.row 4:=⟨fun _=>rfl,zC rfl⟩
instance:OfTy (.st [(.int .i64),(.int .i64),(.int .i64),(.sl (.st [(.int .i64),(.int .i64),.bool,(.int .i64),(.int .i64)]))]) X5.row:=⟨fun ds h=>by
 obtain⟨a0,b0,h0,t0,rfl⟩:=h;obtain⟨a1,b1,h1,t1,rfl⟩:=t0;obtain⟨a2,b2,h2,t2,rfl⟩:=t1;obtain⟨a3,b3,h3,t3,rfl⟩:=t2;obtain rfl:=t3;obtain⟨x0,rfl⟩:=OfTy.of (row:=rI) _ h0;obtain⟨x1,rfl⟩:=OfTy.of (row:=rI) _ h1;obtain⟨x2,rfl⟩:=OfTy.of (row:=rI) _ h2;obtain⟨x3,rfl⟩:=OfTy.of (row:=(rL X3.row)) _ h3;exact⟨⟨x0,x1,x2,x3⟩,rfl⟩⟩
structure X2 where
 From:X
 To:X
 deriving DecidableEq
def X2.row(x:X2):V D:= [.int .i64 x.From,.int .i64 x.To]
theorem X2.row_eq(x:X2):X2.row x= [.int .i64 x.From,.int .i64 x.To]:=rfl
instance:Row X2.row 2:=⟨fun _=>rfl,zC rfl⟩
instance:FlatRow X2.row:=⟨fun x d hd=>by simp only[X2.row_eq,zJ,zI,or_false] at hd; rcases hd with rfl | rfl<;>rfl⟩
instance:OfTy (.st [(.int .i64),(.int .i64)]) X2.row:=⟨fun ds h=>by
 obtain⟨a0,b0,h0,t0,rfl⟩:=h;obtain⟨a1,b1,h1,t1,rfl⟩:=t0;obtain rfl:=t1;obtain⟨x0,rfl⟩:=OfTy.of (row:=rI) _ h0;obtain⟨x1,rfl⟩:=OfTy.of (row:=rI) _ h1;exact⟨⟨x0,x1⟩,rfl⟩⟩
structure X4 where
 i0:Y
 i1:Y
 i2:Y
 i3:Y
 i4:Y
 i5:Y
 i6:Y
 i7:Y
 deriving DecidableEq
def X4.row(x:X4):V D:= [.bool x.i0,.bool x.i1,.bool x.i2,.bool x.i3,.bool x.i4,.bool x.i5,.bool x.i6,.bool x.i7]
theorem X4.row_eq(x:X4):X4.row x= [.bool x.i0,.bool x.i1,.bool x.i2,.bool x.i3,.bool x.i4,.bool x.i5,.bool x.i6,.bool x.i7]:=rfl
instance:Row X4.row 8:=⟨fun _=>rfl,zC rfl⟩
def X4.set(x:X4)(n:Z)(v:Y):X4:=⟨bif n==0 then v else x.i0,bif n==1 then v else x.i1,bif n==2 then v else x.i2,bif n==3 then v else x.i3,bif n==4 then v else x.i4,bif n==5 then v else x.i5,bif n==6 then v else x.i6,bif n==7 then v else x.i7⟩
theorem X4.set_eq(x:X4){n:Z}{v:Y}(h:n<8):Bx (zD AC.dat (X4.row x)) n [.dat (.bool v)]=zD AC.dat (X4.row (X4.set x n v)):=by
 match n,h with
 | 0,_=>rfl
 | 1,_=>rfl
 | 2,_=>rfl
 | 3,_=>rfl
 | 4,_=>rfl
 | 5,_=>rfl
 | 6,_=>rfl
 | 7,_=>rfl
instance:FlatRow X4.row:=⟨fun x d hd=>by simp only[X4.row_eq,zJ,zI,or_false] at hd; rcases hd with rfl | rfl | rfl | rfl | rfl | rfl | rfl | rfl<;>rfl⟩
instance:OfTy (.st [.bool,.bool,.bool,.bool,.bool,.bool,.bool,.bool]) X4.row:=⟨fun ds h=>by
 obtain⟨a0,b0,h0,t0,rfl⟩:=h;obtain⟨a1,b1,h1,t1,rfl⟩:=t0;obtain⟨a2,b2,h2,t2,rfl⟩:=t1;obtain⟨a3,b3,h3,t3,rfl⟩:=t2;obtain⟨a4,b4,h4,t4,rfl⟩:=t3;obtain⟨a5,b5,h5,t5,rfl⟩:=t4;obtain⟨a6,b6,h6,t6,rfl⟩:=t5;obtain⟨a7,b7,h7,t7,rfl⟩:=t6;obtain rfl:=t7;obtain⟨x0,rfl⟩:=OfTy.of (row:=rB) _ h0;obtain⟨x1,rfl⟩:=OfTy.of (row:=rB) _ h1;obtain⟨x2,rfl⟩:=OfTy.of (row:=rB) _ h2;obtain⟨x3,rfl⟩:=OfTy.of (row:=rB) _ h3;obtain⟨x4,rfl⟩:=OfTy.of (row:=rB) _ h4;obtain⟨x5,rfl⟩:=OfTy.of (row:=rB) _ h5;obtain⟨x6,rfl⟩:=OfTy.of (row:=rB) _ h6;obtain⟨x7,rfl⟩:=OfTy.of (row:=rB) _ h7;exact⟨⟨x0,x1,x2,x3,x4,x5,x6,x7⟩,rfl⟩⟩
structure Xf where
 waits:V Y
 minutes:V X
 sure:V (V X2)
 deriving DecidableEq
def Xf.row(x:Xf):V D:= [.sl (zD rB x.waits),.sl (zD rI x.minutes),.sl (zD (rL X2.row) x.sure)]
theorem Xf.row_eq(x:Xf):Xf.row x= [.sl (zD rB x.waits),.sl (zD rI x.minutes),.sl (zD (rL X2.row) x.sure)]:=rfl
instance:Row Xf.row 3:=⟨fun _=>rfl,zC rfl⟩
instance:OfTy (.st [(.sl .bool),(.sl (.int .i64)),(.sl (.sl (.st [(.int .i64),(.int .i64)])))]) Xf.row:=⟨fun ds h=>by
 obtain⟨a0,b0,h0,t0,rfl⟩:=h;obtain⟨a1,b1,h1,t1,rfl⟩:=t0;obtain⟨a2,b2,h2,t2,rfl⟩:=t1;obtain rfl:=t2;obtain⟨x0,rfl⟩:=OfTy.of (row:=(rL rB)) _ h0;obtain⟨x1,rfl⟩:=OfTy.of (row:=(rL rI)) _ h1;obtain⟨x2,rfl⟩:=OfTy.of (row:=(rL (rL X2.row))) _ h2;exact⟨⟨x0,x1,x2⟩,rfl⟩⟩
def nW:=zG @Uk (zG @Xc.row_eq (zG @Xh.row_eq (zG @Xa.row_eq (zG @Xb.row_eq (zG @X8.row_eq (zG @X1.row_eq (zG @X0.row_eq (zG @X6.row_eq (zG @Xi.row_eq (zG @Xj.row_eq (zG @X9.row_eq (zG @Xe.row_eq (zG @X7.row_eq (zG @X3.row_eq (zG @X5.row_eq (zG @X2.row_eq (zG @X4.row_eq (@Xf.row_eq))))))))))))))))))
def J:=zG nX (zG nZ (zG na (zG nY nW)))
def Ke(a0:V Xc)(a1:X):W X:= if(decide ((zM .i64 (a1 - (a0.length:X)))<(0:X))) then(
 O (-1:X)) else(
 O (zM .i64 (a1 - (a0.length:X))))
def Mx(a0:Xh)(a1:X):W X:= (Ke a0.Parts a1).bind fun r1=> if(decide (r1<(0:X))) then(
 O (-1:X)) else(
 O r1)
def Kl(a0:V Xa)(a1:X):W X:= if(decide ((zM .i64 (a1 - (a0.length:X)))<(0:X))) then(
 O (-1:X)) else(
 O (zM .i64 (a1 - (a0.length:X))))
def Kc(a0:Xb)(a1:X):W X:= (Mx a0.Tide a1).bind fun r1=> if(decide (r1<(0:X))) then(
 O (-1:X)) else(
 (Kl a0.Surges r1).bind fun r3=>
 if(decide (r3<(0:X))) then(
 O (-1:X))
 else(
 O r3))
def Kf(a0:X8)(a1:X):W X:= if(decide ((zM .i64 (a1 - (a0.Name.length:X)))<(0:X))) then(
 O (-1:X)) else(
 O (zM .i64 (a1 - (a0.Name.length:X))))
def EZ(a0:V X8):Z→X→X→W X
| 0,_,_=>U
| n+1,v2,v3=>
 if(decide (v3<(a0.length:X))) then(
 (ix a0 v3).bind fun x5=>
 (Kf x5 v2).bind fun r6=>
 if(decide (r6<(0:X))) then(
  O (-1:X))
 else(
  EZ a0 n r6 (zM .i64 (v3+(1:X)))))
 else(
 O v2)
def Kg(a0:V X8)(a1:X):W X:= if(decide ((zM .i64 (a1 - (a0.length:X)))<(0:X))) then(
 O (-1:X)) else(
 EZ a0 bigN (zM .i64 (a1 - (a0.length:X))) (0:X))
def Ki(a0:V X1)(a1:X):W X:= if(decide ((zM .i64 (a1 - (a0.length:X)))<(0:X))) then(
 O (-1:X)) else(
 O (zM .i64 (a1 - (a0.length:X))))
def Kb(a0:X0)(a1:X):W X:= (Kg a0.Points a1).bind fun r1=> if(decide (r1<(0:X))) then(
 O (-1:X)) else(
 (Ki a0.Segments r1).bind fun r3=>
 if(decide (r3<(0:X))) then(
 O (-1:X))
 else(
 O r3))
def Kj(a0:X6)(a1:X):W X:= if(decide ((zM .i64 (a1 - (a0.Name.length:X)))<(0:X))) then(
 O (-1:X)) else(
 O (zM .i64 (a1 - (a0.Name.length:X))))
def F0(a0:V X6):Z→X→X→W X
| 0,_,_=>U
| n+1,v2,v3=>
 if(decide (v3<(a0.length:X))) then(
 (ix a0 v3).bind fun x5=>
 (Kj x5 v2).bind fun r6=>
 if(decide (r6<(0:X))) then(
  O (-1:X))
 else(
  F0 a0 n r6 (zM .i64 (v3+(1:X)))))
 else(
 O v2)
def Kk(a0:V X6)(a1:X):W X:= if(decide ((zM .i64 (a1 - (a0.length:X)))<(0:X))) then(
 O (-1:X)) else(
 F0 a0 bigN (zM .i64 (a1 - (a0.length:X))) (0:X))
def Kd(a0:V X)(a1:X):W X:= if(decide ((zM .i64 (a1 - (a0.length:X)))<(0:X))) then(
 O (-1:X)) else(
 O (zM .i64 (a1 - (a0.length:X))))
def Mw(a0:Xj)(a1:X):W X:= (Kd a0.Moves a1).bind fun r1=> if(decide (r1<(0:X))) then(
 O (-1:X)) else(
 O r1)
def Gx(a0:X9)(a1:X):W X:= (Kc a0.Forecast a1).bind fun r1=> if(decide (r1<(0:X))) then(
 O (-1:X)) else(
 (Kb a0.Chart r1).bind fun r3=>
 if(decide (r3<(0:X))) then(
 O (-1:X))
 else(
 (Kk a0.Fleet r3).bind fun r5=>
 if(decide (r5<(0:X))) then(
  O (-1:X))
 else(
  (Mw a0.Crew r5).bind fun r7=>
  if(decide (r7<(0:X))) then(
  O (-1:X))
  else(
  O r7))))
def Gw(a0:V X7)(a1:X):W X:= if(decide ((zM .i64 (a1 - (a0.length:X)))<(0:X))) then(
 O (-1:X)) else(
 O (zM .i64 (a1 - (a0.length:X))))
def MA(a0:Xc):W Xc:= O a0
def GA(a0:V Xc):Z→X→(V Xc)→W (V Xc)
| 0,_,_=>U
| n+1,v2,v3=>
 if(decide (v2<(a0.length:X))) then(
 (ix a0 v2).bind fun x5=>
 (MA x5).bind fun r6=>
 (ix v3 v2).bind fun x7=>
 GA a0 n (zM .i64 (v2+(1:X))) (v3.set (zB v2) r6))
 else(
 O v3)
def Kq(a0:V Xc):W (V Xc):= (Ck (a0.length:X) (a0.length:X) 24).bind fun n1=> GA a0 bigN (0:X) (zH n1 (⟨(0:X),(0:X),(0:X)⟩:Xc))
def MG(a0:Xh):W Xh:= (Kq a0.Parts).bind fun r1=> O (⟨a0.Mean,r1⟩:Xh)
def MF(a0:Xa):W Xa:= O a0
def GE(a0:V Xa):Z→X→(V Xa)→W (V Xa)
| 0,_,_=>U
| n+1,v2,v3=>
 if(decide (v2<(a0.length:X))) then(
 (ix a0 v2).bind fun x5=>
 (MF x5).bind fun r6=>
 (ix v3 v2).bind fun x7=>
 GE a0 n (zM .i64 (v2+(1:X))) (v3.set (zB v2) r6))
 else(
 O v3)
def Ku(a0:V Xa):W (V Xa):= (Ck (a0.length:X) (a0.length:X) 24).bind fun n1=> GE a0 bigN (0:X) (zH n1 (⟨(0:X),(0:X),(0:X)⟩:Xa))
def Kn(a0:Xb):W Xb:= (MG a0.Tide).bind fun r1=> (Ku a0.Surges).bind fun r2=> O (⟨r1,r2⟩:Xb)
def MB(a0:X8):W X8:= O a0
def GB(a0:V X8):Z→X→(V X8)→W (V X8)
| 0,_,_=>U
| n+1,v2,v3=>
 if(decide (v2<(a0.length:X))) then(
 (ix a0 v2).bind fun x5=>
 (MB x5).bind fun r6=>
 (ix v3 v2).bind fun x7=>
 GB a0 n (zM .i64 (v2+(1:X))) (v3.set (zB v2) r6))
 else(
 O v3)
def Kr(a0:V X8):W (V X8):= (Ck (a0.length:X) (a0.length:X) 24).bind fun n1=> GB a0 bigN (0:X) (zH n1 (⟨([]:V zA),E⟩:X8))
def MD(a0:X1):W X1:= O a0
def GC(a0:V X1):Z→X→(V X1)→W (V X1)
| 0,_,_=>U
| n+1,v2,v3=>
 if(decide (v2<(a0.length:X))) then(
 (ix a0 v2).bind fun x5=>
 (MD x5).bind fun r6=>
 (ix v3 v2).bind fun x7=>
 GC a0 n (zM .i64 (v2+(1:X))) (v3.set (zB v2) r6))
 else(
 O v3)
def Ks(a0:V X1):W (V X1):= (Ck (a0.length:X) (a0.length:X) 40).bind fun n1=> GC a0 bigN (0:X) (zH n1 (⟨(0:X),(0:X),(0:X),(0:X),E⟩:X1))
def Km(a0:X0):W X0:= (Kr a0.Points).bind fun r1=> (Ks a0.Segments).bind fun r2=> O (⟨r1,r2⟩:X0)
def ME(a0:X6):W X6:= O a0
def GD(a0:V X6):Z→X→(V X6)→W (V X6)
| 0,_,_=>U
| n+1,v2,v3=>
 if(decide (v2<(a0.length:X))) then(
 (ix a0 v2).bind fun x5=>
 (ME x5).bind fun r6=>
 (ix v3 v2).bind fun x7=>
 GD a0 n (zM .i64 (v2+(1:X))) (v3.set (zB v2) r6))
 else(
 O v3)
def Kt(a0:V X6):W (V X6):= (Ck (a0.length:X) (a0.length:X) 56).bind fun n1=> GD a0 bigN (0:X) (zH n1 (⟨([]:V zA),(0:X),(0:X),(0:X),(0:X),E⟩:X6))
def MC(a0:Xi):W Xi:= O a0
def Gz(a0:V X):Z→X→(V X)→W (V X)
| 0,_,_=>U
| n+1,v2,v3=>
 if(decide (v2<(a0.length:X))) then(
 (ix a0 v2).bind fun x5=>
 (ix v3 v2).bind fun x6=>
 Gz a0 n (zM .i64 (v2+(1:X))) (v3.set (zB v2) x5))
 else(
 O v3)
def Ko(a0:V X):W (V X):= (Ck (a0.length:X) (a0.length:X) 8).bind fun n1=> Gz a0 bigN (0:X) (zH n1 (0:X))
def Mz(a0:Xj):W Xj:= (Ko a0.Moves).bind fun r1=> O (⟨a0.Tugs,a0.Pilots,a0.Rest,r1⟩:Xj)
def Ds(a0:X9):W X9:= (Kn a0.Forecast).bind fun r1=> (Km a0.Chart).bind fun r2=> (Kt a0.Fleet).bind fun r3=> (MC a0.Regime).bind fun r4=> (Mz a0.Crew).bind fun r5=> O (⟨r1,r2,r3,r4,r5⟩:X9)
def F1(a0:Xe):W Xe:= O a0
def My(a0:X7):W X7:= O a0
def Gy(a0:V X7):Z→X→(V X7)→W (V X7)
| 0,_,_=>U
| n+1,v2,v3=>
 if(decide (v2<(a0.length:X))) then(
 (ix a0 v2).bind fun x5=>
 (My x5).bind fun r6=>
 (ix v3 v2).bind fun x7=>
 Gy a0 n (zM .i64 (v2+(1:X))) (v3.set (zB v2) r6))
 else(
 O v3)
def Dr(a0:V X7):W (V X7):= (Ck (a0.length:X) (a0.length:X) 24).bind fun n1=> Gy a0 bigN (0:X) (zH n1 (⟨(0:X),(0:X),(0:X)⟩:X7))
def Ax(a0 a1 a2:X):W Y:= if(decide (a1≤a0)) then(
 O (decide (a0≤a2))) else(
 O E)
def KK(a0:Xc):W Y:= (Ax a0.Amp (0:X) (1000:X)).bind fun r1=> if r1 then(
 (Ax a0.Period (4:X) (2880:X)).bind fun r3=>
 if r3 then(
 if((zM .i64 (zF a0.Period (4:X)))==(0:X)) then(
  (Ax a0.Phase (0:X) (zM .i64 (a0.Period - (1:X)))).bind fun r6=>
  O r6)
 else(
  O E))
 else(
 O E)) else(
 O E)
def GU(a0:Xh):Z→X→W Y
| 0,_=>U
| n+1,v4=>
 if(decide (v4<(a0.Parts.length:X))) then(
 (ix a0.Parts v4).bind fun x6=>
 (KK x6).bind fun r7=>
 if r7 then(
  GU a0 n (zM .i64 (v4+(1:X))))
 else(
  O E))
 else(
 O F)
def KT(a0:Xh):W Y:= (Ax a0.Mean (-1000:X) (1000:X)).bind fun r1=> if r1 then(
 if(decide ((4:X)<(a0.Parts.length:X))) then(
 O E)
 else(
 GU a0 bigN (0:X))) else(
 O E)
def KR(a0:Xa):W Y:= (Ax a0.From (0:X) (2880:X)).bind fun r1=> if r1 then(
 (Ax a0.Low (-500:X) (500:X)).bind fun r3=>
 if r3 then(
 (Ax a0.High a0.Low (500:X)).bind fun r5=>
 O r5)
 else(
 O E)) else(
 O E)
def F2(a0:Xb):Z→X→W Y
| 0,_=>U
| n+1,v7=>
 if(decide (v7<(a0.Surges.length:X))) then(
 (ix a0.Surges v7).bind fun x9=>
 (KR x9).bind fun r10=>
 if r10 then(
  if(decide ((0:X)<v7)) then(
  (ix a0.Surges (zM .i64 (v7 - (1:X)))).bind fun x13=>
  if(decide (x9.From≤x13.From)) then(
   O E)
  else(
   F2 a0 n (zM .i64 (v7+(1:X)))))
  else(
  F2 a0 n (zM .i64 (v7+(1:X)))))
 else(
  O E))
 else(
 O F)
def Ii(a0:Xb):W Y:= (KT a0.Tide).bind fun r1=> if r1 then(
 (Ax (a0.Surges.length:X) (1:X) (6:X)).bind fun r3=>
 if r3 then(
 (ix a0.Surges (0:X)).bind fun x5=>
 if(x5.From !=(0:X)) then(
  O E)
 else(
  F2 a0 bigN (0:X)))
 else(
 O E)) else(
 O E)
def KF(a0:V zA)(v1:X)(DA:X→W Y):W Y:= DA (zM .i64 (v1+(1:X)))
def KE(a0:V zA)(v1:X)(DA:X→W Y)(v5:Y):W Y:= if v5 then(
 KF a0 v1 DA) else(
 if(v1==(0:X)) then(
 O E)
 else(
 (ix a0 v1).bind fun b8=>
 if(decide ((b8.toNat:X)<(48:X))) then(
  O E)
 else(
  if(decide ((57:X)<(b8.toNat:X))) then(
  O E)
  else(
  KF a0 v1 DA))))
def F4(a0:V zA):Z→X→W Y
| 0,_=>U
| n+1,v1=>
 if(decide (v1<(a0.length:X))) then(
 (ix a0 v1).bind fun b3=>
 if(decide ((97:X)≤(b3.toNat:X))) then(
  KE a0 v1 (F4 a0 n) (decide ((b3.toNat:X)≤(122:X))))
 else(
  KE a0 v1 (F4 a0 n) E))
 else(
 (Ax (a0.length:X) (1:X) (8:X)).bind fun r11=>
 O r11)
def Ij(a0:V zA):W Y:= F4 a0 bigN (0:X)
def GQ(a1:V zA)(a0:X0):Z→X→W X
| 0,_=>U
| n+1,v1=>
 if(decide (v1<(a0.Points.length:X))) then(
 (ix a0.Points v1).bind fun x3=>
 if(x3.Name==a1) then(
  O v1)
 else(
  GQ a1 a0 n (zM .i64 (v1+(1:X)))))
 else(
 O (-1:X))
def KM(a0:X0)(a1:V zA):W X:= GQ a1 a0 bigN (0:X)
def KZ(a0:X1)(a1 a2:X):W Y:= if(a0.A==a1) then(
 if(a0.B==a2) then(
 O F)
 else(
 if(a0.A==a2) then(
  O (a0.B==a1))
 else(
  O E))) else(
 if(a0.A==a2) then(
 O (a0.B==a1))
 else(
 O E))
def GI(a0:X0)(v11:X)(x13:X1)(y24:V X1)(y25:X)(Le:X→W Y):Z→X→W Y
| 0,_=>U
| n+1,v26=>
 if(decide (v26<y25)) then(
 (ix y24 v26).bind fun x28=>
 (KZ x28 x13.A x13.B).bind fun r29=>
 if r29 then(
  O E)
 else(
  GI a0 v11 x13 y24 y25 Le n (zM .i64 (v26+(1:X)))))
 else(
 Le (zM .i64 (v11+(1:X))))
def Dt(a0:X0):Z→X→W Y
| 0,_=>U
| n+1,v11=>
 if(decide (v11<(a0.Segments.length:X))) then(
 (ix a0.Segments v11).bind fun x13=>
 (Ax x13.A (0:X) (zM .i64 ((a0.Points.length:X) - (1:X)))).bind fun r14=>
 if r14 then(
  (Ax x13.B (0:X) (zM .i64 ((a0.Points.length:X) - (1:X)))).bind fun r16=>
  if r16 then(
  if(x13.A==x13.B) then(
   O E)
  else(
   (Ax x13.Depth (0:X) (3000:X)).bind fun r19=>
   if r19 then(
   (Ax x13.Minutes (1:X) (240:X)).bind fun r21=>
   if r21 then(
    (bnd (a0.Segments.length:X) v11 (0:X) a0.Segments.length).bind fun p23=>
    GI a0 v11 x13 ((a0.Segments.drop p23.1).take (p23.2 - p23.1)) (((a0.Segments.drop p23.1).take (p23.2 - p23.1)).length:X) (Dt a0 n) bigN (0:X))
   else(
    O E))
   else(
   O E)))
  else(
  O E))
 else(
  O E))
 else(
 O F)
def GH(a0:X0):Z→X→W Y
| 0,_=>U
| n+1,v3=>
 if(decide (v3<(a0.Points.length:X))) then(
 (ix a0.Points v3).bind fun x5=>
 (Ij x5.Name).bind fun r6=>
 if r6 then(
  (KM a0 x5.Name).bind fun r9=>
  if(r9 !=v3) then(
  O E)
  else(
  GH a0 n (zM .i64 (v3+(1:X)))))
 else(
  O E))
 else(
 Dt a0 bigN (0:X))
def D7(a0:X0):W Y:= if(decide ((8:X)<(a0.Points.length:X))) then(
 O E) else(
 if(decide ((10:X)<(a0.Segments.length:X))) then(
 O E)
 else(
 GH a0 bigN (0:X)))
def D8(a0:X6):W Y:= (Ij a0.Name).bind fun r1=> if r1 then(
 (Ax a0.Length (10:X) (400:X)).bind fun r3=>
 if r3 then(
 (Ax a0.Draught (100:X) (2000:X)).bind fun r5=>
 if r5 then(
  (Ax a0.Line (0:X) (3:X)).bind fun r7=>
  if r7 then(
  (Ax a0.Tugs (0:X) (4:X)).bind fun r9=>
  O r9)
  else(
  O E))
 else(
  O E))
 else(
 O E)) else(
 O E)
def GS(a1:V zA)(a0:V X6):Z→X→W X
| 0,_=>U
| n+1,v1=>
 if(decide (v1<(a0.length:X))) then(
 (ix a0 v1).bind fun x3=>
 if(x3.Name==a1) then(
  O v1)
 else(
  GS a1 a0 n (zM .i64 (v1+(1:X)))))
 else(
 O (-1:X))
def KP(a0:V X6)(a1:V zA):W X:= GS a1 a0 bigN (0:X)
def GK(a0:V X6):Z→X→W Y
| 0,_=>U
| n+1,v2=>
 if(decide (v2<(a0.length:X))) then(
 (ix a0 v2).bind fun x4=>
 (D8 x4).bind fun r5=>
 if r5 then(
  (KP a0 x4.Name).bind fun r7=>
  if(r7 !=v2) then(
  O E)
  else(
  GK a0 n (zM .i64 (v2+(1:X)))))
 else(
  O E))
 else(
 O F)
def KA(a0:V X6):W Y:= if(decide ((6:X)<(a0.length:X))) then(
 O E) else(
 GK a0 bigN (0:X))
def MO(a0:Xi):W Y:= (Ax a0.Gap (0:X) (60:X)).bind fun r1=> O r1
def Fe(a1:V X):Z→X→W Y
| 0,_=>U
| n+1,v4=>
 if(decide (v4<(a1.length:X))) then(
 (ix a1 v4).bind fun x6=>
 (Ax x6 (0:X) (240:X)).bind fun r7=>
 if r7 then(
  Fe a1 n (zM .i64 (v4+(1:X))))
 else(
  O E))
 else(
 O F)
def MV(a0:X)(a1:V X):W Y:= (Ax a0 (0:X) (2880:X)).bind fun r1=> if r1 then(
 if((a1.length:X) !=(64:X)) then(
 O E)
 else(
 Fe a1 bigN (0:X))) else(
 O E)
def Kz(a0:Xj):W Y:= (Ax a0.Tugs (0:X) (12:X)).bind fun r1=> if r1 then(
 (Ax a0.Pilots (0:X) (12:X)).bind fun r3=>
 if r3 then(
 (MV a0.Rest a0.Moves).bind fun r5=>
 O r5)
 else(
 O E)) else(
 O E)
def KC(a0:X9):W Y:= (Ii a0.Forecast).bind fun r1=> if r1 then(
 (D7 a0.Chart).bind fun r3=>
 if r3 then(
 (KA a0.Fleet).bind fun r5=>
 if r5 then(
  (MO a0.Regime).bind fun r7=>
  if r7 then(
  (Kz a0.Crew).bind fun r9=>
  O r9)
  else(
  O E))
 else(
  O E))
 else(
 O E)) else(
 O E)
def Ih(a0:X9)(a1:Xe):W Y:= (KC a0).bind fun r1=> if r1 then(
 (Ax a1.Ship (0:X) (zM .i64 ((a0.Fleet.length:X) - (1:X)))).bind fun r3=>
 if r3 then(
 (Ax a1.From (0:X) (zM .i64 ((a0.Chart.Points.length:X) - (1:X)))).bind fun r5=>
 if r5 then(
  (Ax a1.To (0:X) (zM .i64 ((a0.Chart.Points.length:X) - (1:X)))).bind fun r7=>
  if r7 then(
  if(a1.From !=a1.To) then(
   (Ax a1.Ready (0:X) (2880:X)).bind fun r10=>
   if r10 then(
   (Ax a1.Due a1.Ready (2880:X)).bind fun r12=>
   O r12)
   else(
   O E))
  else(
   O E))
  else(
  O E))
 else(
  O E))
 else(
 O E)) else(
 O E)
def GJ(a1:V X7)(a0:X0):Z→X→W Y
| 0,_=>U
| n+1,v4=>
 if(decide (v4<(a1.length:X))) then(
 (ix a1 v4).bind fun x6=>
 (Ax x6.Segment (0:X) (zM .i64 ((a0.Segments.length:X) - (1:X)))).bind fun r7=>
 if r7 then(
  (Ax x6.From (0:X) (2880:X)).bind fun r9=>
  if r9 then(
  if(decide (x6.To≤x6.From)) then(
   O E)
  else(
   if(decide ((2880:X)<x6.To)) then(
   O E)
   else(
   GJ a1 a0 n (zM .i64 (v4+(1:X))))))
  else(
  O E))
 else(
  O E))
 else(
 O F)
def Ky(a0:X0)(a1:V X7):W Y:= (D7 a0).bind fun r1=> if r1 then(
 if(decide ((4:X)<(a1.length:X))) then(
 O E)
 else(
 GJ a1 a0 bigN (0:X))) else(
 O E)
def L0(a0:X1)(a1:X):W X:= if(a1==a0.A) then(
 O a0.B) else(
 if(a1==a0.B) then(
 O a0.A)
 else(
 O (-1:X)))
def GY(a1:X)(a0:V X):Z→X→W Y
| 0,_=>U
| n+1,v1=>
 if(decide (v1<(a0.length:X))) then(
 (ix a0 v1).bind fun x3=>
 if(x3==a1) then(
  O F)
 else(
  GY a1 a0 n (zM .i64 (v1+(1:X)))))
 else(
 O E)
def Im(a0:V X)(a1:X):W Y:= GY a1 a0 bigN (0:X)
def GZ(rec_:X0→(V X)→(V X)→X→(V (V X))→W (V (V X)))(a1 a2:V X)(a3 x1:X)(v5 r9:X)(a0:X0)(v6:V (V X))(Lg:X→(V (V X))→W (V (V X)))(v12:Y):W (V (V X)):= if v12 then(
 if A4 ([]:V X).length a1.length 8 then(
 if A4 a1.length ([r9]:V X).length 8 then(
  if A4 ([]:V X).length a2.length 8 then(
  if A4 a2.length ([v5]:V X).length 8 then(
   (rec_ a0 (a1++([r9]:V X)) (a2++([v5]:V X)) a3 v6).bind fun r18=>
   Lg (zM .i64 (v5+(1:X))) r18)
  else U)
  else U)
 else U)
 else U) else(
 Lg (zM .i64 (v5+(1:X))) v6)
def Fa(rec_:X0→(V X)→(V X)→X→(V (V X))→W (V (V X)))(a1 a2:V X)(a3 x1:X)(a0:X0):Z→X→(V (V X))→W (V (V X))
| 0,_,_=>U
| n+1,v5,v6=>
 if(decide (v5<(a0.Segments.length:X))) then(
 (ix a0.Segments v5).bind fun x8=>
 (L0 x8 x1).bind fun r9=>
 if(decide ((0:X)≤r9)) then(
  (Im a1 r9).bind fun r11=>
  GZ rec_ a1 a2 a3 x1 v5 r9 a0 v6 (Fa rec_ a1 a2 a3 x1 a0 n) (!r11))
 else(
  GZ rec_ a1 a2 a3 x1 v5 r9 a0 v6 (Fa rec_ a1 a2 a3 x1 a0 n) E))
 else(
 O v6)
def MS(rec_:X0→(V X)→(V X)→X→(V (V X))→W (V (V X)))(a0:X0)(a1 a2:V X)(a3:X)(a4:V (V X)):W (V (V X)):= (ix a1 (zM .i64 ((a1.length:X) - (1:X)))).bind fun x1=> if(x1==a3) then(
 if A4 ([]:V X).length a2.length 8 then(
 if A4 a4.length ([a2]:V (V X)).length 24 then(
  O (a4++([a2]:V (V X))))
 else U)
 else U) else(
 Fa rec_ a1 a2 a3 x1 a0 bigN (0:X) a4)
def Fb:Z→X0→(V X)→(V X)→X→(V (V X))→W (V (V X))
| 0,_,_,_,_,_=>U
| n+1,a0,a1,a2,a3,a4=>MS (Fb n) a0 a1 a2 a3 a4
def OH(a0:X0)(a1 a2:V X)(a3:X)(a4:V (V X)):W (V (V X)):=Fb bigN a0 a1 a2 a3 a4
def KO(a0:X0)(a1 a2:X):W (V (V X)):= (D7 a0).bind fun r1=> if r1 then(
 (Ax a1 (0:X) (zM .i64 ((a0.Points.length:X) - (1:X)))).bind fun r3=>
 if r3 then(
 (Ax a2 (0:X) (zM .i64 ((a0.Points.length:X) - (1:X)))).bind fun r5=>
 if r5 then(
  (OH a0 ([a1]:V X) ([]:V X) a2 ([]:V (V X))).bind fun r7=>
  O r7)
 else(
  O ([]:V (V X))))
 else(
 O ([]:V (V X)))) else(
 O ([]:V (V X)))
def GR(a1:V X)(a0:X0):Z→X→X→W X
| 0,_,_=>U
| n+1,v3,v4=>
 if(decide (v4<(a1.length:X))) then(
 (ix a1 v4).bind fun x6=>
 (Ax x6 (0:X) (zM .i64 ((a0.Segments.length:X) - (1:X)))).bind fun r7=>
 if r7 then(
  (ix a0.Segments x6).bind fun x9=>
  GR a1 a0 n (zM .i64 (v3+x9.Minutes)) (zM .i64 (v4+(1:X))))
 else(
  O (-1:X)))
 else(
 O v3)
def F6(a0:X0)(a1:V X):W X:= (D7 a0).bind fun r1=> if r1 then(
 GR a1 a0 bigN (0:X) (0:X)) else(
 O (-1:X))
def Ig(v2 x6:V X)(r1:(V (V X)))(v4:X)(a0:X0)(Ld:(V X)→Y→X→W ((V X) × Y))(v11 v12:Y):W ((V X) × Y):= if v12 then(
 Ld x6 F (zM .i64 (v4+(1:X)))) else(
 Ld v2 v11 (zM .i64 (v4+(1:X))))
def E5(r1:(V (V X)))(a0:X0):Z→(V X)→Y→X→W ((V X) × Y)
| 0,_,_,_=>U
| n+1,v2,v3,v4=>
 if(decide (v4<(r1.length:X))) then(
 (ix r1 v4).bind fun x6=>
 if v3 then(
  (F6 a0 x6).bind fun r9=>
  (F6 a0 v2).bind fun r10=>
  Ig v2 x6 r1 v4 a0 (E5 r1 a0 n) F (decide (r9<r10)))
 else(
  Ig v2 x6 r1 v4 a0 (E5 r1 a0 n) E F))
 else(
 if v3 then(
  O (v2,F))
 else(
  O (([]:V X),E)))
def Kx(a0:X0)(a1 a2:X):W ((V X) × Y):= (KO a0 a1 a2).bind fun r1=> E5 r1 a0 bigN ([]:V X) E (0:X)
def H0(a0:X0)(a1:X)(a2:X6):W Y:= (D7 a0).bind fun r1=> if r1 then(
 (D8 a2).bind fun r3=>
 if r3 then(
 (Ax a1 (0:X) (zM .i64 ((a0.Segments.length:X) - (1:X)))).bind fun r5=>
 O r5)
 else(
 O E)) else(
 O E)
def MR(a0:X6):W X:= (D8 a0).bind fun r1=> if r1 then(
 if a0.Slow then(
 O (zM .i64 (zE a0.Draught (50:X))))
 else(
 O (zM .i64 (zE a0.Draught (20:X))))) else(
 O (0:X))
def MN(a0:X6):W X:= (D8 a0).bind fun r1=> if r1 then(
 (MR a0).bind fun r3=>
 O (zM .i64 ((zM .i64 (a0.Draught+r3))+(50:X)))) else(
 O (0:X))
def KG(a0:X0)(a1:X)(a2:X6):W X:= (H0 a0 a1 a2).bind fun r1=> if r1 then(
 (MN a2).bind fun r3=>
 (ix a0.Segments a1).bind fun x4=>
 O (zM .i64 (r3 - x4.Depth))) else(
 O (0:X))
def Ea(a1:X)(a0:Xb):Z→X→X→X→X→W Xa
| 0,_,_,_,_=>U
| n+1,v2,v3,v4,v5=>
 if(decide (v2<(a0.Surges.length:X))) then(
 (ix a0.Surges v2).bind fun x7=>
 if(decide (x7.From≤a1)) then(
  Ea a1 a0 n (zM .i64 (v2+(1:X))) x7.From x7.Low x7.High)
 else(
  Ea a1 a0 n (zM .i64 (v2+(1:X))) v3 v4 v5))
 else(
 O (⟨v3,v4,v5⟩:Xa))
def GW(a0:Xb)(a1:X):W Xa:= (ix a0.Surges (0:X)).bind fun x1=> Ea a1 a0 bigN (0:X) x1.From x1.Low x1.High
def KV(a1 v6:X):W X:= if(decide (v6<(zM .i64 (zE a1 (2:X))))) then(
 if(zM .i64 ((zM .i64 (zE a1 (2:X)))*(zM .i64 (zE a1 (2:X)))))==0 then U else
 O (zM .i64 (zE (zM .i64 ((zM .i64 ((40000:X)*v6))*(zM .i64 ((zM .i64 (zE a1 (2:X))) - v6)))) (zM .i64 ((zM .i64 (zE a1 (2:X)))*(zM .i64 (zE a1 (2:X)))))))) else(
 if(zM .i64 ((zM .i64 (zE a1 (2:X)))*(zM .i64 (zE a1 (2:X)))))==0 then U else
 O (zM .i64 (0 - (zM .i64 (zE (zM .i64 ((zM .i64 ((40000:X)*(zM .i64 (v6 - (zM .i64 (zE a1 (2:X)))))))*(zM .i64 ((zM .i64 (zE a1 (2:X))) - (zM .i64 (v6 - (zM .i64 (zE a1 (2:X))))))))) (zM .i64 ((zM .i64 (zE a1 (2:X)))*(zM .i64 (zE a1 (2:X))))))))))
def KU(a0 a1:X):W X:= if(decide (a1<(4:X))) then(
 O (0:X)) else(
 if(decide ((2880:X)<a1)) then(
 O (0:X))
 else(
 if((zM .i64 (zF a1 (4:X))) !=(0:X)) then(
  O (0:X))
 else(
  if a1==0 then U else
  if(decide ((zM .i64 (zF a0 a1))<(0:X))) then(
  KV a1 (zM .i64 ((zM .i64 (zF a0 a1))+a1)))
  else(
  KV a1 (zM .i64 (zF a0 a1))))))
def GV(a1:X)(a0:Xh):Z→X→X→W X
| 0,_,_=>U
| n+1,v1,v2=>
 if(decide (v2<(a0.Parts.length:X))) then(
 (ix a0.Parts v2).bind fun x4=>
 (KU (zM .i64 (a1+x4.Phase)) x4.Period).bind fun r5=>
 GV a1 a0 n (zM .i64 (v1+(zM .i64 (zE (zM .i64 (x4.Amp*r5)) (10000:X))))) (zM .i64 (v2+(1:X))))
 else(
 O v1)
def Il(a0:Xh)(a1:X):W X:= GV a1 a0 bigN a0.Mean (0:X)
def GX(v1:X)(a0:V Y)(v2:V X2)(Lf:X→(V X2)→W (V X2))(v8:Y):W (V X2):= if v8 then(
 (ix v2 (zM .i64 ((v2.length:X) - (1:X)))).bind fun x10=>
 Lf (zM .i64 (v1+(1:X))) (v2.set (zB (zM .i64 ((v2.length:X) - (1:X)))) (⟨x10.From,v1⟩:X2))) else(
 if A4 v2.length ([(⟨v1,v1⟩:X2)]:V X2).length 16 then(
 Lf (zM .i64 (v1+(1:X))) (v2++([(⟨v1,v1⟩:X2)]:V X2)))
 else U)
def Dv(a0:V Y):Z→X→(V X2)→W (V X2)
| 0,_,_=>U
| n+1,v1,v2=>
 if(decide (v1<(a0.length:X))) then(
 (ix a0 v1).bind fun x4=>
 if x4 then(
  if(decide ((0:X)<(v2.length:X))) then(
  (ix v2 (zM .i64 ((v2.length:X) - (1:X)))).bind fun x7=>
  GX v1 a0 v2 (Dv a0 n) (x7.To==(zM .i64 (v1 - (1:X)))))
  else(
  GX v1 a0 v2 (Dv a0 n) E))
 else(
  Dv a0 n (zM .i64 (v1+(1:X))) v2))
 else(
 O v2)
def KY(a0:V Y):W (V X2):= Dv a0 bigN (0:X) ([]:V X2)
def KX(a1 v2:X)(a0:Xb)(v3:V Y)(Np:Y→X→(V Y)→W (V X2))(v7:Y)(v8:X):W (V X2):= (Il a0.Tide v2).bind fun r9=> if A4 v3.length ([(decide (a1≤(zM .i64 (r9+v8))))]:V Y).length 1 then(
 Np v7 (zM .i64 (v2+(1:X))) (v3++([(decide (a1≤(zM .i64 (r9+v8))))]:V Y))) else U
def F7(a1:X)(a0:Xb):Z→Y→X→(V Y)→W (V X2)
| 0,_,_,_=>U
| n+1,v1,v2,v3=>
 if(decide (v2≤(2880:X))) then(
 (GW a0 v2).bind fun r5=>
 if v1 then(
  KX a1 v2 a0 v3 (F7 a1 a0 n) F r5.High)
 else(
  KX a1 v2 a0 v3 (F7 a1 a0 n) E r5.Low))
 else(
 (KY v3).bind fun r11=>
 O r11)
def KW(a0:Xb)(a1:X)(a2:Y):W (V X2):= F7 a1 a0 bigN a2 (0:X) ([]:V Y)
def Eb(a0:X1)(a1:X6):W X:= if a1.Slow then(
 O (zM .i64 ((2:X)*a0.Minutes))) else(
 O a0.Minutes)
def KH(a0:X0)(a1:X)(a2:X6):W X:= (D7 a0).bind fun r1=> if r1 then(
 (D8 a2).bind fun r3=>
 if r3 then(
 (Ax a1 (0:X) (zM .i64 ((a0.Segments.length:X) - (1:X)))).bind fun r5=>
 if r5 then(
  (ix a0.Segments a1).bind fun x7=>
  (Eb x7 a2).bind fun r9=>
  O r9)
 else(
  O (0:X)))
 else(
 O (0:X))) else(
 O (0:X))
def E9(a0:V X2):Z→X→W Y
| 0,_=>U
| n+1,v1=>
 if(decide (v1<(a0.length:X))) then(
 (ix a0 v1).bind fun x3=>
 (Ax x3.From (0:X) (2880:X)).bind fun r4=>
 if r4 then(
  (Ax x3.To x3.From (2880:X)).bind fun r6=>
  if r6 then(
  if(decide ((0:X)<v1)) then(
   (ix a0 (zM .i64 (v1 - (1:X)))).bind fun x9=>
   if(decide (x3.From≤(zM .i64 (x9.To+(1:X))))) then(
   O E)
   else(
   E9 a0 n (zM .i64 (v1+(1:X)))))
  else(
   E9 a0 n (zM .i64 (v1+(1:X)))))
  else(
  O E))
 else(
  O E))
 else(
 O F)
def Ik(a0:V X2):W Y:= E9 a0 bigN (0:X)
def E8(a1:X)(a0:V X2):Z→X→(V X2)→W (V X2)
| 0,_,_=>U
| n+1,v5,v6=>
 if(decide (v5<(a0.length:X))) then(
 (ix a0 v5).bind fun x8=>
 if(decide (a1≤(zM .i64 (x8.To - x8.From)))) then(
  if A4 v6.length ([(⟨x8.From,(zM .i64 (x8.To - a1))⟩:X2)]:V X2).length 16 then(
  E8 a1 a0 n (zM .i64 (v5+(1:X))) (v6++([(⟨x8.From,(zM .i64 (x8.To - a1))⟩:X2)]:V X2)))
  else U)
 else(
  E8 a1 a0 n (zM .i64 (v5+(1:X))) v6))
 else(
 O v6)
def MP(a0:V X2)(a1:X):W (V X2):= (Ik a0).bind fun r1=> if r1 then(
 (Ax a1 (0:X) (2880:X)).bind fun r3=>
 if r3 then(
 E8 a1 a0 bigN (0:X) ([]:V X2))
 else(
 O ([]:V X2))) else(
 O ([]:V X2))
def MT(a0:Xb)(a1:X0)(a2:X)(a3:X6)(a4:Y):W (V X2):= (Ii a0).bind fun r1=> if r1 then(
 (H0 a1 a2 a3).bind fun r3=>
 if r3 then(
 (KG a1 a2 a3).bind fun r5=>
 (KW a0 r5 a4).bind fun r6=>
 (KH a1 a2 a3).bind fun r7=>
 (MP r6 r7).bind fun r9=>
 O r9)
 else(
 O ([]:V X2))) else(
 O ([]:V X2))
def KQ(a0:Xb)(a1:X0)(a2:X)(a3:X6):W (V X2):= (MT a0 a1 a2 a3 E).bind fun r1=> O r1
def Fc(a3:V X)(a0:Xb)(a1:X0)(a2:X6):Z→X→(V (V X2))→W (V (V X2))
| 0,_,_=>U
| n+1,v1,v2=>
 if(decide (v1<(a3.length:X))) then(
 (ix a3 v1).bind fun x4=>
 (KQ a0 a1 x4 a2).bind fun r5=>
 if A4 v2.length ([r5]:V (V X2)).length 24 then(
  Fc a3 a0 a1 a2 n (zM .i64 (v1+(1:X))) (v2++([r5]:V (V X2))))
 else U)
 else(
 O v2)
def MU(a0:Xb)(a1:X0)(a2:X6)(a3:V X):W (V (V X2)):= Fc a3 a0 a1 a2 bigN (0:X) ([]:V (V X2))
def F9(r9:X)(a2:V X)(v1:X)(a0:X0)(v2:V X)(Nq:X→(V X)→W ((V X) × Y))(v12:Y):W ((V X) × Y):= if v12 then(
 O (([]:V X),E)) else(
 if A4 v2.length ([r9]:V X).length 8 then(
 Nq (zM .i64 (v1+(1:X))) (v2++([r9]:V X)))
 else U)
def D9(a2:V X)(a0:X0):Z→X→(V X)→W ((V X) × Y)
| 0,_,_=>U
| n+1,v1,v2=>
 if(decide (v1<(a2.length:X))) then(
 (ix a2 v1).bind fun x4=>
 (Ax x4 (0:X) (zM .i64 ((a0.Segments.length:X) - (1:X)))).bind fun r5=>
 if r5 then(
  (ix a0.Segments x4).bind fun x7=>
  (ix v2 (zM .i64 ((v2.length:X) - (1:X)))).bind fun x8=>
  (L0 x7 x8).bind fun r9=>
  if(decide (r9<(0:X))) then(
  F9 r9 a2 v1 a0 v2 (D9 a2 a0 n) F)
  else(
  (Im v2 r9).bind fun r11=>
  F9 r9 a2 v1 a0 v2 (D9 a2 a0 n) r11))
 else(
  O (([]:V X),E)))
 else(
 O (v2,F))
def F8(a0:X0)(a1:X)(a2:V X):W ((V X) × Y):= D9 a2 a0 bigN (0:X) ([a1]:V X)
def Du(a0:X0)(a1:X)(a2:V X):W Y:= (D7 a0).bind fun r1=> if r1 then(
 (Ax a1 (0:X) (zM .i64 ((a0.Points.length:X) - (1:X)))).bind fun r3=>
 if r3 then(
 (F8 a0 a1 a2).bind fun r5=>
 O r5.2)
 else(
 O E)) else(
 O E)
def E7(a0:X0)(a1:X)(a2:V X):W (V X):= (Du a0 a1 a2).bind fun r1=> if r1 then(
 (F8 a0 a1 a2).bind fun r3=>
 O r3.1) else(
 O ([]:V X))
def GL(a1:X)(a0:V X2):Z→X→W Y
| 0,_=>U
| n+1,v1=>
 if(decide (v1<(a0.length:X))) then(
 (ix a0 v1).bind fun x3=>
 (Ax a1 x3.From x3.To).bind fun r4=>
 if r4 then(
  O F)
 else(
  GL a1 a0 n (zM .i64 (v1+(1:X)))))
 else(
 O E)
def KD(a0:V X2)(a1:X):W Y:= GL a1 a0 bigN (0:X)
def GM(a1:X)(a0:V X2):Z→X→W X
| 0,_=>U
| n+1,v3=>
 if(decide (v3<(a0.length:X))) then(
 (ix a0 v3).bind fun x5=>
 if(decide (a1≤x5.To)) then(
  O (if x5.From<a1 then a1 else x5.From))
 else(
  GM a1 a0 n (zM .i64 (v3+(1:X)))))
 else(
 O (-1:X))
def KI(a0:V X2)(a1:X):W X:= (Ik a0).bind fun r1=> if r1 then(
 GM a1 a0 bigN (0:X)) else(
 O (-1:X))
def H1(a2 a3:V X)(a4:V (V X2))(v4 r12:X)(a0:X0)(a1:X6)(v5:V X)(Nr:X→(V X)→W ((V X) × Y))(v17:Y):W ((V X) × Y):= if v17 then(
 O (([]:V X),E)) else(
 if A4 v5.length ([r12]:V X).length 8 then(
 Nr (zM .i64 (v4+(1:X))) (v5++([r12]:V X)))
 else U)
def Dw(a2 a3:V X)(a4:V (V X2))(a0:X0)(a1:X6):Z→X→(V X)→W ((V X) × Y)
| 0,_,_=>U
| n+1,v4,v5=>
 if(decide (v4<(a3.length:X))) then(
 (ix v5 (zM .i64 (v4 - (1:X)))).bind fun x7=>
 (ix a3 (zM .i64 (v4 - (1:X)))).bind fun x8=>
 (ix a0.Segments x8).bind fun x9=>
 (Eb x9 a1).bind fun r10=>
 (ix a4 v4).bind fun x11=>
 (KI x11 (zM .i64 (x7+r10))).bind fun r12=>
 if(decide (r12<(0:X))) then(
  H1 a2 a3 a4 v4 r12 a0 a1 v5 (Dw a2 a3 a4 a0 a1 n) F)
 else(
  if(r12 !=(zM .i64 (x7+r10))) then(
  (ix a2 v4).bind fun x15=>
  (ix a0.Points x15).bind fun x16=>
  H1 a2 a3 a4 v4 r12 a0 a1 v5 (Dw a2 a3 a4 a0 a1 n) (!x16.Wait))
  else(
  H1 a2 a3 a4 v4 r12 a0 a1 v5 (Dw a2 a3 a4 a0 a1 n) E)))
 else(
 O (v5,F))
def In(a0:X0)(a1:X6)(a2 a3:V X)(a4:V (V X2))(a5:X):W ((V X) × Y):= (ix a4 (0:X)).bind fun x1=> (KD x1 a5).bind fun r2=> if r2 then(
 Dw a2 a3 a4 a0 a1 bigN (1:X) ([a5]:V X)) else(
 O (([]:V X),E))
def Kw(a0:X0)(a1:X6)(a2 a3:V X):W X:= (F6 a0 a2).bind fun r1=> if(decide (r1<(0:X))) then(
 O (-1:X)) else(
 (D8 a1).bind fun r3=>
 if r3 then(
 if((a2.length:X) !=(a3.length:X)) then(
  O (-1:X))
 else(
  if((a2.length:X)==(0:X)) then(
  O (-1:X))
  else(
  (ix a3 (zM .i64 ((a3.length:X) - (1:X)))).bind fun x7=>
  (Ax x7 (0:X) (2880:X)).bind fun r9=>
  if r9 then(
   (ix a2 (zM .i64 ((a2.length:X) - (1:X)))).bind fun x11=>
   (ix a0.Segments x11).bind fun x12=>
   (Eb x12 a1).bind fun r13=>
   O (zM .i64 (x7+r13)))
  else(
   O (-1:X)))))
 else(
 O (-1:X)))
def GP(a1:X)(a5 a4:V X)(a0:X0)(a2:X6)(r6:(V X)):Z→X→(V X3)→W (V X3)
| 0,_,_=>U
| n+1,v7,v8=>
 if(decide (v7<(a4.length:X))) then(
 (ix a4 v7).bind fun x10=>
 (ix a5 v7).bind fun x11=>
 (Ax x11 (0:X) (2880:X)).bind fun r12=>
 if r12 then(
  (ix a0.Segments x10).bind fun x14=>
  (ix r6 v7).bind fun x15=>
  (Eb x14 a2).bind fun r16=>
  if A4 v8.length ([(⟨a1,x10,(x14.A==x15),x11,(zM .i64 (x11+r16))⟩:X3)]:V X3).length 40 then(
  GP a1 a5 a4 a0 a2 r6 n (zM .i64 (v7+(1:X))) (v8++([(⟨a1,x10,(x14.A==x15),x11,(zM .i64 (x11+r16))⟩:X3)]:V X3)))
  else U)
 else(
  O ([]:V X3)))
 else(
 O v8)
def KL(a0:X0)(a1:X)(a2:X6)(a3:X)(a4 a5:V X):W (V X3):= (Du a0 a3 a4).bind fun r1=> if r1 then(
 (D8 a2).bind fun r3=>
 if r3 then(
 if((a4.length:X) !=(a5.length:X)) then(
  O ([]:V X3))
 else(
  (E7 a0 a3 a4).bind fun r6=>
  GP a1 a5 a4 a0 a2 r6 bigN (0:X) ([]:V X3)))
 else(
 O ([]:V X3))) else(
 O ([]:V X3))
def Ff(a2:V X)(a0:X9)(x1:X6)(x2 r3:X)(r4:(V X3)):Z→X→X→W (X5 × Y)
| 0,_,_=>U
| n+1,v5,v6=>
 if(decide (v5<(a2.length:X))) then(
 (ix a2 v5).bind fun x8=>
 (ix a0.Chart.Segments x8).bind fun x9=>
 (Eb x9 x1).bind fun r10=>
 Ff a2 a0 x1 x2 r3 r4 n (zM .i64 (v5+(1:X))) (zM .i64 (v6 - r10)))
 else(
 O ((⟨x2,r3,v6,r4⟩:X5),(decide (r3≤(2880:X)))))
def L1(a0:X9)(a1:Xe)(a2 a3:V X):W (X5 × Y):= (ix a0.Fleet a1.Ship).bind fun x1=> (ix a3 (0:X)).bind fun x2=> (Kw a0.Chart x1 a2 a3).bind fun r3=> (KL a0.Chart a1.Ship x1 a1.From a2 a3).bind fun r4=> Ff a2 a0 x1 x2 r3 r4 bigN (0:X) (zM .i64 (r3 - a1.Ready))
def GO(r3:(V X) × Y)(v8:X)(a0:X9)(a1:Xe)(x5:X6)(r6:(V (V X2)))(r7:(V X))(Nn:X→(V X5)→W (V X5))(v17:V X5):W (V X5):= Nn (zM .i64 (v8+(15:X))) v17
def E6(r3:(V X) × Y)(a0:X9)(a1:Xe)(x5:X6)(r6:(V (V X2)))(r7:(V X)):Z→X→(V X5)→W (V X5)
| 0,_,_=>U
| n+1,v8,v9=>
 if(decide (v8≤a1.Due)) then(
 if(decide ((v9.length:X)<(8:X))) then(
  (In a0.Chart x5 r7 r3.1 r6 v8).bind fun r12=>
  if r12.2 then(
  (L1 a0 a1 r3.1 r12.1).bind fun r14=>
  if r14.2 then(
   if A4 v9.length ([r14.1]:V X5).length 48 then(
   GO r3 v8 a0 a1 x5 r6 r7 (E6 r3 a0 a1 x5 r6 r7 n) (v9++([r14.1]:V X5)))
   else U)
  else(
   GO r3 v8 a0 a1 x5 r6 r7 (E6 r3 a0 a1 x5 r6 r7 n) v9))
  else(
  GO r3 v8 a0 a1 x5 r6 r7 (E6 r3 a0 a1 x5 r6 r7 n) v9))
 else(
  O v9))
 else(
 O v9)
def KJ(a0:X9)(a1:Xe):W (V X5):= (Ih a0 a1).bind fun r1=> if r1 then(
 (Kx a0.Chart a1.From a1.To).bind fun r3=>
 if r3.2 then(
 (ix a0.Fleet a1.Ship).bind fun x5=>
 (MU a0.Forecast a0.Chart x5 r3.1).bind fun r6=>
 (E7 a0.Chart a1.From r3.1).bind fun r7=>
 E6 r3 a0 a1 x5 r6 r7 bigN a1.Ready ([]:V X5))
 else(
 O ([]:V X5))) else(
 O ([]:V X5))
def F3(a1:V X7)(a0:X3):Z→X→W Y
| 0,_=>U
| n+1,v1=>
 if(decide (v1<(a1.length:X))) then(
 (ix a1 v1).bind fun x3=>
 if(x3.Segment==a0.Segment) then(
  if(decide ((if a0.Start<x3.From then x3.From else a0.Start)<(if x3.To<a0.End then x3.To else a0.End))) then(
  O F)
  else(
  F3 a1 a0 n (zM .i64 (v1+(1:X)))))
 else(
  F3 a1 a0 n (zM .i64 (v1+(1:X)))))
 else(
 O E)
def MM(a0:X3)(a1:V X7):W Y:= F3 a1 a0 bigN (0:X)
def GT(a1:V X7)(a0:X5):Z→X→W Y
| 0,_=>U
| n+1,v1=>
 if(decide (v1<(a0.Passages.length:X))) then(
 (ix a0.Passages v1).bind fun x3=>
 (MM x3 a1).bind fun r4=>
 if r4 then(
  O F)
 else(
  GT a1 a0 n (zM .i64 (v1+(1:X)))))
 else(
 O E)
def MQ(a0:X5)(a1:V X7):W Y:= GT a1 a0 bigN (0:X)
def F5(a2:V X7)(r5:(V X5)):Z→X→(V X5)→W (V X5)
| 0,_,_=>U
| n+1,v6,v7=>
 if(decide (v6<(r5.length:X))) then(
 (ix r5 v6).bind fun x9=>
 (MQ x9 a2).bind fun r10=>
 if r10 then(
  F5 a2 r5 n (zM .i64 (v6+(1:X))) v7)
 else(
  if A4 v7.length ([x9]:V X5).length 48 then(
  F5 a2 r5 n (zM .i64 (v6+(1:X))) (v7++([x9]:V X5)))
  else U))
 else(
 O v7)
def GN(a0:X9)(a1:Xe)(a2:V X7):W (V X5):= (Ih a0 a1).bind fun r1=> if r1 then(
 (Ky a0.Chart a2).bind fun r3=>
 if r3 then(
 (KJ a0 a1).bind fun r5=>
 F5 a2 r5 bigN (0:X) ([]:V X5))
 else(
 O ([]:V X5))) else(
 O ([]:V X5))
def BA(a0 a1 a2:X):W Y:= if(decide (a1≤a0)) then(
 O (decide (a0≤a2))) else(
 O E)
def HY(a0:X):W Y:= (BA a0 (4:X) (2880:X)).bind fun r1=> if r1 then(
 O ((zM .i64 (zF a0 (4:X)))==(0:X))) else(
 O E)
def JD(a0:Xc):W Y:= (BA a0.Amp (0:X) (1000:X)).bind fun r1=> if r1 then(
 (HY a0.Period).bind fun r3=>
 if r3 then(
 (BA a0.Phase (0:X) (zM .i64 (a0.Period - (1:X)))).bind fun r5=>
 O r5)
 else(
 O E)) else(
 O E)
def G8(a0:Xh):Z→X→W Y
| 0,_=>U
| n+1,v4=>
 if(decide (v4<(a0.Parts.length:X))) then(
 (ix a0.Parts v4).bind fun x6=>
 (JD x6).bind fun r7=>
 if r7 then(
  G8 a0 n (zM .i64 (v4+(1:X))))
 else(
  O E))
 else(
 O F)
def JM(a0:Xh):W Y:= (BA a0.Mean (-1000:X) (1000:X)).bind fun r1=> if r1 then(
 if(decide ((4:X)<(a0.Parts.length:X))) then(
 O E)
 else(
 G8 a0 bigN (0:X))) else(
 O E)
def Dp(a0:X):W Y:= (BA a0 (0:X) (2880:X)).bind fun r1=> O r1
def JL(a0:Xa):W Y:= (Dp a0.From).bind fun r1=> if r1 then(
 if(decide ((-500:X)≤a0.Low)) then(
 if(decide (a0.Low≤a0.High)) then(
  O (decide (a0.High≤(500:X))))
 else(
  O E))
 else(
 O E)) else(
 O E)
def EQ(a0:Xb):Z→X→W Y
| 0,_=>U
| n+1,v7=>
 if(decide (v7<(a0.Surges.length:X))) then(
 (ix a0.Surges v7).bind fun x9=>
 (JL x9).bind fun r10=>
 if r10 then(
  if(decide ((0:X)<v7)) then(
  (ix a0.Surges (zM .i64 (v7 - (1:X)))).bind fun x13=>
  if(decide (x9.From≤x13.From)) then(
   O E)
  else(
   EQ a0 n (zM .i64 (v7+(1:X)))))
  else(
  EQ a0 n (zM .i64 (v7+(1:X)))))
 else(
  O E))
 else(
 O F)
def EP(a0:Xb):W Y:= (JM a0.Tide).bind fun r1=> if r1 then(
 (BA (a0.Surges.length:X) (1:X) (6:X)).bind fun r3=>
 if r3 then(
 (ix a0.Surges (0:X)).bind fun x5=>
 if(x5.From !=(0:X)) then(
  O E)
 else(
  EQ a0 bigN (0:X)))
 else(
 O E)) else(
 O E)
def Jy(a0:V zA)(v3:X)(Dz:X→W Y):W Y:= Dz (zM .i64 (v3+(1:X)))
def Jx(a0:V zA)(v3:X)(Dz:X→W Y)(v7:Y):W Y:= if v7 then(
 Jy a0 v3 Dz) else(
 if(v3==(0:X)) then(
 O E)
 else(
 (ix a0 v3).bind fun b10=>
 if(decide ((b10.toNat:X)<(48:X))) then(
  O E)
 else(
  if(decide ((57:X)<(b10.toNat:X))) then(
  O E)
  else(
  Jy a0 v3 Dz))))
def ER(a0:V zA):Z→X→W Y
| 0,_=>U
| n+1,v3=>
 if(decide (v3<(a0.length:X))) then(
 (ix a0 v3).bind fun b5=>
 if(decide ((97:X)≤(b5.toNat:X))) then(
  Jx a0 v3 (ER a0 n) (decide ((b5.toNat:X)≤(122:X))))
 else(
  Jx a0 v3 (ER a0 n) E))
 else(
 O F)
def HT(a0:V zA):W Y:= (BA (a0.length:X) (1:X) (8:X)).bind fun r1=> if r1 then(
 ER a0 bigN (0:X)) else(
 O E)
def G4(a1:V zA)(a0:X0):Z→X→W X
| 0,_=>U
| n+1,v1=>
 if(decide (v1<(a0.Points.length:X))) then(
 (ix a0.Points v1).bind fun x3=>
 if(x3.Name==a1) then(
  O v1)
 else(
  G4 a1 a0 n (zM .i64 (v1+(1:X)))))
 else(
 O (-1:X))
def JF(a0:X0)(a1:V zA):W X:= G4 a1 a0 bigN (0:X)
def BI(a0 a1:X):W Y:= if(decide ((0:X)≤a0)) then(
 O (decide (a0<a1))) else(
 O E)
def JH(a0:X1)(a1 a2:X):W Y:= if(a0.A==a1) then(
 if(a0.B==a2) then(
 O F)
 else(
 if(a0.A==a2) then(
  O (a0.B==a1))
 else(
  O E))) else(
 if(a0.A==a2) then(
 O (a0.B==a1))
 else(
 O E))
def FU(a0:X0)(v11:X)(x13:X1)(y24:V X1)(y25:X)(Lb:X→W Y):Z→X→W Y
| 0,_=>U
| n+1,v26=>
 if(decide (v26<y25)) then(
 (ix y24 v26).bind fun x28=>
 (JH x28 x13.A x13.B).bind fun r29=>
 if r29 then(
  O E)
 else(
  FU a0 v11 x13 y24 y25 Lb n (zM .i64 (v26+(1:X)))))
 else(
 Lb (zM .i64 (v11+(1:X))))
def Dl(a0:X0):Z→X→W Y
| 0,_=>U
| n+1,v11=>
 if(decide (v11<(a0.Segments.length:X))) then(
 (ix a0.Segments v11).bind fun x13=>
 (BI x13.A (a0.Points.length:X)).bind fun r14=>
 if r14 then(
  (BI x13.B (a0.Points.length:X)).bind fun r16=>
  if r16 then(
  if(x13.A==x13.B) then(
   O E)
  else(
   (BA x13.Depth (0:X) (3000:X)).bind fun r19=>
   if r19 then(
   (BA x13.Minutes (1:X) (240:X)).bind fun r21=>
   if r21 then(
    (bnd (a0.Segments.length:X) v11 (0:X) a0.Segments.length).bind fun p23=>
    FU a0 v11 x13 ((a0.Segments.drop p23.1).take (p23.2 - p23.1)) (((a0.Segments.drop p23.1).take (p23.2 - p23.1)).length:X) (Dl a0 n) bigN (0:X))
   else(
    O E))
   else(
   O E)))
  else(
  O E))
 else(
  O E))
 else(
 O F)
def FT(a0:X0):Z→X→W Y
| 0,_=>U
| n+1,v3=>
 if(decide (v3<(a0.Points.length:X))) then(
 (ix a0.Points v3).bind fun x5=>
 (HT x5.Name).bind fun r6=>
 if r6 then(
  (JF a0 x5.Name).bind fun r9=>
  if(r9 !=v3) then(
  O E)
  else(
  FT a0 n (zM .i64 (v3+(1:X)))))
 else(
  O E))
 else(
 Dl a0 bigN (0:X))
def CL(a0:X0):W Y:= if(decide ((8:X)<(a0.Points.length:X))) then(
 O E) else(
 if(decide ((10:X)<(a0.Segments.length:X))) then(
 O E)
 else(
 FT a0 bigN (0:X)))
def Do(a0:X6):W Y:= (HT a0.Name).bind fun r1=> if r1 then(
 (BA a0.Length (10:X) (400:X)).bind fun r3=>
 if r3 then(
 (BA a0.Draught (100:X) (2000:X)).bind fun r5=>
 if r5 then(
  (BI a0.Line (4:X)).bind fun r7=>
  if r7 then(
  (BA a0.Tugs (0:X) (4:X)).bind fun r9=>
  O r9)
  else(
  O E))
 else(
  O E))
 else(
 O E)) else(
 O E)
def G6(a1:V zA)(a0:V X6):Z→X→W X
| 0,_=>U
| n+1,v1=>
 if(decide (v1<(a0.length:X))) then(
 (ix a0 v1).bind fun x3=>
 if(x3.Name==a1) then(
  O v1)
 else(
  G6 a1 a0 n (zM .i64 (v1+(1:X)))))
 else(
 O (-1:X))
def JI(a0:V X6)(a1:V zA):W X:= G6 a1 a0 bigN (0:X)
def G0(a0:V X6):Z→X→W Y
| 0,_=>U
| n+1,v2=>
 if(decide (v2<(a0.length:X))) then(
 (ix a0 v2).bind fun x4=>
 (Do x4).bind fun r5=>
 if r5 then(
  (JI a0 x4.Name).bind fun r7=>
  if(r7 !=v2) then(
  O E)
  else(
  G0 a0 n (zM .i64 (v2+(1:X)))))
 else(
  O E))
 else(
 O F)
def Jr(a0:V X6):W Y:= if(decide ((6:X)<(a0.length:X))) then(
 O E) else(
 G0 a0 bigN (0:X))
def Ml(a0:Xi):W Y:= (BA a0.Gap (0:X) (60:X)).bind fun r1=> O r1
def EV(a0:V X):Z→X→W Y
| 0,_=>U
| n+1,v2=>
 if(decide (v2<(a0.length:X))) then(
 (ix a0 v2).bind fun x4=>
 (BA x4 (0:X) (240:X)).bind fun r5=>
 if r5 then(
  EV a0 n (zM .i64 (v2+(1:X))))
 else(
  O E))
 else(
 O F)
def Mq(a0:V X):W Y:= if((a0.length:X) !=(64:X)) then(
 O E) else(
 EV a0 bigN (0:X))
def Jq(a0:Xj):W Y:= (BA a0.Tugs (0:X) (12:X)).bind fun r1=> if r1 then(
 (BA a0.Pilots (0:X) (12:X)).bind fun r3=>
 if r3 then(
 (Dp a0.Rest).bind fun r5=>
 if r5 then(
  (Mq a0.Moves).bind fun r7=>
  O r7)
 else(
  O E))
 else(
 O E)) else(
 O E)
def Ju(a0:X9):W Y:= (EP a0.Forecast).bind fun r1=> if r1 then(
 (CL a0.Chart).bind fun r3=>
 if r3 then(
 (Jr a0.Fleet).bind fun r5=>
 if r5 then(
  (Ml a0.Regime).bind fun r7=>
  if r7 then(
  (Jq a0.Crew).bind fun r9=>
  O r9)
  else(
  O E))
 else(
  O E))
 else(
 O E)) else(
 O E)
def JO(a0:X9)(a1:Xe):W Y:= (BI a1.Ship (a0.Fleet.length:X)).bind fun r1=> if r1 then(
 (BI a1.From (a0.Chart.Points.length:X)).bind fun r3=>
 if r3 then(
 (BI a1.To (a0.Chart.Points.length:X)).bind fun r5=>
 if r5 then(
  if(a1.From !=a1.To) then(
  (Dp a1.Ready).bind fun r9=>
  if r9 then(
   (BA a1.Due a1.Ready (2880:X)).bind fun r11=>
   O r11)
  else(
   O E))
  else(
  O E))
 else(
  O E))
 else(
 O E)) else(
 O E)
def HR(a0:X9)(a1:Xe):W Y:= (Ju a0).bind fun r1=> if r1 then(
 (JO a0 a1).bind fun r3=>
 O r3) else(
 O E)
def FZ(a1:V X7)(a0:X0):Z→X→W Y
| 0,_=>U
| n+1,v4=>
 if(decide (v4<(a1.length:X))) then(
 (ix a1 v4).bind fun x6=>
 (BI x6.Segment (a0.Segments.length:X)).bind fun r7=>
 if r7 then(
  if(decide (x6.From<(0:X))) then(
  O E)
  else(
  if(decide (x6.To≤x6.From)) then(
   O E)
  else(
   if(decide ((2880:X)<x6.To)) then(
   O E)
   else(
   FZ a1 a0 n (zM .i64 (v4+(1:X)))))))
 else(
  O E))
 else(
 O F)
def FY(a0:X0)(a1:V X7):W Y:= (CL a0).bind fun r1=> if r1 then(
 if(decide ((4:X)<(a1.length:X))) then(
 O E)
 else(
 FZ a1 a0 bigN (0:X))) else(
 O E)
def BW(a0:V X):W (V X):= (Ck (0:X) (a0.length:X) 8).bind fun n1=> if A4 (zH n1 (0:X)).length a0.length 8 then(
 O ((zH n1 (0:X))++a0)) else U
def HV(a0:X1)(a1:X):W X:= if(a1==a0.A) then(
 O a0.B) else(
 if(a1==a0.B) then(
 O a0.A)
 else(
 O (-1:X)))
def FX(rec_:X0→X→X→(V X)→X4→(V (V X))→W (V (V X)))(a1 a2:X)(a3:V X)(v6 r11:X)(a0:X0)(y7:X4)(v8:V (V X))(Lc:X→(V (V X))→W (V (V X)))(v16:Y):W (V (V X)):= if v16 then(
 (BW a3).bind fun r18=>
 if A4 r18.length ([v6]:V X).length 8 then(
 (rec_ a0 r11 a2 (r18++([v6]:V X)) y7 v8).bind fun r20=>
 Lc (zM .i64 (v6+(1:X))) r20)
 else U) else(
 Lc (zM .i64 (v6+(1:X))) v8)
def EN(rec_:X0→X→X→(V X)→X4→(V (V X))→W (V (V X)))(a1 a2:X)(a3:V X)(a0:X0)(y7:X4):Z→X→(V (V X))→W (V (V X))
| 0,_,_=>U
| n+1,v6,v8=>
 if(decide (v6<(a0.Segments.length:X))) then(
 (ix a0.Segments v6).bind fun x10=>
 (HV x10 a1).bind fun r11=>
 if(decide ((0:X)≤r11)) then(
  if decide ((0:X)≤r11)&&decide (r11<(8:X)) then(
  (ix ([y7.i0,y7.i1,y7.i2,y7.i3,y7.i4,y7.i5,y7.i6,y7.i7]:V Y) r11).bind fun x14=>
  FX rec_ a1 a2 a3 v6 r11 a0 y7 v8 (EN rec_ a1 a2 a3 a0 y7 n) (!x14))
  else U)
 else(
  FX rec_ a1 a2 a3 v6 r11 a0 y7 v8 (EN rec_ a1 a2 a3 a0 y7 n) E))
 else(
 O v8)
def Mi(rec_:X0→X→X→(V X)→X4→(V (V X))→W (V (V X)))(a0:X0)(a1 a2:X)(a3:V X)(a4:X4)(a5:V (V X)):W (V (V X)):= if(a1==a2) then(
 (BW a3).bind fun r2=>
 if A4 a5.length ([r2]:V (V X)).length 24 then(
 O (a5++([r2]:V (V X))))
 else U) else(
 if decide ((0:X)≤a1)&&decide (a1<(8:X)) then(
 EN rec_ a1 a2 a3 a0 (⟨((X4.set a4 (zB a1) F)).i0,((X4.set a4 (zB a1) F)).i1,((X4.set a4 (zB a1) F)).i2,((X4.set a4 (zB a1) F)).i3,((X4.set a4 (zB a1) F)).i4,((X4.set a4 (zB a1) F)).i5,((X4.set a4 (zB a1) F)).i6,((X4.set a4 (zB a1) F)).i7⟩:X4) bigN (0:X) a5)
 else U)
def EO:Z→X0→X→X→(V X)→X4→(V (V X))→W (V (V X))
| 0,_,_,_,_,_,_=>U
| n+1,a0,a1,a2,a3,a4,a5=>Mi (EO n) a0 a1 a2 a3 a4 a5
def OF(a0:X0)(a1 a2:X)(a3:V X)(a4:X4)(a5:V (V X)):W (V (V X)):=EO bigN a0 a1 a2 a3 a4 a5
def JG(a0:X0)(a1 a2:X):W (V (V X)):= (CL a0).bind fun r1=> if r1 then(
 (BI a1 (a0.Points.length:X)).bind fun r3=>
 if r3 then(
 (BI a2 (a0.Points.length:X)).bind fun r5=>
 if r5 then(
  (OF a0 a1 a2 ([]:V X) (⟨E,E,E,E,E,E,E,E⟩:X4) ([]:V (V X))).bind fun r7=>
  O r7)
 else(
  O ([]:V (V X))))
 else(
 O ([]:V (V X)))) else(
 O ([]:V (V X)))
def G5(a1:V X)(a0:X0):Z→X→X→W X
| 0,_,_=>U
| n+1,v3,v4=>
 if(decide (v4<(a1.length:X))) then(
 (ix a1 v4).bind fun x6=>
 (BI x6 (a0.Segments.length:X)).bind fun r7=>
 if r7 then(
  (ix a0.Segments x6).bind fun x9=>
  G5 a1 a0 n (zM .i64 (v3+x9.Minutes)) (zM .i64 (v4+(1:X))))
 else(
  O (-1:X)))
 else(
 O v3)
def ET(a0:X0)(a1:V X):W X:= (CL a0).bind fun r1=> if r1 then(
 G5 a1 a0 bigN (0:X) (0:X)) else(
 O (-1:X))
def DP(r1:(V (V X)))(a0:X0):Z→(V X)→X→W ((V X) × Y)
| 0,_,_=>U
| n+1,v4,v5=>
 if(decide (v5<(r1.length:X))) then(
 (ix r1 v5).bind fun x7=>
 (ET a0 x7).bind fun r9=>
 (ET a0 v4).bind fun r10=>
 if(decide (r9<r10)) then(
  DP r1 a0 n x7 (zM .i64 (v5+(1:X))))
 else(
  DP r1 a0 n v4 (zM .i64 (v5+(1:X)))))
 else(
 O (v4,F))
def Jp(a0:X0)(a1 a2:X):W ((V X) × Y):= (JG a0 a1 a2).bind fun r1=> if((r1.length:X)==(0:X)) then(
 O (([]:V X),E)) else(
 (ix r1 (0:X)).bind fun x3=>
 DP r1 a0 bigN x3 (0:X))
def FW(r14:X)(a2:V X)(v6:X)(a0:X0)(v7:X4)(v8:V X)(Nk:X→X→X4→(V X)→W ((V X) × Y))(v19:Y):W ((V X) × Y):= if v19 then(
 O (([]:V X),E)) else(
 if decide ((0:X)≤r14)&&decide (r14<(8:X)) then(
 if A4 v8.length ([r14]:V X).length 8 then(
  Nk r14 (zM .i64 (v6+(1:X))) (⟨((X4.set v7 (zB r14) F)).i0,((X4.set v7 (zB r14) F)).i1,((X4.set v7 (zB r14) F)).i2,((X4.set v7 (zB r14) F)).i3,((X4.set v7 (zB r14) F)).i4,((X4.set v7 (zB r14) F)).i5,((X4.set v7 (zB r14) F)).i6,((X4.set v7 (zB r14) F)).i7⟩:X4) (v8++([r14]:V X)))
 else U)
 else U)
def EM(a2:V X)(a0:X0):Z→X→X→X4→(V X)→W ((V X) × Y)
| 0,_,_,_,_=>U
| n+1,v5,v6,v7,v8=>
 if(decide (v6<(a2.length:X))) then(
 (ix a2 v6).bind fun x10=>
 (BI x10 (a0.Segments.length:X)).bind fun r11=>
 if r11 then(
  (ix a0.Segments x10).bind fun x13=>
  (HV x13 v5).bind fun r14=>
  if(decide (r14<(0:X))) then(
  FW r14 a2 v6 a0 v7 v8 (EM a2 a0 n) F)
  else(
  if decide ((0:X)≤r14)&&decide (r14<(8:X)) then(
   (ix ([v7.i0,v7.i1,v7.i2,v7.i3,v7.i4,v7.i5,v7.i6,v7.i7]:V Y) r14).bind fun x17=>
   FW r14 a2 v6 a0 v7 v8 (EM a2 a0 n) x17)
  else U))
 else(
  O (([]:V X),E)))
 else(
 O (v8,F))
def FV(a0:X0)(a1:X)(a2:V X):W ((V X) × Y):= (BI a1 (a0.Points.length:X)).bind fun r1=> if r1 then(
 if decide ((0:X)≤a1)&&decide (a1<(8:X)) then(
 EM a2 a0 bigN a1 (0:X) (⟨((X4.set (⟨E,E,E,E,E,E,E,E⟩:X4) (zB a1) F)).i0,((X4.set (⟨E,E,E,E,E,E,E,E⟩:X4) (zB a1) F)).i1,((X4.set (⟨E,E,E,E,E,E,E,E⟩:X4) (zB a1) F)).i2,((X4.set (⟨E,E,E,E,E,E,E,E⟩:X4) (zB a1) F)).i3,((X4.set (⟨E,E,E,E,E,E,E,E⟩:X4) (zB a1) F)).i4,((X4.set (⟨E,E,E,E,E,E,E,E⟩:X4) (zB a1) F)).i5,((X4.set (⟨E,E,E,E,E,E,E,E⟩:X4) (zB a1) F)).i6,((X4.set (⟨E,E,E,E,E,E,E,E⟩:X4) (zB a1) F)).i7⟩:X4) ([a1]:V X))
 else U) else(
 O (([]:V X),E))
def D6(a0:X0)(a1:X)(a2:V X):W (V X):= (CL a0).bind fun r1=> if r1 then(
 (FV a0 a1 a2).bind fun r3=>
 O r3.1) else(
 O ([]:V X))
def DR(a0:X0)(a1:X)(a2:V X):W Y:= (CL a0).bind fun r1=> if r1 then(
 (FV a0 a1 a2).bind fun r3=>
 O r3.2) else(
 O E)
def EU(a0:X6)(a1:X1):W X:= if a0.Slow then(
 O (zM .i64 ((2:X)*a1.Minutes))) else(
 O a1.Minutes)
def Gb(a0:X0)(a1:X)(a2:X6):W Y:= (CL a0).bind fun r1=> if r1 then(
 (Do a2).bind fun r3=>
 if r3 then(
 (BI a1 (a0.Segments.length:X)).bind fun r5=>
 O r5)
 else(
 O E)) else(
 O E)
def Mn(a0:X6):W X:= if a0.Slow then(
 O (zM .i64 (zE a0.Draught (50:X)))) else(
 O (zM .i64 (zE a0.Draught (20:X))))
def Mm(a0:X6):W X:= (Mn a0).bind fun r1=> O (zM .i64 ((zM .i64 (a0.Draught+r1))+(50:X)))
def Jz(a0:X0)(a1:X)(a2:X6):W X:= (Gb a0 a1 a2).bind fun r1=> if r1 then(
 (Mm a2).bind fun r3=>
 (ix a0.Segments a1).bind fun x4=>
 O (zM .i64 (r3 - x4.Depth))) else(
 O (0:X))
def Gh(a0:X→W Y)(v2:X)(Ei:Y→X→(V X2)→W (V X2))(v11:Y)(v12:V X2):W (V X2):= Ei v11 (zM .i64 (v2+(1:X))) v12
def HZ(a0:X→W Y)(v2:X)(Ei:Y→X→(V X2)→W (V X2))(v9:V X2):W (V X2):= (ix v9 (zM .i64 ((v9.length:X) - (1:X)))).bind fun x10=> Gh a0 v2 Ei F (v9.set (zB (zM .i64 ((v9.length:X) - (1:X)))) (⟨x10.From,v2⟩:X2))
def DU(a0:X→W Y):Z→Y→X→(V X2)→W (V X2)
| 0,_,_,_=>U
| n+1,v1,v2,v3=>
 if(decide (v2≤(2880:X))) then(
 (a0 v2).bind fun r5=>
 if r5 then(
  if v1 then(
  HZ a0 v2 (DU a0 n) v3)
  else(
  if A4 v3.length ([(⟨v2,(0:X)⟩:X2)]:V X2).length 16 then(
   HZ a0 v2 (DU a0 n) (v3++([(⟨v2,(0:X)⟩:X2)]:V X2)))
  else U))
 else(
  Gh a0 v2 (DU a0 n) E v3))
 else(
 O v3)
def JQ(a0:X→W Y):W (V X2):= DU a0 bigN E (0:X) ([]:V X2)
def JN(a0 a1:X):W X:= (HY a1).bind fun r1=> if r1 then(
 if a1==0 then U else
 if a1==0 then U else
 if(decide ((zM .i64 (zE a1 (2:X)))≤(zM .i64 (zF (zM .i64 ((zM .i64 (zF a0 a1))+a1)) a1)))) then(
 if(zM .i64 ((zM .i64 (zE a1 (2:X)))*(zM .i64 (zE a1 (2:X)))))==0 then U else
 O (zM .i64 (0 - (zM .i64 (zE (zM .i64 ((zM .i64 ((40000:X)*(zM .i64 ((zM .i64 (zF (zM .i64 ((zM .i64 (zF a0 a1))+a1)) a1)) - (zM .i64 (zE a1 (2:X)))))))*(zM .i64 ((zM .i64 (zE a1 (2:X))) - (zM .i64 ((zM .i64 (zF (zM .i64 ((zM .i64 (zF a0 a1))+a1)) a1)) - (zM .i64 (zE a1 (2:X))))))))) (zM .i64 ((zM .i64 (zE a1 (2:X)))*(zM .i64 (zE a1 (2:X))))))))))
 else(
 if(zM .i64 ((zM .i64 (zE a1 (2:X)))*(zM .i64 (zE a1 (2:X)))))==0 then U else
 O (zM .i64 (zE (zM .i64 ((zM .i64 ((40000:X)*(zM .i64 (zF (zM .i64 ((zM .i64 (zF a0 a1))+a1)) a1))))*(zM .i64 ((zM .i64 (zE a1 (2:X))) - (zM .i64 (zF (zM .i64 ((zM .i64 (zF a0 a1))+a1)) a1)))))) (zM .i64 ((zM .i64 (zE a1 (2:X)))*(zM .i64 (zE a1 (2:X))))))))) else(
 O (0:X))
def G9(a1:X)(a0:Xh):Z→X→X→W X
| 0,_,_=>U
| n+1,v1,v2=>
 if(decide (v2<(a0.Parts.length:X))) then(
 (ix a0.Parts v2).bind fun x4=>
 (JN (zM .i64 (a1+x4.Phase)) x4.Period).bind fun r5=>
 G9 a1 a0 n (zM .i64 (v1+(zM .i64 (zE (zM .i64 (x4.Amp*r5)) (10000:X))))) (zM .i64 (v2+(1:X))))
 else(
 O v1)
def Mp(a0:Xh)(a1:X):W X:= G9 a1 a0 bigN a0.Mean (0:X)
def DQ(a1:X)(a0:Xb):Z→X→X→W X
| 0,_,_=>U
| n+1,v1,v2=>
 if(decide (v2<(a0.Surges.length:X))) then(
 (ix a0.Surges v2).bind fun x4=>
 if(decide (x4.From≤a1)) then(
  DQ a1 a0 n v2 (zM .i64 (v2+(1:X))))
 else(
  DQ a1 a0 n v1 (zM .i64 (v2+(1:X)))))
 else(
 O v1)
def Jt(a0:Xb)(a1:X):W X:= DQ a1 a0 bigN (0:X) (0:X)
def Js(a0:Xb)(a1:X):W X:= (Mp a0.Tide a1).bind fun r1=> (Jt a0 a1).bind fun r2=> (ix a0.Surges r2).bind fun x3=> O (zM .i64 (r1+x3.Low))
def Mj(a0:X)(c0:Xb)(c1:X):W Y:= (Js c0 a0).bind fun r1=> O (decide (c1≤r1))
def JA(a0:Xb)(a1:X):W (V X2):= (EP a0).bind fun r1=> if r1 then(
 (JQ (fun z0=>Mj z0 a0 a1)).bind fun r3=>
 O r3) else(
 O ([]:V X2))
def JB(a0:X0)(a1:X)(a2:X6):W X:= (CL a0).bind fun r1=> if r1 then(
 (Do a2).bind fun r3=>
 if r3 then(
 (BI a1 (a0.Segments.length:X)).bind fun r5=>
 if r5 then(
  (ix a0.Segments a1).bind fun x7=>
  (EU a2 x7).bind fun r9=>
  O r9)
 else(
  O (0:X)))
 else(
 O (0:X))) else(
 O (0:X))
def DT(a0:V X2):Z→X→W Y
| 0,_=>U
| n+1,v1=>
 if(decide (v1<(a0.length:X))) then(
 (ix a0 v1).bind fun x3=>
 if(decide (x3.From<(0:X))) then(
  O E)
 else(
  if(decide (x3.To<x3.From)) then(
  O E)
  else(
  if(decide ((2880:X)<x3.To)) then(
   O E)
  else(
   if(decide ((0:X)<v1)) then(
   (ix a0 (zM .i64 (v1 - (1:X)))).bind fun x8=>
   if(decide (x3.From≤(zM .i64 (x8.To+(1:X))))) then(
    O E)
   else(
    DT a0 n (zM .i64 (v1+(1:X)))))
   else(
   DT a0 n (zM .i64 (v1+(1:X))))))))
 else(
 O F)
def HW(a0:V X2):W Y:= DT a0 bigN (0:X)
def DS(a1:X)(a0:V X2):Z→X→(V X2)→W (V X2)
| 0,_,_=>U
| n+1,v5,v6=>
 if(decide (v5<(a0.length:X))) then(
 (ix a0 v5).bind fun x8=>
 if(decide (a1≤(zM .i64 (x8.To - x8.From)))) then(
  if A4 v6.length ([(⟨x8.From,(zM .i64 (x8.To - a1))⟩:X2)]:V X2).length 16 then(
  DS a1 a0 n (zM .i64 (v5+(1:X))) (v6++([(⟨x8.From,(zM .i64 (x8.To - a1))⟩:X2)]:V X2)))
  else U)
 else(
  DS a1 a0 n (zM .i64 (v5+(1:X))) v6))
 else(
 O v6)
def Mo(a0:V X2)(a1:X):W (V X2):= (HW a0).bind fun r1=> if r1 then(
 (Dp a1).bind fun r3=>
 if r3 then(
 DS a1 a0 bigN (0:X) ([]:V X2))
 else(
 O ([]:V X2))) else(
 O ([]:V X2))
def JK(a0:Xb)(a1:X0)(a2:X)(a3:X6):W (V X2):= (EP a0).bind fun r1=> if r1 then(
 (Gb a1 a2 a3).bind fun r3=>
 if r3 then(
 (Jz a1 a2 a3).bind fun r5=>
 (JA a0 r5).bind fun r6=>
 (JB a1 a2 a3).bind fun r7=>
 (Mo r6 r7).bind fun r9=>
 O r9)
 else(
 O ([]:V X2))) else(
 O ([]:V X2))
def Gf(a4:V X)(a0:Xb)(a1:X0)(a2:X6)(y11:V X)(y12:X):Z→X→(V Y)→(V X)→(V (V X2))→W (Xf × Y)
| 0,_,_,_,_=>U
| n+1,v13,v14,v15,v16=>
 if(decide (v13<y12)) then(
 (ix y11 v13).bind fun x18=>
 (ix a1.Points x18).bind fun x19=>
 if A4 v14.length ([x19.Wait]:V Y).length 1 then(
  (ix a4 v13).bind fun x21=>
  (ix a1.Segments x21).bind fun x22=>
  (EU a2 x22).bind fun r23=>
  if A4 v15.length ([r23]:V X).length 8 then(
  (JK a0 a1 x21 a2).bind fun r25=>
  if A4 v16.length ([r25]:V (V X2)).length 24 then(
   Gf a4 a0 a1 a2 y11 y12 n (zM .i64 (v13+(1:X))) (v14++([x19.Wait]:V Y)) (v15++([r23]:V X)) (v16++([r25]:V (V X2))))
  else U)
  else U)
 else U)
 else(
 O ((⟨v14,v15,v16⟩:Xf),F))
def Ge(a3:X)(a4:V X)(a0:Xb)(a1:X0)(a2:X6)(v7:Y):W (Xf × Y):= if v7 then(
 O ((⟨([]:V Y),([]:V X),([]:V (V X2))⟩:Xf),E)) else(
 (D6 a1 a3 a4).bind fun r9=>
 (bnd (r9.length:X) (a4.length:X) (0:X) r9.length).bind fun p10=>
 Gf a4 a0 a1 a2 ((r9.drop p10.1).take (p10.2 - p10.1)) (((r9.drop p10.1).take (p10.2 - p10.1)).length:X) bigN (0:X) ([]:V Y) ([]:V X) ([]:V (V X2)))
def Gd(a0:Xb)(a1:X0)(a2:X6)(a3:X)(a4:V X):W (Xf × Y):= (EP a0).bind fun r1=> if r1 then(
 (Do a2).bind fun r3=>
 if r3 then(
 (DR a1 a3 a4).bind fun r5=>
 if r5 then(
  Ge a3 a4 a0 a1 a2 ((a4.length:X)==(0:X)))
 else(
  Ge a3 a4 a0 a1 a2 F))
 else(
 Ge a3 a4 a0 a1 a2 F)) else(
 Ge a3 a4 a0 a1 a2 F)
def HX(a2:V X)(a0:X9)(a1:Xe)(v4:Y):W (Xf × Y):= if v4 then(
 O ((⟨([]:V Y),([]:V X),([]:V (V X2))⟩:Xf),E)) else(
 (ix a0.Fleet a1.Ship).bind fun x6=>
 (Gd a0.Forecast a0.Chart x6 a1.From a2).bind fun r7=>
 O (r7.1,r7.2))
def Ga(a0:X9)(a1:Xe)(a2:V X):W (Xf × Y):= (D6 a0.Chart a1.From a2).bind fun r1=> if((r1.length:X)==(0:X)) then(
 HX a2 a0 a1 F) else(
 (ix r1 (zM .i64 ((r1.length:X) - (1:X)))).bind fun x3=>
 HX a2 a0 a1 (x3 !=a1.To))
def G1(a1:X)(a0:V X2):Z→X→W Y
| 0,_=>U
| n+1,v1=>
 if(decide (v1<(a0.length:X))) then(
 (ix a0 v1).bind fun x3=>
 (BA a1 x3.From x3.To).bind fun r4=>
 if r4 then(
  O F)
 else(
  G1 a1 a0 n (zM .i64 (v1+(1:X)))))
 else(
 O E)
def Jv(a0:V X2)(a1:X):W Y:= G1 a1 a0 bigN (0:X)
def G2(a1:X)(a0:V X2):Z→X→W X
| 0,_=>U
| n+1,v3=>
 if(decide (v3<(a0.length:X))) then(
 (ix a0 v3).bind fun x5=>
 if(decide (a1≤x5.To)) then(
  O (if x5.From<a1 then a1 else x5.From))
 else(
  G2 a1 a0 n (zM .i64 (v3+(1:X)))))
 else(
 O (-1:X))
def JC(a0:V X2)(a1:X):W X:= (HW a0).bind fun r1=> if r1 then(
 G2 a1 a0 bigN (0:X)) else(
 O (-1:X))
def Gg(v4 r10:X)(a0:Xf)(v5:V X)(Nm:X→(V X)→W ((V X) × Y))(v14:Y):W ((V X) × Y):= if v14 then(
 O (([]:V X),E)) else(
 if A4 v5.length ([r10]:V X).length 8 then(
 Nm (zM .i64 (v4+(1:X))) (v5++([r10]:V X)))
 else U)
def Dq(a0:Xf):Z→X→(V X)→W ((V X) × Y)
| 0,_,_=>U
| n+1,v4,v5=>
 if(decide (v4<(a0.sure.length:X))) then(
 (ix v5 (zM .i64 (v4 - (1:X)))).bind fun x7=>
 (ix a0.minutes (zM .i64 (v4 - (1:X)))).bind fun x8=>
 (ix a0.sure v4).bind fun x9=>
 (JC x9 (zM .i64 (x7+x8))).bind fun r10=>
 if(decide (r10<(0:X))) then(
  Gg v4 r10 a0 v5 (Dq a0 n) F)
 else(
  if(decide ((zM .i64 (x7+x8))<r10)) then(
  (ix a0.waits v4).bind fun x13=>
  Gg v4 r10 a0 v5 (Dq a0 n) (!x13))
  else(
  Gg v4 r10 a0 v5 (Dq a0 n) E)))
 else(
 O (v5,F))
def JP(a0:Xf)(a1:X):W ((V X) × Y):= (ix a0.sure (0:X)).bind fun x1=> (Jv x1 a1).bind fun r2=> if r2 then(
 Dq a0 bigN (1:X) ([a1]:V X)) else(
 O (([]:V X),E))
def G3(a1:X)(a5 a4:V X)(a0:X0)(a2:X6)(r6:(V X)):Z→X→(V X3)→W (V X3)
| 0,_,_=>U
| n+1,v7,v8=>
 if(decide (v7<(a4.length:X))) then(
 (ix a4 v7).bind fun x10=>
 (ix a5 v7).bind fun x11=>
 (Dp x11).bind fun r12=>
 if r12 then(
  (ix a0.Segments x10).bind fun x14=>
  (ix r6 v7).bind fun x15=>
  (EU a2 x14).bind fun r16=>
  if A4 v8.length ([(⟨a1,x10,(x15==x14.A),x11,(zM .i64 (x11+r16))⟩:X3)]:V X3).length 40 then(
  G3 a1 a5 a4 a0 a2 r6 n (zM .i64 (v7+(1:X))) (v8++([(⟨a1,x10,(x15==x14.A),x11,(zM .i64 (x11+r16))⟩:X3)]:V X3)))
  else U)
 else(
  O ([]:V X3)))
 else(
 O v8)
def JE(a0:X0)(a1:X)(a2:X6)(a3:X)(a4 a5:V X):W (V X3):= (DR a0 a3 a4).bind fun r1=> if r1 then(
 (Do a2).bind fun r3=>
 if r3 then(
 if((a4.length:X) !=(a5.length:X)) then(
  O ([]:V X3))
 else(
  (D6 a0 a3 a4).bind fun r6=>
  G3 a1 a5 a4 a0 a2 r6 bigN (0:X) ([]:V X3)))
 else(
 O ([]:V X3))) else(
 O ([]:V X3))
def Jo(a0:X0)(a1:X6)(a2 a3:V X):W X:= (ET a0 a2).bind fun r1=> if(decide (r1<(0:X))) then(
 O (-1:X)) else(
 (Do a1).bind fun r3=>
 if r3 then(
 if((a2.length:X)==(0:X)) then(
  O (-1:X))
 else(
  if((a2.length:X) !=(a3.length:X)) then(
  O (-1:X))
  else(
  (ix a3 (zM .i64 ((a2.length:X) - (1:X)))).bind fun x7=>
  (Dp x7).bind fun r9=>
  if r9 then(
   (ix a2 (zM .i64 ((a2.length:X) - (1:X)))).bind fun x11=>
   (ix a0.Segments x11).bind fun x12=>
   (EU a1 x12).bind fun r13=>
   O (zM .i64 (x7+r13)))
  else(
   O (-1:X)))))
 else(
 O (-1:X)))
def EW(a2:Xf)(a4 r5:X)(r4:(V X3)):Z→X→X→W (X5 × Y)
| 0,_,_=>U
| n+1,v6,v7=>
 if(decide (v6<(a2.minutes.length:X))) then(
 (ix a2.minutes v6).bind fun x9=>
 EW a2 a4 r5 r4 n (zM .i64 (v6+(1:X))) (zM .i64 (v7 - x9)))
 else(
 O ((⟨a4,r5,v7,r4⟩:X5),(decide (r5≤(2880:X)))))
def Gc(a0:X9)(a1:Xe)(a2:Xf)(a3:V X)(a4:X):W (X5 × Y):= (JP a2 a4).bind fun r1=> if r1.2 then(
 (ix a0.Fleet a1.Ship).bind fun x3=>
 (JE a0.Chart a1.Ship x3 a1.From a3 r1.1).bind fun r4=>
 (Jo a0.Chart x3 a3 r1.1).bind fun r5=>
 EW a2 a4 r5 r4 bigN (0:X) (zM .i64 (r5 - a1.Ready))) else(
 O ((⟨(0:X),(0:X),(0:X),([]:V X3)⟩:X5),E))
def ES(r3:(V X) × Y)(v7:X)(a0:X9)(a1:Xe)(r4:Xf × Y)(Nl:X→(V X5)→W (V X5))(v14:V X5):W (V X5):= Nl (zM .i64 (v7+(15:X))) v14
def Dn(r3:(V X) × Y)(a0:X9)(a1:Xe)(r4:Xf × Y):Z→X→(V X5)→W (V X5)
| 0,_,_=>U
| n+1,v7,v8=>
 if(decide (v7≤a1.Due)) then(
 if(decide ((v8.length:X)<(8:X))) then(
  (Gc a0 a1 r4.1 r3.1 v7).bind fun r11=>
  if r11.2 then(
  if A4 v8.length ([r11.1]:V X5).length 48 then(
   ES r3 v7 a0 a1 r4 (Dn r3 a0 a1 r4 n) (v8++([r11.1]:V X5)))
  else U)
  else(
  ES r3 v7 a0 a1 r4 (Dn r3 a0 a1 r4 n) v8))
 else(
  O v8))
 else(
 O v8)
def D5(a0:X9)(a1:Xe):W (V X5):= (HR a0 a1).bind fun r1=> if r1 then(
 (Jp a0.Chart a1.From a1.To).bind fun r3=>
 (Ga a0 a1 r3.1).bind fun r4=>
 if r3.2 then(
 if r4.2 then(
  Dn r3 a0 a1 r4 bigN a1.Ready ([]:V X5))
 else(
  O ([]:V X5)))
 else(
 O ([]:V X5))) else(
 O ([]:V X5))
def Kv(a1:X5→W Y)(a0:V X5):Z→X→W X
| 0,_=>U
| n+1,v1=>
 if(decide (v1<(a0.length:X))) then(
 (ix a0 v1).bind fun x3=>
 (a1 x3).bind fun r4=>
 if r4 then(
  O v1)
 else(
  Kv a1 a0 n (zM .i64 (v1+(1:X)))))
 else(
 O (-1:X))
def Ru(a0:V X5)(a1:X5→W Y):W X:= Kv a1 a0 bigN (0:X)
def MJ(a1:X5→W Y)(v4:X)(k_slices_DeleteFunc_Option_1:X→X→(V X5)→W (V X5))(v12:X)(v13:V X5):W (V X5):= k_slices_DeleteFunc_Option_1 v12 (zM .i64 (v4+(1:X))) v13
def If(a1:X5→W Y):Z→X→X→(V X5)→W (V X5)
| 0,_,_,_=>U
| n+1,v3,v4,v5=>
 if(decide (v4<(v5.length:X))) then(
 (ix v5 v4).bind fun x7=>
 (a1 x7).bind fun r9=>
 if r9 then(
  MJ a1 v4 (If a1 n) v3 v5)
 else(
  (ix v5 v3).bind fun x11=>
  MJ a1 v4 (If a1 n) (zM .i64 (v3+(1:X))) (v5.set (zB v3) x7)))
 else(
 (bnd (v5.length:X) (v5.length:X) v3 v5.length).bind fun p14=>
 (bnd ((v5.take p14.1++zH (p14.2 - p14.1) (⟨(0:X),(0:X),(0:X),([]:V X3)⟩:X5)).length:X) v3 0 (v5.take p14.1++zH (p14.2 - p14.1) (⟨(0:X),(0:X),(0:X),([]:V X3)⟩:X5)).length).bind fun p15=>
 O ((v5.take p14.1++zH (p14.2 - p14.1) (⟨(0:X),(0:X),(0:X),([]:V X3)⟩:X5)).take p15.2))
def OG(a0:V X5)(a1:X5→W Y):W (V X5):= (Ru a0 a1).bind fun r1=> if(r1==(-1:X)) then(
 O a0) else(
 If a1 bigN r1 (zM .i64 (r1+(1:X))) a0)
def GG(a1:X3→W Y)(a0:V X3):Z→X→W X
| 0,_=>U
| n+1,v1=>
 if(decide (v1<(a0.length:X))) then(
 (ix a0 v1).bind fun x3=>
 (a1 x3).bind fun r4=>
 if r4 then(
  O v1)
 else(
  GG a1 a0 n (zM .i64 (v1+(1:X)))))
 else(
 O (-1:X))
def ML(a0:V X3)(a1:X3→W Y):W X:= GG a1 a0 bigN (0:X)
def MI(a0:V X3)(a1:X3→W Y):W Y:= (ML a0 a1).bind fun r1=> O (decide ((0:X)≤r1))
def GF(a1:X7→W Y)(a0:V X7):Z→X→W X
| 0,_=>U
| n+1,v1=>
 if(decide (v1<(a0.length:X))) then(
 (ix a0 v1).bind fun x3=>
 (a1 x3).bind fun r4=>
 if r4 then(
  O v1)
 else(
  GF a1 a0 n (zM .i64 (v1+(1:X)))))
 else(
 O (-1:X))
def MK(a0:V X7)(a1:X7→W Y):W X:= GF a1 a0 bigN (0:X)
def MH(a0:V X7)(a1:X7→W Y):W Y:= (MK a0 a1).bind fun r1=> O (decide ((0:X)≤r1))
def HS(a0:X7)(c0:X3):W Y:= if(a0.Segment==c0.Segment) then(
 O (decide ((if a0.From<c0.Start then c0.Start else a0.From)<(if c0.End<a0.To then c0.End else a0.To)))) else(
 O E)
def Jw(a0:X3)(a1:V X7):W Y:= (MH a1 (fun z0=>HS z0 a0)).bind fun r1=> O r1
def JJ(a0:X3)(c0:V X7):W Y:= (Jw a0 c0).bind fun r1=> O r1
def G7(a0:X5)(a1:V X7):W Y:= (MI a0.Passages (fun z0=>JJ z0 a1)).bind fun r1=> O r1
def HU(a0:X5)(c0:V X7):W Y:= (G7 a0 c0).bind fun r1=> O r1
def Dm(a0:X9)(a1:Xe)(a2:V X7):W (V X5):= (HR a0 a1).bind fun r1=> if r1 then(
 (FY a0.Chart a2).bind fun r3=>
 if r3 then(
 (D5 a0 a1).bind fun r5=>
 (OG r5 (fun z0=>HU z0 a2)).bind fun r6=>
 O r6)
 else(
 O ([]:V X5))) else(
 O ([]:V X5))
def JZ(a0 a1:X3):W Y:= if(a0.Ship !=a1.Ship) then(
 O E) else(
 if(a0.Segment !=a1.Segment) then(
 O E)
 else(
 if(a0.Toward==a1.Toward) then(
  if(a0.Start !=a1.Start) then(
  O E)
  else(
  if(a0.End !=a1.End) then(
   O E)
  else(
   O F)))
 else(
  O E)))
def Gm(a0 a1:V X3):Z→X→W Y
| 0,_=>U
| n+1,v2=>
 if(decide (v2<(a0.length:X))) then(
 (ix a0 v2).bind fun x4=>
 (ix a1 v2).bind fun x5=>
 (JZ x4 x5).bind fun r6=>
 if r6 then(
  Gm a0 a1 n (zM .i64 (v2+(1:X))))
 else(
  O E))
 else(
 O F)
def K0(a0 a1:V X3):W Y:= if((a0.length:X) !=(a1.length:X)) then(
 O E) else(
 Gm a0 a1 bigN (0:X))
def JW(a0 a1:X5):W Y:= if(a0.Start !=a1.Start) then(
 O E) else(
 if(a0.Arrival !=a1.Arrival) then(
 O E)
 else(
 if(a0.Cost !=a1.Cost) then(
  O E)
 else(
  (K0 a0.Passages a1.Passages).bind fun r4=>
  if r4 then(
  O F)
  else(
  O E))))
def Gk(a0 a1:V X5):Z→X→W Y
| 0,_=>U
| n+1,v2=>
 if(decide (v2<(a0.length:X))) then(
 (ix a0 v2).bind fun x4=>
 (ix a1 v2).bind fun x5=>
 (JW x4 x5).bind fun r6=>
 if r6 then(
  Gk a0 a1 n (zM .i64 (v2+(1:X))))
 else(
  O E))
 else(
 O F)
def EX(a0 a1:V X5):W Y:= if((a0.length:X) !=(a1.length:X)) then(
 O E) else(
 Gk a0 a1 bigN (0:X))
def JX(a0 a1:Xc):W Y:= if(a0.Amp !=a1.Amp) then(
 O E) else(
 if(a0.Period !=a1.Period) then(
 O E)
 else(
 if(a0.Phase !=a1.Phase) then(
  O E)
 else(
  O F)))
def Gl(a0 a1:V Xc):Z→X→W Y
| 0,_=>U
| n+1,v2=>
 if(decide (v2<(a0.length:X))) then(
 (ix a0 v2).bind fun x4=>
 (ix a1 v2).bind fun x5=>
 (JX x4 x5).bind fun r6=>
 if r6 then(
  Gl a0 a1 n (zM .i64 (v2+(1:X))))
 else(
  O E))
 else(
 O F)
def JY(a0 a1:V Xc):W Y:= if((a0.length:X) !=(a1.length:X)) then(
 O E) else(
 Gl a0 a1 bigN (0:X))
def Mv(a0 a1:Xh):W Y:= if(a0.Mean !=a1.Mean) then(
 O E) else(
 (JY a0.Parts a1.Parts).bind fun r2=>
 if r2 then(
 O F)
 else(
 O E))
def K7(a0 a1:Xa):W Y:= if(a0.From !=a1.From) then(
 O E) else(
 if(a0.Low !=a1.Low) then(
 O E)
 else(
 if(a0.High !=a1.High) then(
  O E)
 else(
  O F)))
def Gr(a0 a1:V Xa):Z→X→W Y
| 0,_=>U
| n+1,v2=>
 if(decide (v2<(a0.length:X))) then(
 (ix a0 v2).bind fun x4=>
 (ix a1 v2).bind fun x5=>
 (K7 x4 x5).bind fun r6=>
 if r6 then(
  Gr a0 a1 n (zM .i64 (v2+(1:X))))
 else(
  O E))
 else(
 O F)
def K9(a0 a1:V Xa):W Y:= if((a0.length:X) !=(a1.length:X)) then(
 O E) else(
 Gr a0 a1 bigN (0:X))
def JT(a0 a1:Xb):W Y:= (Mv a0.Tide a1.Tide).bind fun r1=> if r1 then(
 (K9 a0.Surges a1.Surges).bind fun r3=>
 if r3 then(
 O F)
 else(
 O E)) else(
 O E)
def K1(a0 a1:X8):W Y:= if(a0.Name==a1.Name) then(
 if(a0.Wait==a1.Wait) then(
 O F)
 else(
 O E)) else(
 O E)
def Gn(a0 a1:V X8):Z→X→W Y
| 0,_=>U
| n+1,v2=>
 if(decide (v2<(a0.length:X))) then(
 (ix a0 v2).bind fun x4=>
 (ix a1 v2).bind fun x5=>
 (K1 x4 x5).bind fun r6=>
 if r6 then(
  Gn a0 a1 n (zM .i64 (v2+(1:X))))
 else(
  O E))
 else(
 O F)
def K2(a0 a1:V X8):W Y:= if((a0.length:X) !=(a1.length:X)) then(
 O E) else(
 Gn a0 a1 bigN (0:X))
def K3(a0 a1:X1):W Y:= if(a0.A !=a1.A) then(
 O E) else(
 if(a0.B !=a1.B) then(
 O E)
 else(
 if(a0.Depth !=a1.Depth) then(
  O E)
 else(
  if(a0.Minutes !=a1.Minutes) then(
  O E)
  else(
  if(a0.Meet==a1.Meet) then(
   O F)
  else(
   O E)))))
def Gp(a0 a1:V X1):Z→X→W Y
| 0,_=>U
| n+1,v2=>
 if(decide (v2<(a0.length:X))) then(
 (ix a0 v2).bind fun x4=>
 (ix a1 v2).bind fun x5=>
 (K3 x4 x5).bind fun r6=>
 if r6 then(
  Gp a0 a1 n (zM .i64 (v2+(1:X))))
 else(
  O E))
 else(
 O F)
def K4(a0 a1:V X1):W Y:= if((a0.length:X) !=(a1.length:X)) then(
 O E) else(
 Gp a0 a1 bigN (0:X))
def JR(a0 a1:X0):W Y:= (K2 a0.Points a1.Points).bind fun r1=> if r1 then(
 (K4 a0.Segments a1.Segments).bind fun r3=>
 if r3 then(
 O F)
 else(
 O E)) else(
 O E)
def K5(a0 a1:X6):W Y:= if(a0.Name==a1.Name) then(
 if(a0.Length !=a1.Length) then(
 O E)
 else(
 if(a0.Draught !=a1.Draught) then(
  O E)
 else(
  if(a0.Line !=a1.Line) then(
  O E)
  else(
  if(a0.Tugs !=a1.Tugs) then(
   O E)
  else(
   if(a0.Slow==a1.Slow) then(
   O F)
   else(
   O E)))))) else(
 O E)
def Gq(a0 a1:V X6):Z→X→W Y
| 0,_=>U
| n+1,v2=>
 if(decide (v2<(a0.length:X))) then(
 (ix a0 v2).bind fun x4=>
 (ix a1 v2).bind fun x5=>
 (K5 x4 x5).bind fun r6=>
 if r6 then(
  Gq a0 a1 n (zM .i64 (v2+(1:X))))
 else(
  O E))
 else(
 O F)
def K6(a0 a1:V X6):W Y:= if((a0.length:X) !=(a1.length:X)) then(
 O E) else(
 Gq a0 a1 bigN (0:X))
def Mu(a0 a1:Xi):W Y:= if(a0.Gap !=a1.Gap) then(
 O E) else(
 if(a0.NoMeet==a1.NoMeet) then(
 O F)
 else(
 O E))
def Gj(a0 a1:V X):Z→X→W Y
| 0,_=>U
| n+1,v2=>
 if(decide (v2<(a0.length:X))) then(
 (ix a0 v2).bind fun x4=>
 (ix a1 v2).bind fun x5=>
 if(x4 !=x5) then(
  O E)
 else(
  Gj a0 a1 n (zM .i64 (v2+(1:X)))))
 else(
 O F)
def JV(a0 a1:V X):W Y:= if((a0.length:X) !=(a1.length:X)) then(
 O E) else(
 Gj a0 a1 bigN (0:X))
def Ms(a0 a1:Xj):W Y:= if(a0.Tugs !=a1.Tugs) then(
 O E) else(
 if(a0.Pilots !=a1.Pilots) then(
 O E)
 else(
 if(a0.Rest !=a1.Rest) then(
  O E)
 else(
  (JV a0.Moves a1.Moves).bind fun r4=>
  if r4 then(
  O F)
  else(
  O E))))
def JU(a0 a1:X9):W Y:= (JT a0.Forecast a1.Forecast).bind fun r1=> if r1 then(
 (JR a0.Chart a1.Chart).bind fun r3=>
 if r3 then(
 (K6 a0.Fleet a1.Fleet).bind fun r5=>
 if r5 then(
  (Mu a0.Regime a1.Regime).bind fun r7=>
  if r7 then(
  (Ms a0.Crew a1.Crew).bind fun r9=>
  if r9 then(
   O F)
  else(
   O E))
  else(
  O E))
 else(
  O E))
 else(
 O E)) else(
 O E)
def JS(a0 a1:X7):W Y:= if(a0.Segment !=a1.Segment) then(
 O E) else(
 if(a0.From !=a1.From) then(
 O E)
 else(
 if(a0.To !=a1.To) then(
  O E)
 else(
  O F)))
def Gi(a0 a1:V X7):Z→X→W Y
| 0,_=>U
| n+1,v2=>
 if(decide (v2<(a0.length:X))) then(
 (ix a0 v2).bind fun x4=>
 (ix a1 v2).bind fun x5=>
 (JS x4 x5).bind fun r6=>
 if r6 then(
  Gi a0 a1 n (zM .i64 (v2+(1:X))))
 else(
  O E))
 else(
 O F)
def I0(a0 a1:V X7):W Y:= if((a0.length:X) !=(a1.length:X)) then(
 O E) else(
 Gi a0 a1 bigN (0:X))
def DZ:Z→X→X→(V Xc)→W (X × V Xc)
| 0,_,_,_=>U
| n+1,v1,v2,v3=>
 if(decide (v2<(v3.length:X))) then(
 (ix v3 v2).bind fun x5=>
 (ix (v3.set (zB v2) (⟨v1,x5.Period,x5.Phase⟩:Xc)) v2).bind fun x6=>
 (ix ((v3.set (zB v2) (⟨v1,x5.Period,x5.Phase⟩:Xc)).set (zB v2) (⟨x6.Amp,(zM .i64 (v1+(1:X))),x6.Phase⟩:Xc)) v2).bind fun x7=>
 DZ n (zM .i64 ((zM .i64 ((zM .i64 (v1+(1:X)))+(1:X)))+(1:X))) (zM .i64 (v2+(1:X))) (((v3.set (zB v2) (⟨v1,x5.Period,x5.Phase⟩:Xc)).set (zB v2) (⟨x6.Amp,(zM .i64 (v1+(1:X))),x6.Phase⟩:Xc)).set (zB v2) (⟨x7.Amp,x7.Period,(zM .i64 ((zM .i64 (v1+(1:X)))+(1:X)))⟩:Xc)))
 else(
 O (v1,v3))
def I7(a0:V Xc)(a1:X):W (X × V Xc):= DZ bigN a1 (0:X) a0
def Ie(a0:Xh)(a1:X):W (X × V Xc):= (I7 a0.Parts a1).bind fun r1=> O (r1.1,r1.2)
def E4:Z→X→X→(V Xa)→W (X × V Xa)
| 0,_,_,_=>U
| n+1,v1,v2,v3=>
 if(decide (v2<(v3.length:X))) then(
 (ix v3 v2).bind fun x5=>
 (ix (v3.set (zB v2) (⟨v1,x5.Low,x5.High⟩:Xa)) v2).bind fun x6=>
 (ix ((v3.set (zB v2) (⟨v1,x5.Low,x5.High⟩:Xa)).set (zB v2) (⟨x6.From,(zM .i64 (v1+(1:X))),x6.High⟩:Xa)) v2).bind fun x7=>
 E4 n (zM .i64 ((zM .i64 ((zM .i64 (v1+(1:X)))+(1:X)))+(1:X))) (zM .i64 (v2+(1:X))) (((v3.set (zB v2) (⟨v1,x5.Low,x5.High⟩:Xa)).set (zB v2) (⟨x6.From,(zM .i64 (v1+(1:X))),x6.High⟩:Xa)).set (zB v2) (⟨x7.From,x7.Low,(zM .i64 ((zM .i64 (v1+(1:X)))+(1:X)))⟩:Xa)))
 else(
 O (v1,v3))
def Ib(a0:V Xa)(a1:X):W (X × V Xa):= E4 bigN a1 (0:X) a0
def I5(a0:Xb)(a1:X):W (X × V Xc × V Xa):= (Ie a0.Tide a1).bind fun r1=> (Ib a0.Surges r1.1).bind fun r2=> O (r2.1,r1.2,r2.2)
def Gv:Z→X→(V zA)→W (V zA)
| 0,_,_=>U
| n+1,v2,v3=>
 if(decide ((0:X)<v2)) then(
 if DO ([(IntKind.u8.wrap (zM .i64 ((48:X)+(zM .i64 (zF v2 (10:X))))))]:V X).length v3.length then(
  Gv n (zM .i64 (zE v2 (10:X))) ((zD Vp ([(IntKind.u8.wrap (zM .i64 ((48:X)+(zM .i64 (zF v2 (10:X))))))]:V X))++v3))
 else U)
 else(
 if DO ([109]:V zA).length v3.length then(
  O (([109]:V zA)++v3))
 else U)
def Ic(a0:X):W (V zA):= if(decide (a0≤(0:X))) then(
 O ([109,48]:V zA)) else(
 Gv bigN a0 ([]:V zA))
def E1:Z→X→X→(V X8)→W (X × V X8)
| 0,_,_,_=>U
| n+1,v1,v2,v3=>
 if(decide (v2<(v3.length:X))) then(
 (Ic v1).bind fun r5=>
 (ix v3 v2).bind fun x6=>
 (ix (v3.set (zB v2) (⟨r5,x6.Wait⟩:X8)) v2).bind fun x7=>
 E1 n (zM .i64 ((zM .i64 (v1+(1:X)))+(1:X))) (zM .i64 (v2+(1:X))) ((v3.set (zB v2) (⟨r5,x6.Wait⟩:X8)).set (zB v2) (⟨x7.Name,((zM .i64 (zF (zM .i64 (v1+(1:X))) (3:X)))==(0:X))⟩:X8)))
 else(
 O (v1,v3))
def I8(a0:V X8)(a1:X):W (X × V X8):= E1 bigN a1 (0:X) a0
def E2:Z→X→X→(V X1)→W (X × V X1)
| 0,_,_,_=>U
| n+1,v1,v2,v3=>
 if(decide (v2<(v3.length:X))) then(
 (ix v3 v2).bind fun x5=>
 (ix (v3.set (zB v2) (⟨v1,x5.B,x5.Depth,x5.Minutes,x5.Meet⟩:X1)) v2).bind fun x6=>
 (ix ((v3.set (zB v2) (⟨v1,x5.B,x5.Depth,x5.Minutes,x5.Meet⟩:X1)).set (zB v2) (⟨x6.A,(zM .i64 (v1+(1:X))),x6.Depth,x6.Minutes,x6.Meet⟩:X1)) v2).bind fun x7=>
 (ix (((v3.set (zB v2) (⟨v1,x5.B,x5.Depth,x5.Minutes,x5.Meet⟩:X1)).set (zB v2) (⟨x6.A,(zM .i64 (v1+(1:X))),x6.Depth,x6.Minutes,x6.Meet⟩:X1)).set (zB v2) (⟨x7.A,x7.B,(zM .i64 ((zM .i64 (v1+(1:X)))+(1:X))),x7.Minutes,x7.Meet⟩:X1)) v2).bind fun x8=>
 (ix ((((v3.set (zB v2) (⟨v1,x5.B,x5.Depth,x5.Minutes,x5.Meet⟩:X1)).set (zB v2) (⟨x6.A,(zM .i64 (v1+(1:X))),x6.Depth,x6.Minutes,x6.Meet⟩:X1)).set (zB v2) (⟨x7.A,x7.B,(zM .i64 ((zM .i64 (v1+(1:X)))+(1:X))),x7.Minutes,x7.Meet⟩:X1)).set (zB v2) (⟨x8.A,x8.B,x8.Depth,(zM .i64 ((zM .i64 ((zM .i64 (v1+(1:X)))+(1:X)))+(1:X))),x8.Meet⟩:X1)) v2).bind fun x9=>
 E2 n (zM .i64 ((zM .i64 ((zM .i64 ((zM .i64 ((zM .i64 (v1+(1:X)))+(1:X)))+(1:X)))+(1:X)))+(1:X))) (zM .i64 (v2+(1:X))) (((((v3.set (zB v2) (⟨v1,x5.B,x5.Depth,x5.Minutes,x5.Meet⟩:X1)).set (zB v2) (⟨x6.A,(zM .i64 (v1+(1:X))),x6.Depth,x6.Minutes,x6.Meet⟩:X1)).set (zB v2) (⟨x7.A,x7.B,(zM .i64 ((zM .i64 (v1+(1:X)))+(1:X))),x7.Minutes,x7.Meet⟩:X1)).set (zB v2) (⟨x8.A,x8.B,x8.Depth,(zM .i64 ((zM .i64 ((zM .i64 (v1+(1:X)))+(1:X)))+(1:X))),x8.Meet⟩:X1)).set (zB v2) (⟨x9.A,x9.B,x9.Depth,x9.Minutes,((zM .i64 (zF (zM .i64 ((zM .i64 ((zM .i64 ((zM .i64 (v1+(1:X)))+(1:X)))+(1:X)))+(1:X))) (3:X)))==(0:X))⟩:X1)))
 else(
 O (v1,v3))
def I9(a0:V X1)(a1:X):W (X × V X1):= E2 bigN a1 (0:X) a0
def I2(a0:X0)(a1:X):W (X × V X8 × V X1):= (I8 a0.Points a1).bind fun r1=> (I9 a0.Segments r1.1).bind fun r2=> O (r2.1,r1.2,r2.2)
def E3:Z→X→X→(V X6)→W (X × V X6)
| 0,_,_,_=>U
| n+1,v1,v2,v3=>
 if(decide (v2<(v3.length:X))) then(
 (Ic v1).bind fun r5=>
 (ix v3 v2).bind fun x6=>
 (ix (v3.set (zB v2) (⟨r5,x6.Length,x6.Draught,x6.Line,x6.Tugs,x6.Slow⟩:X6)) v2).bind fun x7=>
 (ix ((v3.set (zB v2) (⟨r5,x6.Length,x6.Draught,x6.Line,x6.Tugs,x6.Slow⟩:X6)).set (zB v2) (⟨x7.Name,(zM .i64 (v1+(1:X))),x7.Draught,x7.Line,x7.Tugs,x7.Slow⟩:X6)) v2).bind fun x8=>
 (ix (((v3.set (zB v2) (⟨r5,x6.Length,x6.Draught,x6.Line,x6.Tugs,x6.Slow⟩:X6)).set (zB v2) (⟨x7.Name,(zM .i64 (v1+(1:X))),x7.Draught,x7.Line,x7.Tugs,x7.Slow⟩:X6)).set (zB v2) (⟨x8.Name,x8.Length,(zM .i64 ((zM .i64 (v1+(1:X)))+(1:X))),x8.Line,x8.Tugs,x8.Slow⟩:X6)) v2).bind fun x9=>
 (ix ((((v3.set (zB v2) (⟨r5,x6.Length,x6.Draught,x6.Line,x6.Tugs,x6.Slow⟩:X6)).set (zB v2) (⟨x7.Name,(zM .i64 (v1+(1:X))),x7.Draught,x7.Line,x7.Tugs,x7.Slow⟩:X6)).set (zB v2) (⟨x8.Name,x8.Length,(zM .i64 ((zM .i64 (v1+(1:X)))+(1:X))),x8.Line,x8.Tugs,x8.Slow⟩:X6)).set (zB v2) (⟨x9.Name,x9.Length,x9.Draught,(zM .i64 ((zM .i64 ((zM .i64 (v1+(1:X)))+(1:X)))+(1:X))),x9.Tugs,x9.Slow⟩:X6)) v2).bind fun x10=>
 (ix (((((v3.set (zB v2) (⟨r5,x6.Length,x6.Draught,x6.Line,x6.Tugs,x6.Slow⟩:X6)).set (zB v2) (⟨x7.Name,(zM .i64 (v1+(1:X))),x7.Draught,x7.Line,x7.Tugs,x7.Slow⟩:X6)).set (zB v2) (⟨x8.Name,x8.Length,(zM .i64 ((zM .i64 (v1+(1:X)))+(1:X))),x8.Line,x8.Tugs,x8.Slow⟩:X6)).set (zB v2) (⟨x9.Name,x9.Length,x9.Draught,(zM .i64 ((zM .i64 ((zM .i64 (v1+(1:X)))+(1:X)))+(1:X))),x9.Tugs,x9.Slow⟩:X6)).set (zB v2) (⟨x10.Name,x10.Length,x10.Draught,x10.Line,(zM .i64 ((zM .i64 ((zM .i64 ((zM .i64 (v1+(1:X)))+(1:X)))+(1:X)))+(1:X))),x10.Slow⟩:X6)) v2).bind fun x11=>
 E3 n (zM .i64 ((zM .i64 ((zM .i64 ((zM .i64 ((zM .i64 ((zM .i64 (v1+(1:X)))+(1:X)))+(1:X)))+(1:X)))+(1:X)))+(1:X))) (zM .i64 (v2+(1:X))) ((((((v3.set (zB v2) (⟨r5,x6.Length,x6.Draught,x6.Line,x6.Tugs,x6.Slow⟩:X6)).set (zB v2) (⟨x7.Name,(zM .i64 (v1+(1:X))),x7.Draught,x7.Line,x7.Tugs,x7.Slow⟩:X6)).set (zB v2) (⟨x8.Name,x8.Length,(zM .i64 ((zM .i64 (v1+(1:X)))+(1:X))),x8.Line,x8.Tugs,x8.Slow⟩:X6)).set (zB v2) (⟨x9.Name,x9.Length,x9.Draught,(zM .i64 ((zM .i64 ((zM .i64 (v1+(1:X)))+(1:X)))+(1:X))),x9.Tugs,x9.Slow⟩:X6)).set (zB v2) (⟨x10.Name,x10.Length,x10.Draught,x10.Line,(zM .i64 ((zM .i64 ((zM .i64 ((zM .i64 (v1+(1:X)))+(1:X)))+(1:X)))+(1:X))),x10.Slow⟩:X6)).set (zB v2) (⟨x11.Name,x11.Length,x11.Draught,x11.Line,x11.Tugs,((zM .i64 (zF (zM .i64 ((zM .i64 ((zM .i64 ((zM .i64 ((zM .i64 (v1+(1:X)))+(1:X)))+(1:X)))+(1:X)))+(1:X))) (3:X)))==(0:X))⟩:X6)))
 else(
 O (v1,v3))
def Ia(a0:V X6)(a1:X):W (X × V X6):= E3 bigN a1 (0:X) a0
def DX:Z→X→X→(V X)→W (X × V X)
| 0,_,_,_=>U
| n+1,v1,v2,v3=>
 if(decide (v2<(v3.length:X))) then(
 (ix v3 v2).bind fun x5=>
 DX n (zM .i64 (v1+(1:X))) (zM .i64 (v2+(1:X))) (v3.set (zB v2) v1))
 else(
 O (v1,v3))
def I6(a0:V X)(a1:X):W (X × V X):= DX bigN a1 (0:X) a0
def I4(a0:Xj)(a1:X):W (X × V X):= (I6 a0.Moves a1).bind fun r1=> O (r1.1,r1.2)
def Gu(a0:X9)(a1:X):W (X × V Xc × V Xa × V X8 × V X1 × V X6 × V X):= (I5 a0.Forecast a1).bind fun r1=> (I2 a0.Chart r1.1).bind fun r2=> (Ia a0.Fleet r2.1).bind fun r3=> (I4 a0.Crew r3.1).bind fun r4=> O (r4.1,r1.2.1,r1.2.2,r2.2.1,r2.2.2,r3.2,r4.2)
def DW:Z→X→X→(V X7)→W (X × V X7)
| 0,_,_,_=>U
| n+1,v1,v2,v3=>
 if(decide (v2<(v3.length:X))) then(
 (ix v3 v2).bind fun x5=>
 (ix (v3.set (zB v2) (⟨v1,x5.From,x5.To⟩:X7)) v2).bind fun x6=>
 (ix ((v3.set (zB v2) (⟨v1,x5.From,x5.To⟩:X7)).set (zB v2) (⟨x6.Segment,(zM .i64 (v1+(1:X))),x6.To⟩:X7)) v2).bind fun x7=>
 DW n (zM .i64 ((zM .i64 ((zM .i64 (v1+(1:X)))+(1:X)))+(1:X))) (zM .i64 (v2+(1:X))) (((v3.set (zB v2) (⟨v1,x5.From,x5.To⟩:X7)).set (zB v2) (⟨x6.Segment,(zM .i64 (v1+(1:X))),x6.To⟩:X7)).set (zB v2) (⟨x7.Segment,x7.From,(zM .i64 ((zM .i64 (v1+(1:X)))+(1:X)))⟩:X7)))
 else(
 O (v1,v3))
def I3(a0:V X7)(a1:X):W (X × V X7):= DW bigN a1 (0:X) a0
def E0:Z→X→X→(V X3)→W (X × V X3)
| 0,_,_,_=>U
| n+1,v1,v2,v3=>
 if(decide (v2<(v3.length:X))) then(
 (ix v3 v2).bind fun x5=>
 (ix (v3.set (zB v2) (⟨v1,x5.Segment,x5.Toward,x5.Start,x5.End⟩:X3)) v2).bind fun x6=>
 (ix ((v3.set (zB v2) (⟨v1,x5.Segment,x5.Toward,x5.Start,x5.End⟩:X3)).set (zB v2) (⟨x6.Ship,(zM .i64 (v1+(1:X))),x6.Toward,x6.Start,x6.End⟩:X3)) v2).bind fun x7=>
 (ix (((v3.set (zB v2) (⟨v1,x5.Segment,x5.Toward,x5.Start,x5.End⟩:X3)).set (zB v2) (⟨x6.Ship,(zM .i64 (v1+(1:X))),x6.Toward,x6.Start,x6.End⟩:X3)).set (zB v2) (⟨x7.Ship,x7.Segment,((zM .i64 (zF (zM .i64 ((zM .i64 (v1+(1:X)))+(1:X))) (3:X)))==(0:X)),x7.Start,x7.End⟩:X3)) v2).bind fun x8=>
 (ix ((((v3.set (zB v2) (⟨v1,x5.Segment,x5.Toward,x5.Start,x5.End⟩:X3)).set (zB v2) (⟨x6.Ship,(zM .i64 (v1+(1:X))),x6.Toward,x6.Start,x6.End⟩:X3)).set (zB v2) (⟨x7.Ship,x7.Segment,((zM .i64 (zF (zM .i64 ((zM .i64 (v1+(1:X)))+(1:X))) (3:X)))==(0:X)),x7.Start,x7.End⟩:X3)).set (zB v2) (⟨x8.Ship,x8.Segment,x8.Toward,(zM .i64 ((zM .i64 ((zM .i64 (v1+(1:X)))+(1:X)))+(1:X))),x8.End⟩:X3)) v2).bind fun x9=>
 E0 n (zM .i64 ((zM .i64 ((zM .i64 ((zM .i64 ((zM .i64 (v1+(1:X)))+(1:X)))+(1:X)))+(1:X)))+(1:X))) (zM .i64 (v2+(1:X))) (((((v3.set (zB v2) (⟨v1,x5.Segment,x5.Toward,x5.Start,x5.End⟩:X3)).set (zB v2) (⟨x6.Ship,(zM .i64 (v1+(1:X))),x6.Toward,x6.Start,x6.End⟩:X3)).set (zB v2) (⟨x7.Ship,x7.Segment,((zM .i64 (zF (zM .i64 ((zM .i64 (v1+(1:X)))+(1:X))) (3:X)))==(0:X)),x7.Start,x7.End⟩:X3)).set (zB v2) (⟨x8.Ship,x8.Segment,x8.Toward,(zM .i64 ((zM .i64 ((zM .i64 (v1+(1:X)))+(1:X)))+(1:X))),x8.End⟩:X3)).set (zB v2) (⟨x9.Ship,x9.Segment,x9.Toward,x9.Start,(zM .i64 ((zM .i64 ((zM .i64 ((zM .i64 (v1+(1:X)))+(1:X)))+(1:X)))+(1:X)))⟩:X3)))
 else(
 O (v1,v3))
def EY(a0:V X3)(a1:X):W (X × V X3):= E0 bigN a1 (0:X) a0
def Gt(a0:V X3):Z→X→X→W X
| 0,_,_=>U
| n+1,v1,v2=>
 if(decide (v2<(a0.length:X))) then(
 (ix a0 v2).bind fun x4=>
 if(x4.Ship !=v1) then(
  O (-1:X))
 else(
  if(x4.Segment !=(zM .i64 (v1+(1:X)))) then(
  O (-1:X))
  else(
  if(x4.Toward==((zM .i64 (zF (zM .i64 ((zM .i64 (v1+(1:X)))+(1:X))) (3:X)))==(0:X))) then(
   if(x4.Start !=(zM .i64 ((zM .i64 ((zM .i64 (v1+(1:X)))+(1:X)))+(1:X)))) then(
   O (-1:X))
   else(
   if(x4.End !=(zM .i64 ((zM .i64 ((zM .i64 ((zM .i64 (v1+(1:X)))+(1:X)))+(1:X)))+(1:X)))) then(
    O (-1:X))
   else(
    Gt a0 n (zM .i64 ((zM .i64 ((zM .i64 ((zM .i64 ((zM .i64 (v1+(1:X)))+(1:X)))+(1:X)))+(1:X)))+(1:X))) (zM .i64 (v2+(1:X))))))
  else(
   O (-1:X)))))
 else(
 O v1)
def Ka(a0:V X3)(a1:X):W X:= Gt a0 bigN a1 (0:X)
def Gs(a0:V X5):Z→X→X→W X
| 0,_,_=>U
| n+1,v1,v2=>
 if(decide (v2<(a0.length:X))) then(
 (ix a0 v2).bind fun x4=>
 if(x4.Start !=v1) then(
  O (-1:X))
 else(
  if(x4.Arrival !=(zM .i64 (v1+(1:X)))) then(
  O (-1:X))
  else(
  if(x4.Cost !=(zM .i64 ((zM .i64 (v1+(1:X)))+(1:X)))) then(
   O (-1:X))
  else(
   (Ka x4.Passages (zM .i64 ((zM .i64 ((zM .i64 (v1+(1:X)))+(1:X)))+(1:X)))).bind fun r9=>
   if(decide (r9<(0:X))) then(
   O (-1:X))
   else(
   Gs a0 n r9 (zM .i64 (v2+(1:X))))))))
 else(
 O v1)
def I1(a0:V X5)(a1:X):W X:= Gs a0 bigN a1 (0:X)
class Ct (f:Z) (T:outParam Prop):Prop where
 c:T
theorem Ag{f:Z}{T:Prop}(I:Ct f T):T:=I.c
section
variable {P : Program} {k : V Fr} {Q : Xg → St → Prop} {σ : St} {its : V AItem} {d f : Z} {args : V Opd} {xs : V DV} {rs : V R1} {T : Prop} [I : Ct f T]
theorem ZD(hf:T→FC P f xs rs)(h:go P (.ops its::k) Q .normal (O (σ.inst d rs)))(h1:σ.toIVs args=O xs:=by exact rfl)(h3:σ.fresh d=F:=by first | exact rfl | (simp only[St.fresh,zK,zL,Ak]; simp[AV.cells,V1.cells,AC.uses]))(h4:Nat.ble (rs.flatMap R1.cells).length 64=F:=by exact rfl) :
  go P (.ops ((U,.call d f args)::its)::k) Q .normal (O σ):=B4 (hf I.c) h h1 h3 h4
theorem ba{N:V Z}{ds:V AO}(hf:T→FC P f xs rs)(h:go P (.dops ds::k) Q .normal (O (σ.inst d rs)))(h1:(σ.less N).toIVs args=O xs:=by exact rfl)(h3:σ.fresh d=F:=by first | exact rfl | (simp only[St.fresh,zK,zL,Ak]; simp[AV.cells,V1.cells,AC.uses]))(h4:Nat.ble (rs.flatMap R1.cells).length 64=F:=by exact rfl) :
  go P (.dops ((O N,U,.call d f args)::ds)::k) Q .normal (O σ):=D4 (hf I.c) h h1 h3 h4
theorem ZE(hf:T→FC P f xs rs)(h:go P (.ops its::k) Q .normal (O (σ.inst d rs)))(h1:σ.toDVs args=O xs:=by exact rfl)(h2:C7 rs:=by first | exact Bg rfl | exact BL rfl ⟨AM,⟨⟩⟩ | exact BL rfl ⟨AM,rfl,⟨⟩⟩ | exact BL rfl ⟨AM,rfl,rfl,⟨⟩⟩ | exact BL rfl ⟨rfl,rfl,rfl,AM,rfl,⟨⟩⟩)(h3:σ.fresh d=F:=by first | exact rfl | (simp only[St.fresh,zK,zL,Ak]; simp[AV.cells,V1.cells,AC.uses]))(h4:Nat.ble (rs.flatMap R1.cells).length 64=F:=by exact rfl) :
  go P (.ops ((U,.call d f args)::its)::k) Q .normal (O σ):=Bm (hf I.c) h1 h2 h3 (zC h4) h
theorem bc{N:V Z}{ds:V AO}(hf:T→FC P f xs rs)(h:go P (.dops ds::k) Q .normal (O (σ.inst d rs)))(h1:(σ.less N).toDVs args=O xs:=by exact rfl)(h2:C7 rs:=by first | exact Bg rfl | exact BL rfl ⟨AM,⟨⟩⟩ | exact BL rfl ⟨AM,rfl,⟨⟩⟩)(h3:σ.fresh d=F:=by first | exact rfl | (simp only[St.fresh,zK,zL,Ak]; simp[AV.cells,V1.cells,AC.uses]))(h4:Nat.ble (rs.flatMap R1.cells).length 64=F:=by exact rfl) :
  go P (.dops ((O N,U,.call d f args)::ds)::k) Q .normal (O σ):=Iu (hf I.c) h1 h2 h3 (zC h4) h
end
theorem Bk(es:V (V D)){P:Program}{k:V Fr}{Q:Xg→St→Prop}{σ:St}{its:V AItem}{d sz:Z}{zs:V D}{len:Z}{ps:V (Z × Opd)}(H:go P (.ops its::k) Q .normal (O {(σ.set d (.v (.sc (.own (d*64))))) with rows:=put σ.rows (d*64) (sz,es) }))(hm:σ.made (.bslice d sz zs len ps)=O (.row d sz es):=by exact rfl)(hf:σ.fresh d=F:=by first | exact rfl | (simp only[St.fresh,zK,zL,Ak]; simp[AV.cells,V1.cells,AC.uses])) :
  go P (.ops ((U,.bslice d sz zs len ps)::its)::k) Q .normal (O σ):=As hm hf H
theorem Fq{α:Type}(row:α→V D)(z:α){P:Program}{k:V Fr}{Q:Xg→St→Prop}{σ:St}{its:V AItem}{d:Z}{L C:Opd}{l c:X}{bytes n sz:Z}{zs:V D}(hb:Ck l c bytes=O n)
  (H:go P (.ops its::k) Q .normal (O {(σ.set d (.v (.sc (.own (d*64))))) with rows:=put σ.rows (d*64) (sz,zD row (zH n z)) })) (hl:BD (σ.val L)=O l:=by exact rfl) (hc:BD (σ.val C)=O c:=by exact rfl) (hz:zs.length=sz:=by exact rfl) (he:row z=zs:=by exact rfl) (hf:σ.fresh d=F:=by exact rfl):go P (.ops ((U,.mksl d sz bytes zs L C)::its)::k) Q .normal (O σ):=gA hl hc hb hz (nK he) hf H
theorem Ex{α:Type}(row:α→V D)(y:α){P:Program}{k:V Fr}{Q:Xg→St→Prop}{env bx rows}{id sz off n:Z}{i:X}{xs:V α}{x:α}{yv:V1}{dd:V D}(hx:ix xs i=O x)(H:go P k Q .normal (O ⟨env,bx,put rows id (sz,zD row (xs.set i.toNat y))⟩))(hd:yv.toDs=O dd:=by exact rfl)(hf:A1 rows id=O (sz,zD row xs):=by exact rfl)
  (hn:dd.length=n:=by exact rfl) (ho:Nat.ble (off+n) (row x).length=F:=by exact rfl) (hy:Ew (row x) off dd=row y:=by exact rfl) :
  go P k Q .normal (St.storeV ⟨env,bx,rows⟩ n (.v (.sc (.pe id i.toNat off))) (.v yv)):=B1 hd hf (Ay hx) hn ho hy H
theorem gc{G:Prop}(k:G:=by
 first | intro S hS | intro hS
 conv at hS=>rhs; reduce
 try simp only[Int.reduceOfNat,Int.reduceNegSucc,Q4,UInt8.reduceOfNat] at hS
 subst hS;first | refine AR (AJ ?_) | refine AJ ?_ | skip
 repeat' (first | refine Bd ?_ | refine BS ?_ | refine Ap ?_ | refine Ed ?_ | (obtain⟨_,hc,h⟩:=ob h; first | refine ZD (by intro k; apply k; exact hc) ?_ | refine ba (by intro k; apply k; exact hc) ?_ | refine ZE (by intro k; apply k; exact hc) ?_ | refine bc (by intro k; apply k; exact hc) ?_ | refine s0 hc ?_ | refine s1 hc ?_) | simp only[*,Nat.reduceBEq,Nat.reduceMul,Nat.reduceAdd,Nat.reduceDiv,Int.reduceBEq,J] | (first | refine s0 ?_ | refine s0 _ ?_ | refine s0 ‹_› ?_ | refine s0 _ ‹_› ?_ | refine s0 _ _ ‹_› ?_ | refine s1 ?_ | refine s1 _ ?_ | refine s1 ‹_› ?_ | refine s1 _ ‹_› ?_ | refine s1 _ _ ‹_› ?_ | refine s2 ?_ | refine s2 _ ?_ | refine s2 ‹_› ?_ | refine s2 _ ‹_› ?_ | refine s2 _ _ ‹_› ?_ | refine s3 ?_ | refine s3 _ ?_ | refine s3 ‹_› ?_ | refine s3 _ ‹_› ?_ | refine s3 _ _ ‹_› ?_) | ((first | show go _ (.code (.loop _)::_) _ _ _ | show go _ (.code (H7 _)::_) _ _ _); (first | refine ih h ?_ (by kernel_rfl) | refine k0 h ?_ (by kernel_rfl) | refine k0 ‹_› h ?_ (by kernel_rfl) | refine k0 ‹_› ‹_› h ?_ (by kernel_rfl) | refine k0 ‹_› ‹_› ‹_› h ?_ (by kernel_rfl) | refine k1 h ?_ (by kernel_rfl) | refine k1 ‹_› h ?_ (by kernel_rfl) | refine k1 ‹_› ‹_› h ?_ (by kernel_rfl) | refine k1 ‹_› ‹_› ‹_› h ?_ (by kernel_rfl) | refine k2 h ?_ (by kernel_rfl) | refine k2 ‹_› h ?_ (by kernel_rfl) | refine k2 ‹_› ‹_› h ?_ (by kernel_rfl) | refine k2 ‹_› ‹_› ‹_› h ?_ (by kernel_rfl) | refine k3 h ?_ (by kernel_rfl) | refine k3 ‹_› h ?_ (by kernel_rfl) | refine k3 ‹_› ‹_› h ?_ (by kernel_rfl) | refine k3 ‹_› ‹_› ‹_› h ?_ (by kernel_rfl)))<;>try simp only[*,Nat.reduceBEq,Nat.reduceMul,Nat.reduceAdd,Nat.reduceDiv,Int.reduceBEq,J,pL,aM,List.map_nil] | (obtain⟨_,_,h⟩:=ob h) | (obtain⟨_,h⟩:=Bv h) | (obtain⟨_,h⟩:=ly h) | (obtain⟨_,h⟩ | ⟨_,h⟩:=ic h) | (cases h; first | exact t0 | trivial | (repeat' constructor; done)))
 done):G:=k
end Go.Vi
