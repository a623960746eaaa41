/-
Plain definitions of functions. No condition.
-/
import Derived.Test.YtmlmdigeblhaiaaGreatPVi49
namespace Go.Vi
set_option linter.all false
open Int renaming toNat → zB, tdiv → zE, tmod → zH
open List renaming map → zC, replicate → zF, not_mem_nil → zI, mem_cons → zJ
open Nat renaming le_of_ble_eq_true → zD
open And renaming intro → zG
open IntKind renaming wrap → zK
open Bool renaming true → F, false → E
open Option renaming some → O, none → V
open _root_ renaming List → W, Option → X, Int → Y, Bool → Z, Nat → J, UInt8 → zA
def CH(k:IntKind)(x:Y)(n:J):Y:=k.wrap (x.fdiv (2 ^ min n k.bits))
def oA{k:IntKind}{x:Y}:CM .shr (.v (.sc (.dat (.int k x)))) (.v (.sc (.dat (.int .u64 8))))=O (.v (.sc (.dat (.int k (CH k x 8))))):=by simp[CM,AX,CH]
def xp{k:IntKind}{x:Y}:AX .shr k x 8=O (.int k (CH k x 8)):=by simp[AX,CH]
def nx{k:IntKind}{x:Y}:CM .shr (.v (.sc (.dat (.int k x)))) (.v (.sc (.dat (.int .u64 16))))=O (.v (.sc (.dat (.int k (CH k x 16))))):=by simp[CM,AX,CH]
def xn{k:IntKind}{x:Y}:AX .shr k x 16=O (.int k (CH k x 16)):=by simp[AX,CH]
def ny{k:IntKind}{x:Y}:CM .shr (.v (.sc (.dat (.int k x)))) (.v (.sc (.dat (.int .u64 32))))=O (.v (.sc (.dat (.int k (CH k x 32))))):=by simp[CM,AX,CH]
def xo{k:IntKind}{x:Y}:AX .shr k x 32=O (.int k (CH k x 32)):=by simp[AX,CH]
structure Xc where
 Amp:Y
 Period:Y
 Phase:Y
 deriving DecidableEq
def Xc.row(x:Xc):W D:= [.int .i64 x.Amp,.int .i64 x.Period,.int .i64 x.Phase]
def Xc.row_eq(x:Xc):Xc.row x= [.int .i64 x.Amp,.int .i64 x.Period,.int .i64 x.Phase]:=rfl
instance:Row Xc.row 3:=⟨fun _=>rfl,zD rfl⟩
instance:FlatRow Xc.row:=⟨fun x d hd=>by simp only[Xc.row_eq,zJ,zI,or_false] at hd; rcases hd with rfl | rfl | rfl<;>rfl⟩
instance:OfTy (.st [(.int .i64),(.int .i64),(.int .i64)]) Xc.row:=⟨fun ds h=>by
 obtain⟨a0,b0,h0,t0,rfl⟩:=h;obtain⟨a1,b1,h1,t1,rfl⟩:=t0;obtain⟨a2,b2,h2,t2,rfl⟩:=t1;obtain rfl:=t2;obtain⟨x0,rfl⟩:=OfTy.of (row:=rI) _ h0;obtain⟨x1,rfl⟩:=OfTy.of (row:=rI) _ h1;obtain⟨x2,rfl⟩:=OfTy.of (row:=rI) _ h2;exact⟨⟨x0,x1,x2⟩,rfl⟩⟩
structure Xm where
 Mean:Y
 Parts:W Xc
 deriving DecidableEq
def Xm.row(x:Xm):W D:= [.int .i64 x.Mean,.sl (zC Xc.row x.Parts)]
def Xm.row_eq(x:Xm):Xm.row x= [.int .i64 x.Mean,.sl (zC Xc.row x.Parts)]:=rfl
instance:Row Xm.row 2:=⟨fun _=>rfl,zD rfl⟩
instance:OfTy (.st [(.int .i64),(.sl (.st [(.int .i64),(.int .i64),(.int .i64)]))]) Xm.row:=⟨fun ds h=>by
 obtain⟨a0,b0,h0,t0,rfl⟩:=h;obtain⟨a1,b1,h1,t1,rfl⟩:=t0;obtain rfl:=t1;obtain⟨x0,rfl⟩:=OfTy.of (row:=rI) _ h0;obtain⟨x1,rfl⟩:=OfTy.of (row:=(rL Xc.row)) _ h1;exact⟨⟨x0,x1⟩,rfl⟩⟩
structure X9 where
 From:Y
 Low:Y
 High:Y
 deriving DecidableEq
def X9.row(x:X9):W D:= [.int .i64 x.From,.int .i64 x.Low,.int .i64 x.High]
def X9.row_eq(x:X9):X9.row x= [.int .i64 x.From,.int .i64 x.Low,.int .i64 x.High]:=rfl
instance:Row X9.row 3:=⟨fun _=>rfl,zD rfl⟩
instance:FlatRow X9.row:=⟨fun x d hd=>by simp only[X9.row_eq,zJ,zI,or_false] at hd; rcases hd with rfl | rfl | rfl<;>rfl⟩
instance:OfTy (.st [(.int .i64),(.int .i64),(.int .i64)]) X9.row:=⟨fun ds h=>by
 obtain⟨a0,b0,h0,t0,rfl⟩:=h;obtain⟨a1,b1,h1,t1,rfl⟩:=t0;obtain⟨a2,b2,h2,t2,rfl⟩:=t1;obtain rfl:=t2;obtain⟨x0,rfl⟩:=OfTy.of (row:=rI) _ h0;obtain⟨x1,rfl⟩:=OfTy.of (row:=rI) _ h1;obtain⟨x2,rfl⟩:=OfTy.of (row:=rI) _ h2;exact⟨⟨x0,x1,x2⟩,rfl⟩⟩
structure Xd where
 Tide:Xm
 Surges:W X9
 deriving DecidableEq
def Xd.row(x:Xd):W D:= [.int .i64 x.Tide.Mean,.sl (zC Xc.row x.Tide.Parts),.sl (zC X9.row x.Surges)]
def Xd.row_eq(x:Xd):Xd.row x= [.int .i64 x.Tide.Mean,.sl (zC Xc.row x.Tide.Parts),.sl (zC X9.row x.Surges)]:=rfl
instance:Row Xd.row 3:=⟨fun _=>rfl,zD rfl⟩
instance:OfTy (.st [(.st [(.int .i64),(.sl (.st [(.int .i64),(.int .i64),(.int .i64)]))]),(.sl (.st [(.int .i64),(.int .i64),(.int .i64)]))]) Xd.row:=⟨fun ds h=>by
 obtain⟨a0,b0,h0,t0,rfl⟩:=h;obtain⟨a1,b1,h1,t1,rfl⟩:=t0;obtain rfl:=t1;obtain⟨x0,rfl⟩:=OfTy.of (row:=Xm.row) _ h0;obtain⟨x1,rfl⟩:=OfTy.of (row:=(rL X9.row)) _ h1;exact⟨⟨x0,x1⟩,rfl⟩⟩
structure X7 where
 Name:W zA
 Wait:Z
 deriving DecidableEq
def X7.row(x:X7):W D:= [.str x.Name,.bool x.Wait]
def X7.row_eq(x:X7):X7.row x= [.str x.Name,.bool x.Wait]:=rfl
instance:Row X7.row 2:=⟨fun _=>rfl,zD rfl⟩
instance:FlatRow X7.row:=⟨fun x d hd=>by simp only[X7.row_eq,zJ,zI,or_false] at hd; rcases hd with rfl | rfl<;>rfl⟩
instance:OfTy (.st [.str,.bool]) X7.row:=⟨fun ds h=>by
 obtain⟨a0,b0,h0,t0,rfl⟩:=h;obtain⟨a1,b1,h1,t1,rfl⟩:=t0;obtain rfl:=t1;obtain⟨x0,rfl⟩:=OfTy.of (row:=rS) _ h0;obtain⟨x1,rfl⟩:=OfTy.of (row:=rB) _ h1;exact⟨⟨x0,x1⟩,rfl⟩⟩
structure X2 where
 A:Y
 B:Y
 Depth:Y
 Minutes:Y
 Meet:Z
 deriving DecidableEq
def X2.row(x:X2):W D:= [.int .i64 x.A,.int .i64 x.B,.int .i64 x.Depth,.int .i64 x.Minutes,.bool x.Meet]
def X2.row_eq(x:X2):X2.row x= [.int .i64 x.A,.int .i64 x.B,.int .i64 x.Depth,.int .i64 x.Minutes,.bool x.Meet]:=rfl
instance:Row X2.row 5:=⟨fun _=>rfl,zD rfl⟩
instance:FlatRow X2.row:=⟨fun x d hd=>by simp only[X2.row_eq,zJ,zI,or_false] at hd; rcases hd with rfl | rfl | rfl | rfl | rfl<;>rfl⟩
instance:OfTy (.st [(.int .i64),(.int .i64),(.int .i64),(.int .i64),.bool]) X2.row:=⟨fun ds h=>by
 obtain⟨a0,b0,h0,t0,rfl⟩:=h;obtain⟨a1,b1,h1,t1,rfl⟩:=t0;obtain⟨a2,b2,h2,t2,rfl⟩:=t1;obtain⟨a3,b3,h3,t3,rfl⟩:=t2;obtain⟨a4,b4,h4,t4,rfl⟩:=t3;obtain rfl:=t4;obtain⟨x0,rfl⟩:=OfTy.of (row:=rI) _ h0;obtain⟨x1,rfl⟩:=OfTy.of (row:=rI) _ h1;obtain⟨x2,rfl⟩:=OfTy.of (row:=rI) _ h2;obtain⟨x3,rfl⟩:=OfTy.of (row:=rI) _ h3;obtain⟨x4,rfl⟩:=OfTy.of (row:=rB) _ h4;exact⟨⟨x0,x1,x2,x3,x4⟩,rfl⟩⟩
structure X4 where
 Points:W X7
 Segments:W X2
 deriving DecidableEq
def X4.row(x:X4):W D:= [.sl (zC X7.row x.Points),.sl (zC X2.row x.Segments)]
def X4.row_eq(x:X4):X4.row x= [.sl (zC X7.row x.Points),.sl (zC X2.row x.Segments)]:=rfl
instance:Row X4.row 2:=⟨fun _=>rfl,zD rfl⟩
instance:OfTy (.st [(.sl (.st [.str,.bool])),(.sl (.st [(.int .i64),(.int .i64),(.int .i64),(.int .i64),.bool]))]) X4.row:=⟨fun ds h=>by
 obtain⟨a0,b0,h0,t0,rfl⟩:=h;obtain⟨a1,b1,h1,t1,rfl⟩:=t0;obtain rfl:=t1;obtain⟨x0,rfl⟩:=OfTy.of (row:=(rL X7.row)) _ h0;obtain⟨x1,rfl⟩:=OfTy.of (row:=(rL X2.row)) _ h1;exact⟨⟨x0,x1⟩,rfl⟩⟩
structure X5 where
 Name:W zA
 Length:Y
 Draught:Y
 Line:Y
 Tugs:Y
 Slow:Z
 deriving DecidableEq
def X5.row(x:X5):W D:= [.str x.Name,.int .i64 x.Length,.int .i64 x.Draught,.int .i64 x.Line,.int .i64 x.Tugs,.bool x.Slow]
def X5.row_eq(x:X5):X5.row x= [.str x.Name,.int .i64 x.Length,.int .i64 x.Draught,.int .i64 x.Line,.int .i64 x.Tugs,.bool x.Slow]:=rfl
instance:Row X5.row 6:=⟨fun _=>rfl,zD rfl⟩
instance:FlatRow X5.row:=⟨fun x d hd=>by simp only[X5.row_eq,zJ,zI,or_false] at hd; rcases hd with rfl | rfl | rfl | rfl | rfl | rfl<;>rfl⟩
instance:OfTy (.st [.str,(.int .i64),(.int .i64),(.int .i64),(.int .i64),.bool]) X5.row:=⟨fun ds h=>by
 obtain⟨a0,b0,h0,t0,rfl⟩:=h;obtain⟨a1,b1,h1,t1,rfl⟩:=t0;obtain⟨a2,b2,h2,t2,rfl⟩:=t1;obtain⟨a3,b3,h3,t3,rfl⟩:=t2;obtain⟨a4,b4,h4,t4,rfl⟩:=t3;obtain⟨a5,b5,h5,t5,rfl⟩:=t4;obtain rfl:=t5;obtain⟨x0,rfl⟩:=OfTy.of (row:=rS) _ h0;obtain⟨x1,rfl⟩:=OfTy.of (row:=rI) _ h1;obtain⟨x2,rfl⟩:=OfTy.of (row:=rI) _ h2;obtain⟨x3,rfl⟩:=OfTy.of (row:=rI) _ h3;obtain⟨x4,rfl⟩:=OfTy.of (row:=rI) _ h4;obtain⟨x5,rfl⟩:=OfTy.of (row:=rB) _ h5;exact⟨⟨x0,x1,x2,x3,x4,x5⟩,rfl⟩⟩
structure Xi where
 Gap:Y
 NoMeet:Z
 deriving DecidableEq
def Xi.row(x:Xi):W D:= [.int .i64 x.Gap,.bool x.NoMeet]
def Xi.row_eq(x:Xi):Xi.row x= [.int .i64 x.Gap,.bool x.NoMeet]:=rfl
instance:Row Xi.row 2:=⟨fun _=>rfl,zD rfl⟩
instance:FlatRow Xi.row:=⟨fun x d hd=>by simp only[Xi.row_eq,zJ,zI,or_false] at hd; rcases hd with rfl | rfl<;>rfl⟩
instance:OfTy (.st [(.int .i64),.bool]) Xi.row:=⟨fun ds h=>by
 obtain⟨a0,b0,h0,t0,rfl⟩:=h;obtain⟨a1,b1,h1,t1,rfl⟩:=t0;obtain rfl:=t1;obtain⟨x0,rfl⟩:=OfTy.of (row:=rI) _ h0;obtain⟨x1,rfl⟩:=OfTy.of (row:=rB) _ h1;exact⟨⟨x0,x1⟩,rfl⟩⟩
structure Xn where
 Tugs:Y
 Pilots:Y
 Rest:Y
 Moves:W Y
 deriving DecidableEq
def Xn.row(x:Xn):W D:= [.int .i64 x.Tugs,.int .i64 x.Pilots,.int .i64 x.Rest,.sl (zC rI x.Moves)]
def Xn.row_eq(x:Xn):Xn.row x= [.int .i64 x.Tugs,.int .i64 x.Pilots,.int .i64 x.Rest,.sl (zC rI x.Moves)]:=rfl
instance:Row Xn.row 4:=⟨fun _=>rfl,zD rfl⟩
instance:OfTy (.st [(.int .i64),(.int .i64),(.int .i64),(.sl (.int .i64))]) Xn.row:=⟨fun ds h=>by
 obtain⟨a0,b0,h0,t0,rfl⟩:=h;obtain⟨a1,b1,h1,t1,rfl⟩:=t0;obtain⟨a2,b2,h2,t2,rfl⟩:=t1;obtain⟨a3,b3,h3,t3,rfl⟩:=t2;obtain rfl:=t3;obtain⟨x0,rfl⟩:=OfTy.of (row:=rI) _ h0;obtain⟨x1,rfl⟩:=OfTy.of (row:=rI) _ h1;obtain⟨x2,rfl⟩:=OfTy.of (row:=rI) _ h2;obtain⟨x3,rfl⟩:=OfTy.of (row:=(rL rI)) _ h3;exact⟨⟨x0,x1,x2,x3⟩,rfl⟩⟩
structure X3 where
 Forecast:Xd
 Chart:X4
 Fleet:W X5
 Regime:Xi
 Crew:Xn
 deriving DecidableEq
def X3.row(x:X3):W D:= [.int .i64 x.Forecast.Tide.Mean,.sl (zC Xc.row x.Forecast.Tide.Parts),.sl (zC X9.row x.Forecast.Surges),.sl (zC X7.row x.Chart.Points),.sl (zC X2.row x.Chart.Segments),.sl (zC X5.row x.Fleet),.int .i64 x.Regime.Gap,.bool x.Regime.NoMeet,.int .i64 x.Crew.Tugs,.int .i64 x.Crew.Pilots,.int .i64 x.Crew.Rest,.sl (zC rI x.Crew.Moves)]
def X3.row_eq(x:X3):X3.row x= [.int .i64 x.Forecast.Tide.Mean,.sl (zC Xc.row x.Forecast.Tide.Parts),.sl (zC X9.row x.Forecast.Surges),.sl (zC X7.row x.Chart.Points),.sl (zC X2.row x.Chart.Segments),.sl (zC X5.row x.Fleet),.int .i64 x.Regime.Gap,.bool x.Regime.NoMeet,.int .i64 x.Crew.Tugs,.int .i64 x.Crew.Pilots,.int .i64 x.Crew.Rest,.sl (zC rI x.Crew.Moves)]:=rfl
instance:Row X3.row 12:=⟨fun _=>rfl,zD rfl⟩
instance:OfTy (.st [(.st [(.st [(.int .i64),(.sl (.st [(.int .i64),(.int .i64),(.int .i64)]))]),(.sl (.st [(.int .i64),(.int .i64),(.int .i64)]))]),(.st [(.sl (.st [.str,.bool])),(.sl (.st [(.int .i64),(.int .i64),(.int .i64),(.int .i64),.bool]))]),(.sl (.st [.str,(.int .i64),(.int .i64),(.int .i64),(.int .i64),.bool])),(.st [(.int .i64),.bool]),(.st [(.int .i64),(.int .i64),(.int .i64),(.sl (.int .i64))])]) X3.row:=⟨fun ds h=>by
 obtain⟨a0,b0,h0,t0,rfl⟩:=h;obtain⟨a1,b1,h1,t1,rfl⟩:=t0;obtain⟨a2,b2,h2,t2,rfl⟩:=t1;obtain⟨a3,b3,h3,t3,rfl⟩:=t2;obtain⟨a4,b4,h4,t4,rfl⟩:=t3;obtain rfl:=t4;obtain⟨x0,rfl⟩:=OfTy.of (row:=Xd.row) _ h0;obtain⟨x1,rfl⟩:=OfTy.of (row:=X4.row) _ h1;obtain⟨x2,rfl⟩:=OfTy.of (row:=(rL X5.row)) _ h2;obtain⟨x3,rfl⟩:=OfTy.of (row:=Xi.row) _ h3;obtain⟨x4,rfl⟩:=OfTy.of (row:=Xn.row) _ h4;exact⟨⟨x0,x1,x2,x3,x4⟩,rfl⟩⟩
structure X8 where
 Ship:Y
 From:Y
 To:Y
 Ready:Y
 Due:Y
 deriving DecidableEq
def X8.row(x:X8):W D:= [.int .i64 x.Ship,.int .i64 x.From,.int .i64 x.To,.int .i64 x.Ready,.int .i64 x.Due]
def X8.row_eq(x:X8):X8.row x= [.int .i64 x.Ship,.int .i64 x.From,.int .i64 x.To,.int .i64 x.Ready,.int .i64 x.Due]:=rfl
instance:Row X8.row 5:=⟨fun _=>rfl,zD rfl⟩
instance:FlatRow X8.row:=⟨fun x d hd=>by simp only[X8.row_eq,zJ,zI,or_false] at hd; rcases hd with rfl | rfl | rfl | rfl | rfl<;>rfl⟩
instance:OfTy (.st [(.int .i64),(.int .i64),(.int .i64),(.int .i64),(.int .i64)]) X8.row:=⟨fun ds h=>by
 obtain⟨a0,b0,h0,t0,rfl⟩:=h;obtain⟨a1,b1,h1,t1,rfl⟩:=t0;obtain⟨a2,b2,h2,t2,rfl⟩:=t1;obtain⟨a3,b3,h3,t3,rfl⟩:=t2;obtain⟨a4,b4,h4,t4,rfl⟩:=t3;obtain rfl:=t4;obtain⟨x0,rfl⟩:=OfTy.of (row:=rI) _ h0;obtain⟨x1,rfl⟩:=OfTy.of (row:=rI) _ h1;obtain⟨x2,rfl⟩:=OfTy.of (row:=rI) _ h2;obtain⟨x3,rfl⟩:=OfTy.of (row:=rI) _ h3;obtain⟨x4,rfl⟩:=OfTy.of (row:=rI) _ h4;exact⟨⟨x0,x1,x2,x3,x4⟩,rfl⟩⟩
structure X1 where
 Ship:Y
 Segment:Y
 Toward:Z
 Start:Y
 End:Y
 deriving DecidableEq
def X1.row(x:X1):W D:= [.int .i64 x.Ship,.int .i64 x.Segment,.bool x.Toward,.int .i64 x.Start,.int .i64 x.End]
def X1.row_eq(x:X1):X1.row x= [.int .i64 x.Ship,.int .i64 x.Segment,.bool x.Toward,.int .i64 x.Start,.int .i64 x.End]:=rfl
instance:Row X1.row 5:=⟨fun _=>rfl,zD rfl⟩
instance:FlatRow X1.row:=⟨fun x d hd=>by simp only[X1.row_eq,zJ,zI,or_false] at hd; rcases hd with rfl | rfl | rfl | rfl | rfl<;>rfl⟩
instance:OfTy (.st [(.int .i64),(.int .i64),.bool,(.int .i64),(.int .i64)]) X1.row:=⟨fun ds h=>by
 obtain⟨a0,b0,h0,t0,rfl⟩:=h;obtain⟨a1,b1,h1,t1,rfl⟩:=t0;obtain⟨a2,b2,h2,t2,rfl⟩:=t1;obtain⟨a3,b3,h3,t3,rfl⟩:=t2;obtain⟨a4,b4,h4,t4,rfl⟩:=t3;obtain rfl:=t4;obtain⟨x0,rfl⟩:=OfTy.of (row:=rI) _ h0;obtain⟨x1,rfl⟩:=OfTy.of (row:=rI) _ h1;obtain⟨x2,rfl⟩:=OfTy.of (row:=rB) _ h2;obtain⟨x3,rfl⟩:=OfTy.of (row:=rI) _ h3;obtain⟨x4,rfl⟩:=OfTy.of (row:=rI) _ h4;exact⟨⟨x0,x1,x2,x3,x4⟩,rfl⟩⟩
structure X0 where
 Start:Y
 Arrival:Y
 Cost:Y
 Passages:W X1
 deriving DecidableEq
def X0.row(x:X0):W D:= [.int .i64 x.Start,.int .i64 x.Arrival,.int .i64 x.Cost,.sl (zC X1.row x.Passages)]
def X0.row_eq(x:X0):X0.row x= [.int .i64 x.Start,.int .i64 x.Arrival,.int .i64 x.Cost,.sl (zC X1.row x.Passages)]:=rfl
instance:Row X0.row 4:=⟨fun _=>rfl,zD rfl⟩
instance:OfTy (.st [(.int .i64),(.int .i64),(.int .i64),(.sl (.st [(.int .i64),(.int .i64),.bool,(.int .i64),(.int .i64)]))]) X0.row:=⟨fun ds h=>by
 obtain⟨a0,b0,h0,t0,rfl⟩:=h;obtain⟨a1,b1,h1,t1,rfl⟩:=t0;obtain⟨a2,b2,h2,t2,rfl⟩:=t1;obtain⟨a3,b3,h3,t3,rfl⟩:=t2;obtain rfl:=t3;obtain⟨x0,rfl⟩:=OfTy.of (row:=rI) _ h0;obtain⟨x1,rfl⟩:=OfTy.of (row:=rI) _ h1;obtain⟨x2,rfl⟩:=OfTy.of (row:=rI) _ h2;obtain⟨x3,rfl⟩:=OfTy.of (row:=(rL X1.row)) _ h3;exact⟨⟨x0,x1,x2,x3⟩,rfl⟩⟩
structure X6 where
 From:Y
 To:Y
 deriving DecidableEq
def X6.row(x:X6):W D:= [.int .i64 x.From,.int .i64 x.To]
def X6.row_eq(x:X6):X6.row x= [.int .i64 x.From,.int .i64 x.To]:=rfl
instance:Row X6.row 2:=⟨fun _=>rfl,zD rfl⟩
instance:FlatRow X6.row:=⟨fun x d hd=>by simp only[X6.row_eq,zJ,zI,or_false] at hd; rcases hd with rfl | rfl<;>rfl⟩
instance:OfTy (.st [(.int .i64),(.int .i64)]) X6.row:=⟨fun ds h=>by
 obtain⟨a0,b0,h0,t0,rfl⟩:=h;obtain⟨a1,b1,h1,t1,rfl⟩:=t0;obtain rfl:=t1;obtain⟨x0,rfl⟩:=OfTy.of (row:=rI) _ h0;obtain⟨x1,rfl⟩:=OfTy.of (row:=rI) _ h1;exact⟨⟨x0,x1⟩,rfl⟩⟩
structure Xe where
 h:X3
 lists:W (W X0)
 clash:W (W (W (W Z)))
 rest:W Y
 best:W Y
 cost:Y
 found:Z
 deriving DecidableEq
def Xe.row(x:Xe):W D:= [.int .i64 x.h.Forecast.Tide.Mean,.sl (zC Xc.row x.h.Forecast.Tide.Parts),.sl (zC X9.row x.h.Forecast.Surges),.sl (zC X7.row x.h.Chart.Points),.sl (zC X2.row x.h.Chart.Segments),.sl (zC X5.row x.h.Fleet),.int .i64 x.h.Regime.Gap,.bool x.h.Regime.NoMeet,.int .i64 x.h.Crew.Tugs,.int .i64 x.h.Crew.Pilots,.int .i64 x.h.Crew.Rest,.sl (zC rI x.h.Crew.Moves),.sl (zC (rL X0.row) x.lists),.sl (zC (rL (rL (rL rB))) x.clash),.sl (zC rI x.rest),.sl (zC rI x.best),.int .i64 x.cost,.bool x.found]
def Xe.row_eq(x:Xe):Xe.row x= [.int .i64 x.h.Forecast.Tide.Mean,.sl (zC Xc.row x.h.Forecast.Tide.Parts),.sl (zC X9.row x.h.Forecast.Surges),.sl (zC X7.row x.h.Chart.Points),.sl (zC X2.row x.h.Chart.Segments),.sl (zC X5.row x.h.Fleet),.int .i64 x.h.Regime.Gap,.bool x.h.Regime.NoMeet,.int .i64 x.h.Crew.Tugs,.int .i64 x.h.Crew.Pilots,.int .i64 x.h.Crew.Rest,.sl (zC rI x.h.Crew.Moves),.sl (zC (rL X0.row) x.lists),.sl (zC (rL (rL (rL rB))) x.clash),.sl (zC rI x.rest),.sl (zC rI x.best),.int .i64 x.cost,.bool x.found]:=rfl
instance:Row Xe.row 18:=⟨fun _=>rfl,zD rfl⟩
instance:OfTy (.st [(.st [(.st [(.st [(.int .i64),(.sl (.st [(.int .i64),(.int .i64),(.int .i64)]))]),(.sl (.st [(.int .i64),(.int .i64),(.int .i64)]))]),(.st [(.sl (.st [.str,.bool])),(.sl (.st [(.int .i64),(.int .i64),(.int .i64),(.int .i64),.bool]))]),(.sl (.st [.str,(.int .i64),(.int .i64),(.int .i64),(.int .i64),.bool])),(.st [(.int .i64),.bool]),(.st [(.int .i64),(.int .i64),(.int .i64),(.sl (.int .i64))])]),(.sl (.sl (.st [(.int .i64),(.int .i64),(.int .i64),(.sl (.st [(.int .i64),(.int .i64),.bool,(.int .i64),(.int .i64)]))]))),(.sl (.sl (.sl (.sl .bool)))),(.sl (.int .i64)),(.sl (.int .i64)),(.int .i64),.bool]) Xe.row:=⟨fun ds h=>by
 obtain⟨a0,b0,h0,t0,rfl⟩:=h;obtain⟨a1,b1,h1,t1,rfl⟩:=t0;obtain⟨a2,b2,h2,t2,rfl⟩:=t1;obtain⟨a3,b3,h3,t3,rfl⟩:=t2;obtain⟨a4,b4,h4,t4,rfl⟩:=t3;obtain⟨a5,b5,h5,t5,rfl⟩:=t4;obtain⟨a6,b6,h6,t6,rfl⟩:=t5;obtain rfl:=t6;obtain⟨x0,rfl⟩:=OfTy.of (row:=X3.row) _ h0;obtain⟨x1,rfl⟩:=OfTy.of (row:=(rL (rL X0.row))) _ h1;obtain⟨x2,rfl⟩:=OfTy.of (row:=(rL (rL (rL (rL rB))))) _ h2;obtain⟨x3,rfl⟩:=OfTy.of (row:=(rL rI)) _ h3;obtain⟨x4,rfl⟩:=OfTy.of (row:=(rL rI)) _ h4;obtain⟨x5,rfl⟩:=OfTy.of (row:=rI) _ h5;obtain⟨x6,rfl⟩:=OfTy.of (row:=rB) _ h6;exact⟨⟨x0,x1,x2,x3,x4,x5,x6⟩,rfl⟩⟩
abbrev C4(x:Xe):W XC:= [.d (.int .i64 x.h.Forecast.Tide.Mean),.d (.sl (zC Xc.row x.h.Forecast.Tide.Parts)),.d (.sl (zC X9.row x.h.Forecast.Surges)),.d (.sl (zC X7.row x.h.Chart.Points)),.d (.sl (zC X2.row x.h.Chart.Segments)),.d (.sl (zC X5.row x.h.Fleet)),.d (.int .i64 x.h.Regime.Gap),.d (.bool x.h.Regime.NoMeet),.d (.int .i64 x.h.Crew.Tugs),.d (.int .i64 x.h.Crew.Pilots),.d (.int .i64 x.h.Crew.Rest),.d (.sl (zC rI x.h.Crew.Moves)),.d (.sl (zC (rL X0.row) x.lists)),.d (.sl (zC (rL (rL (rL rB))) x.clash)),.d (.sl (zC rI x.rest)),.r 0,.d (.int .i64 x.cost),.d (.bool x.found)]
abbrev C5(x:Xe):Ao:= [(1,zC rI x.best)]
structure Xb where
 From:Y
 To:Y
 A:Y
 B:Y
 deriving DecidableEq
def Xb.row(x:Xb):W D:= [.int .i64 x.From,.int .i64 x.To,.int .i64 x.A,.int .i64 x.B]
def Xb.row_eq(x:Xb):Xb.row x= [.int .i64 x.From,.int .i64 x.To,.int .i64 x.A,.int .i64 x.B]:=rfl
instance:Row Xb.row 4:=⟨fun _=>rfl,zD rfl⟩
instance:FlatRow Xb.row:=⟨fun x d hd=>by simp only[Xb.row_eq,zJ,zI,or_false] at hd; rcases hd with rfl | rfl | rfl | rfl<;>rfl⟩
instance:OfTy (.st [(.int .i64),(.int .i64),(.int .i64),(.int .i64)]) Xb.row:=⟨fun ds h=>by
 obtain⟨a0,b0,h0,t0,rfl⟩:=h;obtain⟨a1,b1,h1,t1,rfl⟩:=t0;obtain⟨a2,b2,h2,t2,rfl⟩:=t1;obtain⟨a3,b3,h3,t3,rfl⟩:=t2;obtain rfl:=t3;obtain⟨x0,rfl⟩:=OfTy.of (row:=rI) _ h0;obtain⟨x1,rfl⟩:=OfTy.of (row:=rI) _ h1;obtain⟨x2,rfl⟩:=OfTy.of (row:=rI) _ h2;obtain⟨x3,rfl⟩:=OfTy.of (row:=rI) _ h3;exact⟨⟨x0,x1,x2,x3⟩,rfl⟩⟩
structure Xk where
 waits:W Z
 minutes:W Y
 sure:W (W X6)
 deriving DecidableEq
def Xk.row(x:Xk):W D:= [.sl (zC rB x.waits),.sl (zC rI x.minutes),.sl (zC (rL X6.row) x.sure)]
def Xk.row_eq(x:Xk):Xk.row x= [.sl (zC rB x.waits),.sl (zC rI x.minutes),.sl (zC (rL X6.row) x.sure)]:=rfl
instance:Row Xk.row 3:=⟨fun _=>rfl,zD rfl⟩
instance:OfTy (.st [(.sl .bool),(.sl (.int .i64)),(.sl (.sl (.st [(.int .i64),(.int .i64)])))]) Xk.row:=⟨fun ds h=>by
 obtain⟨a0,b0,h0,t0,rfl⟩:=h;obtain⟨a1,b1,h1,t1,rfl⟩:=t0;obtain⟨a2,b2,h2,t2,rfl⟩:=t1;obtain rfl:=t2;obtain⟨x0,rfl⟩:=OfTy.of (row:=(rL rB)) _ h0;obtain⟨x1,rfl⟩:=OfTy.of (row:=(rL rI)) _ h1;obtain⟨x2,rfl⟩:=OfTy.of (row:=(rL (rL X6.row))) _ h2;exact⟨⟨x0,x1,x2⟩,rfl⟩⟩
structure Xa where
 i0:Z
 i1:Z
 i2:Z
 i3:Z
 i4:Z
 i5:Z
 i6:Z
 i7:Z
 deriving DecidableEq
def Xa.row(x:Xa):W D:= [.bool x.i0,.bool x.i1,.bool x.i2,.bool x.i3,.bool x.i4,.bool x.i5,.bool x.i6,.bool x.i7]
def Xa.row_eq(x:Xa):Xa.row x= [.bool x.i0,.bool x.i1,.bool x.i2,.bool x.i3,.bool x.i4,.bool x.i5,.bool x.i6,.bool x.i7]:=rfl
instance:Row Xa.row 8:=⟨fun _=>rfl,zD rfl⟩
def Xa.set(x:Xa)(n:J)(v:Z):Xa:=⟨bif n==0 then v else x.i0,bif n==1 then v else x.i1,bif n==2 then v else x.i2,bif n==3 then v else x.i3,bif n==4 then v else x.i4,bif n==5 then v else x.i5,bif n==6 then v else x.i6,bif n==7 then v else x.i7⟩
def Xa.set_eq(x:Xa){n:J}{v:Z}(h:n<8):BS (zC AC.dat (Xa.row x)) n [.dat (.bool v)]=zC AC.dat (Xa.row (Xa.set x n v)):=by
 match n,h with
 | 0,_=>rfl
 | 1,_=>rfl
 | 2,_=>rfl
 | 3,_=>rfl
 | 4,_=>rfl
 | 5,_=>rfl
 | 6,_=>rfl
 | 7,_=>rfl
instance:FlatRow Xa.row:=⟨fun x d hd=>by simp only[Xa.row_eq,zJ,zI,or_false] at hd; rcases hd with rfl | rfl | rfl | rfl | rfl | rfl | rfl | rfl<;>rfl⟩
instance:OfTy (.st [.bool,.bool,.bool,.bool,.bool,.bool,.bool,.bool]) Xa.row:=⟨fun ds h=>by
 obtain⟨a0,b0,h0,t0,rfl⟩:=h;obtain⟨a1,b1,h1,t1,rfl⟩:=t0;obtain⟨a2,b2,h2,t2,rfl⟩:=t1;obtain⟨a3,b3,h3,t3,rfl⟩:=t2;obtain⟨a4,b4,h4,t4,rfl⟩:=t3;obtain⟨a5,b5,h5,t5,rfl⟩:=t4;obtain⟨a6,b6,h6,t6,rfl⟩:=t5;obtain⟨a7,b7,h7,t7,rfl⟩:=t6;obtain rfl:=t7;obtain⟨x0,rfl⟩:=OfTy.of (row:=rB) _ h0;obtain⟨x1,rfl⟩:=OfTy.of (row:=rB) _ h1;obtain⟨x2,rfl⟩:=OfTy.of (row:=rB) _ h2;obtain⟨x3,rfl⟩:=OfTy.of (row:=rB) _ h3;obtain⟨x4,rfl⟩:=OfTy.of (row:=rB) _ h4;obtain⟨x5,rfl⟩:=OfTy.of (row:=rB) _ h5;obtain⟨x6,rfl⟩:=OfTy.of (row:=rB) _ h6;obtain⟨x7,rfl⟩:=OfTy.of (row:=rB) _ h7;exact⟨⟨x0,x1,x2,x3,x4,x5,x6,x7⟩,rfl⟩⟩
structure Xj where
 i0:Y
 i1:Y
 deriving DecidableEq
def Xj.row(x:Xj):W D:= [.int .i64 x.i0,.int .i64 x.i1]
def Xj.row_eq(x:Xj):Xj.row x= [.int .i64 x.i0,.int .i64 x.i1]:=rfl
instance:Row Xj.row 2:=⟨fun _=>rfl,zD rfl⟩
instance:FlatRow Xj.row:=⟨fun x d hd=>by simp only[Xj.row_eq,zJ,zI,or_false] at hd; rcases hd with rfl | rfl<;>rfl⟩
instance:OfTy (.st [(.int .i64),(.int .i64)]) Xj.row:=⟨fun ds h=>by
 obtain⟨a0,b0,h0,t0,rfl⟩:=h;obtain⟨a1,b1,h1,t1,rfl⟩:=t0;obtain rfl:=t1;obtain⟨x0,rfl⟩:=OfTy.of (row:=rI) _ h0;obtain⟨x1,rfl⟩:=OfTy.of (row:=rI) _ h1;exact⟨⟨x0,x1⟩,rfl⟩⟩
structure Xh where
 h:X3
 choices:W (W X0)
 plan:W X0
 choice:W Y
 best:W Y
 least:Xj
 found:Z
abbrev Dg(F_w0:FuncId)(caps_w0:W D)(x:Xh):W XC:= [.d (.int .i64 x.h.Forecast.Tide.Mean),.d (.sl (zC Xc.row x.h.Forecast.Tide.Parts)),.d (.sl (zC X9.row x.h.Forecast.Surges)),.d (.sl (zC X7.row x.h.Chart.Points)),.d (.sl (zC X2.row x.h.Chart.Segments)),.d (.sl (zC X5.row x.h.Fleet)),.d (.int .i64 x.h.Regime.Gap),.d (.bool x.h.Regime.NoMeet),.d (.int .i64 x.h.Crew.Tugs),.d (.int .i64 x.h.Crew.Pilots),.d (.int .i64 x.h.Crew.Rest),.d (.sl (zC rI x.h.Crew.Moves)),.d (.sl (zC (rL X0.row) x.choices)),.d (.clo F_w0 caps_w0),.r 0,.r 1,.r 2,.d (.int .i64 x.least.i0),.d (.int .i64 x.least.i1),.d (.bool x.found)]
abbrev Di(x:Xh):Ao:= [(4,zC X0.row x.plan),(1,zC rI x.choice),(1,zC rI x.best)]
structure Xg where
 sets:W Y
 most:Y
 groups:W Y
 who:W Y
 deriving DecidableEq
def Xg.row(x:Xg):W D:= [.sl (zC rU x.sets),.int .i64 x.most,.sl (zC rU x.groups),.sl (zC rI x.who)]
def Xg.row_eq(x:Xg):Xg.row x= [.sl (zC rU x.sets),.int .i64 x.most,.sl (zC rU x.groups),.sl (zC rI x.who)]:=rfl
instance:Row Xg.row 4:=⟨fun _=>rfl,zD rfl⟩
instance:OfTy (.st [(.sl (.int .u64)),(.int .i64),(.sl (.int .u64)),(.sl (.int .i64))]) Xg.row:=⟨fun ds h=>by
 obtain⟨a0,b0,h0,t0,rfl⟩:=h;obtain⟨a1,b1,h1,t1,rfl⟩:=t0;obtain⟨a2,b2,h2,t2,rfl⟩:=t1;obtain⟨a3,b3,h3,t3,rfl⟩:=t2;obtain rfl:=t3;obtain⟨x0,rfl⟩:=OfTy.of (row:=(rL rU)) _ h0;obtain⟨x1,rfl⟩:=OfTy.of (row:=rI) _ h1;obtain⟨x2,rfl⟩:=OfTy.of (row:=(rL rU)) _ h2;obtain⟨x3,rfl⟩:=OfTy.of (row:=(rL rI)) _ h3;exact⟨⟨x0,x1,x2,x3⟩,rfl⟩⟩
abbrev CI(x:Xg):W XC:= [.d (.sl (zC rU x.sets)),.d (.int .i64 x.most),.r 0,.r 1]
abbrev CJ(x:Xg):Ao:= [(1,zC rU x.groups),(1,zC rI x.who)]
def A3t:=zG @dQ (zG @oA (zG @xp (zG @nx (zG @xn (zG @ny (zG @xo (zG @Xc.row_eq (zG @Xm.row_eq (zG @X9.row_eq (zG @Xd.row_eq (zG @X7.row_eq (zG @X2.row_eq (zG @X4.row_eq (zG @X5.row_eq (zG @Xi.row_eq (zG @Xn.row_eq (zG @X3.row_eq (zG @X8.row_eq (zG @X1.row_eq (zG @X0.row_eq (zG @X6.row_eq (zG @Xe.row_eq (zG @Xb.row_eq (zG @Xk.row_eq (zG @Xa.row_eq (zG @Xj.row_eq (@Xg.row_eq)))))))))))))))))))))))))))
def U:=zG A3u (zG A3w (zG A3x (zG A3v A3t)))
def Oh(a0:W Xc)(a1:Y):X Y:= if(decide ((zK .i64 (a1 - (a0.length:Y)))<(0:Y))) then(
 O (-1:Y)) else(
 O (zK .i64 (a1 - (a0.length:Y))))
def Rx(a0:Xm)(a1:Y):X Y:= (Oh a0.Parts a1).bind fun r1=> if(decide (r1<(0:Y))) then(
 O (-1:Y)) else(
 O r1)
def Oo(a0:W X9)(a1:Y):X Y:= if(decide ((zK .i64 (a1 - (a0.length:Y)))<(0:Y))) then(
 O (-1:Y)) else(
 O (zK .i64 (a1 - (a0.length:Y))))
def Oe(a0:Xd)(a1:Y):X Y:= (Rx a0.Tide a1).bind fun r1=> if(decide (r1<(0:Y))) then(
 O (-1:Y)) else(
 (Oo a0.Surges r1).bind fun r3=>
 if(decide (r3<(0:Y))) then(
 O (-1:Y))
 else(
 O r3))
def Oi(a0:X7)(a1:Y):X Y:= if(decide ((zK .i64 (a1 - (a0.Name.length:Y)))<(0:Y))) then(
 O (-1:Y)) else(
 O (zK .i64 (a1 - (a0.Name.length:Y))))
def Hg(a0:W X7):J->Y->Y->X Y
| 0,_,_=>V
| n+1,v2,v3=>
 if(decide (v3<(a0.length:Y))) then(
 (ix a0 v3).bind fun x5=>
 (Oi x5 v2).bind fun r6=>
 if(decide (r6<(0:Y))) then(
  O (-1:Y))
 else(
  Hg a0 n r6 (zK .i64 (v3+(1:Y)))))
 else(
 O v2)
def Oj(a0:W X7)(a1:Y):X Y:= if(decide ((zK .i64 (a1 - (a0.length:Y)))<(0:Y))) then(
 O (-1:Y)) else(
 Hg a0 bigN (zK .i64 (a1 - (a0.length:Y))) (0:Y))
def Ol(a0:W X2)(a1:Y):X Y:= if(decide ((zK .i64 (a1 - (a0.length:Y)))<(0:Y))) then(
 O (-1:Y)) else(
 O (zK .i64 (a1 - (a0.length:Y))))
def Od(a0:X4)(a1:Y):X Y:= (Oj a0.Points a1).bind fun r1=> if(decide (r1<(0:Y))) then(
 O (-1:Y)) else(
 (Ol a0.Segments r1).bind fun r3=>
 if(decide (r3<(0:Y))) then(
 O (-1:Y))
 else(
 O r3))
def Om(a0:X5)(a1:Y):X Y:= if(decide ((zK .i64 (a1 - (a0.Name.length:Y)))<(0:Y))) then(
 O (-1:Y)) else(
 O (zK .i64 (a1 - (a0.Name.length:Y))))
def Hh(a0:W X5):J->Y->Y->X Y
| 0,_,_=>V
| n+1,v2,v3=>
 if(decide (v3<(a0.length:Y))) then(
 (ix a0 v3).bind fun x5=>
 (Om x5 v2).bind fun r6=>
 if(decide (r6<(0:Y))) then(
  O (-1:Y))
 else(
  Hh a0 n r6 (zK .i64 (v3+(1:Y)))))
 else(
 O v2)
def On(a0:W X5)(a1:Y):X Y:= if(decide ((zK .i64 (a1 - (a0.length:Y)))<(0:Y))) then(
 O (-1:Y)) else(
 Hh a0 bigN (zK .i64 (a1 - (a0.length:Y))) (0:Y))
def Of(a0:W Y)(a1:Y):X Y:= if(decide ((zK .i64 (a1 - (a0.length:Y)))<(0:Y))) then(
 O (-1:Y)) else(
 O (zK .i64 (a1 - (a0.length:Y))))
def Rv(a0:Xn)(a1:Y):X Y:= (Of a0.Moves a1).bind fun r1=> if(decide (r1<(0:Y))) then(
 O (-1:Y)) else(
 O r1)
def Jj(a0:X3)(a1:Y):X Y:= (Oe a0.Forecast a1).bind fun r1=> if(decide (r1<(0:Y))) then(
 O (-1:Y)) else(
 (Od a0.Chart r1).bind fun r3=>
 if(decide (r3<(0:Y))) then(
 O (-1:Y))
 else(
 (On a0.Fleet r3).bind fun r5=>
 if(decide (r5<(0:Y))) then(
  O (-1:Y))
 else(
  (Rv a0.Crew r5).bind fun r7=>
  if(decide (r7<(0:Y))) then(
  O (-1:Y))
  else(
  O r7))))
def Ji(a0:W X8)(a1:Y):X Y:= if(decide ((zK .i64 (a1 - (a0.length:Y)))<(0:Y))) then(
 O (-1:Y)) else(
 O (zK .i64 (a1 - (a0.length:Y))))
def Rw(a0:W X1)(a1:Y):X Y:= if(decide ((zK .i64 (a1 - (a0.length:Y)))<(0:Y))) then(
 O (-1:Y)) else(
 O (zK .i64 (a1 - (a0.length:Y))))
def Og(a0:X0)(a1:Y):X Y:= (Rw a0.Passages a1).bind fun r1=> if(decide (r1<(0:Y))) then(
 O (-1:Y)) else(
 O r1)
def Hf(a0:W X0):J->Y->Y->X Y
| 0,_,_=>V
| n+1,v2,v3=>
 if(decide (v3<(a0.length:Y))) then(
 (ix a0 v3).bind fun x5=>
 (Og x5 v2).bind fun r6=>
 if(decide (r6<(0:Y))) then(
  O (-1:Y))
 else(
  Hf a0 n r6 (zK .i64 (v3+(1:Y)))))
 else(
 O v2)
def Jk(a0:W X0)(a1:Y):X Y:= if(decide ((zK .i64 (a1 - (a0.length:Y)))<(0:Y))) then(
 O (-1:Y)) else(
 Hf a0 bigN (zK .i64 (a1 - (a0.length:Y))) (0:Y))
def RA(a0:Xc):X Xc:= O a0
def Jo(a0:W Xc):J->Y->(W Xc)->X (W Xc)
| 0,_,_=>V
| n+1,v2,v3=>
 if(decide (v2<(a0.length:Y))) then(
 (ix a0 v2).bind fun x5=>
 (RA x5).bind fun r6=>
 (ix v3 v2).bind fun x7=>
 Jo a0 n (zK .i64 (v2+(1:Y))) (v3.set (zB v2) r6))
 else(
 O v3)
def Ow(a0:W Xc):X (W Xc):= (BB (a0.length:Y) (a0.length:Y) 24).bind fun n1=> Jo a0 bigN (0:Y) (zF n1 (⟨(0:Y),(0:Y),(0:Y)⟩:Xc))
def RI(a0:Xm):X Xm:= (Ow a0.Parts).bind fun r1=> O (⟨a0.Mean,r1⟩:Xm)
def RH(a0:X9):X X9:= O a0
def Jt(a0:W X9):J->Y->(W X9)->X (W X9)
| 0,_,_=>V
| n+1,v2,v3=>
 if(decide (v2<(a0.length:Y))) then(
 (ix a0 v2).bind fun x5=>
 (RH x5).bind fun r6=>
 (ix v3 v2).bind fun x7=>
 Jt a0 n (zK .i64 (v2+(1:Y))) (v3.set (zB v2) r6))
 else(
 O v3)
def OB(a0:W X9):X (W X9):= (BB (a0.length:Y) (a0.length:Y) 24).bind fun n1=> Jt a0 bigN (0:Y) (zF n1 (⟨(0:Y),(0:Y),(0:Y)⟩:X9))
def Ot(a0:Xd):X Xd:= (RI a0.Tide).bind fun r1=> (OB a0.Surges).bind fun r2=> O (⟨r1,r2⟩:Xd)
def RD(a0:X7):X X7:= O a0
def Jq(a0:W X7):J->Y->(W X7)->X (W X7)
| 0,_,_=>V
| n+1,v2,v3=>
 if(decide (v2<(a0.length:Y))) then(
 (ix a0 v2).bind fun x5=>
 (RD x5).bind fun r6=>
 (ix v3 v2).bind fun x7=>
 Jq a0 n (zK .i64 (v2+(1:Y))) (v3.set (zB v2) r6))
 else(
 O v3)
def Oy(a0:W X7):X (W X7):= (BB (a0.length:Y) (a0.length:Y) 24).bind fun n1=> Jq a0 bigN (0:Y) (zF n1 (⟨([]:W zA),E⟩:X7))
def RF(a0:X2):X X2:= O a0
def Jr(a0:W X2):J->Y->(W X2)->X (W X2)
| 0,_,_=>V
| n+1,v2,v3=>
 if(decide (v2<(a0.length:Y))) then(
 (ix a0 v2).bind fun x5=>
 (RF x5).bind fun r6=>
 (ix v3 v2).bind fun x7=>
 Jr a0 n (zK .i64 (v2+(1:Y))) (v3.set (zB v2) r6))
 else(
 O v3)
def Oz(a0:W X2):X (W X2):= (BB (a0.length:Y) (a0.length:Y) 40).bind fun n1=> Jr a0 bigN (0:Y) (zF n1 (⟨(0:Y),(0:Y),(0:Y),(0:Y),E⟩:X2))
def Oq(a0:X4):X X4:= (Oy a0.Points).bind fun r1=> (Oz a0.Segments).bind fun r2=> O (⟨r1,r2⟩:X4)
def RG(a0:X5):X X5:= O a0
def Js(a0:W X5):J->Y->(W X5)->X (W X5)
| 0,_,_=>V
| n+1,v2,v3=>
 if(decide (v2<(a0.length:Y))) then(
 (ix a0 v2).bind fun x5=>
 (RG x5).bind fun r6=>
 (ix v3 v2).bind fun x7=>
 Js a0 n (zK .i64 (v2+(1:Y))) (v3.set (zB v2) r6))
 else(
 O v3)
def OA(a0:W X5):X (W X5):= (BB (a0.length:Y) (a0.length:Y) 56).bind fun n1=> Js a0 bigN (0:Y) (zF n1 (⟨([]:W zA),(0:Y),(0:Y),(0:Y),(0:Y),E⟩:X5))
def RE(a0:Xi):X Xi:= O a0
def Jm(a0:W Y):J->Y->(W Y)->X (W Y)
| 0,_,_=>V
| n+1,v2,v3=>
 if(decide (v2<(a0.length:Y))) then(
 (ix a0 v2).bind fun x5=>
 (ix v3 v2).bind fun x6=>
 Jm a0 n (zK .i64 (v2+(1:Y))) (v3.set (zB v2) x5))
 else(
 O v3)
def Ou(a0:W Y):X (W Y):= (BB (a0.length:Y) (a0.length:Y) 8).bind fun n1=> Jm a0 bigN (0:Y) (zF n1 (0:Y))
def Rz(a0:Xn):X Xn:= (Ou a0.Moves).bind fun r1=> O (⟨a0.Tugs,a0.Pilots,a0.Rest,r1⟩:Xn)
def EW(a0:X3):X X3:= (Ot a0.Forecast).bind fun r1=> (Oq a0.Chart).bind fun r2=> (OA a0.Fleet).bind fun r3=> (RE a0.Regime).bind fun r4=> (Rz a0.Crew).bind fun r5=> O (⟨r1,r2,r3,r4,r5⟩:X3)
def Ry(a0:X8):X X8:= O a0
def Jl(a0:W X8):J->Y->(W X8)->X (W X8)
| 0,_,_=>V
| n+1,v2,v3=>
 if(decide (v2<(a0.length:Y))) then(
 (ix a0 v2).bind fun x5=>
 (Ry x5).bind fun r6=>
 (ix v3 v2).bind fun x7=>
 Jl a0 n (zK .i64 (v2+(1:Y))) (v3.set (zB v2) r6))
 else(
 O v3)
def EV(a0:W X8):X (W X8):= (BB (a0.length:Y) (a0.length:Y) 40).bind fun n1=> Jl a0 bigN (0:Y) (zF n1 (⟨(0:Y),(0:Y),(0:Y),(0:Y),(0:Y)⟩:X8))
def RB(a0:X1):X X1:= O a0
def Jp(a0:W X1):J->Y->(W X1)->X (W X1)
| 0,_,_=>V
| n+1,v2,v3=>
 if(decide (v2<(a0.length:Y))) then(
 (ix a0 v2).bind fun x5=>
 (RB x5).bind fun r6=>
 (ix v3 v2).bind fun x7=>
 Jp a0 n (zK .i64 (v2+(1:Y))) (v3.set (zB v2) r6))
 else(
 O v3)
def Ox(a0:W X1):X (W X1):= (BB (a0.length:Y) (a0.length:Y) 40).bind fun n1=> Jp a0 bigN (0:Y) (zF n1 (⟨(0:Y),(0:Y),E,(0:Y),(0:Y)⟩:X1))
def Ov(a0:X0):X X0:= (Ox a0.Passages).bind fun r1=> O (⟨a0.Start,a0.Arrival,a0.Cost,r1⟩:X0)
def Jn(a0:W X0):J->Y->(W X0)->X (W X0)
| 0,_,_=>V
| n+1,v2,v3=>
 if(decide (v2<(a0.length:Y))) then(
 (ix a0 v2).bind fun x5=>
 (Ov x5).bind fun r6=>
 (ix v3 v2).bind fun x7=>
 Jn a0 n (zK .i64 (v2+(1:Y))) (v3.set (zB v2) r6))
 else(
 O v3)
def Ei(a0:W X0):X (W X0):= (BB (a0.length:Y) (a0.length:Y) 48).bind fun n1=> Jn a0 bigN (0:Y) (zF n1 (⟨(0:Y),(0:Y),(0:Y),([]:W X1)⟩:X0))
def Ay(a0 a1 a2:Y):X Z:= if(decide (a1<=a0)) then(
 O (decide (a0<=a2))) else(
 O E)
def P0(a0:Xc):X Z:= (Ay a0.Amp (0:Y) (1000:Y)).bind fun r1=> if r1 then(
 (Ay a0.Period (4:Y) (2880:Y)).bind fun r3=>
 if r3 then(
 if((zK .i64 (zH a0.Period (4:Y)))==(0:Y)) then(
  (Ay a0.Phase (0:Y) (zK .i64 (a0.Period - (1:Y)))).bind fun r6=>
  O r6)
 else(
  O E))
 else(
 O E)) else(
 O E)
def JT(a0:Xm):J->Y->X Z
| 0,_=>V
| n+1,v4=>
 if(decide (v4<(a0.Parts.length:Y))) then(
 (ix a0.Parts v4).bind fun x6=>
 (P0 x6).bind fun r7=>
 if r7 then(
  JT a0 n (zK .i64 (v4+(1:Y))))
 else(
  O E))
 else(
 O F)
def Pc(a0:Xm):X Z:= (Ay a0.Mean (-1000:Y) (1000:Y)).bind fun r1=> if r1 then(
 if(decide ((4:Y)<(a0.Parts.length:Y))) then(
 O E)
 else(
 JT a0 bigN (0:Y))) else(
 O E)
def Pb(a0:X9):X Z:= (Ay a0.From (0:Y) (2880:Y)).bind fun r1=> if r1 then(
 (Ay a0.Low (-500:Y) (500:Y)).bind fun r3=>
 if r3 then(
 (Ay a0.High a0.Low (500:Y)).bind fun r5=>
 O r5)
 else(
 O E)) else(
 O E)
def Hm(a0:Xd):J->Y->X Z
| 0,_=>V
| n+1,v7=>
 if(decide (v7<(a0.Surges.length:Y))) then(
 (ix a0.Surges v7).bind fun x9=>
 (Pb x9).bind fun r10=>
 if r10 then(
  if(decide ((0:Y)<v7)) then(
  (ix a0.Surges (zK .i64 (v7 - (1:Y)))).bind fun x13=>
  if(decide (x9.From<=x13.From)) then(
   O E)
  else(
   Hm a0 n (zK .i64 (v7+(1:Y)))))
  else(
  Hm a0 n (zK .i64 (v7+(1:Y)))))
 else(
  O E))
 else(
 O F)
def JE(a0:Xd):X Z:= (Pc a0.Tide).bind fun r1=> if r1 then(
 (Ay (a0.Surges.length:Y) (1:Y) (6:Y)).bind fun r3=>
 if r3 then(
 (ix a0.Surges (0:Y)).bind fun x5=>
 if(x5.From !=(0:Y)) then(
  O E)
 else(
  Hm a0 bigN (0:Y)))
 else(
 O E)) else(
 O E)
def OS(a0:W zA)(v1:Y)(F7:Y->X Z):X Z:= F7 (zK .i64 (v1+(1:Y)))
def OR(a0:W zA)(v1:Y)(F7:Y->X Z)(v5:Z):X Z:= if v5 then(
 OS a0 v1 F7) else(
 if(v1==(0:Y)) then(
 O E)
 else(
 (ix a0 v1).bind fun b8=>
 if(decide ((b8.toNat:Y)<(48:Y))) then(
  O E)
 else(
  if(decide ((57:Y)<(b8.toNat:Y))) then(
  O E)
  else(
  OS a0 v1 F7))))
def Hq(a0:W zA):J->Y->X Z
| 0,_=>V
| n+1,v1=>
 if(decide (v1<(a0.length:Y))) then(
 (ix a0 v1).bind fun b3=>
 if(decide ((97:Y)<=(b3.toNat:Y))) then(
  OR a0 v1 (Hq a0 n) (decide ((b3.toNat:Y)<=(122:Y))))
 else(
  OR a0 v1 (Hq a0 n) E))
 else(
 (Ay (a0.length:Y) (1:Y) (8:Y)).bind fun r11=>
 O r11)
def LS(a0:W zA):X Z:= Hq a0 bigN (0:Y)
def JN(a1:W zA)(a0:X4):J->Y->X Y
| 0,_=>V
| n+1,v1=>
 if(decide (v1<(a0.Points.length:Y))) then(
 (ix a0.Points v1).bind fun x3=>
 if(x3.Name==a1) then(
  O v1)
 else(
  JN a1 a0 n (zK .i64 (v1+(1:Y)))))
 else(
 O (-1:Y))
def P5(a0:X4)(a1:W zA):X Y:= JN a1 a0 bigN (0:Y)
def Pi(a0:X2)(a1 a2:Y):X Z:= if(a0.A==a1) then(
 if(a0.B==a2) then(
 O F)
 else(
 if(a0.A==a2) then(
  O (a0.B==a1))
 else(
  O E))) else(
 if(a0.A==a2) then(
 O (a0.B==a1))
 else(
 O E))
def Jy(a0:X4)(v11:Y)(x13:X2)(y24:W X2)(y25:Y)(PV:Y->X Z):J->Y->X Z
| 0,_=>V
| n+1,v26=>
 if(decide (v26<y25)) then(
 (ix y24 v26).bind fun x28=>
 (Pi x28 x13.A x13.B).bind fun r29=>
 if r29 then(
  O E)
 else(
  Jy a0 v11 x13 y24 y25 PV n (zK .i64 (v26+(1:Y)))))
 else(
 PV (zK .i64 (v11+(1:Y))))
def EX(a0:X4):J->Y->X Z
| 0,_=>V
| n+1,v11=>
 if(decide (v11<(a0.Segments.length:Y))) then(
 (ix a0.Segments v11).bind fun x13=>
 (Ay x13.A (0:Y) (zK .i64 ((a0.Points.length:Y) - (1:Y)))).bind fun r14=>
 if r14 then(
  (Ay x13.B (0:Y) (zK .i64 ((a0.Points.length:Y) - (1:Y)))).bind fun r16=>
  if r16 then(
  if(x13.A==x13.B) then(
   O E)
  else(
   (Ay x13.Depth (0:Y) (3000:Y)).bind fun r19=>
   if r19 then(
   (Ay x13.Minutes (1:Y) (240:Y)).bind fun r21=>
   if r21 then(
    (bnd (a0.Segments.length:Y) v11 (0:Y) a0.Segments.length).bind fun p23=>
    Jy a0 v11 x13 ((a0.Segments.drop p23.1).take (p23.2 - p23.1)) (((a0.Segments.drop p23.1).take (p23.2 - p23.1)).length:Y) (EX a0 n) bigN (0:Y))
   else(
    O E))
   else(
   O E)))
  else(
  O E))
 else(
  O E))
 else(
 O F)
def Jx(a0:X4):J->Y->X Z
| 0,_=>V
| n+1,v3=>
 if(decide (v3<(a0.Points.length:Y))) then(
 (ix a0.Points v3).bind fun x5=>
 (LS x5.Name).bind fun r6=>
 if r6 then(
  (P5 a0 x5.Name).bind fun r9=>
  if(r9 !=v3) then(
  O E)
  else(
  Jx a0 n (zK .i64 (v3+(1:Y)))))
 else(
  O E))
 else(
 EX a0 bigN (0:Y))
def Dq(a0:X4):X Z:= if(decide ((8:Y)<(a0.Points.length:Y))) then(
 O E) else(
 if(decide ((10:Y)<(a0.Segments.length:Y))) then(
 O E)
 else(
 Jx a0 bigN (0:Y)))
def DG(a0:X5):X Z:= (LS a0.Name).bind fun r1=> if r1 then(
 (Ay a0.Length (10:Y) (400:Y)).bind fun r3=>
 if r3 then(
 (Ay a0.Draught (100:Y) (2000:Y)).bind fun r5=>
 if r5 then(
  (Ay a0.Line (0:Y) (3:Y)).bind fun r7=>
  if r7 then(
  (Ay a0.Tugs (0:Y) (4:Y)).bind fun r9=>
  O r9)
  else(
  O E))
 else(
  O E))
 else(
 O E)) else(
 O E)
def JS(a1:W zA)(a0:W X5):J->Y->X Y
| 0,_=>V
| n+1,v1=>
 if(decide (v1<(a0.length:Y))) then(
 (ix a0 v1).bind fun x3=>
 if(x3.Name==a1) then(
  O v1)
 else(
  JS a1 a0 n (zK .i64 (v1+(1:Y)))))
 else(
 O (-1:Y))
def P9(a0:W X5)(a1:W zA):X Y:= JS a1 a0 bigN (0:Y)
def JD(a0:W X5):J->Y->X Z
| 0,_=>V
| n+1,v2=>
 if(decide (v2<(a0.length:Y))) then(
 (ix a0 v2).bind fun x4=>
 (DG x4).bind fun r5=>
 if r5 then(
  (P9 a0 x4.Name).bind fun r7=>
  if(r7 !=v2) then(
  O E)
  else(
  JD a0 n (zK .i64 (v2+(1:Y)))))
 else(
  O E))
 else(
 O F)
def LP(a0:W X5):X Z:= if(decide ((6:Y)<(a0.length:Y))) then(
 O E) else(
 JD a0 bigN (0:Y))
def JO(a0:Xi):X Z:= (Ay a0.Gap (0:Y) (60:Y)).bind fun r1=> O r1
def HF(a1:W Y):J->Y->X Z
| 0,_=>V
| n+1,v4=>
 if(decide (v4<(a1.length:Y))) then(
 (ix a1 v4).bind fun x6=>
 (Ay x6 (0:Y) (240:Y)).bind fun r7=>
 if r7 then(
  HF a1 n (zK .i64 (v4+(1:Y))))
 else(
  O E))
 else(
 O F)
def HE(a0:Y)(a1:W Y):X Z:= (Ay a0 (0:Y) (2880:Y)).bind fun r1=> if r1 then(
 if((a1.length:Y) !=(64:Y)) then(
 O E)
 else(
 HF a1 bigN (0:Y))) else(
 O E)
def JA(a0:Xn):X Z:= (Ay a0.Tugs (0:Y) (12:Y)).bind fun r1=> if r1 then(
 (Ay a0.Pilots (0:Y) (12:Y)).bind fun r3=>
 if r3 then(
 (HE a0.Rest a0.Moves).bind fun r5=>
 O r5)
 else(
 O E)) else(
 O E)
def LR(a0:X3):X Z:= (JE a0.Forecast).bind fun r1=> if r1 then(
 (Dq a0.Chart).bind fun r3=>
 if r3 then(
 (LP a0.Fleet).bind fun r5=>
 if r5 then(
  (JO a0.Regime).bind fun r7=>
  if r7 then(
  (JA a0.Crew).bind fun r9=>
  O r9)
  else(
  O E))
 else(
  O E))
 else(
 O E)) else(
 O E)
def G7(a0:X3)(a1:X8):X Z:= (LR a0).bind fun r1=> if r1 then(
 (Ay a1.Ship (0:Y) (zK .i64 ((a0.Fleet.length:Y) - (1:Y)))).bind fun r3=>
 if r3 then(
 (Ay a1.From (0:Y) (zK .i64 ((a0.Chart.Points.length:Y) - (1:Y)))).bind fun r5=>
 if r5 then(
  (Ay a1.To (0:Y) (zK .i64 ((a0.Chart.Points.length:Y) - (1:Y)))).bind fun r7=>
  if r7 then(
  if(a1.From !=a1.To) then(
   (Ay a1.Ready (0:Y) (2880:Y)).bind fun r10=>
   if r10 then(
   (Ay a1.Due a1.Ready (2880:Y)).bind fun r12=>
   O r12)
   else(
   O E))
  else(
   O E))
  else(
  O E))
 else(
  O E))
 else(
 O E)) else(
 O E)
def LM(a1:W X8)(v4:Y)(a0:X3)(x6:X8)(y10:W X8)(y11:Y)(PU:Y->X Z):J->Y->X Z
| 0,_=>V
| n+1,v12=>
 if(decide (v12<y11)) then(
 (ix y10 v12).bind fun x14=>
 if(x6.Ship==x14.Ship) then(
  O E)
 else(
  LM a1 v4 a0 x6 y10 y11 PU n (zK .i64 (v12+(1:Y)))))
 else(
 PU (zK .i64 (v4+(1:Y))))
def LL(a1:W X8)(a0:X3):J->Y->X Z
| 0,_=>V
| n+1,v4=>
 if(decide (v4<(a1.length:Y))) then(
 (ix a1 v4).bind fun x6=>
 (G7 a0 x6).bind fun r7=>
 if r7 then(
  (bnd (a1.length:Y) v4 (0:Y) a1.length).bind fun p9=>
  LM a1 v4 a0 x6 ((a1.drop p9.1).take (p9.2 - p9.1)) (((a1.drop p9.1).take (p9.2 - p9.1)).length:Y) (LL a1 a0 n) bigN (0:Y))
 else(
  O E))
 else(
 O F)
def OG(a0:X3)(a1:W X8):X Z:= (LR a0).bind fun r1=> if r1 then(
 if(decide ((6:Y)<(a1.length:Y))) then(
 O E)
 else(
 LL a1 a0 bigN (0:Y))) else(
 O E)
def Pj(a0:X2)(a1:Y):X Y:= if(a1==a0.A) then(
 O a0.B) else(
 if(a1==a0.B) then(
 O a0.A)
 else(
 O (-1:Y)))
def JX(a1:Y)(a0:W Y):J->Y->X Z
| 0,_=>V
| n+1,v1=>
 if(decide (v1<(a0.length:Y))) then(
 (ix a0 v1).bind fun x3=>
 if(x3==a1) then(
  O F)
 else(
  JX a1 a0 n (zK .i64 (v1+(1:Y)))))
 else(
 O E)
def M2(a0:W Y)(a1:Y):X Z:= JX a1 a0 bigN (0:Y)
def Hy(r9:Y)(a2:W Y)(v1:Y)(a0:X4)(v2:W Y)(SE:Y->(W Y)->X ((W Y) × Z))(v12:Z):X ((W Y) × Z):= if v12 then(
 O (([]:W Y),E)) else(
 if Ab v2.length ([r9]:W Y).length 8 then(
 SE (zK .i64 (v1+(1:Y))) (v2++([r9]:W Y)))
 else V)
def El(a2:W Y)(a0:X4):J->Y->(W Y)->X ((W Y) × Z)
| 0,_,_=>V
| n+1,v1,v2=>
 if(decide (v1<(a2.length:Y))) then(
 (ix a2 v1).bind fun x4=>
 (Ay x4 (0:Y) (zK .i64 ((a0.Segments.length:Y) - (1:Y)))).bind fun r5=>
 if r5 then(
  (ix a0.Segments x4).bind fun x7=>
  (ix v2 (zK .i64 ((v2.length:Y) - (1:Y)))).bind fun x8=>
  (Pj x7 x8).bind fun r9=>
  if(decide (r9<(0:Y))) then(
  Hy r9 a2 v1 a0 v2 (El a2 a0 n) F)
  else(
  (M2 v2 r9).bind fun r11=>
  Hy r9 a2 v1 a0 v2 (El a2 a0 n) r11))
 else(
  O (([]:W Y),E)))
 else(
 O (v2,F))
def Hx(a0:X4)(a1:Y)(a2:W Y):X ((W Y) × Z):= El a2 a0 bigN (0:Y) ([a1]:W Y)
def Ej(a0:X4)(a1:Y)(a2:W Y):X Z:= (Dq a0).bind fun r1=> if r1 then(
 (Ay a1 (0:Y) (zK .i64 ((a0.Points.length:Y) - (1:Y)))).bind fun r3=>
 if r3 then(
 (Hx a0 a1 a2).bind fun r5=>
 O r5.2)
 else(
 O E)) else(
 O E)
def Ek(a0:X4)(a1:Y)(a2:W Y):X (W Y):= (Ej a0 a1 a2).bind fun r1=> if r1 then(
 (Hx a0 a1 a2).bind fun r3=>
 O r3.1) else(
 O ([]:W Y))
def RZ(a0:X3)(a1:X8)(a2:W Y):X Z:= (Ek a0.Chart a1.From a2).bind fun r1=> if(decide ((1:Y)<(r1.length:Y))) then(
 (ix r1 (zK .i64 ((r1.length:Y) - (1:Y)))).bind fun x3=>
 O (x3==a1.To)) else(
 O E)
def JZ(a0:X4)(a1:Y)(a2:X5):X Z:= (Dq a0).bind fun r1=> if r1 then(
 (DG a2).bind fun r3=>
 if r3 then(
 (Ay a1 (0:Y) (zK .i64 ((a0.Segments.length:Y) - (1:Y)))).bind fun r5=>
 O r5)
 else(
 O E)) else(
 O E)
def RQ(a0:X5):X Y:= (DG a0).bind fun r1=> if r1 then(
 if a0.Slow then(
 O (zK .i64 (zE a0.Draught (50:Y))))
 else(
 O (zK .i64 (zE a0.Draught (20:Y))))) else(
 O (0:Y))
def RO(a0:X5):X Y:= (DG a0).bind fun r1=> if r1 then(
 (RQ a0).bind fun r3=>
 O (zK .i64 ((zK .i64 (a0.Draught+r3))+(50:Y)))) else(
 O (0:Y))
def OV(a0:X4)(a1:Y)(a2:X5):X Y:= (JZ a0 a1 a2).bind fun r1=> if r1 then(
 (RO a2).bind fun r3=>
 (ix a0.Segments a1).bind fun x4=>
 O (zK .i64 (r3 - x4.Depth))) else(
 O (0:Y))
def Ge(a1:Y)(a0:Xd):J->Y->Y->Y->Y->X X9
| 0,_,_,_,_=>V
| n+1,v2,v3,v4,v5=>
 if(decide (v2<(a0.Surges.length:Y))) then(
 (ix a0.Surges v2).bind fun x7=>
 if(decide (x7.From<=a1)) then(
  Ge a1 a0 n (zK .i64 (v2+(1:Y))) x7.From x7.Low x7.High)
 else(
  Ge a1 a0 n (zK .i64 (v2+(1:Y))) v3 v4 v5))
 else(
 O (⟨v3,v4,v5⟩:X9))
def JV(a0:Xd)(a1:Y):X X9:= (ix a0.Surges (0:Y)).bind fun x1=> Ge a1 a0 bigN (0:Y) x1.From x1.Low x1.High
def Pe(a1 v6:Y):X Y:= if(decide (v6<(zK .i64 (zE a1 (2:Y))))) then(
 if(zK .i64 ((zK .i64 (zE a1 (2:Y)))*(zK .i64 (zE a1 (2:Y)))))==0 then V else
 O (zK .i64 (zE (zK .i64 ((zK .i64 ((40000:Y)*v6))*(zK .i64 ((zK .i64 (zE a1 (2:Y))) - v6)))) (zK .i64 ((zK .i64 (zE a1 (2:Y)))*(zK .i64 (zE a1 (2:Y)))))))) else(
 if(zK .i64 ((zK .i64 (zE a1 (2:Y)))*(zK .i64 (zE a1 (2:Y)))))==0 then V else
 O (zK .i64 (0 - (zK .i64 (zE (zK .i64 ((zK .i64 ((40000:Y)*(zK .i64 (v6 - (zK .i64 (zE a1 (2:Y)))))))*(zK .i64 ((zK .i64 (zE a1 (2:Y))) - (zK .i64 (v6 - (zK .i64 (zE a1 (2:Y))))))))) (zK .i64 ((zK .i64 (zE a1 (2:Y)))*(zK .i64 (zE a1 (2:Y))))))))))
def Pd(a0 a1:Y):X Y:= if(decide (a1<(4:Y))) then(
 O (0:Y)) else(
 if(decide ((2880:Y)<a1)) then(
 O (0:Y))
 else(
 if((zK .i64 (zH a1 (4:Y))) !=(0:Y)) then(
  O (0:Y))
 else(
  if a1==0 then V else
  if(decide ((zK .i64 (zH a0 a1))<(0:Y))) then(
  Pe a1 (zK .i64 ((zK .i64 (zH a0 a1))+a1)))
  else(
  Pe a1 (zK .i64 (zH a0 a1))))))
def JU(a1:Y)(a0:Xm):J->Y->Y->X Y
| 0,_,_=>V
| n+1,v1,v2=>
 if(decide (v2<(a0.Parts.length:Y))) then(
 (ix a0.Parts v2).bind fun x4=>
 (Pd (zK .i64 (a1+x4.Phase)) x4.Period).bind fun r5=>
 JU a1 a0 n (zK .i64 (v1+(zK .i64 (zE (zK .i64 (x4.Amp*r5)) (10000:Y))))) (zK .i64 (v2+(1:Y))))
 else(
 O v1)
def M1(a0:Xm)(a1:Y):X Y:= JU a1 a0 bigN a0.Mean (0:Y)
def JW(v1:Y)(a0:W Z)(v2:W X6)(PY:Y->(W X6)->X (W X6))(v8:Z):X (W X6):= if v8 then(
 (ix v2 (zK .i64 ((v2.length:Y) - (1:Y)))).bind fun x10=>
 PY (zK .i64 (v1+(1:Y))) (v2.set (zB (zK .i64 ((v2.length:Y) - (1:Y)))) (⟨x10.From,v1⟩:X6))) else(
 if Ab v2.length ([(⟨v1,v1⟩:X6)]:W X6).length 16 then(
 PY (zK .i64 (v1+(1:Y))) (v2++([(⟨v1,v1⟩:X6)]:W X6)))
 else V)
def EZ(a0:W Z):J->Y->(W X6)->X (W X6)
| 0,_,_=>V
| n+1,v1,v2=>
 if(decide (v1<(a0.length:Y))) then(
 (ix a0 v1).bind fun x4=>
 if x4 then(
  if(decide ((0:Y)<(v2.length:Y))) then(
  (ix v2 (zK .i64 ((v2.length:Y) - (1:Y)))).bind fun x7=>
  JW v1 a0 v2 (EZ a0 n) (x7.To==(zK .i64 (v1 - (1:Y)))))
  else(
  JW v1 a0 v2 (EZ a0 n) E))
 else(
  EZ a0 n (zK .i64 (v1+(1:Y))) v2))
 else(
 O v2)
def Ph(a0:W Z):X (W X6):= EZ a0 bigN (0:Y) ([]:W X6)
def Pg(a1 v2:Y)(a0:Xd)(v3:W Z)(SD:Z->Y->(W Z)->X (W X6))(v7:Z)(v8:Y):X (W X6):= (M1 a0.Tide v2).bind fun r9=> if Ab v3.length ([(decide (a1<=(zK .i64 (r9+v8))))]:W Z).length 1 then(
 SD v7 (zK .i64 (v2+(1:Y))) (v3++([(decide (a1<=(zK .i64 (r9+v8))))]:W Z))) else V
def Hv(a1:Y)(a0:Xd):J->Z->Y->(W Z)->X (W X6)
| 0,_,_,_=>V
| n+1,v1,v2,v3=>
 if(decide (v2<=(2880:Y))) then(
 (JV a0 v2).bind fun r5=>
 if v1 then(
  Pg a1 v2 a0 v3 (Hv a1 a0 n) F r5.High)
 else(
  Pg a1 v2 a0 v3 (Hv a1 a0 n) E r5.Low))
 else(
 (Ph v3).bind fun r11=>
 O r11)
def Pf(a0:Xd)(a1:Y)(a2:Z):X (W X6):= Hv a1 a0 bigN a2 (0:Y) ([]:W Z)
def Gf(a0:X2)(a1:X5):X Y:= if a1.Slow then(
 O (zK .i64 ((2:Y)*a0.Minutes))) else(
 O a0.Minutes)
def LV(a0:X4)(a1:Y)(a2:X5):X Y:= (Dq a0).bind fun r1=> if r1 then(
 (DG a2).bind fun r3=>
 if r3 then(
 (Ay a1 (0:Y) (zK .i64 ((a0.Segments.length:Y) - (1:Y)))).bind fun r5=>
 if r5 then(
  (ix a0.Segments a1).bind fun x7=>
  (Gf x7 a2).bind fun r9=>
  O r9)
 else(
  O (0:Y)))
 else(
 O (0:Y))) else(
 O (0:Y))
def Gd(a0:W X6):J->Y->X Z
| 0,_=>V
| n+1,v1=>
 if(decide (v1<(a0.length:Y))) then(
 (ix a0 v1).bind fun x3=>
 (Ay x3.From (0:Y) (2880:Y)).bind fun r4=>
 if r4 then(
  (Ay x3.To x3.From (2880:Y)).bind fun r6=>
  if r6 then(
  if(decide ((0:Y)<v1)) then(
   (ix a0 (zK .i64 (v1 - (1:Y)))).bind fun x9=>
   if(decide (x3.From<=(zK .i64 (x9.To+(1:Y))))) then(
   O E)
   else(
   Gd a0 n (zK .i64 (v1+(1:Y)))))
  else(
   Gd a0 n (zK .i64 (v1+(1:Y)))))
  else(
  O E))
 else(
  O E))
 else(
 O F)
def M0(a0:W X6):X Z:= Gd a0 bigN (0:Y)
def Gc(a1:Y)(a0:W X6):J->Y->(W X6)->X (W X6)
| 0,_,_=>V
| n+1,v5,v6=>
 if(decide (v5<(a0.length:Y))) then(
 (ix a0 v5).bind fun x8=>
 if(decide (a1<=(zK .i64 (x8.To - x8.From)))) then(
  if Ab v6.length ([(⟨x8.From,(zK .i64 (x8.To - a1))⟩:X6)]:W X6).length 16 then(
  Gc a1 a0 n (zK .i64 (v5+(1:Y))) (v6++([(⟨x8.From,(zK .i64 (x8.To - a1))⟩:X6)]:W X6)))
  else V)
 else(
  Gc a1 a0 n (zK .i64 (v5+(1:Y))) v6))
 else(
 O v6)
def RP(a0:W X6)(a1:Y):X (W X6):= (M0 a0).bind fun r1=> if r1 then(
 (Ay a1 (0:Y) (2880:Y)).bind fun r3=>
 if r3 then(
 Gc a1 a0 bigN (0:Y) ([]:W X6))
 else(
 O ([]:W X6))) else(
 O ([]:W X6))
def RW(a0:Xd)(a1:X4)(a2:Y)(a3:X5)(a4:Z):X (W X6):= (JE a0).bind fun r1=> if r1 then(
 (JZ a1 a2 a3).bind fun r3=>
 if r3 then(
 (OV a1 a2 a3).bind fun r5=>
 (Pf a0 r5 a4).bind fun r6=>
 (LV a1 a2 a3).bind fun r7=>
 (RP r6 r7).bind fun r9=>
 O r9)
 else(
 O ([]:W X6))) else(
 O ([]:W X6))
def Pa(a0:Xd)(a1:X4)(a2:Y)(a3:X5):X (W X6):= (RW a0 a1 a2 a3 E).bind fun r1=> O r1
def HB(a3:W Y)(a0:Xd)(a1:X4)(a2:X5):J->Y->(W (W X6))->X (W (W X6))
| 0,_,_=>V
| n+1,v1,v2=>
 if(decide (v1<(a3.length:Y))) then(
 (ix a3 v1).bind fun x4=>
 (Pa a0 a1 x4 a2).bind fun r5=>
 if Ab v2.length ([r5]:W (W X6)).length 24 then(
  HB a3 a0 a1 a2 n (zK .i64 (v1+(1:Y))) (v2++([r5]:W (W X6))))
 else V)
 else(
 O v2)
def Pk(a0:Xd)(a1:X4)(a2:X5)(a3:W Y):X (W (W X6)):= HB a3 a0 a1 a2 bigN (0:Y) ([]:W (W X6))
def JF(a1:Y)(a0:W X6):J->Y->X Z
| 0,_=>V
| n+1,v1=>
 if(decide (v1<(a0.length:Y))) then(
 (ix a0 v1).bind fun x3=>
 (Ay a1 x3.From x3.To).bind fun r4=>
 if r4 then(
  O F)
 else(
  JF a1 a0 n (zK .i64 (v1+(1:Y)))))
 else(
 O E)
def OP(a0:W X6)(a1:Y):X Z:= JF a1 a0 bigN (0:Y)
def JJ(a1:Y)(a0:W X6):J->Y->X Y
| 0,_=>V
| n+1,v3=>
 if(decide (v3<(a0.length:Y))) then(
 (ix a0 v3).bind fun x5=>
 if(decide (a1<=x5.To)) then(
  O (if x5.From<a1 then a1 else x5.From))
 else(
  JJ a1 a0 n (zK .i64 (v3+(1:Y)))))
 else(
 O (-1:Y))
def OW(a0:W X6)(a1:Y):X Y:= (M0 a0).bind fun r1=> if r1 then(
 JJ a1 a0 bigN (0:Y)) else(
 O (-1:Y))
def K1(a2 a3:W Y)(a4:W (W X6))(v4 r12:Y)(a0:X4)(a1:X5)(v5:W Y)(SF:Y->(W Y)->X ((W Y) × Z))(v17:Z):X ((W Y) × Z):= if v17 then(
 O (([]:W Y),E)) else(
 if Ab v5.length ([r12]:W Y).length 8 then(
 SF (zK .i64 (v4+(1:Y))) (v5++([r12]:W Y)))
 else V)
def F0(a2 a3:W Y)(a4:W (W X6))(a0:X4)(a1:X5):J->Y->(W Y)->X ((W Y) × Z)
| 0,_,_=>V
| n+1,v4,v5=>
 if(decide (v4<(a3.length:Y))) then(
 (ix v5 (zK .i64 (v4 - (1:Y)))).bind fun x7=>
 (ix a3 (zK .i64 (v4 - (1:Y)))).bind fun x8=>
 (ix a0.Segments x8).bind fun x9=>
 (Gf x9 a1).bind fun r10=>
 (ix a4 v4).bind fun x11=>
 (OW x11 (zK .i64 (x7+r10))).bind fun r12=>
 if(decide (r12<(0:Y))) then(
  K1 a2 a3 a4 v4 r12 a0 a1 v5 (F0 a2 a3 a4 a0 a1 n) F)
 else(
  if(r12 !=(zK .i64 (x7+r10))) then(
  (ix a2 v4).bind fun x15=>
  (ix a0.Points x15).bind fun x16=>
  K1 a2 a3 a4 v4 r12 a0 a1 v5 (F0 a2 a3 a4 a0 a1 n) (!x16.Wait))
  else(
  K1 a2 a3 a4 v4 r12 a0 a1 v5 (F0 a2 a3 a4 a0 a1 n) E)))
 else(
 O (v5,F))
def K0(a0:X4)(a1:X5)(a2 a3:W Y)(a4:W (W X6))(a5:Y):X ((W Y) × Z):= (ix a4 (0:Y)).bind fun x1=> (OP x1 a5).bind fun r2=> if r2 then(
 F0 a2 a3 a4 a0 a1 bigN (1:Y) ([a5]:W Y)) else(
 O (([]:W Y),E))
def JQ(a3:Y)(a4:W Y)(a5:Y)(a0:Xd)(a1:X4)(a2:X5)(v7:Z):X ((W Y) × Z):= if v7 then(
 O (([]:W Y),E)) else(
 (Ek a1 a3 a4).bind fun r9=>
 (Pk a0 a1 a2 a4).bind fun r10=>
 (K0 a1 a2 r9 a4 r10 a5).bind fun r11=>
 O (r11.1,r11.2))
def P8(a0:Xd)(a1:X4)(a2:X5)(a3:Y)(a4:W Y)(a5:Y):X ((W Y) × Z):= (JE a0).bind fun r1=> if r1 then(
 (DG a2).bind fun r3=>
 if r3 then(
 (Ej a1 a3 a4).bind fun r5=>
 if r5 then(
  JQ a3 a4 a5 a0 a1 a2 ((a4.length:Y)==(0:Y)))
 else(
  JQ a3 a4 a5 a0 a1 a2 F))
 else(
 JQ a3 a4 a5 a0 a1 a2 F)) else(
 JQ a3 a4 a5 a0 a1 a2 F)
def JP(a1:W Y)(a0:X4):J->Y->Y->X Y
| 0,_,_=>V
| n+1,v3,v4=>
 if(decide (v4<(a1.length:Y))) then(
 (ix a1 v4).bind fun x6=>
 (Ay x6 (0:Y) (zK .i64 ((a0.Segments.length:Y) - (1:Y)))).bind fun r7=>
 if r7 then(
  (ix a0.Segments x6).bind fun x9=>
  JP a1 a0 n (zK .i64 (v3+x9.Minutes)) (zK .i64 (v4+(1:Y))))
 else(
  O (-1:Y)))
 else(
 O v3)
def Hu(a0:X4)(a1:W Y):X Y:= (Dq a0).bind fun r1=> if r1 then(
 JP a1 a0 bigN (0:Y) (0:Y)) else(
 O (-1:Y))
def OE(a0:X4)(a1:X5)(a2 a3:W Y):X Y:= (Hu a0 a2).bind fun r1=> if(decide (r1<(0:Y))) then(
 O (-1:Y)) else(
 (DG a1).bind fun r3=>
 if r3 then(
 if((a2.length:Y) !=(a3.length:Y)) then(
  O (-1:Y))
 else(
  if((a2.length:Y)==(0:Y)) then(
  O (-1:Y))
  else(
  (ix a3 (zK .i64 ((a3.length:Y) - (1:Y)))).bind fun x7=>
  (Ay x7 (0:Y) (2880:Y)).bind fun r9=>
  if r9 then(
   (ix a2 (zK .i64 ((a2.length:Y) - (1:Y)))).bind fun x11=>
   (ix a0.Segments x11).bind fun x12=>
   (Gf x12 a1).bind fun r13=>
   O (zK .i64 (x7+r13)))
  else(
   O (-1:Y)))))
 else(
 O (-1:Y)))
def JL(a1:Y)(a5 a4:W Y)(a0:X4)(a2:X5)(r6:(W Y)):J->Y->(W X1)->X (W X1)
| 0,_,_=>V
| n+1,v7,v8=>
 if(decide (v7<(a4.length:Y))) then(
 (ix a4 v7).bind fun x10=>
 (ix a5 v7).bind fun x11=>
 (Ay x11 (0:Y) (2880:Y)).bind fun r12=>
 if r12 then(
  (ix a0.Segments x10).bind fun x14=>
  (ix r6 v7).bind fun x15=>
  (Gf x14 a2).bind fun r16=>
  if Ab v8.length ([(⟨a1,x10,(x14.A==x15),x11,(zK .i64 (x11+r16))⟩:X1)]:W X1).length 40 then(
  JL a1 a5 a4 a0 a2 r6 n (zK .i64 (v7+(1:Y))) (v8++([(⟨a1,x10,(x14.A==x15),x11,(zK .i64 (x11+r16))⟩:X1)]:W X1)))
  else V)
 else(
  O ([]:W X1)))
 else(
 O v8)
def P1(a0:X4)(a1:Y)(a2:X5)(a3:Y)(a4 a5:W Y):X (W X1):= (Ej a0 a3 a4).bind fun r1=> if r1 then(
 (DG a2).bind fun r3=>
 if r3 then(
 if((a4.length:Y) !=(a5.length:Y)) then(
  O ([]:W X1))
 else(
  (Ek a0 a3 a4).bind fun r6=>
  JL a1 a5 a4 a0 a2 r6 bigN (0:Y) ([]:W X1)))
 else(
 O ([]:W X1))) else(
 O ([]:W X1))
def HH(a2:W Y)(a0:X3)(x1:X5)(x2 r3:Y)(r4:(W X1)):J->Y->Y->X (X0 × Z)
| 0,_,_=>V
| n+1,v5,v6=>
 if(decide (v5<(a2.length:Y))) then(
 (ix a2 v5).bind fun x8=>
 (ix a0.Chart.Segments x8).bind fun x9=>
 (Gf x9 x1).bind fun r10=>
 HH a2 a0 x1 x2 r3 r4 n (zK .i64 (v5+(1:Y))) (zK .i64 (v6 - r10)))
 else(
 O ((⟨x2,r3,v6,r4⟩:X0),(decide (r3<=(2880:Y)))))
def M5(a0:X3)(a1:X8)(a2 a3:W Y):X (X0 × Z):= (ix a0.Fleet a1.Ship).bind fun x1=> (ix a3 (0:Y)).bind fun x2=> (OE a0.Chart x1 a2 a3).bind fun r3=> (P1 a0.Chart a1.Ship x1 a1.From a2 a3).bind fun r4=> HH a2 a0 x1 x2 r3 r4 bigN (0:Y) (zK .i64 (r3 - a1.Ready))
def Hr(a2:W Y)(a3:Y)(a0:X3)(a1:X8)(v6:Z):X (X0 × Z):= if v6 then(
 O ((⟨(0:Y),(0:Y),(0:Y),([]:W X1)⟩:X0),E)) else(
 (ix a0.Fleet a1.Ship).bind fun x8=>
 (P8 a0.Forecast a0.Chart x8 a1.From a2 a3).bind fun r9=>
 if r9.2 then(
 (M5 a0 a1 a2 r9.1).bind fun r11=>
 if r11.2 then(
  O (r11.1,F))
 else(
  O ((⟨(0:Y),(0:Y),(0:Y),([]:W X1)⟩:X0),E)))
 else(
 O ((⟨(0:Y),(0:Y),(0:Y),([]:W X1)⟩:X0),E)))
def LW(a0:X3)(a1:X8)(a2:W Y)(a3:Y):X (X0 × Z):= (G7 a0 a1).bind fun r1=> if r1 then(
 (Ay a3 a1.Ready a1.Due).bind fun r3=>
 if r3 then(
 (RZ a0 a1 a2).bind fun r5=>
 Hr a2 a3 a0 a1 (!r5))
 else(
 Hr a2 a3 a0 a1 F)) else(
 Hr a2 a3 a0 a1 F)
def JR(a0 a1:X0):J->Y->X Z
| 0,_=>V
| n+1,v5=>
 if(decide (v5<(a0.Passages.length:Y))) then(
 (ix a0.Passages v5).bind fun x7=>
 (ix a1.Passages v5).bind fun x8=>
 if((x7.Ship==x8.Ship)&&((x7.Segment==x8.Segment)&&((x7.Toward==x8.Toward)&&((x7.Start==x8.Start)&&((x7.End==x8.End)&&F))))) then(
  JR a0 a1 n (zK .i64 (v5+(1:Y))))
 else(
  O E))
 else(
 O F)
def EY(a0 a1:X0):X Z:= if(a0.Start !=a1.Start) then(
 O E) else(
 if(a0.Arrival !=a1.Arrival) then(
 O E)
 else(
 if(a0.Cost !=a1.Cost) then(
  O E)
 else(
  if((a0.Passages.length:Y) !=(a1.Passages.length:Y)) then(
  O E)
  else(
  JR a0 a1 bigN (0:Y)))))
def JG(a2:X0)(a0:X3)(a1:X8):J->Y->(W Y)->X Z
| 0,_,_=>V
| n+1,v3,v4=>
 if(decide (v3<(a2.Passages.length:Y))) then(
 (ix a2.Passages v3).bind fun x6=>
 if Ab v4.length ([x6.Segment]:W Y).length 8 then(
  JG a2 a0 a1 n (zK .i64 (v3+(1:Y))) (v4++([x6.Segment]:W Y)))
 else V)
 else(
 (LW a0 a1 v4 a2.Start).bind fun r9=>
 if r9.2 then(
  (EY r9.1 a2).bind fun r11=>
  O r11)
 else(
  O E))
def LU(a0:X3)(a1:X8)(a2:X0):X Z:= (G7 a0 a1).bind fun r1=> if r1 then(
 JG a2 a0 a1 bigN (0:Y) ([]:W Y)) else(
 O E)
def Pp(a0:X0):X X0:= if Ab ([]:W X1).length a0.Passages.length 40 then(
 O a0) else V
def JY(rec_:X4->(W Y)->(W Y)->Y->(W (W Y))->X (W (W Y)))(a1 a2:W Y)(a3 x1:Y)(v5 r9:Y)(a0:X4)(v6:W (W Y))(PZ:Y->(W (W Y))->X (W (W Y)))(v12:Z):X (W (W Y)):= if v12 then(
 if Ab ([]:W Y).length a1.length 8 then(
 if Ab a1.length ([r9]:W Y).length 8 then(
  if Ab ([]:W Y).length a2.length 8 then(
  if Ab a2.length ([v5]:W Y).length 8 then(
   (rec_ a0 (a1++([r9]:W Y)) (a2++([v5]:W Y)) a3 v6).bind fun r18=>
   PZ (zK .i64 (v5+(1:Y))) r18)
  else V)
  else V)
 else V)
 else V) else(
 PZ (zK .i64 (v5+(1:Y))) v6)
def Hz(rec_:X4->(W Y)->(W Y)->Y->(W (W Y))->X (W (W Y)))(a1 a2:W Y)(a3 x1:Y)(a0:X4):J->Y->(W (W Y))->X (W (W Y))
| 0,_,_=>V
| n+1,v5,v6=>
 if(decide (v5<(a0.Segments.length:Y))) then(
 (ix a0.Segments v5).bind fun x8=>
 (Pj x8 x1).bind fun r9=>
 if(decide ((0:Y)<=r9)) then(
  (M2 a1 r9).bind fun r11=>
  JY rec_ a1 a2 a3 x1 v5 r9 a0 v6 (Hz rec_ a1 a2 a3 x1 a0 n) (!r11))
 else(
  JY rec_ a1 a2 a3 x1 v5 r9 a0 v6 (Hz rec_ a1 a2 a3 x1 a0 n) E))
 else(
 O v6)
def RU(rec_:X4->(W Y)->(W Y)->Y->(W (W Y))->X (W (W Y)))(a0:X4)(a1 a2:W Y)(a3:Y)(a4:W (W Y)):X (W (W Y)):= (ix a1 (zK .i64 ((a1.length:Y) - (1:Y)))).bind fun x1=> if(x1==a3) then(
 if Ab ([]:W Y).length a2.length 8 then(
 if Ab a4.length ([a2]:W (W Y)).length 24 then(
  O (a4++([a2]:W (W Y))))
 else V)
 else V) else(
 Hz rec_ a1 a2 a3 x1 a0 bigN (0:Y) a4)
def HA:J->X4->(W Y)->(W Y)->Y->(W (W Y))->X (W (W Y))
| 0,_,_,_,_,_=>V
| n+1,a0,a1,a2,a3,a4=>RU (HA n) a0 a1 a2 a3 a4
def Uc(a0:X4)(a1 a2:W Y)(a3:Y)(a4:W (W Y)):X (W (W Y)):=HA bigN a0 a1 a2 a3 a4
def P7(a0:X4)(a1 a2:Y):X (W (W Y)):= (Dq a0).bind fun r1=> if r1 then(
 (Ay a1 (0:Y) (zK .i64 ((a0.Points.length:Y) - (1:Y)))).bind fun r3=>
 if r3 then(
 (Ay a2 (0:Y) (zK .i64 ((a0.Points.length:Y) - (1:Y)))).bind fun r5=>
 if r5 then(
  (Uc a0 ([a1]:W Y) ([]:W Y) a2 ([]:W (W Y))).bind fun r7=>
  O r7)
 else(
  O ([]:W (W Y))))
 else(
 O ([]:W (W Y)))) else(
 O ([]:W (W Y)))
def LK(v2 x6:W Y)(r1:(W (W Y)))(v4:Y)(a0:X4)(PT:(W Y)->Z->Y->X ((W Y) × Z))(v11 v12:Z):X ((W Y) × Z):= if v12 then(
 PT x6 F (zK .i64 (v4+(1:Y)))) else(
 PT v2 v11 (zK .i64 (v4+(1:Y))))
def G6(r1:(W (W Y)))(a0:X4):J->(W Y)->Z->Y->X ((W Y) × Z)
| 0,_,_,_=>V
| n+1,v2,v3,v4=>
 if(decide (v4<(r1.length:Y))) then(
 (ix r1 v4).bind fun x6=>
 if v3 then(
  (Hu a0 x6).bind fun r9=>
  (Hu a0 v2).bind fun r10=>
  LK v2 x6 r1 v4 a0 (G6 r1 a0 n) F (decide (r9<r10)))
 else(
  LK v2 x6 r1 v4 a0 (G6 r1 a0 n) E F))
 else(
 if v3 then(
  O (v2,F))
 else(
  O (([]:W Y),E)))
def OF(a0:X4)(a1 a2:Y):X ((W Y) × Z):= (P7 a0 a1 a2).bind fun r1=> G6 r1 a0 bigN ([]:W Y) E (0:Y)
def JK(r3:(W Y) × Z)(v8:Y)(a0:X3)(a1:X8)(x5:X5)(r6:(W (W X6)))(r7:(W Y))(SC:Y->(W X0)->X (W X0))(v17:W X0):X (W X0):= SC (zK .i64 (v8+(15:Y))) v17
def Gb(r3:(W Y) × Z)(a0:X3)(a1:X8)(x5:X5)(r6:(W (W X6)))(r7:(W Y)):J->Y->(W X0)->X (W X0)
| 0,_,_=>V
| n+1,v8,v9=>
 if(decide (v8<=a1.Due)) then(
 if(decide ((v9.length:Y)<(8:Y))) then(
  (K0 a0.Chart x5 r7 r3.1 r6 v8).bind fun r12=>
  if r12.2 then(
  (M5 a0 a1 r3.1 r12.1).bind fun r14=>
  if r14.2 then(
   if Ab v9.length ([r14.1]:W X0).length 48 then(
   JK r3 v8 a0 a1 x5 r6 r7 (Gb r3 a0 a1 x5 r6 r7 n) (v9++([r14.1]:W X0)))
   else V)
  else(
   JK r3 v8 a0 a1 x5 r6 r7 (Gb r3 a0 a1 x5 r6 r7 n) v9))
  else(
  JK r3 v8 a0 a1 x5 r6 r7 (Gb r3 a0 a1 x5 r6 r7 n) v9))
 else(
  O v9))
 else(
 O v9)
def OZ(a0:X3)(a1:X8):X (W X0):= (G7 a0 a1).bind fun r1=> if r1 then(
 (OF a0.Chart a1.From a1.To).bind fun r3=>
 if r3.2 then(
 (ix a0.Fleet a1.Ship).bind fun x5=>
 (Pk a0.Forecast a0.Chart x5 r3.1).bind fun r6=>
 (Ek a0.Chart a1.From r3.1).bind fun r7=>
 Gb r3 a0 a1 x5 r6 r7 bigN a1.Ready ([]:W X0))
 else(
 O ([]:W X0))) else(
 O ([]:W X0))
def G9(r9:(W X0))(a2:X0):J->Y->(W X0)->X (W X0)
| 0,_,_=>V
| n+1,v10,v11=>
 if(decide (v10<(r9.length:Y))) then(
 (ix r9 v10).bind fun x13=>
 (EY x13 a2).bind fun r14=>
 if r14 then(
  G9 r9 a2 n (zK .i64 (v10+(1:Y))) v11)
 else(
  if Ab v11.length ([x13]:W X0).length 48 then(
  G9 r9 a2 n (zK .i64 (v10+(1:Y))) (v11++([x13]:W X0)))
  else V))
 else(
 O v11)
def OK(a0:X3)(a1:X8)(a2:X0)(v7:W X0):X (W X0):= (OZ a0 a1).bind fun r9=> G9 r9 a2 bigN (0:Y) v7
def Hk(a0:X3)(a1:X8)(a2:X0):X (W X0):= (G7 a0 a1).bind fun r1=> if r1 then(
 (LU a0 a1 a2).bind fun r3=>
 if r3 then(
 (Pp a2).bind fun r5=>
 if Ab ([]:W X0).length ([r5]:W X0).length 48 then(
  OK a0 a1 a2 ([r5]:W X0))
 else V)
 else(
 OK a0 a1 a2 ([]:W X0))) else(
 O ([]:W X0))
def P6(a0 a1:X0):X Y:= (EY a0 a1).bind fun r1=> if r1 then(
 O (0:Y)) else(
 O (zK .i64 ((zK .i64 ((60:Y)+(if a0.Start<a1.Start then a1.Start else a0.Start))) - (if a1.Start<a0.Start then a1.Start else a0.Start))))
def Gl(a2:W X0)(v1:Y)(a1:W X8)(r6:(W X0))(a0:X3)(v2:W (W X0))(Q4:Y->(W (W X0))->X (W (W X0))):J->Y->(W X0)->X (W (W X0))
| 0,_,_=>V
| n+1,v7,v8=>
 if(decide (v7<(r6.length:Y))) then(
 (ix a2 v1).bind fun x10=>
 (ix v8 v7).bind fun x11=>
 (P6 x10 x11).bind fun r12=>
 Gl a2 v1 a1 r6 a0 v2 Q4 n (zK .i64 (v7+(1:Y))) (v8.set (zB v7) (⟨x11.Start,x11.Arrival,r12,x11.Passages⟩:X0)))
 else(
 if Ab v2.length ([v8]:W (W X0)).length 24 then(
  Q4 (zK .i64 (v1+(1:Y))) (v2++([v8]:W (W X0))))
 else V)
def K6(a2:W X0)(a1:W X8)(a0:X3):J->Y->(W (W X0))->X (W (W X0))
| 0,_,_=>V
| n+1,v1,v2=>
 if(decide (v1<(a1.length:Y))) then(
 (ix a1 v1).bind fun x4=>
 (ix a2 v1).bind fun x5=>
 (Hk a0 x4 x5).bind fun r6=>
 Gl a2 v1 a1 r6 a0 v2 (K6 a2 a1 a0 n) bigN (0:Y) r6)
 else(
 O v2)
def M7(a0:X3)(a1:W X8)(a2:W X0):X (W (W X0)):= K6 a2 a1 a0 bigN (0:Y) ([]:W (W X0))
def LX(a0 a1:X1):X Z:= O (decide ((if a0.Start<a1.Start then a1.Start else a0.Start)<(if a1.End<a0.End then a1.End else a0.End)))
def Pl(a2 v3 v4:Y):X Z:= O (decide ((zK .i64 (v4 - v3))<a2))
def M3(a0 a1 a2:Y):X Z:= if(decide ((if a1<a0 then a1 else a0)<(0:Y))) then(
 if(decide ((zK .i64 ((if a1<a0 then a1 else a0)+(9223372036854775807:Y)))<(if a0<a1 then a1 else a0))) then(
 O E)
 else(
 Pl a2 (if a1<a0 then a1 else a0) (if a0<a1 then a1 else a0))) else(
 Pl a2 (if a1<a0 then a1 else a0) (if a0<a1 then a1 else a0))
def OM(a0:X4)(a1:Xi)(a2 a3:X1):X Y:= (Dq a0).bind fun r1=> if r1 then(
 (JO a1).bind fun r3=>
 if r3 then(
 (Ay a2.Segment (0:Y) (zK .i64 ((a0.Segments.length:Y) - (1:Y)))).bind fun r5=>
 if r5 then(
  if(a2.Segment !=a3.Segment) then(
  O (0:Y))
  else(
  if(a2.Ship==a3.Ship) then(
   (LX a2 a3).bind fun r9=>
   if r9 then(
   O (1:Y))
   else(
   O (0:Y)))
  else(
   if(a2.Toward==a3.Toward) then(
   (M3 a2.Start a3.Start a1.Gap).bind fun r17=>
   if r17 then(
    O (3:Y))
   else(
    (M3 a2.End a3.End a1.Gap).bind fun r19=>
    if r19 then(
    O (3:Y))
    else(
    if(decide (a2.Start<a3.Start)) then(
     if(decide (a3.End<a2.End)) then(
     O (4:Y))
     else(
     if(decide (a3.Start<a2.Start)) then(
      if(decide (a2.End<a3.End)) then(
      O (4:Y))
      else(
      O (0:Y)))
     else(
      O (0:Y))))
    else(
     if(decide (a3.Start<a2.Start)) then(
     if(decide (a2.End<a3.End)) then(
      O (4:Y))
     else(
      O (0:Y)))
     else(
     O (0:Y))))))
   else(
   (LX a2 a3).bind fun r12=>
   if r12 then(
    if a1.NoMeet then(
    O (2:Y))
    else(
    (ix a0.Segments a2.Segment).bind fun x15=>
    if x15.Meet then(
     O (0:Y))
    else(
     O (2:Y))))
   else(
    O (0:Y))))))
 else(
  O (0:Y)))
 else(
 O (0:Y))) else(
 O (0:Y))
def Jz(a3 a2:W X1)(v1:Y)(a0:X4)(a1:Xi)(x3:X1)(PX:Y->X Z):J->Y->X Z
| 0,_=>V
| n+1,v4=>
 if(decide (v4<(a3.length:Y))) then(
 (ix a3 v4).bind fun x6=>
 (OM a0 a1 x3 x6).bind fun r7=>
 if(r7 !=(0:Y)) then(
  O F)
 else(
  Jz a3 a2 v1 a0 a1 x3 PX n (zK .i64 (v4+(1:Y)))))
 else(
 PX (zK .i64 (v1+(1:Y))))
def Ga(a3 a2:W X1)(a0:X4)(a1:Xi):J->Y->X Z
| 0,_=>V
| n+1,v1=>
 if(decide (v1<(a2.length:Y))) then(
 (ix a2 v1).bind fun x3=>
 Jz a3 a2 v1 a0 a1 x3 (Ga a3 a2 a0 a1 n) bigN (0:Y))
 else(
 O E)
def OL(a0:X4)(a1:Xi)(a2 a3:W X1):X Z:= Ga a3 a2 a0 a1 bigN (0:Y)
def K5(a1:W (W X0))(x4 x8:W X0)(v1 v5 v9:Y)(a0:X3)(x12:X0)(v2:W (W (W (W Z))))(v6:W (W (W Z)))(v10:W (W Z))(Q3:Y->(W (W Z))->X (W (W (W (W Z))))):J->Y->(W Z)->X (W (W (W (W Z))))
| 0,_,_=>V
| n+1,v13,v14=>
 if(decide (v13<(x8.length:Y))) then(
 (ix x8 v13).bind fun x16=>
 (OL a0.Chart a0.Regime x12.Passages x16.Passages).bind fun r17=>
 if Ab v14.length ([r17]:W Z).length 1 then(
  K5 a1 x4 x8 v1 v5 v9 a0 x12 v2 v6 v10 Q3 n (zK .i64 (v13+(1:Y))) (v14++([r17]:W Z)))
 else V)
 else(
 if Ab v10.length ([v14]:W (W Z)).length 24 then(
  Q3 (zK .i64 (v9+(1:Y))) (v10++([v14]:W (W Z))))
 else V)
def Gk(a1:W (W X0))(x4 x8:W X0)(v1 v5:Y)(a0:X3)(v2:W (W (W (W Z))))(v6:W (W (W Z)))(Q2:Y->(W (W (W Z)))->X (W (W (W (W Z))))):J->Y->(W (W Z))->X (W (W (W (W Z))))
| 0,_,_=>V
| n+1,v9,v10=>
 if(decide (v9<(x4.length:Y))) then(
 (ix x4 v9).bind fun x12=>
 K5 a1 x4 x8 v1 v5 v9 a0 x12 v2 v6 v10 (Gk a1 x4 x8 v1 v5 a0 v2 v6 Q2 n) bigN (0:Y) ([]:W Z))
 else(
 if Ab v6.length ([v10]:W (W (W Z))).length 24 then(
  Q2 (zK .i64 (v5+(1:Y))) (v6++([v10]:W (W (W Z)))))
 else V)
def En(a1:W (W X0))(x4:W X0)(v1:Y)(a0:X3)(v2:W (W (W (W Z))))(Q1:Y->(W (W (W (W Z))))->X (W (W (W (W Z))))):J->Y->(W (W (W Z)))->X (W (W (W (W Z))))
| 0,_,_=>V
| n+1,v5,v6=>
 if(decide (v5<(a1.length:Y))) then(
 (ix a1 v5).bind fun x8=>
 Gk a1 x4 x8 v1 v5 a0 v2 v6 (En a1 x4 v1 a0 v2 Q1 n) bigN (0:Y) ([]:W (W Z)))
 else(
 if Ab v2.length ([v6]:W (W (W (W Z)))).length 24 then(
  Q1 (zK .i64 (v1+(1:Y))) (v2++([v6]:W (W (W (W Z))))))
 else V)
def Dr(a1:W (W X0))(a0:X3):J->Y->(W (W (W (W Z))))->X (W (W (W (W Z))))
| 0,_,_=>V
| n+1,v1,v2=>
 if(decide (v1<(a1.length:Y))) then(
 (ix a1 v1).bind fun x4=>
 En a1 x4 v1 a0 v2 (Dr a1 a0 n) bigN (0:Y) ([]:W (W (W Z))))
 else(
 O v2)
def Po(a0:X3)(a1:W (W X0)):X (W (W (W (W Z)))):= Dr a1 a0 bigN (0:Y) ([]:W (W (W (W Z))))
def OJ(a0:W X0)(v1 v2:Y)(PW:Y->Y->X Y)(v7:Z):X Y:= if v7 then(
 PW v2 (zK .i64 (v2+(1:Y)))) else(
 PW v1 (zK .i64 (v2+(1:Y))))
def G8(a0:W X0):J->Y->Y->X Y
| 0,_,_=>V
| n+1,v1,v2=>
 if(decide (v2<(a0.length:Y))) then(
 (ix a0 v2).bind fun x4=>
 if(decide (v1<(0:Y))) then(
  OJ a0 v1 v2 (G8 a0 n) F)
 else(
  (ix a0 v1).bind fun x6=>
  OJ a0 v1 v2 (G8 a0 n) (decide (x4.Cost<x6.Cost))))
 else(
 O v1)
def RM(a0:W X0):X Y:= G8 a0 bigN (-1:Y) (0:Y)
def Jv(a0:W X0):J->Y->(W (W X1))->X (W (W X1))
| 0,_,_=>V
| n+1,v1,v2=>
 if(decide (v1<(a0.length:Y))) then(
 (ix a0 v1).bind fun x4=>
 if Ab ([]:W X1).length x4.Passages.length 40 then(
  if Ab v2.length ([x4.Passages]:W (W X1)).length 24 then(
  Jv a0 n (zK .i64 (v1+(1:Y))) (v2++([x4.Passages]:W (W X1))))
  else V)
 else V)
 else(
 O v2)
def LO(a0:W X0):X (W (W X1)):= Jv a0 bigN (0:Y) ([]:W (W X1))
def LY(a0:X4)(a1:W X5)(a2:X1):X Z:= (Dq a0).bind fun r1=> if r1 then(
 (LP a1).bind fun r3=>
 if r3 then(
 (Ay a2.Ship (0:Y) (zK .i64 ((a1.length:Y) - (1:Y)))).bind fun r5=>
 if r5 then(
  (Ay a2.Segment (0:Y) (zK .i64 ((a0.Segments.length:Y) - (1:Y)))).bind fun r7=>
  if r7 then(
  (Ay a2.Start (0:Y) (2880:Y)).bind fun r9=>
  if r9 then(
   (ix a1 a2.Ship).bind fun x11=>
   (LV a0 a2.Segment x11).bind fun r12=>
   if(a2.End==(zK .i64 (a2.Start+r12))) then(
   O (decide (a2.End<=(2880:Y))))
   else(
   O E))
  else(
   O E))
  else(
  O E))
 else(
  O E))
 else(
 O E)) else(
 O E)
def Gg(a0:X4)(a1:X1):X (Y × Y):= (ix a0.Segments a1.Segment).bind fun x1=> if a1.Toward then(
 O (x1.A,x1.B)) else(
 O (x1.B,x1.A))
def HG(a1:W X5)(r7:Y × Y)(a2:W X1)(v1:Y)(a0:X4)(x4:X1)(Q0:Y->(W Xb)->X ((W Xb) × Z)):J->Y->(W Xb)->X ((W Xb) × Z)
| 0,_,_=>V
| n+1,v8,v9=>
 (ix a1 x4.Ship).bind fun x10=>
 if(decide (v8<x10.Tugs)) then(
 if Ab v9.length ([(⟨x4.Start,x4.End,r7.1,r7.2⟩:Xb)]:W Xb).length 32 then(
  HG a1 r7 a2 v1 a0 x4 Q0 n (zK .i64 (v8+(1:Y))) (v9++([(⟨x4.Start,x4.End,r7.1,r7.2⟩:Xb)]:W Xb)))
 else V)
 else(
 if(decide ((12:Y)<(v9.length:Y))) then(
  O (([]:W Xb),E))
 else(
  Q0 (zK .i64 (v1+(1:Y))) v9))
def Gj(a1:W X5)(a2:W X1)(a0:X4):J->Y->(W Xb)->X ((W Xb) × Z)
| 0,_,_=>V
| n+1,v1,v2=>
 if(decide (v1<(a2.length:Y))) then(
 (ix a2 v1).bind fun x4=>
 (LY a0 a1 x4).bind fun r5=>
 if r5 then(
  (Gg a0 x4).bind fun r7=>
  HG a1 r7 a2 v1 a0 x4 (Gj a1 a2 a0 n) bigN (0:Y) v2)
 else(
  O (([]:W Xb),E)))
 else(
 O (v2,F))
def RY(a0:X4)(a1:W X5)(a2:W X1):X ((W Xb) × Z):= Gj a1 a2 a0 bigN (0:Y) ([]:W Xb)
def K3(a0:Xb):X Z:= (Ay a0.From (0:Y) (2880:Y)).bind fun r1=> if r1 then(
 if(decide (a0.From<a0.To)) then(
 if(decide (a0.To<=(2880:Y))) then(
  (Ay a0.A (0:Y) (7:Y)).bind fun r5=>
  if r5 then(
  (Ay a0.B (0:Y) (7:Y)).bind fun r7=>
  O r7)
  else(
  O E))
 else(
  O E))
 else(
 O E)) else(
 O E)
def JC(a0:W Xb):J->Y->X Z
| 0,_=>V
| n+1,v2=>
 if(decide (v2<(a0.length:Y))) then(
 (ix a0 v2).bind fun x4=>
 (K3 x4).bind fun r5=>
 if r5 then(
  JC a0 n (zK .i64 (v2+(1:Y))))
 else(
  O E))
 else(
 O F)
def OO(a0:W Xb):X Z:= if(decide ((12:Y)<(a0.length:Y))) then(
 O E) else(
 JC a0 bigN (0:Y))
def LQ(a0:Y)(a1:W Y)(a2 a3:Xb)(v6:Z):X (Y × Z):= if v6 then(
 O ((0:Y),E)) else(
 (ix a1 (zK .i64 ((zK .i64 (a2.B*(8:Y)))+a3.A))).bind fun x8=>
 O ((zK .i64 (a0+x8)),F))
def RN(a0:Y)(a1:W Y)(a2 a3:Xb):X (Y × Z):= (HE a0 a1).bind fun r1=> if r1 then(
 (Ay a2.B (0:Y) (7:Y)).bind fun r3=>
 if r3 then(
 (Ay a3.A (0:Y) (7:Y)).bind fun r5=>
 LQ a0 a1 a2 a3 (!r5))
 else(
 LQ a0 a1 a2 a3 F)) else(
 LQ a0 a1 a2 a3 F)
def LN(a0:Y)(a1:W Y)(a2 a3:Xb):X Z:= (RN a0 a1 a2 a3).bind fun r1=> if r1.2 then(
 (K3 a2).bind fun r3=>
 if r3 then(
 (K3 a3).bind fun r5=>
 if r5 then(
  O (decide ((zK .i64 (a2.To+r1.1))<=a3.From)))
 else(
  O E))
 else(
 O E)) else(
 O E)
def HC(a0:Y)(a1:W Y)(a2:W Xb)(v1:Y)(x4:Xb)(v2:W (W Z))(Mq:Y->(W (W Z))->X (W (W Z))):J->Y->(W Z)->X (W (W Z))
| 0,_,_=>V
| n+1,v5,v6=>
 if(decide (v5<(a2.length:Y))) then(
 (ix a2 v5).bind fun x8=>
 (LN a0 a1 x4 x8).bind fun r9=>
 if r9 then(
  if Ab v6.length ([F]:W Z).length 1 then(
  HC a0 a1 a2 v1 x4 v2 Mq n (zK .i64 (v5+(1:Y))) (v6++([F]:W Z)))
  else V)
 else(
  (LN a0 a1 x8 x4).bind fun r12=>
  if Ab v6.length ([r12]:W Z).length 1 then(
  HC a0 a1 a2 v1 x4 v2 Mq n (zK .i64 (v5+(1:Y))) (v6++([r12]:W Z)))
  else V))
 else(
 if Ab v2.length ([v6]:W (W Z)).length 24 then(
  Mq (zK .i64 (v1+(1:Y))) (v2++([v6]:W (W Z))))
 else V)
def Gh(a0:Y)(a1:W Y)(a2:W Xb):J->Y->(W (W Z))->X (W (W Z))
| 0,_,_=>V
| n+1,v1,v2=>
 if(decide (v1<(a2.length:Y))) then(
 (ix a2 v1).bind fun x4=>
 HC a0 a1 a2 v1 x4 v2 (Gh a0 a1 a2 n) bigN (0:Y) ([]:W Z))
 else(
 O v2)
def Pm(a0:Y)(a1:W Y)(a2:W Xb):X (W (W Z)):= Gh a0 a1 a2 bigN (0:Y) ([]:W (W Z))
def M4(rec_:(W (W Z))->(W Y)->Y->X ((W Y) × Z))(a0:W (W Z))(a1:W Y)(a2 v2 v6:Y)(Dw:Y->X ((W Y) × Z)):X ((W Y) × Z):= Dw (zK .i64 (v6+(1:Y)))
def DH(rec_:(W (W Z))->(W Y)->Y->X ((W Y) × Z))(a0:W (W Z))(a1:W Y)(a2 v2 v6:Y)(Dw:Y->X ((W Y) × Z)):J->Z->Y->X ((W Y) × Z)
| 0,_,_=>V
| n+1,v9,v10=>
 if(decide (v10<(a1.length:Y))) then(
 (ix a1 v10).bind fun x12=>
 if(x12==v6) then(
  (ix a0 (a1.length:Y)).bind fun x14=>
  (ix x14 v10).bind fun x15=>
  if x15 then(
  DH rec_ a0 a1 a2 v2 v6 Dw n v9 (zK .i64 (v10+(1:Y))))
  else(
  DH rec_ a0 a1 a2 v2 v6 Dw n E (zK .i64 (v10+(1:Y)))))
 else(
  DH rec_ a0 a1 a2 v2 v6 Dw n v9 (zK .i64 (v10+(1:Y)))))
 else(
 if v9 then(
  if Ab ([]:W Y).length a1.length 8 then(
  if Ab a1.length ([v6]:W Y).length 8 then(
   (rec_ a0 (a1++([v6]:W Y)) a2).bind fun r20=>
   if r20.2 then(
   O (r20.1,F))
   else(
   M4 rec_ a0 a1 a2 v2 v6 Dw))
  else V)
  else V)
 else(
  M4 rec_ a0 a1 a2 v2 v6 Dw))
def Em(rec_:(W (W Z))->(W Y)->Y->X ((W Y) × Z))(a0:W (W Z))(a1:W Y)(a2 v2:Y):J->Y->X ((W Y) × Z)
| 0,_=>V
| n+1,v6=>
 if(decide (v6<=v2)) then(
 if(decide (v6<a2)) then(
  DH rec_ a0 a1 a2 v2 v6 (Em rec_ a0 a1 a2 v2 n) bigN F (0:Y))
 else(
  O (([]:W Y),E)))
 else(
 O (([]:W Y),E))
def HD(rec_:(W (W Z))->(W Y)->Y->X ((W Y) × Z))(a0:W (W Z))(a1:W Y)(a2:Y):J->Y->Y->X ((W Y) × Z)
| 0,_,_=>V
| n+1,v2,v3=>
 if(decide (v3<(a1.length:Y))) then(
 (ix a1 v3).bind fun x5=>
 HD rec_ a0 a1 a2 n (if v2<(zK .i64 (x5+(1:Y))) then(zK .i64 (x5+(1:Y))) else v2) (zK .i64 (v3+(1:Y))))
 else(
 Em rec_ a0 a1 a2 v2 bigN (0:Y))
def Pn(rec_:(W (W Z))->(W Y)->Y->X ((W Y) × Z))(a0:W (W Z))(a1:W Y)(a2:Y):X ((W Y) × Z):= if((a1.length:Y)==(a0.length:Y)) then(
 O (a1,F)) else(
 HD rec_ a0 a1 a2 bigN (0:Y) (0:Y))
def Cz:J->(W (W Z))->(W Y)->Y->X ((W Y) × Z)
| 0,_,_,_=>V
| n+1,a0,a1,a2=>Pn (Cz n) a0 a1 a2
def RX(a0:W (W Z))(a1:W Y)(a2:Y):X ((W Y) × Z):=Cz bigN a0 a1 a2
def JI(a2:W Xb)(r6:(W (W Z))):J->Y->X ((W Y) × Y × Z)
| 0,_=>V
| n+1,v7=>
 if(decide (v7<=(a2.length:Y))) then(
 (RX r6 ([]:W Y) v7).bind fun r9=>
 if r9.2 then(
  O (r9.1,v7,F))
 else(
  JI a2 r6 n (zK .i64 (v7+(1:Y)))))
 else(
 O (([]:W Y),(0:Y),E))
def OU(a0:Y)(a1:W Y)(a2:W Xb)(v4:Z):X ((W Y) × Y × Z):= if v4 then(
 O (([]:W Y),(0:Y),E)) else(
 (Pm a0 a1 a2).bind fun r6=>
 JI a2 r6 bigN (0:Y))
def JH(a0:Y)(a1:W Y)(a2:W Xb):X ((W Y) × Y × Z):= (OO a2).bind fun r1=> if r1 then(
 (HE a0 a1).bind fun r3=>
 OU a0 a1 a2 (!r3)) else(
 OU a0 a1 a2 F)
def LZ(a0:Xn)(a1:X4)(a2:W X5)(a3:W X1):X Y:= (RY a1 a2 a3).bind fun r1=> (JA a0).bind fun r2=> if r2 then(
 if r1.2 then(
 (JH (0:Y) a0.Moves r1.1).bind fun r5=>
 if r5.2.2 then(
  O r5.2.1)
 else(
  O (-1:Y)))
 else(
 O (-1:Y))) else(
 O (-1:Y))
def Hn(a1:W X1)(a0:X4):J->Y->X Z
| 0,_=>V
| n+1,v3=>
 if(decide (v3<(a1.length:Y))) then(
 (ix a1 v3).bind fun x5=>
 (ix a1 (0:Y)).bind fun x6=>
 if(x5.Ship !=x6.Ship) then(
  O E)
 else(
  (Ay x5.Segment (0:Y) (zK .i64 ((a0.Segments.length:Y) - (1:Y)))).bind fun r9=>
  if r9 then(
  if(v3==(0:Y)) then(
   Hn a1 a0 n (zK .i64 (v3+(1:Y))))
  else(
   (Gg a0 x5).bind fun r12=>
   (ix a1 (zK .i64 (v3 - (1:Y)))).bind fun x13=>
   (Gg a0 x13).bind fun r14=>
   if(r12.1 !=r14.2) then(
   O E)
   else(
   if(decide (x5.Start<x13.End)) then(
    O E)
   else(
    Hn a1 a0 n (zK .i64 (v3+(1:Y)))))))
  else(
  O E)))
 else(
 O F)
def OQ(a0:X4)(a1:W X1):X Z:= (Dq a0).bind fun r1=> if r1 then(
 Hn a1 a0 bigN (0:Y)) else(
 O E)
def JM(a1:W X5)(a2:W X1)(a0:X4):J->Y->X (Xb × Z)
| 0,_=>V
| n+1,v5=>
 if(decide (v5<(a2.length:Y))) then(
 (ix a2 v5).bind fun x7=>
 (LY a0 a1 x7).bind fun r9=>
 if r9 then(
  JM a1 a2 a0 n (zK .i64 (v5+(1:Y))))
 else(
  O ((⟨(0:Y),(0:Y),(0:Y),(0:Y)⟩:Xb),E)))
 else(
 (ix a2 (zK .i64 ((a2.length:Y) - (1:Y)))).bind fun x11=>
 (ix a2 (0:Y)).bind fun x12=>
 (Gg a0 x12).bind fun r13=>
 (Gg a0 x11).bind fun r14=>
 O ((⟨x12.Start,x11.End,r13.1,r14.2⟩:Xb),F))
def P3(a1:W X5)(a2:W X1)(a0:X4)(v3:Z):X (Xb × Z):= if v3 then(
 O ((⟨(0:Y),(0:Y),(0:Y),(0:Y)⟩:Xb),E)) else(
 JM a1 a2 a0 bigN (0:Y))
def P2(a0:X4)(a1:W X5)(a2:W X1):X (Xb × Z):= if((a2.length:Y)==(0:Y)) then(
 P3 a1 a2 a0 F) else(
 (OQ a0 a2).bind fun r2=>
 P3 a1 a2 a0 (!r2))
def Ht(a2:W X5)(a3:W (W X1))(a0:Xn)(a1:X4):J->Y->(W Xb)->X Y
| 0,_,_=>V
| n+1,v3,v4=>
 if(decide (v3<(a3.length:Y))) then(
 (ix a3 v3).bind fun x6=>
 if((x6.length:Y)==(0:Y)) then(
  Ht a2 a3 a0 a1 n (zK .i64 (v3+(1:Y))) v4)
 else(
  (P2 a1 a2 x6).bind fun r9=>
  if r9.2 then(
  if Ab v4.length ([r9.1]:W Xb).length 32 then(
   Ht a2 a3 a0 a1 n (zK .i64 (v3+(1:Y))) (v4++([r9.1]:W Xb)))
  else V)
  else(
  O (-1:Y))))
 else(
 (JH a0.Rest a0.Moves v4).bind fun r12=>
 if r12.2.2 then(
  O r12.2.1)
 else(
  O (-1:Y)))
def P4(a0:Xn)(a1:X4)(a2:W X5)(a3:W (W X1)):X Y:= (JA a0).bind fun r1=> if r1 then(
 Ht a2 a3 a0 a1 bigN (0:Y) ([]:W Xb)) else(
 O (-1:Y))
def JB(a2:W X5)(a3:W (W X1))(a0:Xn)(a1:X4):J->Y->(W X1)->X Z
| 0,_,_=>V
| n+1,v1,v2=>
 if(decide (v1<(a3.length:Y))) then(
 (ix a3 v1).bind fun x4=>
 if Ab v2.length x4.length 40 then(
  JB a2 a3 a0 a1 n (zK .i64 (v1+(1:Y))) (v2++x4))
 else V)
 else(
 (LZ a0 a1 a2 v2).bind fun r6=>
 (Ay r6 (0:Y) a0.Tugs).bind fun r7=>
 if r7 then(
  (P4 a0 a1 a2 a3).bind fun r9=>
  (Ay r9 (0:Y) a0.Pilots).bind fun r10=>
  O r10)
 else(
  O E))
def ON(a0:Xn)(a1:X4)(a2:W X5)(a3:W (W X1)):X Z:= JB a2 a3 a0 a1 bigN (0:Y) ([]:W X1)
def Ds(rec_:Xe->(W Y)->Y->X Xe)(a1:W Y)(a2:Y)(a0:Xe)(v4:Z):J->Y->(W X0)->X Xe
| 0,_,_=>V
| n+1,v6,v7=>
 if(decide (v6<(a1.length:Y))) then(
 (ix a1 v6).bind fun x9=>
 (ix a0.lists v6).bind fun x10=>
 (ix x10 x9).bind fun x11=>
 if Ab v7.length ([x11]:W X0).length 48 then(
  Ds rec_ a1 a2 a0 v4 n (zK .i64 (v6+(1:Y))) (v7++([x11]:W X0)))
 else V)
 else(
 (LO v7).bind fun r13=>
 (ON a0.h.Crew a0.h.Chart a0.h.Fleet r13).bind fun r14=>
 if r14 then(
  if Ab ([]:W Y).length a1.length 8 then(
  O (⟨a0.h,a0.lists,a0.clash,a0.rest,a1,a2,F⟩:Xe))
  else V)
 else(
  O (⟨a0.h,a0.lists,a0.clash,a0.rest,a0.best,a0.cost,v4⟩:Xe)))
def DI(rec_:Xe->(W Y)->Y->X Xe)(a1:W Y)(a2 v18:Y)(x17:W X0)(v19:Y)(v20:W Xc)(v21:W X9)(v22:W X7)(v23:W X2)(v24:W X5)(v25:Y)(v26:Z)(v27 v28 v29:Y)(v30:W Y)(v31:W (W X0))(v32:W (W (W (W Z))))(v33:W Y)(v34:Y)(v35:Z)(x38:X0)(v36:W Y)(Kg:Y->Y->(W Xc)->(W X9)->(W X7)->(W X2)->(W X5)->Y->Z->Y->Y->Y->(W Y)->(W (W X0))->(W (W (W (W Z))))->(W Y)->Y->Z->(W Y)->X Xe):J->Z->Y->X Xe
| 0,_,_=>V
| n+1,v39,v40=>
 if(decide (v40<(a1.length:Y))) then(
 (ix a1 v40).bind fun x42=>
 (ix v32 (a1.length:Y)).bind fun x43=>
 (ix x43 v40).bind fun x44=>
 (ix x44 v18).bind fun x45=>
 (ix x45 x42).bind fun x46=>
 if x46 then(
  DI rec_ a1 a2 v18 x17 v19 v20 v21 v22 v23 v24 v25 v26 v27 v28 v29 v30 v31 v32 v33 v34 v35 x38 v36 Kg n E (zK .i64 (v40+(1:Y))))
 else(
  DI rec_ a1 a2 v18 x17 v19 v20 v21 v22 v23 v24 v25 v26 v27 v28 v29 v30 v31 v32 v33 v34 v35 x38 v36 Kg n v39 (zK .i64 (v40+(1:Y)))))
 else(
 if v39 then(
  if Ab ([]:W Y).length a1.length 8 then(
  if Ab a1.length ([v18]:W Y).length 8 then(
   (rec_ (⟨(⟨(⟨(⟨v19,v20⟩:Xm),v21⟩:Xd),(⟨v22,v23⟩:X4),v24,(⟨v25,v26⟩:Xi),(⟨v27,v28,v29,v30⟩:Xn)⟩:X3),v31,v32,v33,v36,v34,v35⟩:Xe) (a1++([v18]:W Y)) (zK .i64 (a2+x38.Cost))).bind fun r51=>
   Kg (zK .i64 (v18+(1:Y))) r51.h.Forecast.Tide.Mean r51.h.Forecast.Tide.Parts r51.h.Forecast.Surges r51.h.Chart.Points r51.h.Chart.Segments r51.h.Fleet r51.h.Regime.Gap r51.h.Regime.NoMeet r51.h.Crew.Tugs r51.h.Crew.Pilots r51.h.Crew.Rest r51.h.Crew.Moves r51.lists r51.clash r51.rest r51.cost r51.found r51.best)
  else V)
  else V)
 else(
  Kg (zK .i64 (v18+(1:Y))) v19 v20 v21 v22 v23 v24 v25 v26 v27 v28 v29 v30 v31 v32 v33 v34 v35 v36))
def F1(rec_:Xe->(W Y)->Y->X Xe)(a1:W Y)(a2:Y)(x17:W X0):J->Y->Y->(W Xc)->(W X9)->(W X7)->(W X2)->(W X5)->Y->Z->Y->Y->Y->(W Y)->(W (W X0))->(W (W (W (W Z))))->(W Y)->Y->Z->(W Y)->X Xe
| 0,_,_,_,_,_,_,_,_,_,_,_,_,_,_,_,_,_,_,_=>V
| n+1,v18,v19,v20,v21,v22,v23,v24,v25,v26,v27,v28,v29,v30,v31,v32,v33,v34,v35,v36=>
 if(decide (v18<(x17.length:Y))) then(
 (ix x17 v18).bind fun x38=>
 DI rec_ a1 a2 v18 x17 v19 v20 v21 v22 v23 v24 v25 v26 v27 v28 v29 v30 v31 v32 v33 v34 v35 x38 v36 (F1 rec_ a1 a2 x17 n) bigN F (0:Y))
 else(
 O (⟨(⟨(⟨(⟨v19,v20⟩:Xm),v21⟩:Xd),(⟨v22,v23⟩:X4),v24,(⟨v25,v26⟩:Xi),(⟨v27,v28,v29,v30⟩:Xn)⟩:X3),v31,v32,v33,v36,v34,v35⟩:Xe))
def HI(rec_:Xe->(W Y)->Y->X Xe)(a1:W Y)(a2:Y)(a0:Xe)(v4:Z):X Xe:= if((a1.length:Y)==(a0.lists.length:Y)) then(
 Ds rec_ a1 a2 a0 v4 bigN (0:Y) ([]:W X0)) else(
 (ix a0.lists (a1.length:Y)).bind fun x17=>
 F1 rec_ a1 a2 x17 bigN (0:Y) a0.h.Forecast.Tide.Mean a0.h.Forecast.Tide.Parts a0.h.Forecast.Surges a0.h.Chart.Points a0.h.Chart.Segments a0.h.Fleet a0.h.Regime.Gap a0.h.Regime.NoMeet a0.h.Crew.Tugs a0.h.Crew.Pilots a0.h.Crew.Rest a0.h.Crew.Moves a0.lists a0.clash a0.rest a0.cost v4 a0.best)
def S0(rec_:Xe->(W Y)->Y->X Xe)(a0:Xe)(a1:W Y)(a2:Y):X Xe:= if a0.found then(
 (ix a0.rest (a1.length:Y)).bind fun x2=>
 if(decide (a0.cost<=(zK .i64 (a2+x2)))) then(
 O (⟨a0.h,a0.lists,a0.clash,a0.rest,a0.best,a0.cost,F⟩:Xe))
 else(
 HI rec_ a1 a2 a0 F)) else(
 HI rec_ a1 a2 a0 E)
def BW:J->Xe->(W Y)->Y->X Xe
| 0,_,_,_=>V
| n+1,a0,a1,a2=>S0 (BW n) a0 a1 a2
def Ud(a0:Xe)(a1:W Y)(a2:Y):X Xe:=BW bigN a0 a1 a2
def K4(a1:W (W X0))(a0:X3)(r1:(W (W (W (W Z))))):J->Y->(W Y)->X ((W Y) × Y × Z)
| 0,_,_=>V
| n+1,v3,v4=>
 if(decide ((0:Y)<=v3)) then(
 (ix a1 v3).bind fun x6=>
 (RM x6).bind fun r7=>
 if(decide (r7<(0:Y))) then(
  O (([]:W Y),(0:Y),E))
 else(
  (ix v4 (zK .i64 (v3+(1:Y)))).bind fun x9=>
  (ix x6 r7).bind fun x10=>
  (ix v4 v3).bind fun x11=>
  K4 a1 a0 r1 n (zK .i64 (v3 - (1:Y))) (v4.set (zB v3) (zK .i64 (x9+x10.Cost)))))
 else(
 (Ud (⟨a0,a1,r1,v4,([]:W Y),(0:Y),E⟩:Xe) ([]:W Y) (0:Y)).bind fun r12=>
 if r12.found then(
  O (r12.best,r12.cost,F))
 else(
  O (([]:W Y),(0:Y),E)))
def M6(a0:X3)(a1:W (W X0)):X ((W Y) × Y × Z):= (Po a0 a1).bind fun r1=> (BB (zK .i64 ((a1.length:Y)+(1:Y))) (zK .i64 ((a1.length:Y)+(1:Y))) 8).bind fun n2=> K4 a1 a0 r1 bigN (zK .i64 ((a1.length:Y) - (1:Y))) (zF n2 (0:Y))
def Jw(a2:W X0)(r12:(W Y) × Y × Z)(a1:W X8)(a0:X3):J->Y->(W X0)->X ((W X0) × Y × Z)
| 0,_,_=>V
| n+1,v14,v15=>
 if(decide (v14<(a1.length:Y))) then(
 (ix a1 v14).bind fun x17=>
 (ix a2 v14).bind fun x18=>
 (Hk a0 x17 x18).bind fun r19=>
 (ix r12.1 v14).bind fun x20=>
 (ix r19 x20).bind fun x21=>
 if Ab v15.length ([x21]:W X0).length 48 then(
  Jw a2 r12 a1 a0 n (zK .i64 (v14+(1:Y))) (v15++([x21]:W X0)))
 else V)
 else(
 O (v15,r12.2.1,F))
def Hj(a1:W X8)(a2:W X0)(a0:X3):J->Y->X ((W X0) × Y × Z)
| 0,_=>V
| n+1,v5=>
 if(decide (v5<(a2.length:Y))) then(
 (ix a2 v5).bind fun x7=>
 (Ay x7.Start (0:Y) (2880:Y)).bind fun r9=>
 if r9 then(
  Hj a1 a2 a0 n (zK .i64 (v5+(1:Y))))
 else(
  O (([]:W X0),(0:Y),E)))
 else(
 (M7 a0 a1 a2).bind fun r11=>
 (M6 a0 r11).bind fun r12=>
 if r12.2.2 then(
  Jw a2 r12 a1 a0 bigN (0:Y) ([]:W X0))
 else(
  O (([]:W X0),(0:Y),E)))
def OI(a1:W X8)(a2:W X0)(a0:X3)(v3:Z):X ((W X0) × Y × Z):= if v3 then(
 O (([]:W X0),(0:Y),E)) else(
 Hj a1 a2 a0 bigN (0:Y))
def OH(a0:X3)(a1:W X8)(a2:W X0):X ((W X0) × Y × Z):= (OG a0 a1).bind fun r1=> if r1 then(
 OI a1 a2 a0 ((a2.length:Y) !=(a1.length:Y))) else(
 OI a1 a2 a0 F)
def BK(a0 a1 a2:Y):X Z:= if(decide (a1<=a0)) then(
 O (decide (a0<=a2))) else(
 O E)
def Lo(a0:Y):X Z:= (BK a0 (4:Y) (2880:Y)).bind fun r1=> if r1 then(
 O ((zK .i64 (zH a0 (4:Y)))==(0:Y))) else(
 O E)
def Nq(a0:Xc):X Z:= (BK a0.Amp (0:Y) (1000:Y)).bind fun r1=> if r1 then(
 (Lo a0.Period).bind fun r3=>
 if r3 then(
 (BK a0.Phase (0:Y) (zK .i64 (a0.Period - (1:Y)))).bind fun r5=>
 O r5)
 else(
 O E)) else(
 O E)
def IS(a0:Xm):J->Y->X Z
| 0,_=>V
| n+1,v4=>
 if(decide (v4<(a0.Parts.length:Y))) then(
 (ix a0.Parts v4).bind fun x6=>
 (Nq x6).bind fun r7=>
 if r7 then(
  IS a0 n (zK .i64 (v4+(1:Y))))
 else(
  O E))
 else(
 O F)
def NA(a0:Xm):X Z:= (BK a0.Mean (-1000:Y) (1000:Y)).bind fun r1=> if r1 then(
 if(decide ((4:Y)<(a0.Parts.length:Y))) then(
 O E)
 else(
 IS a0 bigN (0:Y))) else(
 O E)
def CP(a0:Y):X Z:= (BK a0 (0:Y) (2880:Y)).bind fun r1=> O r1
def Nz(a0:X9):X Z:= (CP a0.From).bind fun r1=> if r1 then(
 if(decide ((-500:Y)<=a0.Low)) then(
 if(decide (a0.Low<=a0.High)) then(
  O (decide (a0.High<=(500:Y))))
 else(
  O E))
 else(
 O E)) else(
 O E)
def H3(a0:Xd):J->Y->X Z
| 0,_=>V
| n+1,v7=>
 if(decide (v7<(a0.Surges.length:Y))) then(
 (ix a0.Surges v7).bind fun x9=>
 (Nz x9).bind fun r10=>
 if r10 then(
  if(decide ((0:Y)<v7)) then(
  (ix a0.Surges (zK .i64 (v7 - (1:Y)))).bind fun x13=>
  if(decide (x9.From<=x13.From)) then(
   O E)
  else(
   H3 a0 n (zK .i64 (v7+(1:Y)))))
  else(
  H3 a0 n (zK .i64 (v7+(1:Y)))))
 else(
  O E))
 else(
 O F)
def H2(a0:Xd):X Z:= (NA a0.Tide).bind fun r1=> if r1 then(
 (BK (a0.Surges.length:Y) (1:Y) (6:Y)).bind fun r3=>
 if r3 then(
 (ix a0.Surges (0:Y)).bind fun x5=>
 if(x5.From !=(0:Y)) then(
  O E)
 else(
  H3 a0 bigN (0:Y)))
 else(
 O E)) else(
 O E)
def Ni(a0:W zA)(v3:Y)(F5:Y->X Z):X Z:= F5 (zK .i64 (v3+(1:Y)))
def Nh(a0:W zA)(v3:Y)(F5:Y->X Z)(v7:Z):X Z:= if v7 then(
 Ni a0 v3 F5) else(
 if(v3==(0:Y)) then(
 O E)
 else(
 (ix a0 v3).bind fun b10=>
 if(decide ((b10.toNat:Y)<(48:Y))) then(
  O E)
 else(
  if(decide ((57:Y)<(b10.toNat:Y))) then(
  O E)
  else(
  Ni a0 v3 F5))))
def H4(a0:W zA):J->Y->X Z
| 0,_=>V
| n+1,v3=>
 if(decide (v3<(a0.length:Y))) then(
 (ix a0 v3).bind fun b5=>
 if(decide ((97:Y)<=(b5.toNat:Y))) then(
  Nh a0 v3 (H4 a0 n) (decide ((b5.toNat:Y)<=(122:Y))))
 else(
  Nh a0 v3 (H4 a0 n) E))
 else(
 O F)
def La(a0:W zA):X Z:= (BK (a0.length:Y) (1:Y) (8:Y)).bind fun r1=> if r1 then(
 H4 a0 bigN (0:Y)) else(
 O E)
def IP(a1:W zA)(a0:X4):J->Y->X Y
| 0,_=>V
| n+1,v1=>
 if(decide (v1<(a0.Points.length:Y))) then(
 (ix a0.Points v1).bind fun x3=>
 if(x3.Name==a1) then(
  O v1)
 else(
  IP a1 a0 n (zK .i64 (v1+(1:Y)))))
 else(
 O (-1:Y))
def Nt(a0:X4)(a1:W zA):X Y:= IP a1 a0 bigN (0:Y)
def BD(a0 a1:Y):X Z:= if(decide ((0:Y)<=a0)) then(
 O (decide (a0<a1))) else(
 O E)
def Nw(a0:X2)(a1 a2:Y):X Z:= if(a0.A==a1) then(
 if(a0.B==a2) then(
 O F)
 else(
 if(a0.A==a2) then(
  O (a0.B==a1))
 else(
  O E))) else(
 if(a0.A==a2) then(
 O (a0.B==a1))
 else(
 O E))
def Iy(a0:X4)(v11:Y)(x13:X2)(y24:W X2)(y25:Y)(PO:Y->X Z):J->Y->X Z
| 0,_=>V
| n+1,v26=>
 if(decide (v26<y25)) then(
 (ix y24 v26).bind fun x28=>
 (Nw x28 x13.A x13.B).bind fun r29=>
 if r29 then(
  O E)
 else(
  Iy a0 v11 x13 y24 y25 PO n (zK .i64 (v26+(1:Y)))))
 else(
 PO (zK .i64 (v11+(1:Y))))
def EK(a0:X4):J->Y->X Z
| 0,_=>V
| n+1,v11=>
 if(decide (v11<(a0.Segments.length:Y))) then(
 (ix a0.Segments v11).bind fun x13=>
 (BD x13.A (a0.Points.length:Y)).bind fun r14=>
 if r14 then(
  (BD x13.B (a0.Points.length:Y)).bind fun r16=>
  if r16 then(
  if(x13.A==x13.B) then(
   O E)
  else(
   (BK x13.Depth (0:Y) (3000:Y)).bind fun r19=>
   if r19 then(
   (BK x13.Minutes (1:Y) (240:Y)).bind fun r21=>
   if r21 then(
    (bnd (a0.Segments.length:Y) v11 (0:Y) a0.Segments.length).bind fun p23=>
    Iy a0 v11 x13 ((a0.Segments.drop p23.1).take (p23.2 - p23.1)) (((a0.Segments.drop p23.1).take (p23.2 - p23.1)).length:Y) (EK a0 n) bigN (0:Y))
   else(
    O E))
   else(
   O E)))
  else(
  O E))
 else(
  O E))
 else(
 O F)
def Ix(a0:X4):J->Y->X Z
| 0,_=>V
| n+1,v3=>
 if(decide (v3<(a0.Points.length:Y))) then(
 (ix a0.Points v3).bind fun x5=>
 (La x5.Name).bind fun r6=>
 if r6 then(
  (Nt a0 x5.Name).bind fun r9=>
  if(r9 !=v3) then(
  O E)
  else(
  Ix a0 n (zK .i64 (v3+(1:Y)))))
 else(
  O E))
 else(
 EK a0 bigN (0:Y))
def DD(a0:X4):X Z:= if(decide ((8:Y)<(a0.Points.length:Y))) then(
 O E) else(
 if(decide ((10:Y)<(a0.Segments.length:Y))) then(
 O E)
 else(
 Ix a0 bigN (0:Y)))
def EO(a0:X5):X Z:= (La a0.Name).bind fun r1=> if r1 then(
 (BK a0.Length (10:Y) (400:Y)).bind fun r3=>
 if r3 then(
 (BK a0.Draught (100:Y) (2000:Y)).bind fun r5=>
 if r5 then(
  (BD a0.Line (4:Y)).bind fun r7=>
  if r7 then(
  (BK a0.Tugs (0:Y) (4:Y)).bind fun r9=>
  O r9)
  else(
  O E))
 else(
  O E))
 else(
 O E)) else(
 O E)
def IR(a1:W zA)(a0:W X5):J->Y->X Y
| 0,_=>V
| n+1,v1=>
 if(decide (v1<(a0.length:Y))) then(
 (ix a0 v1).bind fun x3=>
 if(x3.Name==a1) then(
  O v1)
 else(
  IR a1 a0 n (zK .i64 (v1+(1:Y)))))
 else(
 O (-1:Y))
def Nx(a0:W X5)(a1:W zA):X Y:= IR a1 a0 bigN (0:Y)
def IF(a0:W X5):J->Y->X Z
| 0,_=>V
| n+1,v2=>
 if(decide (v2<(a0.length:Y))) then(
 (ix a0 v2).bind fun x4=>
 (EO x4).bind fun r5=>
 if r5 then(
  (Nx a0 x4.Name).bind fun r7=>
  if(r7 !=v2) then(
  O E)
  else(
  IF a0 n (zK .i64 (v2+(1:Y)))))
 else(
  O E))
 else(
 O F)
def L8(a0:W X5):X Z:= if(decide ((6:Y)<(a0.length:Y))) then(
 O E) else(
 IF a0 bigN (0:Y))
def Rj(a0:Xi):X Z:= (BK a0.Gap (0:Y) (60:Y)).bind fun r1=> O r1
def Hc(a0:W Y):J->Y->X Z
| 0,_=>V
| n+1,v2=>
 if(decide (v2<(a0.length:Y))) then(
 (ix a0 v2).bind fun x4=>
 (BK x4 (0:Y) (240:Y)).bind fun r5=>
 if r5 then(
  Hc a0 n (zK .i64 (v2+(1:Y))))
 else(
  O E))
 else(
 O F)
def Hb(a0:W Y):X Z:= if((a0.length:Y) !=(64:Y)) then(
 O E) else(
 Hc a0 bigN (0:Y))
def Nc(a0:Xn):X Z:= (BK a0.Tugs (0:Y) (12:Y)).bind fun r1=> if r1 then(
 (BK a0.Pilots (0:Y) (12:Y)).bind fun r3=>
 if r3 then(
 (CP a0.Rest).bind fun r5=>
 if r5 then(
  (Hb a0.Moves).bind fun r7=>
  O r7)
 else(
  O E))
 else(
 O E)) else(
 O E)
def L9(a0:X3):X Z:= (H2 a0.Forecast).bind fun r1=> if r1 then(
 (DD a0.Chart).bind fun r3=>
 if r3 then(
 (L8 a0.Fleet).bind fun r5=>
 if r5 then(
  (Rj a0.Regime).bind fun r7=>
  if r7 then(
  (Nc a0.Crew).bind fun r9=>
  O r9)
  else(
  O E))
 else(
  O E))
 else(
 O E)) else(
 O E)
def Li(a0:X3)(a1:X8):X Z:= (BD a1.Ship (a0.Fleet.length:Y)).bind fun r1=> if r1 then(
 (BD a1.From (a0.Chart.Points.length:Y)).bind fun r3=>
 if r3 then(
 (BD a1.To (a0.Chart.Points.length:Y)).bind fun r5=>
 if r5 then(
  if(a1.From !=a1.To) then(
  (CP a1.Ready).bind fun r9=>
  if r9 then(
   (BK a1.Due a1.Ready (2880:Y)).bind fun r11=>
   O r11)
  else(
   O E))
  else(
  O E))
 else(
  O E))
 else(
 O E)) else(
 O E)
def FJ(a1:W X8)(v4:Y)(a0:X3)(x6:X8)(y10:W X8)(y11:Y)(PN:Y->X Z):J->Y->X Z
| 0,_=>V
| n+1,v12=>
 if(decide (v12<y11)) then(
 (ix y10 v12).bind fun x14=>
 if(x14.Ship==x6.Ship) then(
  O E)
 else(
  FJ a1 v4 a0 x6 y10 y11 PN n (zK .i64 (v12+(1:Y)))))
 else(
 PN (zK .i64 (v4+(1:Y))))
def Ec(a1:W X8)(a0:X3):J->Y->X Z
| 0,_=>V
| n+1,v4=>
 if(decide (v4<(a1.length:Y))) then(
 (ix a1 v4).bind fun x6=>
 (Li a0 x6).bind fun r7=>
 if r7 then(
  (bnd (a1.length:Y) v4 (0:Y) a1.length).bind fun p9=>
  FJ a1 v4 a0 x6 ((a1.drop p9.1).take (p9.2 - p9.1)) (((a1.drop p9.1).take (p9.2 - p9.1)).length:Y) (Ec a1 a0 n) bigN (0:Y))
 else(
  O E))
 else(
 O F)
def Na(a0:X3)(a1:W X8):X Z:= (L9 a0).bind fun r1=> if r1 then(
 if(decide ((6:Y)<(a1.length:Y))) then(
 O E)
 else(
 Ec a1 a0 bigN (0:Y))) else(
 O E)
def Iw(a0:X3)(a1:X8):X Z:= (L9 a0).bind fun r1=> if r1 then(
 (Li a0 a1).bind fun r3=>
 O r3) else(
 O E)
def Lf(a0:X2)(a1:Y):X Y:= if(a1==a0.A) then(
 O a0.B) else(
 if(a1==a0.B) then(
 O a0.A)
 else(
 O (-1:Y)))
def IA(r14:Y)(a2:W Y)(v6:Y)(a0:X4)(v7:Xa)(v8:W Y)(Sy:Y->Y->Xa->(W Y)->X ((W Y) × Z))(v19:Z):X ((W Y) × Z):= if v19 then(
 O (([]:W Y),E)) else(
 if decide ((0:Y)<=r14)&&decide (r14<(8:Y)) then(
 if Ab v8.length ([r14]:W Y).length 8 then(
  Sy r14 (zK .i64 (v6+(1:Y))) (⟨((Xa.set v7 (zB r14) F)).i0,((Xa.set v7 (zB r14) F)).i1,((Xa.set v7 (zB r14) F)).i2,((Xa.set v7 (zB r14) F)).i3,((Xa.set v7 (zB r14) F)).i4,((Xa.set v7 (zB r14) F)).i5,((Xa.set v7 (zB r14) F)).i6,((Xa.set v7 (zB r14) F)).i7⟩:Xa) (v8++([r14]:W Y)))
 else V)
 else V)
def GZ(a2:W Y)(a0:X4):J->Y->Y->Xa->(W Y)->X ((W Y) × Z)
| 0,_,_,_,_=>V
| n+1,v5,v6,v7,v8=>
 if(decide (v6<(a2.length:Y))) then(
 (ix a2 v6).bind fun x10=>
 (BD x10 (a0.Segments.length:Y)).bind fun r11=>
 if r11 then(
  (ix a0.Segments x10).bind fun x13=>
  (Lf x13 v5).bind fun r14=>
  if(decide (r14<(0:Y))) then(
  IA r14 a2 v6 a0 v7 v8 (GZ a2 a0 n) F)
  else(
  if decide ((0:Y)<=r14)&&decide (r14<(8:Y)) then(
   (ix ([v7.i0,v7.i1,v7.i2,v7.i3,v7.i4,v7.i5,v7.i6,v7.i7]:W Z) r14).bind fun x17=>
   IA r14 a2 v6 a0 v7 v8 (GZ a2 a0 n) x17)
  else V))
 else(
  O (([]:W Y),E)))
 else(
 O (v8,F))
def Iz(a0:X4)(a1:Y)(a2:W Y):X ((W Y) × Z):= (BD a1 (a0.Points.length:Y)).bind fun r1=> if r1 then(
 if decide ((0:Y)<=a1)&&decide (a1<(8:Y)) then(
 GZ a2 a0 bigN a1 (0:Y) (⟨((Xa.set (⟨E,E,E,E,E,E,E,E⟩:Xa) (zB a1) F)).i0,((Xa.set (⟨E,E,E,E,E,E,E,E⟩:Xa) (zB a1) F)).i1,((Xa.set (⟨E,E,E,E,E,E,E,E⟩:Xa) (zB a1) F)).i2,((Xa.set (⟨E,E,E,E,E,E,E,E⟩:Xa) (zB a1) F)).i3,((Xa.set (⟨E,E,E,E,E,E,E,E⟩:Xa) (zB a1) F)).i4,((Xa.set (⟨E,E,E,E,E,E,E,E⟩:Xa) (zB a1) F)).i5,((Xa.set (⟨E,E,E,E,E,E,E,E⟩:Xa) (zB a1) F)).i6,((Xa.set (⟨E,E,E,E,E,E,E,E⟩:Xa) (zB a1) F)).i7⟩:Xa) ([a1]:W Y))
 else V) else(
 O (([]:W Y),E))
def Ed(a0:X4)(a1:Y)(a2:W Y):X (W Y):= (DD a0).bind fun r1=> if r1 then(
 (Iz a0 a1 a2).bind fun r3=>
 O r3.1) else(
 O ([]:W Y))
def FM(a0:X4)(a1:Y)(a2:W Y):X Z:= (DD a0).bind fun r1=> if r1 then(
 (Iz a0 a1 a2).bind fun r3=>
 O r3.2) else(
 O E)
def FN(a0:X5)(a1:X2):X Y:= if a0.Slow then(
 O (zK .i64 ((2:Y)*a1.Minutes))) else(
 O a1.Minutes)
def IY(a0:X4)(a1:Y)(a2:X5):X Z:= (DD a0).bind fun r1=> if r1 then(
 (EO a2).bind fun r3=>
 if r3 then(
 (BD a1 (a0.Segments.length:Y)).bind fun r5=>
 O r5)
 else(
 O E)) else(
 O E)
def Rl(a0:X5):X Y:= if a0.Slow then(
 O (zK .i64 (zE a0.Draught (50:Y)))) else(
 O (zK .i64 (zE a0.Draught (20:Y))))
def Rk(a0:X5):X Y:= (Rl a0).bind fun r1=> O (zK .i64 ((zK .i64 (a0.Draught+r1))+(50:Y)))
def Nk(a0:X4)(a1:Y)(a2:X5):X Y:= (IY a0 a1 a2).bind fun r1=> if r1 then(
 (Rk a2).bind fun r3=>
 (ix a0.Segments a1).bind fun x4=>
 O (zK .i64 (r3 - x4.Depth))) else(
 O (0:Y))
def J4(a0:Y->X Z)(v2:Y)(Gv:Z->Y->(W X6)->X (W X6))(v11:Z)(v12:W X6):X (W X6):= Gv v11 (zK .i64 (v2+(1:Y))) v12
def Ls(a0:Y->X Z)(v2:Y)(Gv:Z->Y->(W X6)->X (W X6))(v9:W X6):X (W X6):= (ix v9 (zK .i64 ((v9.length:Y) - (1:Y)))).bind fun x10=> J4 a0 v2 Gv F (v9.set (zB (zK .i64 ((v9.length:Y) - (1:Y)))) (⟨x10.From,v2⟩:X6))
def FX(a0:Y->X Z):J->Z->Y->(W X6)->X (W X6)
| 0,_,_,_=>V
| n+1,v1,v2,v3=>
 if(decide (v2<=(2880:Y))) then(
 (a0 v2).bind fun r5=>
 if r5 then(
  if v1 then(
  Ls a0 v2 (FX a0 n) v3)
  else(
  if Ab v3.length ([(⟨v2,(0:Y)⟩:X6)]:W X6).length 16 then(
   Ls a0 v2 (FX a0 n) (v3++([(⟨v2,(0:Y)⟩:X6)]:W X6)))
  else V))
 else(
  J4 a0 v2 (FX a0 n) E v3))
 else(
 O v3)
def NT(a0:Y->X Z):X (W X6):= FX a0 bigN E (0:Y) ([]:W X6)
def NB(a0 a1:Y):X Y:= (Lo a1).bind fun r1=> if r1 then(
 if a1==0 then V else
 if a1==0 then V else
 if(decide ((zK .i64 (zE a1 (2:Y)))<=(zK .i64 (zH (zK .i64 ((zK .i64 (zH a0 a1))+a1)) a1)))) then(
 if(zK .i64 ((zK .i64 (zE a1 (2:Y)))*(zK .i64 (zE a1 (2:Y)))))==0 then V else
 O (zK .i64 (0 - (zK .i64 (zE (zK .i64 ((zK .i64 ((40000:Y)*(zK .i64 ((zK .i64 (zH (zK .i64 ((zK .i64 (zH a0 a1))+a1)) a1)) - (zK .i64 (zE a1 (2:Y)))))))*(zK .i64 ((zK .i64 (zE a1 (2:Y))) - (zK .i64 ((zK .i64 (zH (zK .i64 ((zK .i64 (zH a0 a1))+a1)) a1)) - (zK .i64 (zE a1 (2:Y))))))))) (zK .i64 ((zK .i64 (zE a1 (2:Y)))*(zK .i64 (zE a1 (2:Y))))))))))
 else(
 if(zK .i64 ((zK .i64 (zE a1 (2:Y)))*(zK .i64 (zE a1 (2:Y)))))==0 then V else
 O (zK .i64 (zE (zK .i64 ((zK .i64 ((40000:Y)*(zK .i64 (zH (zK .i64 ((zK .i64 (zH a0 a1))+a1)) a1))))*(zK .i64 ((zK .i64 (zE a1 (2:Y))) - (zK .i64 (zH (zK .i64 ((zK .i64 (zH a0 a1))+a1)) a1)))))) (zK .i64 ((zK .i64 (zE a1 (2:Y)))*(zK .i64 (zE a1 (2:Y))))))))) else(
 O (0:Y))
def IT(a1:Y)(a0:Xm):J->Y->Y->X Y
| 0,_,_=>V
| n+1,v1,v2=>
 if(decide (v2<(a0.Parts.length:Y))) then(
 (ix a0.Parts v2).bind fun x4=>
 (NB (zK .i64 (a1+x4.Phase)) x4.Period).bind fun r5=>
 IT a1 a0 n (zK .i64 (v1+(zK .i64 (zE (zK .i64 (x4.Amp*r5)) (10000:Y))))) (zK .i64 (v2+(1:Y))))
 else(
 O v1)
def Rn(a0:Xm)(a1:Y):X Y:= IT a1 a0 bigN a0.Mean (0:Y)
def FL(a1:Y)(a0:Xd):J->Y->Y->X Y
| 0,_,_=>V
| n+1,v1,v2=>
 if(decide (v2<(a0.Surges.length:Y))) then(
 (ix a0.Surges v2).bind fun x4=>
 if(decide (x4.From<=a1)) then(
  FL a1 a0 n v2 (zK .i64 (v2+(1:Y))))
 else(
  FL a1 a0 n v1 (zK .i64 (v2+(1:Y)))))
 else(
 O v1)
def Nf(a0:Xd)(a1:Y):X Y:= FL a1 a0 bigN (0:Y) (0:Y)
def Nd(a0:Xd)(a1:Y):X Y:= (Rn a0.Tide a1).bind fun r1=> (Nf a0 a1).bind fun r2=> (ix a0.Surges r2).bind fun x3=> O (zK .i64 (r1+x3.Low))
def Ri(a0:Y)(c0:Xd)(c1:Y):X Z:= (Nd c0 a0).bind fun r1=> O (decide (c1<=r1))
def Nl(a0:Xd)(a1:Y):X (W X6):= (H2 a0).bind fun r1=> if r1 then(
 (NT (fun z0=>Ri z0 a0 a1)).bind fun r3=>
 O r3) else(
 O ([]:W X6))
def Nm(a0:X4)(a1:Y)(a2:X5):X Y:= (DD a0).bind fun r1=> if r1 then(
 (EO a2).bind fun r3=>
 if r3 then(
 (BD a1 (a0.Segments.length:Y)).bind fun r5=>
 if r5 then(
  (ix a0.Segments a1).bind fun x7=>
  (FN a2 x7).bind fun r9=>
  O r9)
 else(
  O (0:Y)))
 else(
 O (0:Y))) else(
 O (0:Y))
def FP(a0:W X6):J->Y->X Z
| 0,_=>V
| n+1,v1=>
 if(decide (v1<(a0.length:Y))) then(
 (ix a0 v1).bind fun x3=>
 if(decide (x3.From<(0:Y))) then(
  O E)
 else(
  if(decide (x3.To<x3.From)) then(
  O E)
  else(
  if(decide ((2880:Y)<x3.To)) then(
   O E)
  else(
   if(decide ((0:Y)<v1)) then(
   (ix a0 (zK .i64 (v1 - (1:Y)))).bind fun x8=>
   if(decide (x3.From<=(zK .i64 (x8.To+(1:Y))))) then(
    O E)
   else(
    FP a0 n (zK .i64 (v1+(1:Y)))))
   else(
   FP a0 n (zK .i64 (v1+(1:Y))))))))
 else(
 O F)
def Lg(a0:W X6):X Z:= FP a0 bigN (0:Y)
def FO(a1:Y)(a0:W X6):J->Y->(W X6)->X (W X6)
| 0,_,_=>V
| n+1,v5,v6=>
 if(decide (v5<(a0.length:Y))) then(
 (ix a0 v5).bind fun x8=>
 if(decide (a1<=(zK .i64 (x8.To - x8.From)))) then(
  if Ab v6.length ([(⟨x8.From,(zK .i64 (x8.To - a1))⟩:X6)]:W X6).length 16 then(
  FO a1 a0 n (zK .i64 (v5+(1:Y))) (v6++([(⟨x8.From,(zK .i64 (x8.To - a1))⟩:X6)]:W X6)))
  else V)
 else(
  FO a1 a0 n (zK .i64 (v5+(1:Y))) v6))
 else(
 O v6)
def Rm(a0:W X6)(a1:Y):X (W X6):= (Lg a0).bind fun r1=> if r1 then(
 (CP a1).bind fun r3=>
 if r3 then(
 FO a1 a0 bigN (0:Y) ([]:W X6))
 else(
 O ([]:W X6))) else(
 O ([]:W X6))
def Ny(a0:Xd)(a1:X4)(a2:Y)(a3:X5):X (W X6):= (H2 a0).bind fun r1=> if r1 then(
 (IY a1 a2 a3).bind fun r3=>
 if r3 then(
 (Nk a1 a2 a3).bind fun r5=>
 (Nl a0 r5).bind fun r6=>
 (Nm a1 a2 a3).bind fun r7=>
 (Rm r6 r7).bind fun r9=>
 O r9)
 else(
 O ([]:W X6))) else(
 O ([]:W X6))
def J2(a4:W Y)(a0:Xd)(a1:X4)(a2:X5)(y11:W Y)(y12:Y):J->Y->(W Z)->(W Y)->(W (W X6))->X (Xk × Z)
| 0,_,_,_,_=>V
| n+1,v13,v14,v15,v16=>
 if(decide (v13<y12)) then(
 (ix y11 v13).bind fun x18=>
 (ix a1.Points x18).bind fun x19=>
 if Ab v14.length ([x19.Wait]:W Z).length 1 then(
  (ix a4 v13).bind fun x21=>
  (ix a1.Segments x21).bind fun x22=>
  (FN a2 x22).bind fun r23=>
  if Ab v15.length ([r23]:W Y).length 8 then(
  (Ny a0 a1 x21 a2).bind fun r25=>
  if Ab v16.length ([r25]:W (W X6)).length 24 then(
   J2 a4 a0 a1 a2 y11 y12 n (zK .i64 (v13+(1:Y))) (v14++([x19.Wait]:W Z)) (v15++([r23]:W Y)) (v16++([r25]:W (W X6))))
  else V)
  else V)
 else V)
 else(
 O ((⟨v14,v15,v16⟩:Xk),F))
def J1(a3:Y)(a4:W Y)(a0:Xd)(a1:X4)(a2:X5)(v7:Z):X (Xk × Z):= if v7 then(
 O ((⟨([]:W Z),([]:W Y),([]:W (W X6))⟩:Xk),E)) else(
 (Ed a1 a3 a4).bind fun r9=>
 (bnd (r9.length:Y) (a4.length:Y) (0:Y) r9.length).bind fun p10=>
 J2 a4 a0 a1 a2 ((r9.drop p10.1).take (p10.2 - p10.1)) (((r9.drop p10.1).take (p10.2 - p10.1)).length:Y) bigN (0:Y) ([]:W Z) ([]:W Y) ([]:W (W X6)))
def FW(a0:Xd)(a1:X4)(a2:X5)(a3:Y)(a4:W Y):X (Xk × Z):= (H2 a0).bind fun r1=> if r1 then(
 (EO a2).bind fun r3=>
 if r3 then(
 (FM a1 a3 a4).bind fun r5=>
 if r5 then(
  J1 a3 a4 a0 a1 a2 ((a4.length:Y)==(0:Y)))
 else(
  J1 a3 a4 a0 a1 a2 F))
 else(
 J1 a3 a4 a0 a1 a2 F)) else(
 J1 a3 a4 a0 a1 a2 F)
def FR(a2:W Y)(a0:X3)(a1:X8)(v4:Z):X (Xk × Z):= if v4 then(
 O ((⟨([]:W Z),([]:W Y),([]:W (W X6))⟩:Xk),E)) else(
 (ix a0.Fleet a1.Ship).bind fun x6=>
 (FW a0.Forecast a0.Chart x6 a1.From a2).bind fun r7=>
 O (r7.1,r7.2))
def FQ(a0:X3)(a1:X8)(a2:W Y):X (Xk × Z):= (Ed a0.Chart a1.From a2).bind fun r1=> if((r1.length:Y)==(0:Y)) then(
 FR a2 a0 a1 F) else(
 (ix r1 (zK .i64 ((r1.length:Y) - (1:Y)))).bind fun x3=>
 FR a2 a0 a1 (x3 !=a1.To))
def IH(a1:Y)(a0:W X6):J->Y->X Z
| 0,_=>V
| n+1,v1=>
 if(decide (v1<(a0.length:Y))) then(
 (ix a0 v1).bind fun x3=>
 (BK a1 x3.From x3.To).bind fun r4=>
 if r4 then(
  O F)
 else(
  IH a1 a0 n (zK .i64 (v1+(1:Y)))))
 else(
 O E)
def Ng(a0:W X6)(a1:Y):X Z:= IH a1 a0 bigN (0:Y)
def IK(a1:Y)(a0:W X6):J->Y->X Y
| 0,_=>V
| n+1,v3=>
 if(decide (v3<(a0.length:Y))) then(
 (ix a0 v3).bind fun x5=>
 if(decide (a1<=x5.To)) then(
  O (if x5.From<a1 then a1 else x5.From))
 else(
  IK a1 a0 n (zK .i64 (v3+(1:Y)))))
 else(
 O (-1:Y))
def Nn(a0:W X6)(a1:Y):X Y:= (Lg a0).bind fun r1=> if r1 then(
 IK a1 a0 bigN (0:Y)) else(
 O (-1:Y))
def J3(v4 r10:Y)(a0:Xk)(v5:W Y)(SB:Y->(W Y)->X ((W Y) × Z))(v14:Z):X ((W Y) × Z):= if v14 then(
 O (([]:W Y),E)) else(
 if Ab v5.length ([r10]:W Y).length 8 then(
 SB (zK .i64 (v4+(1:Y))) (v5++([r10]:W Y)))
 else V)
def ES(a0:Xk):J->Y->(W Y)->X ((W Y) × Z)
| 0,_,_=>V
| n+1,v4,v5=>
 if(decide (v4<(a0.sure.length:Y))) then(
 (ix v5 (zK .i64 (v4 - (1:Y)))).bind fun x7=>
 (ix a0.minutes (zK .i64 (v4 - (1:Y)))).bind fun x8=>
 (ix a0.sure v4).bind fun x9=>
 (Nn x9 (zK .i64 (x7+x8))).bind fun r10=>
 if(decide (r10<(0:Y))) then(
  J3 v4 r10 a0 v5 (ES a0 n) F)
 else(
  if(decide ((zK .i64 (x7+x8))<r10)) then(
  (ix a0.waits v4).bind fun x13=>
  J3 v4 r10 a0 v5 (ES a0 n) (!x13))
  else(
  J3 v4 r10 a0 v5 (ES a0 n) E)))
 else(
 O (v5,F))
def NR(a0:Xk)(a1:Y):X ((W Y) × Z):= (ix a0.sure (0:Y)).bind fun x1=> (Ng x1 a1).bind fun r2=> if r2 then(
 ES a0 bigN (1:Y) ([a1]:W Y)) else(
 O (([]:W Y),E))
def IM(a1:Y)(a5 a4:W Y)(a0:X4)(a2:X5)(r6:(W Y)):J->Y->(W X1)->X (W X1)
| 0,_,_=>V
| n+1,v7,v8=>
 if(decide (v7<(a4.length:Y))) then(
 (ix a4 v7).bind fun x10=>
 (ix a5 v7).bind fun x11=>
 (CP x11).bind fun r12=>
 if r12 then(
  (ix a0.Segments x10).bind fun x14=>
  (ix r6 v7).bind fun x15=>
  (FN a2 x14).bind fun r16=>
  if Ab v8.length ([(⟨a1,x10,(x15==x14.A),x11,(zK .i64 (x11+r16))⟩:X1)]:W X1).length 40 then(
  IM a1 a5 a4 a0 a2 r6 n (zK .i64 (v7+(1:Y))) (v8++([(⟨a1,x10,(x15==x14.A),x11,(zK .i64 (x11+r16))⟩:X1)]:W X1)))
  else V)
 else(
  O ([]:W X1)))
 else(
 O v8)
def Ns(a0:X4)(a1:Y)(a2:X5)(a3:Y)(a4 a5:W Y):X (W X1):= (FM a0 a3 a4).bind fun r1=> if r1 then(
 (EO a2).bind fun r3=>
 if r3 then(
 if((a4.length:Y) !=(a5.length:Y)) then(
  O ([]:W X1))
 else(
  (Ed a0 a3 a4).bind fun r6=>
  IM a1 a5 a4 a0 a2 r6 bigN (0:Y) ([]:W X1)))
 else(
 O ([]:W X1))) else(
 O ([]:W X1))
def IQ(a1:W Y)(a0:X4):J->Y->Y->X Y
| 0,_,_=>V
| n+1,v3,v4=>
 if(decide (v4<(a1.length:Y))) then(
 (ix a1 v4).bind fun x6=>
 (BD x6 (a0.Segments.length:Y)).bind fun r7=>
 if r7 then(
  (ix a0.Segments x6).bind fun x9=>
  IQ a1 a0 n (zK .i64 (v3+x9.Minutes)) (zK .i64 (v4+(1:Y))))
 else(
  O (-1:Y)))
 else(
 O v3)
def H6(a0:X4)(a1:W Y):X Y:= (DD a0).bind fun r1=> if r1 then(
 IQ a1 a0 bigN (0:Y) (0:Y)) else(
 O (-1:Y))
def N8(a0:X4)(a1:X5)(a2 a3:W Y):X Y:= (H6 a0 a2).bind fun r1=> if(decide (r1<(0:Y))) then(
 O (-1:Y)) else(
 (EO a1).bind fun r3=>
 if r3 then(
 if((a2.length:Y)==(0:Y)) then(
  O (-1:Y))
 else(
  if((a2.length:Y) !=(a3.length:Y)) then(
  O (-1:Y))
  else(
  (ix a3 (zK .i64 ((a2.length:Y) - (1:Y)))).bind fun x7=>
  (CP x7).bind fun r9=>
  if r9 then(
   (ix a2 (zK .i64 ((a2.length:Y) - (1:Y)))).bind fun x11=>
   (ix a0.Segments x11).bind fun x12=>
   (FN a1 x12).bind fun r13=>
   O (zK .i64 (x7+r13)))
  else(
   O (-1:Y)))))
 else(
 O (-1:Y)))
def ER(a2:Xk)(a4 r5:Y)(r4:(W X1)):J->Y->Y->X (X0 × Z)
| 0,_,_=>V
| n+1,v6,v7=>
 if(decide (v6<(a2.minutes.length:Y))) then(
 (ix a2.minutes v6).bind fun x9=>
 ER a2 a4 r5 r4 n (zK .i64 (v6+(1:Y))) (zK .i64 (v7 - x9)))
 else(
 O ((⟨a4,r5,v7,r4⟩:X0),(decide (r5<=(2880:Y)))))
def EQ(a0:X3)(a1:X8)(a2:Xk)(a3:W Y)(a4:Y):X (X0 × Z):= (NR a2 a4).bind fun r1=> if r1.2 then(
 (ix a0.Fleet a1.Ship).bind fun x3=>
 (Ns a0.Chart a1.Ship x3 a1.From a3 r1.1).bind fun r4=>
 (N8 a0.Chart x3 a3 r1.1).bind fun r5=>
 ER a2 a4 r5 r4 bigN (0:Y) (zK .i64 (r5 - a1.Ready))) else(
 O ((⟨(0:Y),(0:Y),(0:Y),([]:W X1)⟩:X0),E))
def Np(a2:W Y)(a3:Y)(a0:X3)(a1:X8)(v4:Z):X (X0 × Z):= if v4 then(
 O ((⟨(0:Y),(0:Y),(0:Y),([]:W X1)⟩:X0),E)) else(
 (FQ a0 a1 a2).bind fun r6=>
 if r6.2 then(
 (EQ a0 a1 r6.1 a2 a3).bind fun r9=>
 if r9.2 then(
  O (r9.1,F))
 else(
  O ((⟨(0:Y),(0:Y),(0:Y),([]:W X1)⟩:X0),E)))
 else(
 O ((⟨(0:Y),(0:Y),(0:Y),([]:W X1)⟩:X0),E)))
def Lb(a0:X3)(a1:X8)(a2:W Y)(a3:Y):X (X0 × Z):= (Iw a0 a1).bind fun r1=> if r1 then(
 (BK a3 a1.Ready a1.Due).bind fun r3=>
 Np a2 a3 a0 a1 (!r3)) else(
 Np a2 a3 a0 a1 F)
def Ju(a0 a1:W X1):J->Y->X Z
| 0,_=>V
| n+1,v2=>
 if(decide (v2<(a0.length:Y))) then(
 (ix a0 v2).bind fun x4=>
 (ix a1 v2).bind fun x5=>
 if((x4.Ship==x5.Ship)&&((x4.Segment==x5.Segment)&&((x4.Toward==x5.Toward)&&((x4.Start==x5.Start)&&((x4.End==x5.End)&&F))))) then(
  Ju a0 a1 n (zK .i64 (v2+(1:Y))))
 else(
  O E))
 else(
 O F)
def RL(a0 a1:W X1):X Z:= if((a0.length:Y) !=(a1.length:Y)) then(
 O E) else(
 Ju a0 a1 bigN (0:Y))
def EN(a0 a1:X0):X Z:= if(a0.Start==a1.Start) then(
 if(a0.Arrival==a1.Arrival) then(
 if(a0.Cost==a1.Cost) then(
  (RL a0.Passages a1.Passages).bind fun r4=>
  O r4)
 else(
  O E))
 else(
 O E)) else(
 O E)
def IJ(a2:X0)(a0:X3)(a1:X8):J->Y->(W Y)->X Z
| 0,_,_=>V
| n+1,v1,v2=>
 if(decide (v1<(a2.Passages.length:Y))) then(
 (ix a2.Passages v1).bind fun x4=>
 if Ab v2.length ([x4.Segment]:W Y).length 8 then(
  IJ a2 a0 a1 n (zK .i64 (v1+(1:Y))) (v2++([x4.Segment]:W Y)))
 else V)
 else(
 (Lb a0 a1 v2 a2.Start).bind fun r6=>
 if r6.2 then(
  (EN r6.1 a2).bind fun r9=>
  O r9)
 else(
  O E))
def II(a0:X3)(a1:X8)(a2:X0):X Z:= IJ a2 a0 a1 bigN (0:Y) ([]:W Y)
def ND(a0:W X1):X (W X1):= (BB (0:Y) (a0.length:Y) 40).bind fun n1=> if Ab (zF n1 (⟨(0:Y),(0:Y),E,(0:Y),(0:Y)⟩:X1)).length a0.length 40 then(
 O ((zF n1 (⟨(0:Y),(0:Y),E,(0:Y),(0:Y)⟩:X1))++a0)) else V
def NI(a0:X0):X X0:= (ND a0.Passages).bind fun r1=> O (⟨a0.Start,a0.Arrival,a0.Cost,r1⟩:X0)
def Ee(a0:W Y):X (W Y):= (BB (0:Y) (a0.length:Y) 8).bind fun n1=> if Ab (zF n1 (0:Y)).length a0.length 8 then(
 O ((zF n1 (0:Y))++a0)) else V
def IB(rec_:X4->Y->Y->(W Y)->Xa->(W (W Y))->X (W (W Y)))(a1 a2:Y)(a3:W Y)(v6 r11:Y)(a0:X4)(y7:Xa)(v8:W (W Y))(PP:Y->(W (W Y))->X (W (W Y)))(v16:Z):X (W (W Y)):= if v16 then(
 (Ee a3).bind fun r18=>
 if Ab r18.length ([v6]:W Y).length 8 then(
 (rec_ a0 r11 a2 (r18++([v6]:W Y)) y7 v8).bind fun r20=>
 PP (zK .i64 (v6+(1:Y))) r20)
 else V) else(
 PP (zK .i64 (v6+(1:Y))) v8)
def H0(rec_:X4->Y->Y->(W Y)->Xa->(W (W Y))->X (W (W Y)))(a1 a2:Y)(a3:W Y)(a0:X4)(y7:Xa):J->Y->(W (W Y))->X (W (W Y))
| 0,_,_=>V
| n+1,v6,v8=>
 if(decide (v6<(a0.Segments.length:Y))) then(
 (ix a0.Segments v6).bind fun x10=>
 (Lf x10 a1).bind fun r11=>
 if(decide ((0:Y)<=r11)) then(
  if decide ((0:Y)<=r11)&&decide (r11<(8:Y)) then(
  (ix ([y7.i0,y7.i1,y7.i2,y7.i3,y7.i4,y7.i5,y7.i6,y7.i7]:W Z) r11).bind fun x14=>
  IB rec_ a1 a2 a3 v6 r11 a0 y7 v8 (H0 rec_ a1 a2 a3 a0 y7 n) (!x14))
  else V)
 else(
  IB rec_ a1 a2 a3 v6 r11 a0 y7 v8 (H0 rec_ a1 a2 a3 a0 y7 n) E))
 else(
 O v8)
def Rg(rec_:X4->Y->Y->(W Y)->Xa->(W (W Y))->X (W (W Y)))(a0:X4)(a1 a2:Y)(a3:W Y)(a4:Xa)(a5:W (W Y)):X (W (W Y)):= if(a1==a2) then(
 (Ee a3).bind fun r2=>
 if Ab a5.length ([r2]:W (W Y)).length 24 then(
 O (a5++([r2]:W (W Y))))
 else V) else(
 if decide ((0:Y)<=a1)&&decide (a1<(8:Y)) then(
 H0 rec_ a1 a2 a3 a0 (⟨((Xa.set a4 (zB a1) F)).i0,((Xa.set a4 (zB a1) F)).i1,((Xa.set a4 (zB a1) F)).i2,((Xa.set a4 (zB a1) F)).i3,((Xa.set a4 (zB a1) F)).i4,((Xa.set a4 (zB a1) F)).i5,((Xa.set a4 (zB a1) F)).i6,((Xa.set a4 (zB a1) F)).i7⟩:Xa) bigN (0:Y) a5)
 else V)
def H1:J->X4->Y->Y->(W Y)->Xa->(W (W Y))->X (W (W Y))
| 0,_,_,_,_,_,_=>V
| n+1,a0,a1,a2,a3,a4,a5=>Rg (H1 n) a0 a1 a2 a3 a4 a5
def U9(a0:X4)(a1 a2:Y)(a3:W Y)(a4:Xa)(a5:W (W Y)):X (W (W Y)):=H1 bigN a0 a1 a2 a3 a4 a5
def Nv(a0:X4)(a1 a2:Y):X (W (W Y)):= (DD a0).bind fun r1=> if r1 then(
 (BD a1 (a0.Points.length:Y)).bind fun r3=>
 if r3 then(
 (BD a2 (a0.Points.length:Y)).bind fun r5=>
 if r5 then(
  (U9 a0 a1 a2 ([]:W Y) (⟨E,E,E,E,E,E,E,E⟩:Xa) ([]:W (W Y))).bind fun r7=>
  O r7)
 else(
  O ([]:W (W Y))))
 else(
 O ([]:W (W Y)))) else(
 O ([]:W (W Y)))
def FI(r1:(W (W Y)))(a0:X4):J->(W Y)->Y->X ((W Y) × Z)
| 0,_,_=>V
| n+1,v4,v5=>
 if(decide (v5<(r1.length:Y))) then(
 (ix r1 v5).bind fun x7=>
 (H6 a0 x7).bind fun r9=>
 (H6 a0 v4).bind fun r10=>
 if(decide (r9<r10)) then(
  FI r1 a0 n x7 (zK .i64 (v5+(1:Y))))
 else(
  FI r1 a0 n v4 (zK .i64 (v5+(1:Y)))))
 else(
 O (v4,F))
def N9(a0:X4)(a1 a2:Y):X ((W Y) × Z):= (Nv a0 a1 a2).bind fun r1=> if((r1.length:Y)==(0:Y)) then(
 O (([]:W Y),E)) else(
 (ix r1 (0:Y)).bind fun x3=>
 FI r1 a0 bigN x3 (0:Y))
def H5(r3:(W Y) × Z)(v7:Y)(a0:X3)(a1:X8)(r4:Xk × Z)(Sz:Y->(W X0)->X (W X0))(v14:W X0):X (W X0):= Sz (zK .i64 (v7+(15:Y))) v14
def EM(r3:(W Y) × Z)(a0:X3)(a1:X8)(r4:Xk × Z):J->Y->(W X0)->X (W X0)
| 0,_,_=>V
| n+1,v7,v8=>
 if(decide (v7<=a1.Due)) then(
 if(decide ((v8.length:Y)<(8:Y))) then(
  (EQ a0 a1 r4.1 r3.1 v7).bind fun r11=>
  if r11.2 then(
  if Ab v8.length ([r11.1]:W X0).length 48 then(
   H5 r3 v7 a0 a1 r4 (EM r3 a0 a1 r4 n) (v8++([r11.1]:W X0)))
  else V)
  else(
  H5 r3 v7 a0 a1 r4 (EM r3 a0 a1 r4 n) v8))
 else(
  O v8))
 else(
 O v8)
def IL(a0:X3)(a1:X8):X (W X0):= (Iw a0 a1).bind fun r1=> if r1 then(
 (N9 a0.Chart a1.From a1.To).bind fun r3=>
 (FQ a0 a1 r3.1).bind fun r4=>
 if r3.2 then(
 if r4.2 then(
  EM r3 a0 a1 r4 bigN a1.Ready ([]:W X0))
 else(
  O ([]:W X0)))
 else(
 O ([]:W X0))) else(
 O ([]:W X0))
def Dp(r9:(W X0))(a2:X0):J->Y->(W X0)->X (W X0)
| 0,_,_=>V
| n+1,v10,v11=>
 if(decide (v10<(r9.length:Y))) then(
 (ix r9 v10).bind fun x13=>
 (EN x13 a2).bind fun r14=>
 if r14 then(
  Dp r9 a2 n (zK .i64 (v10+(1:Y))) v11)
 else(
  if Ab v11.length ([x13]:W X0).length 48 then(
  Dp r9 a2 n (zK .i64 (v10+(1:Y))) (v11++([x13]:W X0)))
  else V))
 else(
 O v11)
def IC(a0:X3)(a1:X8)(a2:X0)(v7:W X0):X (W X0):= (IL a0 a1).bind fun r9=> Dp r9 a2 bigN (0:Y) v7
def EL(a0:X3)(a1:X8)(a2:X0):X (W X0):= (Iw a0 a1).bind fun r1=> if r1 then(
 (II a0 a1 a2).bind fun r3=>
 if r3 then(
 (NI a2).bind fun r5=>
 if Ab ([]:W X0).length ([r5]:W X0).length 48 then(
  IC a0 a1 a2 ([r5]:W X0))
 else V)
 else(
 IC a0 a1 a2 ([]:W X0))) else(
 O ([]:W X0))
def NS(a0 a1:Xj):X Z:= if(decide (a0.i0<a1.i0)) then(
 O F) else(
 if(a0.i0==a1.i0) then(
 O (decide (a0.i1<a1.i1)))
 else(
 O E))
def Lc(a0 a1:X1):X Z:= O (decide ((if a0.Start<a1.Start then a1.Start else a0.Start)<(if a1.End<a0.End then a1.End else a0.End)))
def Lr(a0 a1 a2:Y):X Z:= O (decide ((IntKind.u64.wrap ((IntKind.u64.wrap (if a0<a1 then a1 else a0)) - (IntKind.u64.wrap (if a1<a0 then a1 else a0))))<(IntKind.u64.wrap a2)))
def NH(a2 a3:X1)(v22:Z):X Y:= if v22 then(
 O (3:Y)) else(
 if(decide (a2.Start<a3.Start)) then(
 if(decide (a3.End<a2.End)) then(
  O (4:Y))
 else(
  if(decide (a3.Start<a2.Start)) then(
  if(decide (a2.End<a3.End)) then(
   O (4:Y))
  else(
   O (0:Y)))
  else(
  O (0:Y))))
 else(
 if(decide (a3.Start<a2.Start)) then(
  if(decide (a2.End<a3.End)) then(
  O (4:Y))
  else(
  O (0:Y)))
 else(
  O (0:Y))))
def IV(a1:Xi)(a2 a3:X1)(v15 v16:Z):X Y:= if v15 then(
 O (2:Y)) else(
 if(a2.Toward==a3.Toward) then(
 (Lr a2.Start a3.Start a1.Gap).bind fun r19=>
 if r19 then(
  NH a2 a3 F)
 else(
  (Lr a2.End a3.End a1.Gap).bind fun r21=>
  NH a2 a3 r21))
 else(
 O (0:Y)))
def NG(a0:X4)(a1:Xi)(a2 a3:X1)(v7:Z):X Y:= if v7 then(
 O (1:Y)) else(
 if(a2.Ship==a3.Ship) then(
 O (0:Y))
 else(
 if(a2.Toward==a3.Toward) then(
  IV a1 a2 a3 E a1.NoMeet)
 else(
  (Lc a2 a3).bind fun r11=>
  if r11 then(
  if a1.NoMeet then(
   IV a1 a2 a3 F F)
  else(
   (ix a0.Segments a2.Segment).bind fun x14=>
   IV a1 a2 a3 (!x14.Meet) E))
  else(
  IV a1 a2 a3 E a1.NoMeet))))
def NF(a0:X4)(a1:Xi)(a2 a3:X1)(v3:Z):X Y:= if v3 then(
 O (0:Y)) else(
 if(a2.Ship==a3.Ship) then(
 (Lc a2 a3).bind fun r6=>
 NG a0 a1 a2 a3 r6)
 else(
 NG a0 a1 a2 a3 E))
def NE(a0:X4)(a1:Xi)(a2 a3:X1):X Y:= if(a2.Segment !=a3.Segment) then(
 NF a0 a1 a2 a3 F) else(
 (BD a2.Segment (a0.Segments.length:Y)).bind fun r2=>
 NF a0 a1 a2 a3 (!r2))
def IU(a3 a2:W X1)(v1:Y)(a0:X4)(a1:Xi)(x3:X1)(PQ:Y->X Z):J->Y->X Z
| 0,_=>V
| n+1,v4=>
 if(decide (v4<(a3.length:Y))) then(
 (ix a3 v4).bind fun x6=>
 (NE a0 a1 x3 x6).bind fun r7=>
 if(r7 !=(0:Y)) then(
  O F)
 else(
  IU a3 a2 v1 a0 a1 x3 PQ n (zK .i64 (v4+(1:Y)))))
 else(
 PQ (zK .i64 (v1+(1:Y))))
def Fsz(a3 a2:W X1)(a0:X4)(a1:Xi):J->Y->X Z
| 0,_=>V
| n+1,v1=>
 if(decide (v1<(a2.length:Y))) then(
 (ix a2 v1).bind fun x3=>
 IU a3 a2 v1 a0 a1 x3 (Fsz a3 a2 a0 a1 n) bigN (0:Y))
 else(
 O E)
def NC(a0:X4)(a1:Xi)(a2 a3:W X1):X Z:= Fsz a3 a2 a0 a1 bigN (0:Y)
def Lk(a0:W X0):X (W X0):= (BB (0:Y) (a0.length:Y) 48).bind fun n1=> if Ab (zF n1 (⟨(0:Y),(0:Y),(0:Y),([]:W X1)⟩:X0)).length a0.length 48 then(
 O ((zF n1 (⟨(0:Y),(0:Y),(0:Y),([]:W X1)⟩:X0))++a0)) else V
def Ld(a0:X1)(a1:X4):X (Y × Y):= (ix a1.Segments a0.Segment).bind fun x1=> if a0.Toward then(
 O (x1.A,x1.B)) else(
 O (x1.B,x1.A))
def Ln(a0:X4)(a1 a2:X1):X Xb:= (Ld a1 a0).bind fun r1=> (Ld a2 a0).bind fun r2=> O (⟨a1.Start,a2.End,r1.1,r2.2⟩:Xb)
def NO(a0:X4)(a1:W X5)(a2:X1):X Z:= (BD a2.Ship (a1.length:Y)).bind fun r1=> if r1 then(
 (BD a2.Segment (a0.Segments.length:Y)).bind fun r3=>
 if r3 then(
 (CP a2.Start).bind fun r5=>
 if r5 then(
  if(decide ((2880:Y)<a2.End)) then(
  O E)
  else(
  (ix a1 a2.Ship).bind fun x8=>
  (ix a0.Segments a2.Segment).bind fun x9=>
  (FN x8 x9).bind fun r10=>
  O (a2.End==(zK .i64 (a2.Start+r10)))))
 else(
  O E))
 else(
 O E)) else(
 O E)
def Nr(a0:X4)(a1:W X5)(a2:X1):X Z:= (DD a0).bind fun r1=> if r1 then(
 (L8 a1).bind fun r3=>
 if r3 then(
 (NO a0 a1 a2).bind fun r5=>
 O r5)
 else(
 O E)) else(
 O E)
def Hd(a1:W X5)(a2:W X1)(v1:Y)(x7:X5)(a0:X4)(x4:X1)(PS:Y->(W Xb)->X ((W Xb) × Z)):J->Y->(W Xb)->X ((W Xb) × Z)
| 0,_,_=>V
| n+1,v8,v9=>
 if(decide (v8<x7.Tugs)) then(
 (Ln a0 x4 x4).bind fun r11=>
 if Ab v9.length ([r11]:W Xb).length 32 then(
  Hd a1 a2 v1 x7 a0 x4 PS n (zK .i64 (v8+(1:Y))) (v9++([r11]:W Xb)))
 else V)
 else(
 if(decide ((12:Y)<(v9.length:Y))) then(
  O (([]:W Xb),E))
 else(
  PS (zK .i64 (v1+(1:Y))) v9))
def FV(a1:W X5)(a2:W X1)(a0:X4):J->Y->(W Xb)->X ((W Xb) × Z)
| 0,_,_=>V
| n+1,v1,v2=>
 if(decide (v1<(a2.length:Y))) then(
 (ix a2 v1).bind fun x4=>
 (Nr a0 a1 x4).bind fun r5=>
 if r5 then(
  (ix a1 x4.Ship).bind fun x7=>
  Hd a1 a2 v1 x7 a0 x4 (FV a1 a2 a0 n) bigN (0:Y) v2)
 else(
  O (([]:W Xb),E)))
 else(
 O (v2,F))
def NQ(a0:X4)(a1:W X5)(a2:W X1):X ((W Xb) × Z):= FV a1 a2 a0 bigN (0:Y) ([]:W Xb)
def IE(a0:W Xb):J->Y->X Z
| 0,_=>V
| n+1,v2=>
 if(decide (v2<(a0.length:Y))) then(
 (ix a0 v2).bind fun x4=>
 if(decide (x4.From<(0:Y))) then(
  O E)
 else(
  if(decide (x4.To<=x4.From)) then(
  O E)
  else(
  if(decide ((2880:Y)<x4.To)) then(
   O E)
  else(
   (BD x4.A (8:Y)).bind fun r9=>
   if r9 then(
   (BD x4.B (8:Y)).bind fun r11=>
   if r11 then(
    IE a0 n (zK .i64 (v2+(1:Y))))
   else(
    O E))
   else(
   O E)))))
 else(
 O F)
def ID(a0:W Xb):X Z:= if(decide ((12:Y)<(a0.length:Y))) then(
 O E) else(
 IE a0 bigN (0:Y))
def Ro(a0:Y)(a1:W Y)(a2:W Xb):X Z:= (ID a2).bind fun r1=> if r1 then(
 (CP a0).bind fun r3=>
 if r3 then(
 (Hb a1).bind fun r5=>
 O r5)
 else(
 O E)) else(
 O E)
def IG(a0:Y)(a1:W Y)(a2 a3:Xb)(v8:Z):X (Y × Z):= if v8 then(
 O ((0:Y),E)) else(
 (ix a1 (zK .i64 ((zK .i64 ((8:Y)*a2.B))+a3.A))).bind fun x10=>
 O ((zK .i64 (a0+x10)),F))
def Rh(a0:Y)(a1:W Y)(a2 a3:Xb):X (Y × Z):= (CP a0).bind fun r1=> if r1 then(
 (Hb a1).bind fun r3=>
 if r3 then(
 (BD a2.B (8:Y)).bind fun r5=>
 if r5 then(
  (BD a3.A (8:Y)).bind fun r7=>
  IG a0 a1 a2 a3 (!r7))
 else(
  IG a0 a1 a2 a3 F))
 else(
 IG a0 a1 a2 a3 F)) else(
 IG a0 a1 a2 a3 F)
def L6(a0:Y)(a1:W Y)(a2 a3:Xb):X Z:= (Rh a0 a1 a2 a3).bind fun r1=> if r1.2 then(
 (ID ([a2]:W Xb)).bind fun r3=>
 if r3 then(
 (ID ([a3]:W Xb)).bind fun r5=>
 if r5 then(
  O (decide ((zK .i64 (a2.To+r1.1))<=a3.From)))
 else(
  O E))
 else(
 O E)) else(
 O E)
def IZ(a0:Y)(a1:W Y)(a2:W Xb)(v2 v6:Y)(x5:Xb)(v7:W Y)(PR:Y->(W Y)->X (W Y))(v14:Z):X (W Y):= if v14 then(
 (ix v7 v2).bind fun x16=>
 if decide (v6<0) then V else
 PR (zK .i64 (v6+(1:Y))) (v7.set (zB v2) (Bl .or .u64 x16 (Bt .u64 (1:Y) v6)))) else(
 PR (zK .i64 (v6+(1:Y))) v7)
def Eg(a0:Y)(a1:W Y)(a2:W Xb)(v2:Y)(x5:Xb)(Kf:Y->(W Y)->X (W Y)):J->Y->(W Y)->X (W Y)
| 0,_,_=>V
| n+1,v6,v7=>
 if(decide (v6<(a2.length:Y))) then(
 (ix a2 v6).bind fun x9=>
 if(v2 !=v6) then(
  (L6 a0 a1 x5 x9).bind fun r11=>
  if r11 then(
  IZ a0 a1 a2 v2 v6 x5 v7 (Eg a0 a1 a2 v2 x5 Kf n) F)
  else(
  (L6 a0 a1 x9 x5).bind fun r13=>
  IZ a0 a1 a2 v2 v6 x5 v7 (Eg a0 a1 a2 v2 x5 Kf n) r13))
 else(
  IZ a0 a1 a2 v2 v6 x5 v7 (Eg a0 a1 a2 v2 x5 Kf n) E))
 else(
 Kf (zK .i64 (v2+(1:Y))) v7)
def FU(a0:Y)(a1:W Y)(a2:W Xb):J->Y->(W Y)->X (W Y)
| 0,_,_=>V
| n+1,v2,v3=>
 if(decide (v2<(a2.length:Y))) then(
 (ix a2 v2).bind fun x5=>
 Eg a0 a1 a2 v2 x5 (FU a0 a1 a2 n) bigN (0:Y) v3)
 else(
 O v3)
def NN(a0:Y)(a1:W Y)(a2:W Xb):X (W Y):= (BB (a2.length:Y) (a2.length:Y) 8).bind fun n1=> FU a0 a1 a2 bigN (0:Y) (zF n1 (0:Y))
def LJ(v8 v9:Y):X Y:= (ix ([0,1,2,2,3,3,3,3,4,4,4,4,4,4,4,4,5,5,5,5,5,5,5,5,5,5,5,5,5,5,5,5,6,6,6,6,6,6,6,6,6,6,6,6,6,6,6,6,6,6,6,6,6,6,6,6,6,6,6,6,6,6,6,6,7,7,7,7,7,7,7,7,7,7,7,7,7,7,7,7,7,7,7,7,7,7,7,7,7,7,7,7,7,7,7,7,7,7,7,7,7,7,7,7,7,7,7,7,7,7,7,7,7,7,7,7,7,7,7,7,7,7,7,7,7,7,7,7,8,8,8,8,8,8,8,8,8,8,8,8,8,8,8,8,8,8,8,8,8,8,8,8,8,8,8,8,8,8,8,8,8,8,8,8,8,8,8,8,8,8,8,8,8,8,8,8,8,8,8,8,8,8,8,8,8,8,8,8,8,8,8,8,8,8,8,8,8,8,8,8,8,8,8,8,8,8,8,8,8,8,8,8,8,8,8,8,8,8,8,8,8,8,8,8,8,8,8,8,8,8,8,8,8,8,8,8,8,8,8,8,8,8,8,8,8,8,8,8,8,8,8,8,8,8,8,8]:W zA) (IntKind.u8.wrap v8)).bind fun b10=> O (zK .i64 (v9+(zK .i64 (b10.toNat:Y))))
def OD(v5 v6:Y):X Y:= if(decide ((256:Y)<=v5)) then(
 LJ (CH .u64 v5 8) (zK .i64 (v6+(8:Y)))) else(
 LJ v5 v6)
def OC(v2 v3:Y):X Y:= if(decide ((65536:Y)<=v2)) then(
 OD (CH .u64 v2 16) (zK .i64 (v3+(16:Y)))) else(
 OD v2 v3)
def RJ(a0:Y):X Y:= if(decide ((4294967296:Y)<=a0)) then(
 OC (CH .u64 a0 32) (32:Y)) else(
 OC a0 (0:Y))
def LI(a0:Y):X Y:= (RJ a0).bind fun r1=> O r1
def Lq(a0:W Y)(y5 v6:Y)(v17 v18 v21:Y)(v19:W Z)(CD:Y->(W Z)->(W Y)->X Y)(SA:Y->(W Y)->X Y)(v28:W Y):X Y:= if(v21==(0:Y)) then(
 CD (zK .i64 (v6+(1:Y))) v19 v28) else(
 SA (Bl .and .i64 (zK .i64 (v21 - (1:Y))) v18) v28)
def Ha(a0:W Y)(y5 v6:Y)(v17 v18:Y)(v19:W Z)(CD:Y->(W Z)->(W Y)->X Y):J->Y->(W Y)->X Y
| 0,_,_=>V
| n+1,v21,v22=>
 if decide (v17<0) then V else
 (ix v19 (Bl .or .i64 v21 (Bt .i64 (1:Y) v17))).bind fun x24=>
 if x24 then(
 (ix v22 v6).bind fun x26=>
 (ix v22 (Bl .andNot .i64 v18 v21)).bind fun x27=>
 Lq a0 y5 v6 v17 v18 v21 v19 CD (Ha a0 y5 v6 v17 v18 v19 CD n) (v22.set (zB v6) (if(zK .i64 ((1:Y)+x27))<x26 then(zK .i64 ((1:Y)+x27)) else x26)))
 else(
 Lq a0 y5 v6 v17 v18 v21 v19 CD (Ha a0 y5 v6 v17 v18 v19 CD n) v22)
def Lp(a0:W Y)(y5 v6:Y)(v8:W Y)(CD:Y->(W Z)->(W Y)->X Y)(v17 v18:Y)(v19:W Z):X Y:= (ix v8 v6).bind fun x20=> Ha a0 y5 v6 v17 v18 v19 CD bigN v18 (v8.set (zB v6) (a0.length:Y))
def EP(a0:W Y)(y5:Y):J->Y->(W Z)->(W Y)->X Y
| 0,_,_,_=>V
| n+1,v6,v7,v8=>
 if(decide (v6<y5)) then(
 (LI (IntKind.u64.wrap v6)).bind fun r10=>
 if decide ((zK .i64 (r10 - (1:Y)))<0) then V else
 (ix v7 (Bl .andNot .i64 v6 (Bt .i64 (1:Y) (zK .i64 (r10 - (1:Y)))))).bind fun x12=>
 if x12 then(
  (ix a0 (zK .i64 (r10 - (1:Y)))).bind fun x14=>
  (ix v7 v6).bind fun x15=>
  Lp a0 y5 v6 v8 (EP a0 y5 n) (zK .i64 (r10 - (1:Y))) (Bl .andNot .i64 v6 (Bt .i64 (1:Y) (zK .i64 (r10 - (1:Y))))) (v7.set (zB v6) ((Bl .andNot .u64 (IntKind.u64.wrap (Bl .andNot .i64 v6 (Bt .i64 (1:Y) (zK .i64 (r10 - (1:Y)))))) x14)==(0:Y))))
 else(
  (ix v7 v6).bind fun x16=>
  Lp a0 y5 v6 v8 (EP a0 y5 n) (zK .i64 (r10 - (1:Y))) (Bl .andNot .i64 v6 (Bt .i64 (1:Y) (zK .i64 (r10 - (1:Y))))) (v7.set (zB v6) E)))
 else(
 (ix v8 (zK .i64 (y5 - (1:Y)))).bind fun x30=>
 O x30)
def NL(a0:W Y):X Y:= if decide ((a0.length:Y)<0) then V else (BB (Bt .i64 (1:Y) (a0.length:Y)) (Bt .i64 (1:Y) (a0.length:Y)) 1).bind fun n2=> (BB (Bt .i64 (1:Y) (a0.length:Y)) (Bt .i64 (1:Y) (a0.length:Y)) 8).bind fun n3=> (ix (zF n2 E) (0:Y)).bind fun x4=> EP a0 (Bt .i64 (1:Y) (a0.length:Y)) bigN (1:Y) ((zF n2 E).set (zB (0:Y)) F) (zF n3 (0:Y))
def IW(rec_:Xg->X (Z × Xg))(a0:Xg)(v2:Y)(F6:Y->(W Y)->Y->(W Y)->(W Y)->X (Z × Xg))(v22:W Y)(v23:Y)(v24 v25:W Y):X (Z × Xg):= (ix v24 v2).bind fun x26=> if(x26==(0:Y)) then(
 (bnd (v24.length:Y) v2 0 v24.length).bind fun p28=>
 O (E,(⟨v22,v23,(v24.take p28.2),v25⟩:Xg))) else(
 F6 (zK .i64 (v2+(1:Y))) v22 v23 v24 v25)
def Ll(rec_:Xg->X (Z × Xg))(a0:Xg)(v2:Y)(v3:W Y)(v4:Y)(v6:W Y)(F6:Y->(W Y)->Y->(W Y)->(W Y)->X (Z × Xg))(v11:W Y):X (Z × Xg):= (ix v11 v2).bind fun x12=> (ix v3 (a0.who.length:Y)).bind fun x13=> if((Bl .andNot .u64 x12 x13)==(0:Y)) then(
 if decide ((a0.who.length:Y)<0) then V else
 if Ab v6.length ([v2]:W Y).length 8 then(
 (rec_ (⟨v3,v4,(v11.set (zB v2) (Bl .or .u64 x12 (Bt .u64 (1:Y) (a0.who.length:Y)))),(v6++([v2]:W Y))⟩:Xg)).bind fun r17=>
 if r17.1 then(
  O (F,r17.2))
 else(
  (bnd (r17.2.who.length:Y) (a0.who.length:Y) 0 r17.2.who.length).bind fun p19=>
  (ix r17.2.groups v2).bind fun x20=>
  if decide ((a0.who.length:Y)<0) then V else
  IW rec_ a0 v2 F6 r17.2.sets r17.2.most (r17.2.groups.set (zB v2) (Bl .andNot .u64 x20 (Bt .u64 (1:Y) (a0.who.length:Y)))) (r17.2.who.take p19.2)))
 else V) else(
 IW rec_ a0 v2 F6 v3 v4 v11 v6)
def FT(rec_:Xg->X (Z × Xg))(a0:Xg):J->Y->(W Y)->Y->(W Y)->(W Y)->X (Z × Xg)
| 0,_,_,_,_,_=>V
| n+1,v2,v3,v4,v5,v6=>
 if(decide (v2<=(v5.length:Y))) then(
 if(decide (v2<v4)) then(
  if(v2==(v5.length:Y)) then(
  if Ab v5.length ([(0:Y)]:W Y).length 8 then(
   Ll rec_ a0 v2 v3 v4 v6 (FT rec_ a0 n) (v5++([(0:Y)]:W Y)))
  else V)
  else(
  Ll rec_ a0 v2 v3 v4 v6 (FT rec_ a0 n) v5))
 else(
  O (E,(⟨v3,v4,v5,v6⟩:Xg))))
 else(
 O (E,(⟨v3,v4,v5,v6⟩:Xg)))
def NJ(rec_:Xg->X (Z × Xg))(a0:Xg):X (Z × Xg):= if((a0.who.length:Y)==(a0.sets.length:Y)) then(
 O (F,a0)) else(
 FT rec_ a0 bigN (0:Y) a0.sets a0.most a0.groups a0.who)
def Ef:J->Xg->X (Z × Xg)
| 0,_=>V
| n+1,a0=>NJ (Ef n) a0
def Ua(a0:Xg):X (Z × Xg):=Ef bigN a0
def Nj(a0:Y)(a1:W Y)(a2:W Xb):X ((W Y) × Y × Z):= (Ro a0 a1 a2).bind fun r1=> if r1 then(
 (NN a0 a1 a2).bind fun r3=>
 (NL r3).bind fun r4=>
 (Ua (⟨r3,r4,([]:W Y),([]:W Y)⟩:Xg)).bind fun r5=>
 O (r5.2.who,r5.2.most,F)) else(
 O (([]:W Y),(0:Y),E))
def H7(a0:Y)(a1:W Y)(a2:W Xb)(a3:Y):X Z:= if(decide ((a2.length:Y)<=a3)) then(
 O F) else(
 (Nj a0 a1 a2).bind fun r2=>
 O (decide (r2.2.1<=a3)))
def H9(a1:W X0)(a0:X3):J->Y->(W X1)->(W Xb)->X Z
| 0,_,_,_=>V
| n+1,v1,v2,v3=>
 if(decide (v1<(a1.length:Y))) then(
 (ix a1 v1).bind fun x5=>
 if Ab v2.length x5.Passages.length 40 then(
  if(decide ((0:Y)<(x5.Passages.length:Y))) then(
  (ix x5.Passages (0:Y)).bind fun x8=>
  (ix x5.Passages (zK .i64 ((x5.Passages.length:Y) - (1:Y)))).bind fun x9=>
  (Ln a0.Chart x8 x9).bind fun r10=>
  if Ab v3.length ([r10]:W Xb).length 32 then(
   H9 a1 a0 n (zK .i64 (v1+(1:Y))) (v2++x5.Passages) (v3++([r10]:W Xb)))
  else V)
  else(
  H9 a1 a0 n (zK .i64 (v1+(1:Y))) (v2++x5.Passages) v3))
 else V)
 else(
 (NQ a0.Chart a0.Fleet v2).bind fun r12=>
 if r12.2 then(
  (H7 (0:Y) a0.Crew.Moves r12.1 a0.Crew.Tugs).bind fun r14=>
  if r14 then(
  (H7 a0.Crew.Rest a0.Crew.Moves v3 a0.Crew.Pilots).bind fun r16=>
  O r16)
  else(
  O E))
 else(
  O E))
def H8(a0:X3)(a1:W X0):X Z:= H9 a1 a0 bigN (0:Y) ([]:W X1) ([]:W Xb)
def IX(a1:W X0)(a0:X3)(a2:X0):J->Y->X Z
| 0,_=>V
| n+1,v1=>
 if(decide (v1<(a1.length:Y))) then(
 (ix a1 v1).bind fun x3=>
 (NC a0.Chart a0.Regime x3.Passages a2.Passages).bind fun r4=>
 if r4 then(
  O E)
 else(
  IX a1 a0 a2 n (zK .i64 (v1+(1:Y)))))
 else(
 (Lk a1).bind fun r6=>
 if Ab r6.length ([a2]:W X0).length 48 then(
  (H8 a0 (r6++([a2]:W X0))).bind fun r9=>
  O r9)
 else V)
def NK(a0:X3)(a1:W X0)(a2:X0):X Z:= IX a1 a0 a2 bigN (0:Y)
def Eh(w0:(W X0)->X Xj)(rec_:Xh->X Xh)(a0:Xh)(x8:W X0):J->Y->X3->(W (W X0))->Y->Y->Z->(W X0)->(W Y)->(W Y)->X Xh
| 0,_,_,_,_,_,_,_,_,_=>V
| n+1,v9,v10,v11,v12,v13,v14,v15,v16,v17=>
 if(decide (v9<(x8.length:Y))) then(
 (ix x8 v9).bind fun x19=>
 (NK v10 v15 x19).bind fun r20=>
 if r20 then(
  if Ab v15.length ([x19]:W X0).length 48 then(
  if Ab v16.length ([v9]:W Y).length 8 then(
   (rec_ (⟨v10,v11,(v15++([x19]:W X0)),(v16++([v9]:W Y)),v17,(⟨v12,v13⟩:Xj),v14⟩:Xh)).bind fun r24=>
   (bnd (r24.plan.length:Y) (a0.plan.length:Y) 0 r24.plan.length).bind fun p25=>
   (bnd (r24.choice.length:Y) (a0.plan.length:Y) 0 r24.choice.length).bind fun p26=>
   Eh w0 rec_ a0 x8 n (zK .i64 (v9+(1:Y))) r24.h r24.choices r24.least.i0 r24.least.i1 r24.found (r24.plan.take p25.2) (r24.choice.take p26.2) r24.best)
  else V)
  else V)
 else(
  Eh w0 rec_ a0 x8 n (zK .i64 (v9+(1:Y))) v10 v11 v12 v13 v14 v15 v16 v17))
 else(
 O (⟨v10,v11,v15,v16,v17,(⟨v12,v13⟩:Xj),v14⟩:Xh))
def J0(w0:(W X0)->X Xj)(rec_:Xh->X Xh)(a0:Xh)(r1:Xj)(v5:Z):X Xh:= if((a0.plan.length:Y)==(a0.choices.length:Y)) then(
 (Ee a0.choice).bind fun r7=>
 O (⟨a0.h,a0.choices,a0.plan,a0.choice,r7,r1,F⟩:Xh)) else(
 (ix a0.choices (a0.plan.length:Y)).bind fun x8=>
 Eh w0 rec_ a0 x8 bigN (0:Y) a0.h a0.choices a0.least.i0 a0.least.i1 v5 a0.plan a0.choice a0.best)
def NP(w0:(W X0)->X Xj)(rec_:Xh->X Xh)(a0:Xh):X Xh:= (w0 a0.plan).bind fun r1=> if a0.found then(
 (NS r1 a0.least).bind fun r3=>
 if r3 then(
 J0 w0 rec_ a0 r1 F)
 else(
 O (⟨a0.h,a0.choices,a0.plan,a0.choice,a0.best,a0.least,F⟩:Xh))) else(
 J0 w0 rec_ a0 r1 E)
def DF(w0:(W X0)->X Xj):J->Xh->X Xh
| 0,_=>V
| n+1,a0=>NP w0 (DF w0 n) a0
def Ub(w0:(W X0)->X Xj)(a0:Xh):X Xh:=DF w0 bigN a0
def NM(a0:X3)(a1:W (W X0))(a2:(W X0)->X Xj):X ((W Y) × Xj × Z):= (Ub a2 (⟨a0,a1,([]:W X0),([]:W Y),([]:W Y),(⟨(0:Y),(0:Y)⟩:Xj),E⟩:Xh)).bind fun r1=> O (r1.best,r1.least,r1.found)
def Nu(a0 a1:X0):X Y:= (EN a0 a1).bind fun r1=> if r1 then(
 O (0:Y)) else(
 O (zK .i64 ((60:Y)+(zK .i64 ((if a0.Start<a1.Start then a1.Start else a0.Start) - (if a1.Start<a0.Start then a1.Start else a0.Start))))))
def IN(a0 a1:W X0)(y2:Y):J->Y->Y->X Y
| 0,_,_=>V
| n+1,v1,v3=>
 if(decide (v3<y2)) then(
 (ix a0 v3).bind fun x5=>
 (ix a1 v3).bind fun x6=>
 (Nu x5 x6).bind fun r7=>
 IN a0 a1 y2 n (zK .i64 (v1+r7)) (zK .i64 (v3+(1:Y))))
 else(
 O v1)
def Le(a0 a1:W X0):X Y:= IN a0 a1 (if(a1.length:Y)<(a0.length:Y) then(a1.length:Y) else(a0.length:Y)) bigN (0:Y) (0:Y)
def L7(a0 c0:W X0):X Xj:= (Le c0 a0).bind fun r1=> O (⟨r1,(0:Y)⟩:Xj)
def DE(a0:W (W X0))(a1:W Y):J->Y->(W X0)->X (W X0)
| 0,_,_=>V
| n+1,v1,v2=>
 if(decide (v1<(a1.length:Y))) then(
 (ix a1 v1).bind fun x4=>
 (ix a0 v1).bind fun x5=>
 (ix x5 x4).bind fun x6=>
 if Ab v2.length ([x6]:W X0).length 48 then(
  DE a0 a1 n (zK .i64 (v1+(1:Y))) (v2++([x6]:W X0)))
 else V)
 else(
 O v2)
def Lj(a0:W (W X0))(a1:W Y):X (W X0):= DE a0 a1 bigN (0:Y) ([]:W X0)
def GY(a1:W X8)(a0:X3)(a2:W X0):J->Y->(W (W X0))->X ((W X0) × Y × Z)
| 0,_,_=>V
| n+1,v5,v6=>
 if(decide (v5<(a1.length:Y))) then(
 (ix a1 v5).bind fun x8=>
 (ix a2 v5).bind fun x9=>
 (CP x9.Start).bind fun r10=>
 if r10 then(
  (EL a0 x8 x9).bind fun r12=>
  if Ab v6.length ([r12]:W (W X0)).length 24 then(
  GY a1 a0 a2 n (zK .i64 (v5+(1:Y))) (v6++([r12]:W (W X0))))
  else V)
 else(
  O (([]:W X0),(0:Y),E)))
 else(
 (NM a0 v6 (fun z0=>L7 z0 a2)).bind fun r14=>
 if r14.2.2 then(
  (Lj v6 r14.1).bind fun r16=>
  O (r16,r14.2.1.i0,F))
 else(
  O (([]:W X0),(0:Y),E)))
def Nb(a1:W X8)(a0:X3)(a2:W X0)(v3:Z):X ((W X0) × Y × Z):= if v3 then(
 O (([]:W X0),(0:Y),E)) else(
 GY a1 a0 a2 bigN (0:Y) ([]:W (W X0)))
def GX(a0:X3)(a1:W X8)(a2:W X0):X ((W X0) × Y × Z):= (Na a0 a1).bind fun r1=> if r1 then(
 Nb a1 a0 a2 ((a2.length:Y) !=(a1.length:Y))) else(
 Nb a1 a0 a2 F)
def O2(a0 a1:X1):X Z:= if(a0.Ship !=a1.Ship) then(
 O E) else(
 if(a0.Segment !=a1.Segment) then(
 O E)
 else(
 if(a0.Toward==a1.Toward) then(
  if(a0.Start !=a1.Start) then(
  O E)
  else(
  if(a0.End !=a1.End) then(
   O E)
  else(
   O F)))
 else(
  O E)))
def J9(a0 a1:W X1):J->Y->X Z
| 0,_=>V
| n+1,v2=>
 if(decide (v2<(a0.length:Y))) then(
 (ix a0 v2).bind fun x4=>
 (ix a1 v2).bind fun x5=>
 (O2 x4 x5).bind fun r6=>
 if r6 then(
  J9 a0 a1 n (zK .i64 (v2+(1:Y))))
 else(
  O E))
 else(
 O F)
def O3(a0 a1:W X1):X Z:= if((a0.length:Y) !=(a1.length:Y)) then(
 O E) else(
 J9 a0 a1 bigN (0:Y))
def NZ(a0 a1:X0):X Z:= if(a0.Start !=a1.Start) then(
 O E) else(
 if(a0.Arrival !=a1.Arrival) then(
 O E)
 else(
 if(a0.Cost !=a1.Cost) then(
  O E)
 else(
  (O3 a0.Passages a1.Passages).bind fun r4=>
  if r4 then(
  O F)
  else(
  O E))))
def J7(a0 a1:W X0):J->Y->X Z
| 0,_=>V
| n+1,v2=>
 if(decide (v2<(a0.length:Y))) then(
 (ix a0 v2).bind fun x4=>
 (ix a1 v2).bind fun x5=>
 (NZ x4 x5).bind fun r6=>
 if r6 then(
  J7 a0 a1 n (zK .i64 (v2+(1:Y))))
 else(
  O E))
 else(
 O F)
def ET(a0 a1:W X0):X Z:= if((a0.length:Y) !=(a1.length:Y)) then(
 O E) else(
 J7 a0 a1 bigN (0:Y))
def O0(a0 a1:Xc):X Z:= if(a0.Amp !=a1.Amp) then(
 O E) else(
 if(a0.Period !=a1.Period) then(
 O E)
 else(
 if(a0.Phase !=a1.Phase) then(
  O E)
 else(
  O F)))
def J8(a0 a1:W Xc):J->Y->X Z
| 0,_=>V
| n+1,v2=>
 if(decide (v2<(a0.length:Y))) then(
 (ix a0 v2).bind fun x4=>
 (ix a1 v2).bind fun x5=>
 (O0 x4 x5).bind fun r6=>
 if r6 then(
  J8 a0 a1 n (zK .i64 (v2+(1:Y))))
 else(
  O E))
 else(
 O F)
def O1(a0 a1:W Xc):X Z:= if((a0.length:Y) !=(a1.length:Y)) then(
 O E) else(
 J8 a0 a1 bigN (0:Y))
def Ru(a0 a1:Xm):X Z:= if(a0.Mean !=a1.Mean) then(
 O E) else(
 (O1 a0.Parts a1.Parts).bind fun r2=>
 if r2 then(
 O F)
 else(
 O E))
def Oa(a0 a1:X9):X Z:= if(a0.From !=a1.From) then(
 O E) else(
 if(a0.Low !=a1.Low) then(
 O E)
 else(
 if(a0.High !=a1.High) then(
  O E)
 else(
  O F)))
def Jd(a0 a1:W X9):J->Y->X Z
| 0,_=>V
| n+1,v2=>
 if(decide (v2<(a0.length:Y))) then(
 (ix a0 v2).bind fun x4=>
 (ix a1 v2).bind fun x5=>
 (Oa x4 x5).bind fun r6=>
 if r6 then(
  Jd a0 a1 n (zK .i64 (v2+(1:Y))))
 else(
  O E))
 else(
 O F)
def Ob(a0 a1:W X9):X Z:= if((a0.length:Y) !=(a1.length:Y)) then(
 O E) else(
 Jd a0 a1 bigN (0:Y))
def NW(a0 a1:Xd):X Z:= (Ru a0.Tide a1.Tide).bind fun r1=> if r1 then(
 (Ob a0.Surges a1.Surges).bind fun r3=>
 if r3 then(
 O F)
 else(
 O E)) else(
 O E)
def O4(a0 a1:X7):X Z:= if(a0.Name==a1.Name) then(
 if(a0.Wait==a1.Wait) then(
 O F)
 else(
 O E)) else(
 O E)
def Ja(a0 a1:W X7):J->Y->X Z
| 0,_=>V
| n+1,v2=>
 if(decide (v2<(a0.length:Y))) then(
 (ix a0 v2).bind fun x4=>
 (ix a1 v2).bind fun x5=>
 (O4 x4 x5).bind fun r6=>
 if r6 then(
  Ja a0 a1 n (zK .i64 (v2+(1:Y))))
 else(
  O E))
 else(
 O F)
def O5(a0 a1:W X7):X Z:= if((a0.length:Y) !=(a1.length:Y)) then(
 O E) else(
 Ja a0 a1 bigN (0:Y))
def O6(a0 a1:X2):X Z:= if(a0.A !=a1.A) then(
 O E) else(
 if(a0.B !=a1.B) then(
 O E)
 else(
 if(a0.Depth !=a1.Depth) then(
  O E)
 else(
  if(a0.Minutes !=a1.Minutes) then(
  O E)
  else(
  if(a0.Meet==a1.Meet) then(
   O F)
  else(
   O E)))))
def Jb(a0 a1:W X2):J->Y->X Z
| 0,_=>V
| n+1,v2=>
 if(decide (v2<(a0.length:Y))) then(
 (ix a0 v2).bind fun x4=>
 (ix a1 v2).bind fun x5=>
 (O6 x4 x5).bind fun r6=>
 if r6 then(
  Jb a0 a1 n (zK .i64 (v2+(1:Y))))
 else(
  O E))
 else(
 O F)
def O7(a0 a1:W X2):X Z:= if((a0.length:Y) !=(a1.length:Y)) then(
 O E) else(
 Jb a0 a1 bigN (0:Y))
def NV(a0 a1:X4):X Z:= (O5 a0.Points a1.Points).bind fun r1=> if r1 then(
 (O7 a0.Segments a1.Segments).bind fun r3=>
 if r3 then(
 O F)
 else(
 O E)) else(
 O E)
def O8(a0 a1:X5):X Z:= if(a0.Name==a1.Name) then(
 if(a0.Length !=a1.Length) then(
 O E)
 else(
 if(a0.Draught !=a1.Draught) then(
  O E)
 else(
  if(a0.Line !=a1.Line) then(
  O E)
  else(
  if(a0.Tugs !=a1.Tugs) then(
   O E)
  else(
   if(a0.Slow==a1.Slow) then(
   O F)
   else(
   O E)))))) else(
 O E)
def Jc(a0 a1:W X5):J->Y->X Z
| 0,_=>V
| n+1,v2=>
 if(decide (v2<(a0.length:Y))) then(
 (ix a0 v2).bind fun x4=>
 (ix a1 v2).bind fun x5=>
 (O8 x4 x5).bind fun r6=>
 if r6 then(
  Jc a0 a1 n (zK .i64 (v2+(1:Y))))
 else(
  O E))
 else(
 O F)
def O9(a0 a1:W X5):X Z:= if((a0.length:Y) !=(a1.length:Y)) then(
 O E) else(
 Jc a0 a1 bigN (0:Y))
def Rt(a0 a1:Xi):X Z:= if(a0.Gap !=a1.Gap) then(
 O E) else(
 if(a0.NoMeet==a1.NoMeet) then(
 O F)
 else(
 O E))
def J6(a0 a1:W Y):J->Y->X Z
| 0,_=>V
| n+1,v2=>
 if(decide (v2<(a0.length:Y))) then(
 (ix a0 v2).bind fun x4=>
 (ix a1 v2).bind fun x5=>
 if(x4 !=x5) then(
  O E)
 else(
  J6 a0 a1 n (zK .i64 (v2+(1:Y)))))
 else(
 O F)
def NY(a0 a1:W Y):X Z:= if((a0.length:Y) !=(a1.length:Y)) then(
 O E) else(
 J6 a0 a1 bigN (0:Y))
def Rr(a0 a1:Xn):X Z:= if(a0.Tugs !=a1.Tugs) then(
 O E) else(
 if(a0.Pilots !=a1.Pilots) then(
 O E)
 else(
 if(a0.Rest !=a1.Rest) then(
  O E)
 else(
  (NY a0.Moves a1.Moves).bind fun r4=>
  if r4 then(
  O F)
  else(
  O E))))
def NX(a0 a1:X3):X Z:= (NW a0.Forecast a1.Forecast).bind fun r1=> if r1 then(
 (NV a0.Chart a1.Chart).bind fun r3=>
 if r3 then(
 (O9 a0.Fleet a1.Fleet).bind fun r5=>
 if r5 then(
  (Rt a0.Regime a1.Regime).bind fun r7=>
  if r7 then(
  (Rr a0.Crew a1.Crew).bind fun r9=>
  if r9 then(
   O F)
  else(
   O E))
  else(
  O E))
 else(
  O E))
 else(
 O E)) else(
 O E)
def Rq(a0 a1:X8):X Z:= if(a0.Ship !=a1.Ship) then(
 O E) else(
 if(a0.From !=a1.From) then(
 O E)
 else(
 if(a0.To !=a1.To) then(
  O E)
 else(
  if(a0.Ready !=a1.Ready) then(
  O E)
  else(
  if(a0.Due !=a1.Due) then(
   O E)
  else(
   O F)))))
def J5(a0 a1:W X8):J->Y->X Z
| 0,_=>V
| n+1,v2=>
 if(decide (v2<(a0.length:Y))) then(
 (ix a0 v2).bind fun x4=>
 (ix a1 v2).bind fun x5=>
 (Rq x4 x5).bind fun r6=>
 if r6 then(
  J5 a0 a1 n (zK .i64 (v2+(1:Y))))
 else(
  O E))
 else(
 O F)
def NU(a0 a1:W X8):X Z:= if((a0.length:Y) !=(a1.length:Y)) then(
 O E) else(
 J5 a0 a1 bigN (0:Y))
def G0:J->Y->Y->(W Xc)->X (Y × W Xc)
| 0,_,_,_=>V
| n+1,v1,v2,v3=>
 if(decide (v2<(v3.length:Y))) then(
 (ix v3 v2).bind fun x5=>
 (ix (v3.set (zB v2) (⟨v1,x5.Period,x5.Phase⟩:Xc)) v2).bind fun x6=>
 (ix ((v3.set (zB v2) (⟨v1,x5.Period,x5.Phase⟩:Xc)).set (zB v2) (⟨x6.Amp,(zK .i64 (v1+(1:Y))),x6.Phase⟩:Xc)) v2).bind fun x7=>
 G0 n (zK .i64 ((zK .i64 ((zK .i64 (v1+(1:Y)))+(1:Y)))+(1:Y))) (zK .i64 (v2+(1:Y))) (((v3.set (zB v2) (⟨v1,x5.Period,x5.Phase⟩:Xc)).set (zB v2) (⟨x6.Amp,(zK .i64 (v1+(1:Y))),x6.Phase⟩:Xc)).set (zB v2) (⟨x7.Amp,x7.Period,(zK .i64 ((zK .i64 (v1+(1:Y)))+(1:Y)))⟩:Xc)))
 else(
 O (v1,v3))
def Lz(a0:W Xc)(a1:Y):X (Y × W Xc):= G0 bigN a1 (0:Y) a0
def LH(a0:Xm)(a1:Y):X (Y × W Xc):= (Lz a0.Parts a1).bind fun r1=> O (r1.1,r1.2)
def G5:J->Y->Y->(W X9)->X (Y × W X9)
| 0,_,_,_=>V
| n+1,v1,v2,v3=>
 if(decide (v2<(v3.length:Y))) then(
 (ix v3 v2).bind fun x5=>
 (ix (v3.set (zB v2) (⟨v1,x5.Low,x5.High⟩:X9)) v2).bind fun x6=>
 (ix ((v3.set (zB v2) (⟨v1,x5.Low,x5.High⟩:X9)).set (zB v2) (⟨x6.From,(zK .i64 (v1+(1:Y))),x6.High⟩:X9)) v2).bind fun x7=>
 G5 n (zK .i64 ((zK .i64 ((zK .i64 (v1+(1:Y)))+(1:Y)))+(1:Y))) (zK .i64 (v2+(1:Y))) (((v3.set (zB v2) (⟨v1,x5.Low,x5.High⟩:X9)).set (zB v2) (⟨x6.From,(zK .i64 (v1+(1:Y))),x6.High⟩:X9)).set (zB v2) (⟨x7.From,x7.Low,(zK .i64 ((zK .i64 (v1+(1:Y)))+(1:Y)))⟩:X9)))
 else(
 O (v1,v3))
def LF(a0:W X9)(a1:Y):X (Y × W X9):= G5 bigN a1 (0:Y) a0
def Lx(a0:Xd)(a1:Y):X (Y × W Xc × W X9):= (LH a0.Tide a1).bind fun r1=> (LF a0.Surges r1.1).bind fun r2=> O (r2.1,r1.2,r2.2)
def Jh:J->Y->(W zA)->X (W zA)
| 0,_,_=>V
| n+1,v2,v3=>
 if(decide ((0:Y)<v2)) then(
 if FF ([(IntKind.u8.wrap (zK .i64 ((48:Y)+(zK .i64 (zH v2 (10:Y))))))]:W Y).length v3.length then(
  Jh n (zK .i64 (zE v2 (10:Y))) ((zC fJ ([(IntKind.u8.wrap (zK .i64 ((48:Y)+(zK .i64 (zH v2 (10:Y))))))]:W Y))++v3))
 else V)
 else(
 if FF ([109]:W zA).length v3.length then(
  O (([109]:W zA)++v3))
 else V)
def LG(a0:Y):X (W zA):= if(decide (a0<=(0:Y))) then(
 O ([109,48]:W zA)) else(
 Jh bigN a0 ([]:W zA))
def G2:J->Y->Y->(W X7)->X (Y × W X7)
| 0,_,_,_=>V
| n+1,v1,v2,v3=>
 if(decide (v2<(v3.length:Y))) then(
 (LG v1).bind fun r5=>
 (ix v3 v2).bind fun x6=>
 (ix (v3.set (zB v2) (⟨r5,x6.Wait⟩:X7)) v2).bind fun x7=>
 G2 n (zK .i64 ((zK .i64 (v1+(1:Y)))+(1:Y))) (zK .i64 (v2+(1:Y))) ((v3.set (zB v2) (⟨r5,x6.Wait⟩:X7)).set (zB v2) (⟨x7.Name,((zK .i64 (zH (zK .i64 (v1+(1:Y))) (3:Y)))==(0:Y))⟩:X7)))
 else(
 O (v1,v3))
def LA(a0:W X7)(a1:Y):X (Y × W X7):= G2 bigN a1 (0:Y) a0
def G3:J->Y->Y->(W X2)->X (Y × W X2)
| 0,_,_,_=>V
| n+1,v1,v2,v3=>
 if(decide (v2<(v3.length:Y))) then(
 (ix v3 v2).bind fun x5=>
 (ix (v3.set (zB v2) (⟨v1,x5.B,x5.Depth,x5.Minutes,x5.Meet⟩:X2)) v2).bind fun x6=>
 (ix ((v3.set (zB v2) (⟨v1,x5.B,x5.Depth,x5.Minutes,x5.Meet⟩:X2)).set (zB v2) (⟨x6.A,(zK .i64 (v1+(1:Y))),x6.Depth,x6.Minutes,x6.Meet⟩:X2)) v2).bind fun x7=>
 (ix (((v3.set (zB v2) (⟨v1,x5.B,x5.Depth,x5.Minutes,x5.Meet⟩:X2)).set (zB v2) (⟨x6.A,(zK .i64 (v1+(1:Y))),x6.Depth,x6.Minutes,x6.Meet⟩:X2)).set (zB v2) (⟨x7.A,x7.B,(zK .i64 ((zK .i64 (v1+(1:Y)))+(1:Y))),x7.Minutes,x7.Meet⟩:X2)) v2).bind fun x8=>
 (ix ((((v3.set (zB v2) (⟨v1,x5.B,x5.Depth,x5.Minutes,x5.Meet⟩:X2)).set (zB v2) (⟨x6.A,(zK .i64 (v1+(1:Y))),x6.Depth,x6.Minutes,x6.Meet⟩:X2)).set (zB v2) (⟨x7.A,x7.B,(zK .i64 ((zK .i64 (v1+(1:Y)))+(1:Y))),x7.Minutes,x7.Meet⟩:X2)).set (zB v2) (⟨x8.A,x8.B,x8.Depth,(zK .i64 ((zK .i64 ((zK .i64 (v1+(1:Y)))+(1:Y)))+(1:Y))),x8.Meet⟩:X2)) v2).bind fun x9=>
 G3 n (zK .i64 ((zK .i64 ((zK .i64 ((zK .i64 ((zK .i64 (v1+(1:Y)))+(1:Y)))+(1:Y)))+(1:Y)))+(1:Y))) (zK .i64 (v2+(1:Y))) (((((v3.set (zB v2) (⟨v1,x5.B,x5.Depth,x5.Minutes,x5.Meet⟩:X2)).set (zB v2) (⟨x6.A,(zK .i64 (v1+(1:Y))),x6.Depth,x6.Minutes,x6.Meet⟩:X2)).set (zB v2) (⟨x7.A,x7.B,(zK .i64 ((zK .i64 (v1+(1:Y)))+(1:Y))),x7.Minutes,x7.Meet⟩:X2)).set (zB v2) (⟨x8.A,x8.B,x8.Depth,(zK .i64 ((zK .i64 ((zK .i64 (v1+(1:Y)))+(1:Y)))+(1:Y))),x8.Meet⟩:X2)).set (zB v2) (⟨x9.A,x9.B,x9.Depth,x9.Minutes,((zK .i64 (zH (zK .i64 ((zK .i64 ((zK .i64 ((zK .i64 (v1+(1:Y)))+(1:Y)))+(1:Y)))+(1:Y))) (3:Y)))==(0:Y))⟩:X2)))
 else(
 O (v1,v3))
def LC(a0:W X2)(a1:Y):X (Y × W X2):= G3 bigN a1 (0:Y) a0
def Lv(a0:X4)(a1:Y):X (Y × W X7 × W X2):= (LA a0.Points a1).bind fun r1=> (LC a0.Segments r1.1).bind fun r2=> O (r2.1,r1.2,r2.2)
def G4:J->Y->Y->(W X5)->X (Y × W X5)
| 0,_,_,_=>V
| n+1,v1,v2,v3=>
 if(decide (v2<(v3.length:Y))) then(
 (LG v1).bind fun r5=>
 (ix v3 v2).bind fun x6=>
 (ix (v3.set (zB v2) (⟨r5,x6.Length,x6.Draught,x6.Line,x6.Tugs,x6.Slow⟩:X5)) v2).bind fun x7=>
 (ix ((v3.set (zB v2) (⟨r5,x6.Length,x6.Draught,x6.Line,x6.Tugs,x6.Slow⟩:X5)).set (zB v2) (⟨x7.Name,(zK .i64 (v1+(1:Y))),x7.Draught,x7.Line,x7.Tugs,x7.Slow⟩:X5)) v2).bind fun x8=>
 (ix (((v3.set (zB v2) (⟨r5,x6.Length,x6.Draught,x6.Line,x6.Tugs,x6.Slow⟩:X5)).set (zB v2) (⟨x7.Name,(zK .i64 (v1+(1:Y))),x7.Draught,x7.Line,x7.Tugs,x7.Slow⟩:X5)).set (zB v2) (⟨x8.Name,x8.Length,(zK .i64 ((zK .i64 (v1+(1:Y)))+(1:Y))),x8.Line,x8.Tugs,x8.Slow⟩:X5)) v2).bind fun x9=>
 (ix ((((v3.set (zB v2) (⟨r5,x6.Length,x6.Draught,x6.Line,x6.Tugs,x6.Slow⟩:X5)).set (zB v2) (⟨x7.Name,(zK .i64 (v1+(1:Y))),x7.Draught,x7.Line,x7.Tugs,x7.Slow⟩:X5)).set (zB v2) (⟨x8.Name,x8.Length,(zK .i64 ((zK .i64 (v1+(1:Y)))+(1:Y))),x8.Line,x8.Tugs,x8.Slow⟩:X5)).set (zB v2) (⟨x9.Name,x9.Length,x9.Draught,(zK .i64 ((zK .i64 ((zK .i64 (v1+(1:Y)))+(1:Y)))+(1:Y))),x9.Tugs,x9.Slow⟩:X5)) v2).bind fun x10=>
 (ix (((((v3.set (zB v2) (⟨r5,x6.Length,x6.Draught,x6.Line,x6.Tugs,x6.Slow⟩:X5)).set (zB v2) (⟨x7.Name,(zK .i64 (v1+(1:Y))),x7.Draught,x7.Line,x7.Tugs,x7.Slow⟩:X5)).set (zB v2) (⟨x8.Name,x8.Length,(zK .i64 ((zK .i64 (v1+(1:Y)))+(1:Y))),x8.Line,x8.Tugs,x8.Slow⟩:X5)).set (zB v2) (⟨x9.Name,x9.Length,x9.Draught,(zK .i64 ((zK .i64 ((zK .i64 (v1+(1:Y)))+(1:Y)))+(1:Y))),x9.Tugs,x9.Slow⟩:X5)).set (zB v2) (⟨x10.Name,x10.Length,x10.Draught,x10.Line,(zK .i64 ((zK .i64 ((zK .i64 ((zK .i64 (v1+(1:Y)))+(1:Y)))+(1:Y)))+(1:Y))),x10.Slow⟩:X5)) v2).bind fun x11=>
 G4 n (zK .i64 ((zK .i64 ((zK .i64 ((zK .i64 ((zK .i64 ((zK .i64 (v1+(1:Y)))+(1:Y)))+(1:Y)))+(1:Y)))+(1:Y)))+(1:Y))) (zK .i64 (v2+(1:Y))) ((((((v3.set (zB v2) (⟨r5,x6.Length,x6.Draught,x6.Line,x6.Tugs,x6.Slow⟩:X5)).set (zB v2) (⟨x7.Name,(zK .i64 (v1+(1:Y))),x7.Draught,x7.Line,x7.Tugs,x7.Slow⟩:X5)).set (zB v2) (⟨x8.Name,x8.Length,(zK .i64 ((zK .i64 (v1+(1:Y)))+(1:Y))),x8.Line,x8.Tugs,x8.Slow⟩:X5)).set (zB v2) (⟨x9.Name,x9.Length,x9.Draught,(zK .i64 ((zK .i64 ((zK .i64 (v1+(1:Y)))+(1:Y)))+(1:Y))),x9.Tugs,x9.Slow⟩:X5)).set (zB v2) (⟨x10.Name,x10.Length,x10.Draught,x10.Line,(zK .i64 ((zK .i64 ((zK .i64 ((zK .i64 (v1+(1:Y)))+(1:Y)))+(1:Y)))+(1:Y))),x10.Slow⟩:X5)).set (zB v2) (⟨x11.Name,x11.Length,x11.Draught,x11.Line,x11.Tugs,((zK .i64 (zH (zK .i64 ((zK .i64 ((zK .i64 ((zK .i64 ((zK .i64 (v1+(1:Y)))+(1:Y)))+(1:Y)))+(1:Y)))+(1:Y))) (3:Y)))==(0:Y))⟩:X5)))
 else(
 O (v1,v3))
def LD(a0:W X5)(a1:Y):X (Y × W X5):= G4 bigN a1 (0:Y) a0
def FZ:J->Y->Y->(W Y)->X (Y × W Y)
| 0,_,_,_=>V
| n+1,v1,v2,v3=>
 if(decide (v2<(v3.length:Y))) then(
 (ix v3 v2).bind fun x5=>
 FZ n (zK .i64 (v1+(1:Y))) (zK .i64 (v2+(1:Y))) (v3.set (zB v2) v1))
 else(
 O (v1,v3))
def Ly(a0:W Y)(a1:Y):X (Y × W Y):= FZ bigN a1 (0:Y) a0
def Lw(a0:Xn)(a1:Y):X (Y × W Y):= (Ly a0.Moves a1).bind fun r1=> O (r1.1,r1.2)
def Jg(a0:X3)(a1:Y):X (Y × W Xc × W X9 × W X7 × W X2 × W X5 × W Y):= (Lx a0.Forecast a1).bind fun r1=> (Lv a0.Chart r1.1).bind fun r2=> (LD a0.Fleet r2.1).bind fun r3=> (Lw a0.Crew r3.1).bind fun r4=> O (r4.1,r1.2.1,r1.2.2,r2.2.1,r2.2.2,r3.2,r4.2)
def FY:J->Y->Y->(W X8)->X (Y × W X8)
| 0,_,_,_=>V
| n+1,v1,v2,v3=>
 if(decide (v2<(v3.length:Y))) then(
 (ix v3 v2).bind fun x5=>
 (ix (v3.set (zB v2) (⟨v1,x5.From,x5.To,x5.Ready,x5.Due⟩:X8)) v2).bind fun x6=>
 (ix ((v3.set (zB v2) (⟨v1,x5.From,x5.To,x5.Ready,x5.Due⟩:X8)).set (zB v2) (⟨x6.Ship,(zK .i64 (v1+(1:Y))),x6.To,x6.Ready,x6.Due⟩:X8)) v2).bind fun x7=>
 (ix (((v3.set (zB v2) (⟨v1,x5.From,x5.To,x5.Ready,x5.Due⟩:X8)).set (zB v2) (⟨x6.Ship,(zK .i64 (v1+(1:Y))),x6.To,x6.Ready,x6.Due⟩:X8)).set (zB v2) (⟨x7.Ship,x7.From,(zK .i64 ((zK .i64 (v1+(1:Y)))+(1:Y))),x7.Ready,x7.Due⟩:X8)) v2).bind fun x8=>
 (ix ((((v3.set (zB v2) (⟨v1,x5.From,x5.To,x5.Ready,x5.Due⟩:X8)).set (zB v2) (⟨x6.Ship,(zK .i64 (v1+(1:Y))),x6.To,x6.Ready,x6.Due⟩:X8)).set (zB v2) (⟨x7.Ship,x7.From,(zK .i64 ((zK .i64 (v1+(1:Y)))+(1:Y))),x7.Ready,x7.Due⟩:X8)).set (zB v2) (⟨x8.Ship,x8.From,x8.To,(zK .i64 ((zK .i64 ((zK .i64 (v1+(1:Y)))+(1:Y)))+(1:Y))),x8.Due⟩:X8)) v2).bind fun x9=>
 FY n (zK .i64 ((zK .i64 ((zK .i64 ((zK .i64 ((zK .i64 (v1+(1:Y)))+(1:Y)))+(1:Y)))+(1:Y)))+(1:Y))) (zK .i64 (v2+(1:Y))) (((((v3.set (zB v2) (⟨v1,x5.From,x5.To,x5.Ready,x5.Due⟩:X8)).set (zB v2) (⟨x6.Ship,(zK .i64 (v1+(1:Y))),x6.To,x6.Ready,x6.Due⟩:X8)).set (zB v2) (⟨x7.Ship,x7.From,(zK .i64 ((zK .i64 (v1+(1:Y)))+(1:Y))),x7.Ready,x7.Due⟩:X8)).set (zB v2) (⟨x8.Ship,x8.From,x8.To,(zK .i64 ((zK .i64 ((zK .i64 (v1+(1:Y)))+(1:Y)))+(1:Y))),x8.Due⟩:X8)).set (zB v2) (⟨x9.Ship,x9.From,x9.To,x9.Ready,(zK .i64 ((zK .i64 ((zK .i64 ((zK .i64 (v1+(1:Y)))+(1:Y)))+(1:Y)))+(1:Y)))⟩:X8)))
 else(
 O (v1,v3))
def Lu(a0:W X8)(a1:Y):X (Y × W X8):= FY bigN a1 (0:Y) a0
def G1:J->Y->Y->(W X1)->X (Y × W X1)
| 0,_,_,_=>V
| n+1,v1,v2,v3=>
 if(decide (v2<(v3.length:Y))) then(
 (ix v3 v2).bind fun x5=>
 (ix (v3.set (zB v2) (⟨v1,x5.Segment,x5.Toward,x5.Start,x5.End⟩:X1)) v2).bind fun x6=>
 (ix ((v3.set (zB v2) (⟨v1,x5.Segment,x5.Toward,x5.Start,x5.End⟩:X1)).set (zB v2) (⟨x6.Ship,(zK .i64 (v1+(1:Y))),x6.Toward,x6.Start,x6.End⟩:X1)) v2).bind fun x7=>
 (ix (((v3.set (zB v2) (⟨v1,x5.Segment,x5.Toward,x5.Start,x5.End⟩:X1)).set (zB v2) (⟨x6.Ship,(zK .i64 (v1+(1:Y))),x6.Toward,x6.Start,x6.End⟩:X1)).set (zB v2) (⟨x7.Ship,x7.Segment,((zK .i64 (zH (zK .i64 ((zK .i64 (v1+(1:Y)))+(1:Y))) (3:Y)))==(0:Y)),x7.Start,x7.End⟩:X1)) v2).bind fun x8=>
 (ix ((((v3.set (zB v2) (⟨v1,x5.Segment,x5.Toward,x5.Start,x5.End⟩:X1)).set (zB v2) (⟨x6.Ship,(zK .i64 (v1+(1:Y))),x6.Toward,x6.Start,x6.End⟩:X1)).set (zB v2) (⟨x7.Ship,x7.Segment,((zK .i64 (zH (zK .i64 ((zK .i64 (v1+(1:Y)))+(1:Y))) (3:Y)))==(0:Y)),x7.Start,x7.End⟩:X1)).set (zB v2) (⟨x8.Ship,x8.Segment,x8.Toward,(zK .i64 ((zK .i64 ((zK .i64 (v1+(1:Y)))+(1:Y)))+(1:Y))),x8.End⟩:X1)) v2).bind fun x9=>
 G1 n (zK .i64 ((zK .i64 ((zK .i64 ((zK .i64 ((zK .i64 (v1+(1:Y)))+(1:Y)))+(1:Y)))+(1:Y)))+(1:Y))) (zK .i64 (v2+(1:Y))) (((((v3.set (zB v2) (⟨v1,x5.Segment,x5.Toward,x5.Start,x5.End⟩:X1)).set (zB v2) (⟨x6.Ship,(zK .i64 (v1+(1:Y))),x6.Toward,x6.Start,x6.End⟩:X1)).set (zB v2) (⟨x7.Ship,x7.Segment,((zK .i64 (zH (zK .i64 ((zK .i64 (v1+(1:Y)))+(1:Y))) (3:Y)))==(0:Y)),x7.Start,x7.End⟩:X1)).set (zB v2) (⟨x8.Ship,x8.Segment,x8.Toward,(zK .i64 ((zK .i64 ((zK .i64 (v1+(1:Y)))+(1:Y)))+(1:Y))),x8.End⟩:X1)).set (zB v2) (⟨x9.Ship,x9.Segment,x9.Toward,x9.Start,(zK .i64 ((zK .i64 ((zK .i64 ((zK .i64 (v1+(1:Y)))+(1:Y)))+(1:Y)))+(1:Y)))⟩:X1)))
 else(
 O (v1,v3))
def He(a0:W X1)(a1:Y):X (Y × W X1):= G1 bigN a1 (0:Y) a0
def Jf(a0:W X1):J->Y->Y->X Y
| 0,_,_=>V
| n+1,v1,v2=>
 if(decide (v2<(a0.length:Y))) then(
 (ix a0 v2).bind fun x4=>
 if(x4.Ship !=v1) then(
  O (-1:Y))
 else(
  if(x4.Segment !=(zK .i64 (v1+(1:Y)))) then(
  O (-1:Y))
  else(
  if(x4.Toward==((zK .i64 (zH (zK .i64 ((zK .i64 (v1+(1:Y)))+(1:Y))) (3:Y)))==(0:Y))) then(
   if(x4.Start !=(zK .i64 ((zK .i64 ((zK .i64 (v1+(1:Y)))+(1:Y)))+(1:Y)))) then(
   O (-1:Y))
   else(
   if(x4.End !=(zK .i64 ((zK .i64 ((zK .i64 ((zK .i64 (v1+(1:Y)))+(1:Y)))+(1:Y)))+(1:Y)))) then(
    O (-1:Y))
   else(
    Jf a0 n (zK .i64 ((zK .i64 ((zK .i64 ((zK .i64 ((zK .i64 (v1+(1:Y)))+(1:Y)))+(1:Y)))+(1:Y)))+(1:Y))) (zK .i64 (v2+(1:Y))))))
  else(
   O (-1:Y)))))
 else(
 O v1)
def Oc(a0:W X1)(a1:Y):X Y:= Jf a0 bigN a1 (0:Y)
def Je(a0:W X0):J->Y->Y->X Y
| 0,_,_=>V
| n+1,v1,v2=>
 if(decide (v2<(a0.length:Y))) then(
 (ix a0 v2).bind fun x4=>
 if(x4.Start !=v1) then(
  O (-1:Y))
 else(
  if(x4.Arrival !=(zK .i64 (v1+(1:Y)))) then(
  O (-1:Y))
  else(
  if(x4.Cost !=(zK .i64 ((zK .i64 (v1+(1:Y)))+(1:Y)))) then(
   O (-1:Y))
  else(
   (Oc x4.Passages (zK .i64 ((zK .i64 ((zK .i64 (v1+(1:Y)))+(1:Y)))+(1:Y)))).bind fun r9=>
   if(decide (r9<(0:Y))) then(
   O (-1:Y))
   else(
   Je a0 n r9 (zK .i64 (v2+(1:Y))))))))
 else(
 O v1)
def Lt(a0:W X0)(a1:Y):X Y:= Je a0 bigN a1 (0:Y)
class Ct (f:J) (T:outParam Prop):Prop where
 c:T
def Ag{f:J}{T:Prop}(I:Ct f T):T:=I.c
section
variable {P : Program} {k : W Fr} {Q : Xl -> St -> Prop} {M : St} {its : W AItem} {d f : J} {args : W Opd} {xs : W DV} {rs : W R1} {T : Prop} [I : Ct f T]
def oM(hf:T->FC P f xs rs)(h:go P (.ops its::k) Q .normal (O (M.inst d rs)))(h1:M.toIVs args=O xs:=by exact rfl)(h3:M.fresh d=F:=by first | exact rfl | (simp only[St.fresh,List.all_cons,List.all_nil,Cu]; simp[AV.cells,V1.cells,AC.uses]))(h4:Nat.ble (rs.flatMap R1.cells).length 64=F:=by exact rfl) :
  go P (.ops ((V,.call d f args)::its)::k) Q .normal (O M):=AD (hf I.c) h h1 h3 h4
def qd{N:W J}{ds:W AY}(hf:T->FC P f xs rs)(h:go P (.dops ds::k) Q .normal (O (M.inst d rs)))(h1:(M.less N).toIVs args=O xs:=by exact rfl)(h3:M.fresh d=F:=by first | exact rfl | (simp only[St.fresh,List.all_cons,List.all_nil,Cu]; simp[AV.cells,V1.cells,AC.uses]))(h4:Nat.ble (rs.flatMap R1.cells).length 64=F:=by exact rfl) :
  go P (.dops ((O N,V,.call d f args)::ds)::k) Q .normal (O M):=CO (hf I.c) h h1 h3 h4
def oN(hf:T->FC P f xs rs)(h:go P (.ops its::k) Q .normal (O (M.inst d rs)))(h1:M.toDVs args=O xs:=by exact rfl)(h2:CB rs:=by first | exact Br rfl | exact BL rfl ⟨AQ,⟨⟩⟩ | exact BL rfl ⟨AQ,rfl,⟨⟩⟩ | exact BL rfl ⟨AQ,rfl,rfl,⟨⟩⟩ | exact BL rfl ⟨rfl,rfl,rfl,AQ,rfl,⟨⟩⟩)(h3:M.fresh d=F:=by first | exact rfl | (simp only[St.fresh,List.all_cons,List.all_nil,Cu]; simp[AV.cells,V1.cells,AC.uses]))(h4:Nat.ble (rs.flatMap R1.cells).length 64=F:=by exact rfl) :
  go P (.ops ((V,.call d f args)::its)::k) Q .normal (O M):=B8 (hf I.c) h1 h2 h3 (zD h4) h
def qe{N:W J}{ds:W AY}(hf:T->FC P f xs rs)(h:go P (.dops ds::k) Q .normal (O (M.inst d rs)))(h1:(M.less N).toDVs args=O xs:=by exact rfl)(h2:CB rs:=by first | exact Br rfl | exact BL rfl ⟨AQ,⟨⟩⟩ | exact BL rfl ⟨AQ,rfl,⟨⟩⟩)(h3:M.fresh d=F:=by first | exact rfl | (simp only[St.fresh,List.all_cons,List.all_nil,Cu]; simp[AV.cells,V1.cells,AC.uses]))(h4:Nat.ble (rs.flatMap R1.cells).length 64=F:=by exact rfl) :
  go P (.dops ((O N,V,.call d f args)::ds)::k) Q .normal (O M):=Ui (hf I.c) h1 h2 h3 (zD h4) h
end
def Aq(es:W (W D)){P:Program}{k:W Fr}{Q:Xl->St->Prop}{M:St}{its:W AItem}{d sz:J}{zs:W D}{len:J}{ps:W (J × Opd)}(H:go P (.ops its::k) Q .normal (O {(M.set d (.v (.sc (.own (d*64))))) with rows:=put M.rows (d*64) (sz,es) }))(hm:M.made (.bslice d sz zs len ps)=O (.row d sz es):=by exact rfl)(hf:M.fresh d=F:=by first | exact rfl | (simp only[St.fresh,List.all_cons,List.all_nil,Cu]; simp[AV.cells,V1.cells,AC.uses])) :
  go P (.ops ((V,.bslice d sz zs len ps)::its)::k) Q .normal (O M):=S7 hm hf H
def DR{α:Type}(row:α->W D)(z:α){P:Program}{k:W Fr}{Q:Xl->St->Prop}{M:St}{its:W AItem}{d:J}{L C:Opd}{l c:Y}{bytes n sz:J}{zs:W D}(hb:BB l c bytes=O n)
  (H:go P (.ops its::k) Q .normal (O {(M.set d (.v (.sc (.own (d*64))))) with rows:=put M.rows (d*64) (sz,zC row (zF n z)) })) (hl:Cb (M.val L)=O l:=by exact rfl) (hc:Cb (M.val C)=O c:=by exact rfl) (hz:zs.length=sz:=by exact rfl) (he:row z=zs:=by exact rfl) (hf:M.fresh d=F:=by exact rfl):go P (.ops ((V,.mksl d sz bytes zs L C)::its)::k) Q .normal (O M):=Sa hl hc hb hz (Qn he) hf H
def EA{α:Type}(row:α->W D)(y:α){P:Program}{k:W Fr}{Q:Xl->St->Prop}{env bx rows}{id sz off n:J}{i:Y}{xs:W α}{x:α}{yv:V1}{dd:W D}(hx:ix xs i=O x)(H:go P k Q .normal (O ⟨env,bx,put rows id (sz,zC row (xs.set i.toNat y))⟩))(hd:yv.toDs=O dd:=by exact rfl)(hf:A1 rows id=O (sz,zC row xs):=by exact rfl)
  (hn:dd.length=n:=by exact rfl) (ho:Nat.ble (off+n) (row x).length=F:=by exact rfl) (hy:GK (row x) off dd=row y:=by exact rfl) :
  go P k Q .normal (St.storeV ⟨env,bx,rows⟩ n (.v (.sc (.pe id i.toNat off))) (.v yv)):=AM hd hf (Ah hx) hn ho hy H
def gc{G:Prop}(k:G:=by
 first | intro S hS | intro hS
 conv at hS=>rhs; reduce
 try simp only[Int.reduceOfNat,Int.reduceNegSucc,Wk,UInt8.reduceOfNat] at hS
 subst hS;first | refine AA (Av ?_) | refine Av ?_ | skip
 repeat' (first | refine N1 ?_ | refine MV ?_ | refine CC ?_ | refine Gn ?_ | (obtain⟨_,hc,h⟩:=ob h; first | refine oM (by intro k; apply k; exact hc) ?_ | refine qd (by intro k; apply k; exact hc) ?_ | refine oN (by intro k; apply k; exact hc) ?_ | refine qe (by intro k; apply k; exact hc) ?_ | refine s0 hc ?_ | refine s1 hc ?_) | simp only[*,Nat.reduceBEq,Nat.reduceMul,Nat.reduceAdd,Nat.reduceDiv,Int.reduceBEq,U] | (first | refine s0 ?_ | refine s0 _ ?_ | refine s0 ‹_› ?_ | refine s0 _ ‹_› ?_ | refine s0 _ _ ‹_› ?_ | refine s1 ?_ | refine s1 _ ?_ | refine s1 ‹_› ?_ | refine s1 _ ‹_› ?_ | refine s1 _ _ ‹_› ?_ | refine s2 ?_ | refine s2 _ ?_ | refine s2 ‹_› ?_ | refine s2 _ ‹_› ?_ | refine s2 _ _ ‹_› ?_ | refine s3 ?_ | refine s3 _ ?_ | refine s3 ‹_› ?_ | refine s3 _ ‹_› ?_ | refine s3 _ _ ‹_› ?_) | ((first | show go _ (.code (.loop _)::_) _ _ _ | show go _ (.code (Gz _)::_) _ _ _); (first | refine ih h ?_ (by kernel_rfl) | refine k0 h ?_ (by kernel_rfl) | refine k0 ‹_› h ?_ (by kernel_rfl) | refine k0 ‹_› ‹_› h ?_ (by kernel_rfl) | refine k0 ‹_› ‹_› ‹_› h ?_ (by kernel_rfl) | refine k1 h ?_ (by kernel_rfl) | refine k1 ‹_› h ?_ (by kernel_rfl) | refine k1 ‹_› ‹_› h ?_ (by kernel_rfl) | refine k1 ‹_› ‹_› ‹_› h ?_ (by kernel_rfl) | refine k2 h ?_ (by kernel_rfl) | refine k2 ‹_› h ?_ (by kernel_rfl) | refine k2 ‹_› ‹_› h ?_ (by kernel_rfl) | refine k2 ‹_› ‹_› ‹_› h ?_ (by kernel_rfl) | refine k3 h ?_ (by kernel_rfl) | refine k3 ‹_› h ?_ (by kernel_rfl) | refine k3 ‹_› ‹_› h ?_ (by kernel_rfl) | refine k3 ‹_› ‹_› ‹_› h ?_ (by kernel_rfl)))<;>try simp only[*,Nat.reduceBEq,Nat.reduceMul,Nat.reduceAdd,Nat.reduceDiv,Int.reduceBEq,U,pL,aM,List.map_nil] | (obtain⟨_,_,h⟩:=ob h) | (obtain⟨_,h⟩:=AR h) | (obtain⟨_,h⟩:=Kn h) | (obtain⟨_,h⟩ | ⟨_,h⟩:=ic h) | (cases h; first | exact t0 | trivial | (repeat' constructor; done)))
 done):G:=k
def sg{G G':Prop}(h:G')(e:G'->G:=by
 intro w;repeat (first | refine N1 ?_ | refine MV ?_ | refine CC ?_ | refine Gn ?_ | simp only[*,-w,Nat.reduceBEq,Nat.reduceMul,Nat.reduceAdd,Nat.reduceDiv,Int.reduceBEq,U])
 exact w):G:=e h
def sq{G:Prop}(k:G:=by simp only[*,Nat.reduceBEq,Nat.reduceMul,Nat.reduceAdd,Nat.reduceDiv,Int.reduceBEq,U,pL,aM,List.map_nil]):G:=k
def kr{G:Prop}(k:G:=by kernel_rfl):G:=k
end Go.Vi
